/-
The law FlexResolves, by the machine.
-/
import Derived.Test.YtjjlmmebkemlgaaFxRefR
import Derived.Laws.StructEq
set_option linter.unusedVariables false
set_option linter.unusedSimpArgs false
namespace Go.Ai
open Go.Proofs
theorem prun_bind {P : Program} {α β : Type} (m : Sem α) (f : α → Sem β) : prun P (m >>= f) = (prun P m).bind fun a => prun P (f a) := by
  induction m with
  | pure a => rfl
  | program k ih => exact ih P
  | mark m k ih => exact ih
  | _ => rfl
theorem prun_eqIn {P : Program} (d : Nat) (t : TypeId) (xs : Array Value) (ht : P.underlying t = some (.struct (P.fieldsOf t))) (hp : P.stoodInHeld t = false) (hf : ∀ f ∈ (P.fieldsOf t).toList, ∃ v, prun P (part f.type xs f.offset) = some v ∧ prun P (Op.equalIn d f.type v v) = some true) : prun P (Op.equalIn (d + 1) t (.agg xs) (.agg xs)) = some true := by
  have hu : prun P (underlying t) = some (.struct (P.fieldsOf t)) := by
    unfold underlying
    rw [prun_bind]
    show prun P (match P.underlying t with | some d => _ | none => _) = _
    rw [ht]; rfl
  have hpr : prun P program = some P := rfl
  unfold Op.equalIn
  rw [prun_bind, hu]
  simp only [Option.bind_some]
  rw [prun_bind, hpr]
  simp only [Option.bind_some, hp, Bool.false_eq_true, if_false]
  rw [← Array.forIn_toList]
  generalize (P.fieldsOf t).toList = fs at hf
  clear ht hu
  induction fs with
  | nil => rfl
  | cons f fs ih =>
    have ih := ih fun g hg => hf g (by simp [hg])
    obtain ⟨v, h1, h2⟩ := hf f (by simp)
    rw [prun_bind] at ih ⊢
    rw [List.forIn_cons, prun_bind]
    split
    · rw [prun_bind, h1]
      simp only [Option.bind_some]
      rw [prun_bind, h1]
      simp only [Option.bind_some]
      rw [prun_bind, h2]
      simp only [Option.bind_some, Bool.not_true, Bool.false_eq_true, if_false]
      exact ih
    · exact ih
section
variable {T : Sl} {h : H} {d : Option Tmp} {ty : TypeId} {ps : String} {af : Array Edge} {g : Option (Nat × Bool)}
def xs46 (a b c d e : Int) : Array Value := #[.int .i64 a, .int .i64 b, .int .i64 c, .int .i64 d, .int .i64 e]
theorem int_self (a : Int) : prun Try.prog (Op.equalIn 9999 3 (.int .i64 a) (.int .i64 a)) = some true := by
  have : prun Try.prog (Op.equalIn 9999 3 (.int .i64 a) (.int .i64 a)) = some (a == a) := by kernel_rfl
  rw [this]; simp
theorem eq46 (a b c d e : Int) : prun Try.prog (Op.equalIn 10000 46 (.agg (xs46 a b c d e)) (.agg (xs46 a b c d e))) = some true := by
  refine prun_eqIn 9999 46 _ (by kernel_rfl) (by kernel_rfl) ?_
  have hl : (Try.prog.fieldsOf 46).toList.map (fun f => (f.type, f.offset)) = [(3, 0), (3, 1), (3, 2), (3, 3), (3, 4)] := by kernel_rfl
  intro f hf
  have hm : (f.type, f.offset) ∈ [(3, 0), (3, 1), (3, 2), (3, 3), (3, 4)] := by rw [← hl]; exact List.mem_map.2 ⟨f, hf, rfl⟩
  simp only [List.mem_cons, Prod.mk.injEq, List.not_mem_nil, or_false] at hm
  rcases hm with ⟨h1, h2⟩ | ⟨h1, h2⟩ | ⟨h1, h2⟩ | ⟨h1, h2⟩ | ⟨h1, h2⟩ <;> rw [h1, h2]
  · exact ⟨.int .i64 a, by kernel_rfl, int_self a⟩
  · exact ⟨.int .i64 b, by kernel_rfl, int_self b⟩
  · exact ⟨.int .i64 c, by kernel_rfl, int_self c⟩
  · exact ⟨.int .i64 d, by kernel_rfl, int_self d⟩
  · exact ⟨.int .i64 e, by kernel_rfl, int_self e⟩
theorem ex_neq46 {t' : TypeId} {x y : Operand} {a b c d' e : Int} (hx : ev T x = some (.agg [.i .i64 a, .i .i64 b, .i .i64 c, .i .i64 d', .i .i64 e])) (hy : ev T y = some (.agg [.i .i64 a, .i .i64 b, .i .i64 c, .i .i64 d', .i .i64 e])) : execO Try.prog T h ⟨d, .binOp .neq 46 x y t', ty, ps, af, g⟩ = some (.val (.one (.b false)) h) := by
  refine ex_pure (v := .bool false) ?_ ?_ ?_ rfl
  · show orPure Try.prog T h _ (doBin Try.prog h .neq 46 (ev T x) (ev T y)) = _
    rw [hx, hy]; rfl
  · show allConc T [x, y] = true
    simp only [allConc, evc, hx, hy]; rfl
  · have hp : ∀ ρ : Operand → Value, ρ x = .agg (xs46 a b c d' e) → ρ y = .agg (xs46 a b c d' e) → prun Try.prog (execOp ρ ⟨d, .binOp .neq 46 x y t', ty, ps, af, g⟩) = some (.value (.bool false)) := by
      intro ρ h1 h2
      have e1 : prun Try.prog (eqGuard .neq 46 x y (.agg (xs46 a b c d' e)) (.agg (xs46 a b c d' e))) = some () := by kernel_rfl
      have e2 : prun Try.prog (binOp .neq 46 (.agg (xs46 a b c d' e)) (.agg (xs46 a b c d' e))) = some (.bool false) := by
        simp only [binOp]
        rw [prun_bind]
        unfold Op.equal
        rw [show Op.maxDepth = 10000 from rfl, eq46]; rfl
      simp only [execOp, h1, h2]
      rw [prun_bind, prun_bind, e1]
      simp only [Option.bind_some]
      rw [e2]; rfl
    exact hp _ (by simp only [evc, hx]; rfl) (by simp only [evc, hy]; rfl)
end
/-! Items that are copied. -/
theorem row1_cell {h : H} {b o : Nat} {y : S} (hr : h.row b o 1 = some [y]) : ∃ x, h.get b = some x ∧ x.cell o = some y := by
  unfold H.row at hr
  split at hr
  · rename_i ob hb
    refine ⟨ob, hb, ?_⟩
    have hr : (match ob.cell o, some [] with
      | some x, some xs => some (x :: xs)
      | _, _ => none) = some [y] := hr
    split at hr
    · rename_i a l h1 h2
      cases h2
      cases hr
      exact h1
    · cases hr
  · cases hr
theorem citems_get {L : List Itm} {k r : Nat} {y : Itm} (hy : L[k]? = some y) (hr : r < 5) : (citems L)[k * 5 + r]? = y.cells[r]? := by
  obtain ⟨hk, rfl⟩ := List.getElem?_eq_some_iff.1 hy
  rw [← List.getElem?_drop, citems_drop, List.drop_eq_getElem_cons hk]
  show (L[k].cells ++ citems (L.drop (k + 1)))[r]? = _
  rw [List.getElem?_append_left (by simpa [Itm.cells] using hr)]
theorem row_items {h : H} {b o : Nat} {L : List Itm} (hp : 0 < L.length) (hr : ∀ k x, L[k]? = some x → h.row b (o + k * 5) 5 = some x.cells) : h.row b o (L.length * 5) = some (citems L) := by
  have cell : ∀ i, i < L.length * 5 → ∃ x y, h.get b = some x ∧ x.cell (o + i) = some y ∧ (citems L)[i]? = some y := by
    intro i hi
    have hk : i / 5 < L.length := by omega
    obtain ⟨y, hy⟩ : ∃ y, L[i / 5]? = some y := ⟨_, List.getElem?_eq_getElem hk⟩
    have h5 : i % 5 < 5 := by omega
    obtain ⟨c, hc⟩ : ∃ c, y.cells[i % 5]? = some c := ⟨_, List.getElem?_eq_getElem (by simpa [Itm.cells] using h5)⟩
    obtain ⟨x, h1, h2⟩ := row1_cell (row_sub (hr _ y hy) hc)
    refine ⟨x, c, h1, ?_, ?_⟩
    · rw [show o + i = o + i / 5 * 5 + i % 5 by omega]; exact h2
    · rw [show i = i / 5 * 5 + i % 5 by omega, citems_get hy h5]
      exact hc
  obtain ⟨x, _, h1, _⟩ := cell 0 (by omega)
  unfold H.row
  rw [h1]
  have := O.row_of (o := x) (xs := citems L) (j := o) fun i hi => by
    rw [citems_length] at hi
    obtain ⟨x', y, q1, q2, q3⟩ := cell i hi
    rw [h1] at q1
    cases q1
    rw [q2, q3]
  rw [citems_length] at this
  exact this
theorem copy_items {h : H} {q : Nat} {v : S} {L : List Itm} (ok : Ok h) (hq : Cells h q 46 []) (hql : q < h.next) (hi : ItemsAt h v L) (hn : L.length ≤ 1000) :
    ∃ v1 h1, doAppend Try.prog h 39 39 (some (.one (.sl q 0 0 0 5 true))) (some (.one v)) = some (.val (.one v1) h1) ∧ ItemsAt h1 v1 L ∧ Up (· < h.next) h h1 ∧ Ok h1 := by
  have ha := ap39_39
  have empty : ∀ v : S, srcLen (.one v) = some 0 → srcB h 5 0 (.one v) = some [] → doAppend Try.prog h 39 39 (some (.one (.sl q 0 0 0 5 true))) (some (.one v)) = some (.val (.one (.sl q 0 0 0 5 true)) h) := fun v h1 h2 => by
    obtain ⟨_, i, e1, _, e3⟩ := app_of (s := some (.one (.sl q 0 0 0 5 true))) ha h1 h2 (by simp)
    rw [e3]
    unfold appendTo
    simp only
    rw [e1]
    rfl
  have nil : ∀ v : S, L = [] → srcLen (.one v) = some 0 → srcB h 5 0 (.one v) = some [] → ∃ v1 h1, doAppend Try.prog h 39 39 (some (.one (.sl q 0 0 0 5 true))) (some (.one v)) = some (.val (.one v1) h1) ∧ ItemsAt h1 v1 L ∧ Up (· < h.next) h h1 ∧ Ok h1 := fun v hL h1 h2 => by
    subst hL
    exact ⟨_, _, empty v h1 h2, .inr ⟨q, 0, 0, true, rfl, hql, fun k x hx => by simp at hx⟩, .refl _ _, ok⟩
  rcases hi with ⟨hL, rfl | rfl⟩ | ⟨b, o, c, ex, rfl, hb, hr⟩
  · exact nil _ hL rfl rfl
  · exact nil _ hL rfl rfl
  · by_cases hz : L.length = 0
    · refine nil _ (List.eq_nil_of_length_eq_zero hz) ?_ rfl
      show some L.length = some 0
      rw [hz]
    · have hrow := row_items (by omega) hr
      have hs : srcB h 5 L.length (.one (.sl b o L.length c 5 ex)) = some (citems L) := by
        show cond (Nat.beq L.length 0) (some []) (h.row b o (L.length * 5)) = _
        rw [beq_false hz, cond_false, hrow]
      obtain ⟨_, i, e1, e2, e3⟩ := app_of (s := some (.one (.sl q 0 0 0 5 true))) ha (x := .one (.sl b o L.length c 5 ex)) rfl hs (citems_length L)
      have hu : Up (· < h.next) h (h.alloc (.cells 46 (Go.Ai.T.setMany .e 0 (citems L)) (citems L).length)) := .alloc fun b hb => Nat.ne_of_lt hb
      have hrow0 : h.row q 0 (0 * 5) = some [] := hq.row (o := 0) (n := 0) (by simp)
      refine ⟨.sl h.next 0 L.length L.length 5 false, _, ?_, .inr ⟨h.next, 0, L.length, false, rfl, Nat.lt_succ_self _, fun k y hy => ?_⟩, hu, hu.ok ok⟩
      · rw [e3]
        unfold appendTo
        simp only
        rw [e1, beq_self, cond_true, Nat.zero_add, show Nat.ble L.length 0 = false by
          cases e : Nat.ble L.length 0 with
          | false => rfl
          | true => exact absurd (Nat.le_of_ble_eq_true e) (by omega)]
        rw [cond_false, show (Nat.ble (L.length * i.bytes) 1099511627776 && Nat.ble L.length 1099511627776) = true by rw [e2, Nat.ble_eq_true_of_le (by omega), Nat.ble_eq_true_of_le (by omega)]; rfl, cond_true, hrow0]
        simp only [cond_true, List.nil_append]
        rw [H.rowK_eq, slR_eq]
      · rw [Nat.zero_add]
        exact citems_row (Cells.of_alloc ok.top) hy
theorem ex_appV {T : Sl} {h : H} {s x : Operand} {t u : TypeId} {v w : V} {r : R} (hs : ev T s = some v) (hx : ev T x = some w) (e : doAppend Try.prog h t u (some v) (some w) = some r) {d : Option Tmp} {ty : TypeId} {ps : String} {af : Array Edge} {g : Option (Nat × Bool)} : execO Try.prog T h ⟨d, .call ⟨.builtin .append, #[s, x], #[t, u]⟩, ty, ps, af, g⟩ = some r := by rw [ex_append, hs, hx]; exact e
set_option maxHeartbeats 0 in
theorem numbers_fn {spec : CallF} (hs : ∀ args h, spec 19 args h = none) {h : H} {v : S} {n0 : Nat} {l : List Int} (ok : Ok h) (hv : Grown h v n0 3 1 (nums l)) (h0 : n0 ≤ h.next) (hn : l.length ≤ 1000) :
    WF Try.prog spec 19 [.one v] h fun r h1 => r = .tup [] ∧ Up (· < n0) h h1 ∧ Ok h1 := by
  refine WF_of Try.func19 rfl (hs _ _) (by rw [Try.ntmps19]; simp) (by rw [Try.ntmps19]; decide) ?_
  rw [Try.ntmps19, Try.results19]
  simp only [Sl.setMany_cons, Sl.setMany_nil, Nat.zero_add, Nat.reduceAdd]
  (repeat refine W_seq ?_); refine W_region ?_
  (refine VO ?_)
  refine WO_nil ?_; (repeat refine W_seq ?_)
  refine W_block (W_rounds (fun j T h1 => ∃ k l1, j = l.length - k ∧ k ≤ l.length ∧ l1.length = l.length ∧ T.get 0 = some (.one v) ∧ T.get 2 = some (.one (.i .i64 (k : Int))) ∧ Grown h1 v n0 3 1 (nums l1) ∧ Up (· < n0) h h1 ∧ Ok h1) ?_ l.length _ _ ⟨0, l, rfl, by omega, rfl, gs, gs, hv, .refl _ _, ok⟩)
  rintro j T h1 ⟨k, l1, rfl, hk, hl1, t0, t2, g1, u1, o1⟩
  have hn1 := u1.next
  (repeat refine W_seq ?_); refine W_region ?_
  iterate 2 (refine VX (by simp only [go_sem, ↓reduceIte, Nat.reduceEqDiff, Nat.reduceAdd, t0, t2]; rfl) ?_)
  refine WO_val (g1.len (by (simp only [go_sem, ↓reduceIte, Nat.reduceEqDiff, t0] <;> rfl))) (by decide) ?_
  (refine VX (ex_bin (by simp only [go_sem, ↓reduceIte, Nat.reduceEqDiff, t2]; rfl) (by simp only [go_sem, ↓reduceIte, Nat.reduceEqDiff, t2]; rfl) in_lss) ?_)
  refine WO_nil ?_; (repeat refine W_seq ?_)
  refine W_cond (ee) (fun hlt => W_skip ?_) (fun hge => W_exit ?_)
  · have hlt : k < l.length := by
      have : (k : Int) < ((nums l1).length : Int) := by simpa using hlt
      rw [nums_length] at this; omega
    obtain ⟨q, rfl, cq, hq, mq⟩ := g1.whole (by omega)
    repeat refine W_seq ?_
    refine W_block ?_
    (repeat refine W_seq ?_); refine W_region ?_
    iterate 2 (refine VX (by simp only [go_sem, ↓reduceIte, Nat.reduceEqDiff, Nat.reduceAdd, t0, t2]; rfl) ?_)
    (refine VX (by simp (disch := first | omega | simp) only [go_sem, ↓reduceIte, Nat.reduceEqDiff, Nat.reduceAdd, t0, t2]; rfl) ?_)
    refine WO_store1 (ee) (ee) sz3 cq mq (by rw [nums_length]; omega) fun h2 p2 => ?_
    rw [nums_set (by omega)] at p2
    have e2 := p2.next
    refine WO_nil ?_; (repeat refine W_seq ?_)
    refine W_region ?_
    iterate 3 (first | (refine VX (by simp only [go_sem, ↓reduceIte, Nat.reduceEqDiff, Nat.reduceAdd, t2]; rfl) ?_) | (refine VX (ex_bin (by simp only [go_sem, ↓reduceIte, Nat.reduceEqDiff, t2]; rfl) (by simp only [go_sem, ↓reduceIte, Nat.reduceEqDiff, t2]; rfl) in_add) ?_; (try rw [wrap_id (by omega) (by omega)])))
    refine WO_nil ⟨l.length - (k + 1), by omega, k + 1, l1.set k (-99), rfl, hlt, by simp [hl1], gt t0, gs, ?_, u1.trans (p2.up.mono fun b hb => by omega), p2.ok o1⟩
    have := grown_of (n0 := n0) (l := l1.set k (-99)) p2.cells p2.may hq.1 (by omega) (by simp; omega)
    rw [List.length_set] at this
    exact this
  · refine ⟨fun _ => ?_, fun hne => absurd rfl hne⟩
    (repeat refine W_seq ?_); refine W_region ?_
    (refine VX (by simp only [go_sem, ↓reduceIte, Nat.reduceEqDiff, Nat.reduceAdd, t0]; rfl) ?_)
    refine WO_bs1 el23 ⟨_, ze23⟩ (ee) o1 (by decide) fun h2 n2 => ?_
    have e2 := n2.next
    have g2 := g1.up n2.up fun q hq => (g1.lt hq).2
    refine WO_app (n0 := n0) ap23_23 (by (simp only [go_sem, ↓reduceIte, Nat.reduceEqDiff, t0] <;> rfl)) (ee) n2.cells rfl g2 n2.ok (by omega) (m := l.length) (by rw [nums_length]; omega) (by omega) (by omega) (by decide) fun v3 h3 g3 => ?_
    (refine VO ?_)
    exact WO_nil ⟨.inl rfl, V.tup [], by (simp only [resultB, resB, parts, V.part, Sl.get_set', ↓reduceIte, Nat.reduceEqDiff] <;> rfl), rfl, (u1.trans (n2.up.mono fun b hb => by omega)).trans (g3.below g2 (by omega)), g3.ok⟩
set_option maxHeartbeats 0 in
theorem resolves_fn {spec : CallF} (hs : SpecRes spec) (hs1 : SpecFlex spec) (hs2 : SpecSort spec) (hs3 : SpecEq spec) (hs4 : SpecRef spec) (hs6 : ∀ args h, spec 6 args h = none) (hs19 : ∀ args h, spec 19 args h = none) {h : H} {v : S} {A : List Ask} (ok : Ok h) (hA : AsksAt h v A) :
    WF Try.prog spec 6 [.one v] h fun r h1 => r = .one (.b true) := by
  refine WF_of Try.func6 rfl (hs6 _ _) (by rw [Try.ntmps6]; simp) (by rw [Try.ntmps6]; decide) ?_
  rw [Try.ntmps6, Try.results6]
  simp only [Sl.setMany_cons, Sl.setMany_nil, Nat.zero_add, Nat.reduceAdd]
  (repeat refine W_seq ?_); refine W_region ?_
  (refine VO ?_)
  refine WO_nil ?_; (repeat refine W_seq ?_)
  refine W_region ?_
  (refine VO ?_)
  refine WO_nil ?_; (repeat refine W_seq ?_)
  refine W_block (W_rounds (fun j T h1 => ∃ k, j = 10 - k ∧ k ≤ 10 ∧ T.get 0 = some (.one v) ∧ T.get 3 = some (.one (.i .i64 (k : Int))) ∧ Up (· < h.next) h h1 ∧ Ok h1) ?_ 10 _ _ ⟨0, rfl, by omega, gs, gs, .refl _ _, ok⟩)
  rintro j T h1 ⟨k, rfl, hk, t0, t3, u1, o1⟩
  have hn1 := u1.next
  repeat refine W_seq ?_
  refine W_cut (fun T1 h2 => h2 = h1 ∧ T1.get 0 = some (.one v) ∧ T1.get 3 = some (.one (.i .i64 (k : Int))) ∧ T1.get 16 = some (.one (.b (decide ((k : Int) < (A.length : Int)) && decide ((k : Int) < 10))))) ?_ ?_
  · refine W_region ?_
    iterate 2 (refine VX (by simp only [go_sem, ↓reduceIte, Nat.reduceEqDiff, Nat.reduceAdd, t0, t3]; rfl) ?_)
    refine WO_val (hA.len (ee)) (by decide) ?_
    (refine VX (ex_bin (by simp only [go_sem, ↓reduceIte, Nat.reduceEqDiff, t0, t3]; rfl) (by simp only [go_sem, ↓reduceIte, Nat.reduceEqDiff, t0, t3]; rfl) in_lss) ?_)
    (refine VX (by simp only [go_sem, ↓reduceIte, Nat.reduceEqDiff, Nat.reduceAdd, t0, t3]; rfl) ?_)
    refine WO_grd rfl rfl (by simp only [go_sem, ↓reduceIte, Nat.reduceEqDiff, t0, t3]; rfl) (fun c1 => ?_) (fun c1 => ?_)
    · (refine VG (wantB_true rfl rfl (by simp only [go_sem, ↓reduceIte, Nat.reduceEqDiff, t0, t3, c1]; rfl) rfl) (by simp only [go_sem, ↓reduceIte, Nat.reduceEqDiff, Nat.reduceAdd, t0, t3, c1]; rfl) ?_)
      (refine VG (wantB_true rfl rfl (by simp only [go_sem, ↓reduceIte, Nat.reduceEqDiff, t0, t3, c1]; rfl) rfl) (ex_bin (by simp only [go_sem, ↓reduceIte, Nat.reduceEqDiff, t0, t3, c1]; rfl) (by simp only [go_sem, ↓reduceIte, Nat.reduceEqDiff, t0, t3, c1]; rfl) in_lss) ?_)
      (refine VX (by simp only [go_sem, ↓reduceIte, Nat.reduceEqDiff, Nat.reduceAdd, t0, t3, c1]; rfl) ?_)
      refine WO_nil ⟨rfl, rfl, by (simp only [go_sem, ↓reduceIte, Nat.reduceEqDiff, t0, c1] <;> first | rfl | simp), by (simp only [go_sem, ↓reduceIte, Nat.reduceEqDiff, t3, c1] <;> first | rfl | simp), ?_⟩
      simp only [go_sem, ↓reduceIte, Nat.reduceEqDiff, c1]
      simp [c1]
    · refine VN (wantB_no rfl rfl (by simp only [go_sem, ↓reduceIte, Nat.reduceEqDiff, t0, t3, c1]; rfl) rfl) ?_
      refine VN (wantB_no rfl rfl (by simp only [go_sem, ↓reduceIte, Nat.reduceEqDiff, t0, t3, c1]; rfl) rfl) ?_
      (refine VX (by simp only [go_sem, ↓reduceIte, Nat.reduceEqDiff, Nat.reduceAdd, t0, t3, c1]; rfl) ?_)
      refine WO_nil ⟨rfl, rfl, by (simp only [go_sem, ↓reduceIte, Nat.reduceEqDiff, t0, c1] <;> first | rfl | simp), by (simp only [go_sem, ↓reduceIte, Nat.reduceEqDiff, t3, c1] <;> first | rfl | simp), ?_⟩
      simp only [go_sem, ↓reduceIte, Nat.reduceEqDiff, c1]
      simp [c1]
  clear t0 t3
  rintro T1 h1 ⟨rfl, t0, t3, t16⟩
  refine W_cond (by (simp only [go_sem, ↓reduceIte, Nat.reduceEqDiff, t16] <;> rfl)) (fun hlt => W_skip ?_) (fun hge => W_exit ?_)
  · have hlt : k < A.length ∧ k < 10 := by simp at hlt; omega
    obtain ⟨a, ha⟩ : ∃ a, A[k]? = some a := ⟨_, List.getElem?_eq_getElem hlt.1⟩
    obtain ⟨b, c, rfl, hbn, hrow⟩ : ∃ b c, v = .sl b 0 A.length c 3 false ∧ b < h.next ∧ ∀ k a, A[k]? = some a → ∃ s, h.row b (k * 3) 3 = some [s, .i .i64 a.gap, .i .i64 a.room] ∧ ItemsAt h s a.L := by
      rcases hA with ⟨rfl, _⟩ | q
      · simp at hlt
      · exact q
    obtain ⟨s, hrs, hiS⟩ := hrow k a ha
    have r1 : h1.row b (k * 3) 3 = some [s, .i .i64 a.gap, .i .i64 a.room] := by rw [u1.row hbn]; exact hrs
    obtain ⟨L, gap, room⟩ := a
    simp only at r1 hiS
    have hlen8 := hlt.1
    repeat refine W_seq ?_
    refine W_block ?_
    (repeat refine W_seq ?_); refine W_region ?_
    iterate 2 (refine VX (by simp only [go_sem, ↓reduceIte, Nat.reduceEqDiff, Nat.reduceAdd, t0, t3]; rfl) ?_)
    (refine VX (by simp (disch := first | omega | simp) only [go_sem, ↓reduceIte, Nat.reduceEqDiff, Nat.reduceAdd, t0, t3]; rfl) ?_)
    (refine VX (by simp (disch := first | omega | simp) only [go_sem, ↓reduceIte, Nat.reduceEqDiff, Nat.reduceAdd, r1, t0, t3]; rfl) ?_)
    refine WO_alloc zb41 rfl o1 (by decide) fun h4 n4 => ?_
    refine WO_storeA (ee) (ee) sz41 rfl (by simp) n4.cells n4.may (by simp [V.cells]) fun h5 p5 => ?_
    have c5 := p5.cells
    simp only [V.cells, List.take_zero, List.nil_append, List.length_cons, List.length_nil, Nat.reduceAdd, Nat.zero_add, List.drop_succ_cons, List.drop_zero, List.append_nil] at c5
    have e4 := n4.next
    have e5 := p5.next
    have u5 : Up (· < h1.next) h1 h5 := n4.up.trans (p5.up.mono fun b hb => by omega)
    have o5 := p5.ok n4.ok
    have hi5 := (hiS.upLt u1).upLt u5
    have u15 : Up (· < h.next) h h5 := u1.trans (u5.mono fun b hb => by omega)
    have hn15 := u15.next
    refine WO_nil ?_; (repeat refine W_seq ?_)
    refine W_region ?_
    (refine VO ?_)
    (refine VX (by simp (disch := first | omega | simp) only [go_sem, ↓reduceIte, Nat.reduceEqDiff, Nat.reduceAdd, c5.row]; rfl) ?_)
    refine WO_val (hi5.len (ee)) (by decide) ?_
    (refine VX (ex_bin ee ee in_gtr) ?_)
    refine WO_nil ?_; (repeat refine W_seq ?_)
    refine W_cond (ee) (fun hc => ?_) (fun hc => W_skip ?_)
    · (repeat refine W_seq ?_); refine W_region ?_
      (refine VO ?_)
      exact WO_nil (W_ret ⟨.inr rfl, _, by (simp only [resultB, resB, parts, V.part, Sl.get_set', ↓reduceIte, Nat.reduceEqDiff] <;> rfl), rfl⟩)
    have hL : L.length ≤ 1000 := by simp at hc; omega
    (repeat refine W_seq ?_); refine W_region ?_
    refine WO_bsN wantB_none el39 zb46 (by rfl) rfl (cells := []) rfl o5 (by decide) fun h6 n6 => ?_
    have e6 := n6.next
    have hi6 := hi5.upLt n6.up
    have c6 := n6.up.cells (show h1.next < h5.next by omega) c5
    (refine VO ?_)
    (refine VX (by simp (disch := first | omega | simp) only [go_sem, ↓reduceIte, Nat.reduceEqDiff, Nat.reduceAdd, c6.row]; rfl) ?_)
    obtain ⟨v7, h7, happ, hi7, u7, o7⟩ := copy_items n6.ok n6.cells (by omega) hi6 hL
    refine WO_val (ex_appV (ee) (ee) happ) (by decide) ?_
    have hn7 := u7.next
    have c7 := u7.cells (show h1.next < h6.next by omega) c6
    have hi7s := hi6.upLt u7
    (refine VO ?_)
    refine WO_nil ?_; (repeat refine W_seq ?_)
    refine W_region ?_
    iterate 5 (first | (refine VO ?_) | (refine VX (by simp (disch := first | omega | simp) only [go_sem, ↓reduceIte, Nat.reduceEqDiff, Nat.reduceAdd, c7.row]; rfl) ?_))
    refine WO_fn (ee) (by simp) (by decide) ((resolve_fn hs hs1 hs2 o7 hi7).mono ?_)
    rintro r h8 ⟨x, rfl, g8, u8, o8⟩
    have hn8 := u8.next
    have hi8 := hi7.upLt u8
    have hi8s := hi7s.upLt u8
    have c8 := u8.cells (show h1.next < h7.next by omega) c7
    iterate 5 (refine VO ?_)
    refine WO_nil ?_; (repeat refine W_seq ?_)
    refine W_region ?_
    iterate 6 (first | (refine VO ?_) | (refine VX (by simp (disch := first | omega | simp) only [go_sem, ↓reduceIte, Nat.reduceEqDiff, Nat.reduceAdd, c8.row]; rfl) ?_))
    refine WO_fn (ee) (by simp) (by decide) ((mayres_fn hs4 o8 hi8s hL).mono ?_)
    rintro r h9 ⟨rfl, u9, o9⟩
    have hn9 := u9.next
    have g9 := g8.up u9 fun q hq => (g8.lt hq).2
    have u19 : Up (· < h.next) h h9 := u15.trans ((n6.up.mono fun b hb => by omega).trans ((u7.mono fun b hb => by omega).trans ((u8.mono fun b hb => by omega).trans (u9.mono fun b hb => by omega))))
    (refine VX (ex_not (by simp only [go_sem, ↓reduceIte, Nat.reduceEqDiff]; rfl)) ?_)
    refine WO_nil ?_; (repeat refine W_seq ?_)
    refine W_cond (ee) (fun hc => ?_) (fun hc => W_skip ?_)
    · have hr : resOk L gap room = false := by simpa using hc
      rw [hr, if_neg (by decide)] at g9
      simp only [hr, Bool.false_eq_true, if_false]
      (repeat refine W_seq ?_); refine W_region ?_
      (refine VO ?_)
      refine WO_fn (ee) (by simp) (by decide) ((num_fn hs3).mono ?_)
      rintro r h9 ⟨rfl, rfl⟩
      (refine VX (ex_bin ee ee in_neq) ?_)
      (refine VO ?_)
      first | (refine VN (wantB_no rfl rfl (by simp only [go_sem, ↓reduceIte, Nat.reduceEqDiff]; rfl) rfl) ?_) | (refine VG (wantB_true rfl rfl (by simp only [go_sem, ↓reduceIte, Nat.reduceEqDiff]; rfl) rfl) (by simp only [go_sem, ↓reduceIte, Nat.reduceEqDiff, Nat.reduceAdd]; rfl) ?_)
      refine WO_valG (wantB_true rfl rfl (by simp only [go_sem, ↓reduceIte, Nat.reduceEqDiff]; rfl) rfl) (g9.len (ee)) (by decide) ?_
      first | (refine VN (wantB_no rfl rfl (by simp only [go_sem, ↓reduceIte, Nat.reduceEqDiff]; rfl) rfl) ?_) | (refine VG (wantB_true rfl rfl (by simp only [go_sem, ↓reduceIte, Nat.reduceEqDiff]; rfl) rfl) (ex_bin ee ee in_gtr) ?_)
      (refine VO ?_)
      refine WO_nil ?_; (repeat refine W_seq ?_)
      refine W_cond (ee) (fun hc => by simp [nums] at hc) (fun _ => W_skip ?_)
      refine W_exit ?_
      refine ⟨fun _ => ?_, fun hne => absurd rfl hne⟩
      (repeat refine W_seq ?_); refine W_region ?_
      iterate 3 (first | (refine VX (by simp only [go_sem, ↓reduceIte, Nat.reduceEqDiff, Nat.reduceAdd, t3]; rfl) ?_) | (refine VX (ex_bin (by simp only [go_sem, ↓reduceIte, Nat.reduceEqDiff, t3]; rfl) (by simp only [go_sem, ↓reduceIte, Nat.reduceEqDiff, t3]; rfl) in_add) ?_; (try rw [wrap_id (by omega) (by omega)])))
      exact WO_nil ⟨10 - (k + 1), by omega, k + 1, rfl, by omega, gt t0, gs, u19, o9⟩
    have hr : resOk L gap room = true := by simpa using hc
    have lok := resOk_iff.1 hr
    rw [hr, if_pos rfl] at g9
    simp only [hr, if_true]
    have hi9 := hi8.upLt u9
    have hi9s := hi8s.upLt u9
    have c9 := u9.cells (show h1.next < h8.next by omega) c8
    (repeat refine W_seq ?_); refine W_region ?_
    (refine VO ?_)
    refine WO_fn (ee) (by simp) (by decide) ((num_fn hs3).mono ?_)
    rintro r h9 ⟨rfl, rfl⟩
    iterate 9 (first | (refine VX (ex_bin ee ee in_neq) ?_) | (refine VO ?_) | (refine VN (wantB_no rfl rfl (by simp only [go_sem, ↓reduceIte, Nat.reduceEqDiff]; rfl) rfl) ?_) | (refine VG (wantB_true rfl rfl (by simp only [go_sem, ↓reduceIte, Nat.reduceEqDiff]; rfl) rfl) (by simp only [go_sem, ↓reduceIte, Nat.reduceEqDiff, Nat.reduceAdd]; rfl) ?_) | (refine VG (wantB_true rfl rfl (by simp only [go_sem, ↓reduceIte, Nat.reduceEqDiff]; rfl) rfl) (by simp (disch := first | omega | simp) only [go_sem, ↓reduceIte, Nat.reduceEqDiff, Nat.reduceAdd, c9.row]; rfl) ?_))
    refine WO_fnG (wantB_true rfl rfl (by simp only [go_sem, ↓reduceIte, Nat.reduceEqDiff]; rfl) rfl) (ee) (by simp) (by decide) ((refres_fn hs4 hs3 o9 lok hi9s).mono ?_)
    rintro r h11 ⟨x11, rfl, g11, u11, o11⟩
    have hn11 := u11.next
    have g9b := g9.up u11 fun q hq => (g9.lt hq).2
    have hlen64 := lok.len
    refine WO_fnG (wantB_true rfl rfl (by simp only [go_sem, ↓reduceIte, Nat.reduceEqDiff]; rfl) rfl) (ee) g9.pair (by decide) ((eq_fn hs3 o11 (g9b.ints) g11.ints (by rw [solve_length]; omega)).mono ?_)
    rintro r h11 ⟨rfl, rfl⟩
    first | (refine VN (wantB_no rfl rfl (by simp only [go_sem, ↓reduceIte, Nat.reduceEqDiff]; rfl) rfl) ?_) | (refine VG (wantB_true rfl rfl (by simp only [go_sem, ↓reduceIte, Nat.reduceEqDiff]; rfl) rfl) (ex_not (by simp only [go_sem, ↓reduceIte, Nat.reduceEqDiff]; rfl)) ?_)
    (refine VO ?_)
    refine WO_nil ?_; (repeat refine W_seq ?_)
    refine W_cond (ee) (fun hc => by simp at hc) (fun _ => W_skip ?_)
    have hi11 := hi9.upLt u11
    have hi11s := hi9s.upLt u11
    have c11 := u11.cells (show h1.next < h9.next by omega) c9
    (repeat refine W_seq ?_); refine W_region ?_
    (refine VO ?_)
    refine WO_nil ?_; (repeat refine W_seq ?_)
    refine W_cut (fun T h12 => h12 = h11 ∧ T.get 0 = some (.one (.sl b 0 A.length c 3 false)) ∧ T.get 3 = some (.one (.i .i64 (k : Int))) ∧ T.get 6 = some (.one x)) ?_ ?_
    · refine W_block (W_rounds (fun j T h12 => ∃ k2, j = L.length - k2 ∧ k2 ≤ L.length ∧ h12 = h11 ∧ T.get 0 = some (.one (.sl b 0 A.length c 3 false)) ∧ T.get 3 = some (.one (.i .i64 (k : Int))) ∧ T.get 4 = some (.one (.p h1.next 0)) ∧ T.get 5 = some (.one v7) ∧ T.get 6 = some (.one x) ∧ T.get 8 = some (.one (.i .i64 (k2 : Int)))) ?_ L.length _ _ ⟨0, rfl, by omega, rfl, gt t0, gt t3, gs, gs, gs, gs⟩)
      clear t0 t3
      rintro j T h12 ⟨k2, rfl, hk2, rfl, t0, t3, t4, t5, t6, t8⟩
      (repeat refine W_seq ?_); refine W_region ?_
      iterate 2 (refine VX (by simp only [go_sem, ↓reduceIte, Nat.reduceEqDiff, Nat.reduceAdd, t5, t8]; rfl) ?_)
      refine WO_val (hi11.len (ee)) (by decide) ?_
      (refine VX (ex_bin (by simp only [go_sem, ↓reduceIte, Nat.reduceEqDiff, t8]; rfl) (by simp only [go_sem, ↓reduceIte, Nat.reduceEqDiff, t8]; rfl) in_lss) ?_)
      refine WO_nil ?_; (repeat refine W_seq ?_)
      refine W_cond (ee) (fun hlt2 => W_skip ?_) (fun hge2 => W_exit ?_)
      · have hlt2 : k2 < L.length := by
          have : (k2 : Int) < (L.length : Int) := by simpa using hlt2
          omega
        obtain ⟨y, hy⟩ : ∃ y, L[k2]? = some y := ⟨_, List.getElem?_eq_getElem hlt2⟩
        obtain ⟨b1, o1', c1, ex1, rfl, hb1, hrows1⟩ : ∃ b o c ex, v7 = .sl b o L.length c 5 ex ∧ b < h12.next ∧ ∀ k x, L[k]? = some x → h12.row b (o + k * 5) 5 = some x.cells := by
          rcases hi11 with ⟨rfl, _⟩ | q
          · simp at hlt2
          · exact q
        obtain ⟨b2, o2', c2, ex2, rfl, hb2, hrows2⟩ : ∃ b o c ex, s = .sl b o L.length c 5 ex ∧ b < h12.next ∧ ∀ k x, L[k]? = some x → h12.row b (o + k * 5) 5 = some x.cells := by
          rcases hi11s with ⟨rfl, _⟩ | q
          · simp at hlt2
          · exact q
        have ra := hrows1 k2 y hy
        have rb := hrows2 k2 y hy
        unfold Itm.cells at ra rb
        repeat refine W_seq ?_
        refine W_block ?_
        repeat refine W_seq ?_
        refine W_drawn dr6_17 (by kernel_rfl) o11.floor ?_
        unfold dr6_17
        iterate 9 (first | (refine IX rfl (by simp only [go_sem, ↓reduceIte, Nat.reduceEqDiff, Nat.reduceAdd, t4, t5, t8]; rfl) ?_) | (refine IX rfl (by simp (disch := first | omega | simp) only [go_sem, ↓reduceIte, Nat.reduceEqDiff, Nat.reduceAdd, t4, t5, t8]; rfl) ?_) | (refine IL rfl wantB_none (by simp only [go_sem, ↓reduceIte, Nat.reduceEqDiff, t4, t5, t8]; rfl) (by simp (disch := first | omega | simp) only [go_sem, ↓reduceIte, Nat.reduceEqDiff, Nat.reduceAdd, c11.row, ra, rb]; rfl) ?_))
        refine WI_val rfl wantB_none rfl (ex_neq46 ee ee) (by decide) ?_
        refine WI_nil ?_; (repeat refine W_seq ?_)
        refine W_cond ee (fun hc => by cases hc) (fun _ => W_skip ?_)
        refine W_region ?_
        iterate 3 (first | (refine VX (by simp only [go_sem, ↓reduceIte, Nat.reduceEqDiff, Nat.reduceAdd, t8]; rfl) ?_) | (refine VX (ex_bin (by simp only [go_sem, ↓reduceIte, Nat.reduceEqDiff, t8]; rfl) (by simp only [go_sem, ↓reduceIte, Nat.reduceEqDiff, t8]; rfl) in_add) ?_; (try rw [wrap_id (by omega) (by omega)])))
        exact WO_nil ⟨L.length - (k2 + 1), by omega, k2 + 1, rfl, hlt2, rfl, gt t0, gt t3, gt t4, gt t5, gt t6, gs⟩
      · exact ⟨fun _ => ⟨rfl, rfl, t0, t3, t6⟩, fun hne => absurd rfl hne⟩
    clear t0 t3
    rintro T h12 ⟨rfl, t0, t3, t6⟩
    (repeat refine W_seq ?_); refine W_region ?_
    (refine VX (by simp only [go_sem, ↓reduceIte, Nat.reduceEqDiff, Nat.reduceAdd, t6]; rfl) ?_)
    refine WO_fn (ee) (by simp) (by decide) ((numbers_fn hs19 o11 g9b (by omega) (by rw [solve_length]; omega)).mono ?_)
    rintro r h13 ⟨rfl, u13, o13⟩
    refine WO_nil ?_
    refine W_region ?_
    iterate 3 (first | (refine VX (by simp only [go_sem, ↓reduceIte, Nat.reduceEqDiff, Nat.reduceAdd, t3]; rfl) ?_) | (refine VX (ex_bin (by simp only [go_sem, ↓reduceIte, Nat.reduceEqDiff, t3]; rfl) (by simp only [go_sem, ↓reduceIte, Nat.reduceEqDiff, t3]; rfl) in_add) ?_; (try rw [wrap_id (by omega) (by omega)])))
    exact WO_nil ⟨10 - (k + 1), by omega, k + 1, rfl, by omega, gt t0, gs, (u19.trans (u11.mono fun b hb => by omega)).trans (u13.mono fun b hb => by omega), o13⟩
  · refine ⟨fun _ => ?_, fun hne => absurd rfl hne⟩
    (repeat refine W_seq ?_); refine W_region ?_
    refine WO_fn (ee) (by simp) (by decide) ((wakes_fn hs hs1 hs2 hs3 o1).mono ?_)
    rintro r h3 ⟨rfl, u3, o3⟩
    (refine VO ?_)
    exact WO_nil (W_ret ⟨.inr rfl, _, by (simp only [resultB, resB, parts, V.part, Sl.get_set', ↓reduceIte, Nat.reduceEqDiff] <;> rfl), rfl⟩)
end Go.Ai
