/-
Operations, second part: new blocks, stores, slices that are cut, literals.
-/
import Derived.Test.YtjjlmmebkemlgaaAiOps1
set_option linter.unusedVariables false
set_option linter.unusedSimpArgs false
namespace Go.Ai
section
variable {P : Program} {ι : Inj} {h : H} {w : World}

theorem Step.rowG (k : HR P ι h w) {e : Nat} (cs : T S) (n : Nat) (c : Array Value) (hn : n ≤ c.size) (hc : ∀ j, j < n → ∃ x v, cs.get j = some x ∧ c[j]? = some v ∧ SR ι x v) :
    Step P ι h w (ι.add h.next w.heap.size 0 c.size #[]) (h.alloc (.cells e cs n)) (w.alloc (.cells c e)) := by
  have hx : Ext ι (ι.add h.next w.heap.size 0 c.size #[]) := Inj.add_ext k.fresh
  refine Step.newObj k _ _ _ _ _ ⟨c, ?_, by simp [Inj.add], ?_, fun j hj => ?_, fun j v _ hv => by simp [Inj.add] at hv⟩
  · simp only [Inj.add, if_true]; exact heap_alloc_new w _
  · simp only [Inj.add, if_true]; exact hn
  · obtain ⟨x, v, h1, h2, h3⟩ := hc j hj
    exact ⟨x, v, h1, by simp only [Inj.add, if_true, Nat.zero_add]; exact h2, h3.ext hx⟩
theorem Step.row (k : HR P ι h w) {e : Nat} (xs : List S) (c : Array Value) (hc : ∀ (j : Nat) (x : S), xs[j]? = some x → ∃ v : Value, c[j]? = some v ∧ SR ι x v) :
    Step P ι h w (ι.add h.next w.heap.size 0 c.size #[]) (h.alloc (.cells e (T.setMany .e 0 xs) xs.length)) (w.alloc (.cells c e)) := by
  refine Step.rowG k _ _ c ?_ fun j hj => ?_
  · rcases Nat.lt_or_ge c.size xs.length with hlt | hge
    · obtain ⟨v, hv, _⟩ := hc c.size _ (List.getElem?_eq_getElem hlt)
      simp at hv
    · exact hge
  · obtain ⟨v, hv, hr⟩ := hc j _ (List.getElem?_eq_getElem hj)
    exact ⟨_, v, by rw [T.get_row]; exact List.getElem?_eq_getElem hj, hv, hr⟩
/-- A block let go. -/
theorem Step.kill (k : HR P ι h w) (b : Nat) : Step P ι h w ι (h.kill b) w := by
  have get : ∀ c x, (h.kill b).get c = some x → h.get c = some x := by
    intro c x hc
    rw [H.get_kill] at hc
    by_cases e : c = b
    · rw [if_pos e] at hc; cases hc
    · rw [if_neg e] at hc; exact hc
  exact ⟨.refl ι, ⟨k.dom, fun c x hc => k.obj c x (get c x hc), fun c c' x x' hc hc' => k.inj c c' x x' (get c x hc) (get c' x' hc'), k.hid, fun c x hc => k.lt c x (get c x hc), k.frz, k.kn⟩, Nat.le_refl _, rfl, rfl, rfl, rfl, rfl, Nat.le_refl _, fun _ h => .inl h,
    fun c x _ hc => ⟨x, get c x hc, rfl, rfl⟩, fun c x hn hc => absurd (k.dom c (k.obj c x (get c x hc)).1) (by omega),
    fun c _ ⟨d, x, hd, h1, h2, h3⟩ => ⟨d, x, get d x hd, h1, h2, h3⟩, fun _ _ _ => rfl, rfl, rfl⟩
theorem all2_arr {xs : List S} {c : Array Value} (k : All2 (SR ι) xs c.toList) : ∀ (j : Nat) (x : S), xs[j]? = some x → ∃ v : Value, c[j]? = some v ∧ SR ι x v := fun j x hx => by
  obtain ⟨v, hv, hr⟩ := k.get j x hx
  exact ⟨v, by simpa using hv, hr⟩
theorem alloc1_sim (k : HR P ι h w) {e : TypeId} {v : V} {u : Value} {r : R} (hv : VR ι v u) (ht : v.isTup = false) (hx : alloc1 h e v = some r) : SimV P ι h w r (do pure (.pointer (some (← newVar e u)))) := by
  unfold alloc1 at hx
  rw [H.rowK_eq] at hx
  cases hx
  refine ⟨_, _, rfl, _, .pointer (some ⟨w.heap.size, 0, none⟩), _, ?_, ?_, Step.row k v.cells u.cells (all2_arr (hv.cells ht))⟩
  · simp [newVar, newRow]
  · exact ⟨Or.inl rfl, by simp [Inj.add]⟩
theorem doAlloc_sim (k : HR P ι h w) {e : TypeId} {r : R} (hx : doAlloc P h e = some r) : SimV P ι h w r (Instr.alloc e true (.tuple #[])) := by
  unfold doAlloc at hx
  split at hx
  · rename_i z hz
    rw [zeroB_isTup hz] at hx
    obtain ⟨u, hu, hr⟩ := run_zero hz
    obtain ⟨v, h', e1, ι', v', w', e2, e3, e4⟩ := alloc1_sim k (hr ι) (zeroB_isTup hz) hx
    exact ⟨v, h', e1, ι', v', w', by simpa [Instr.alloc, hu] using e2, e3, e4⟩
  · simp at hx
theorem doBox_sim (k : HR P ι h w) {e : TypeId} {x : Option V} {u : Value} {r : R} (hv : ∀ y, x = some y → VR ι y u) (hx : doBox P h e x = some r) : SimV P ι h w r (Instr.box e u) := by
  unfold doBox at hx
  split at hx
  · rename_i v hy
    have : x = some v ∧ v.isTup = false := by
      unfold ofTup at hy
      split at hy
      · simp at hy
      · rename_i hn
        refine ⟨hy, ?_⟩
        cases v with
        | tup ps => exact absurd hy (hn ps)
        | _ => rfl
    exact alloc1_sim k (hv v this.1) this.2 hx
  · simp at hx

/-! ### Stores -/
theorem storeB_sim (k : HR P ι h w) {b o : Nat} {xs : List S} {h' : H} {vs : List Value} (hx : storeB h b o xs = some h') (hv : All2 (SR ι) xs vs) :
    ∃ w', (storeCells ⟨ι.blk b, ι.sh b + o, none⟩ vs).run P w = .ok () w' ∧ Step P ι h w ι h' w' := by
  unfold storeB at hx
  split at hx
  · cases hv; cases hx; exact ⟨w, rfl, .refl k⟩
  · rename_i hne
    split at hx
    · rename_i e cs n hg
      cases hm : (h.may b && Nat.ble (o + xs.length) n) with
      | false => rw [hm] at hx; simp at hx
      | true =>
        rw [hm] at hx
        simp only [cond_true, T.setManyK_eq, H.putK_eq, Option.some.injEq] at hx
        subst hx
        simp only [Bool.and_eq_true] at hm
        have hle := Nat.le_of_ble_eq_true hm.2
        obtain ⟨hd, c, h1, h2, h3, h5, h6⟩ := k.obj b _ hg
        have hl : xs.length = vs.length := hv.length
        have hst := run_storeCells_at P (ι.blk b) (ι.sh b + o) e vs 0 c w h1 (by omega) (SR.all_cell hv)
        simp only [Nat.add_zero] at hst
        refine ⟨_, hst, Step.putObj k hg rfl hm.1 (by simp) (by simp) (by simp) (by simp) (fun g hg' => setRow_other w _ g _ hg') rfl ⟨_, setRow_heap w _ c _ e (0, 0) h1, ?_, h3, fun j hj => ?_, fun j v hj hv => ?_⟩⟩
        · simp; omega
        · rw [T.get_setMany]
          by_cases hin : o ≤ j ∧ j < o + xs.length
          · rw [if_pos hin]
            have hlt : j - o < xs.length := by omega
            obtain ⟨v, hv', hr⟩ := hv.get (j - o) _ (List.getElem?_eq_getElem hlt)
            refine ⟨_, v, List.getElem?_eq_getElem hlt, ?_, hr⟩
            simp only [List.getElem?_toArray]
            rw [List.append_assoc, List.getElem?_append_right (by simp; omega), List.getElem?_append_left (by simp; omega)]
            simp only [List.length_take, Array.length_toList]
            rw [show ι.sh b + j - min (ι.sh b + o) c.size = j - o by omega]
            exact hv'
          · rw [if_neg hin]
            obtain ⟨x, v, p, q, r⟩ := h5 j hj
            refine ⟨x, v, p, ?_, r⟩
            simp only [List.getElem?_toArray]
            rw [List.append_assoc]
            rcases Nat.lt_or_ge j o with hlo | hhi
            · rw [List.getElem?_append_left (by simp; omega), List.getElem?_take_of_lt (by omega)]
              simpa using q
            · rw [List.getElem?_append_right (by simp; omega), List.getElem?_append_right (by simp; omega), List.getElem?_drop]
              simp only [List.length_take, Array.length_toList]
              rw [show ι.sh b + o + vs.length + (ι.sh b + j - min (ι.sh b + o) c.size - vs.length) = ι.sh b + j by omega]
              simpa using q
        · have q := h6 j v hj hv
          simp only [List.getElem?_toArray]
          rw [List.append_assoc]
          have hxs : 0 < xs.length := List.length_pos_iff.2 (by simpa using hne)
          rcases hj with hlo | hhi
          · rw [List.getElem?_append_left (by simp; omega), List.getElem?_take_of_lt (by omega)]
            simpa using q
          · rw [List.getElem?_append_right (by simp; omega), List.getElem?_append_right (by simp; omega), List.getElem?_drop]
            simp only [List.length_take, Array.length_toList]
            rw [show ι.sh b + o + vs.length + (j - min (ι.sh b + o) c.size - vs.length) = j by omega]
            simpa using q
    · simp at hx
theorem doStore_sim (k : HR P ι h w) {t : TypeId} {x y : Option V} {u v : Value} {r : R} (hu : ∀ z, x = some z → VR ι z u) (hv : ∀ z, y = some z → VR ι z v) (hx : doStore P h t x y = some r) : SimU P ι h w r (Instr.storeAt t u v) := by
  unfold doStore at hx
  split at hx
  · rename_i b o y'
    obtain ⟨hd, rfl⟩ := hu _ rfl
    have hy := hv _ rfl
    split at hx
    · rename_i n hs
      cases hc : (Nat.beq y'.cells.length n && !y'.isTup) with
      | false => rw [hc] at hx; simp at hx
      | true =>
        rw [hc] at hx
        simp only [cond_true] at hx
        simp only [Bool.and_eq_true, Bool.not_eq_true'] at hc
        have hn := Nat.eq_of_beq_eq_true hc.1
        split at hx
        · rename_i h' hst
          cases hx
          have hcs := hy.cells hc.2
          obtain ⟨w', hr, hstep⟩ := storeB_sim k hst hcs
          refine ⟨h', rfl, ι, w', ?_, hstep⟩
          have hl : v.cells.size = n := by have := hcs.length; simp at this; omega
          simp [Instr.storeAt, Instr.sureAddr, storeVar, run_size hs, hl, hr]
        · simp at hx
    · simp at hx
  · simp at hx

/-! ### A slice that is cut -/
theorem bound_some {T0 : Sl} {a : Act} (kt : TR ι T0 a.tmps) {x : Operand} {d y n : Nat} (hb : bound T0 (some x) d y = some n) : ∃ kk, a.eval x = .int kk (n : Int) ∧ n ≤ y := by
  unfold bound at hb
  simp only at hb
  split at hb
  · rename_i i hi
    unfold evInt at hi
    split at hi
    · rename_i kk m hm
      simp only [Option.some.injEq] at hi; subst hi
      obtain ⟨rfl, hn⟩ := inRange_some hb
      exact ⟨kk, ev_rel kt hm, by omega⟩
    · simp at hi
  · simp at hb
theorem run_bound {T0 : Sl} {a : Act} (kt : TR ι T0 a.tmps) {x : Operand} {d y n : Nat} (hb : bound T0 (some x) d y = some n) {y' : Nat} (hy : y ≤ y') (code : BoundsCode) (w : World) : (Instr.sliceBound (a.eval x) y' code).run P w = .ok n w := by
  obtain ⟨kk, he, hn⟩ := bound_some kt hb
  rw [he]
  have : (n : Int) ≤ (y' : Int) := by omega
  simp [Instr.sliceBound, asIntOf, this]
theorem run_bounds {T0 : Sl} {a : Act} (kt : TR ι T0 a.tmps) {lo hi mx : Option Operand} {len cap c l kk m : Nat} (hlc : len ≤ cap) (hcc : cap ≤ c) (hg : (mx.isNone || hi.isSome) = true)
    (hm : bound T0 mx cap cap = some m) (hk : bound T0 hi len m = some kk) (hl : bound T0 lo 0 kk = some l) (w : World) :
    ∃ M, (Instr.sliceBounds true len c (lo.map a.eval) (hi.map a.eval) (mx.map a.eval)).run P w = .ok (l, kk, M) w ∧ l ≤ kk ∧ kk ≤ m ∧ m ≤ M ∧ M ≤ c ∧ (mx.isSome = true → M = m) ∧ (mx.isSome = false → M = c ∧ m = cap) := by
  have hlk : l ≤ kk := by
    cases lo with
    | none => simp [bound] at hl; omega
    | some y => exact (bound_some kt hl).choose_spec.2
  cases mx with
  | none =>
    simp [bound] at hm
    subst hm
    have hkm : kk ≤ cap := by
      cases hi with
      | none => simp [bound] at hk; omega
      | some y => exact (bound_some kt hk).choose_spec.2
    refine ⟨c, ?_, hlk, hkm, hcc, Nat.le_refl _, by simp, fun _ => ⟨rfl, rfl⟩⟩
    cases hi with
    | none =>
      simp [bound] at hk
      subst hk
      cases lo with
      | none => simp [bound] at hl; subst hl; simp [Instr.sliceBounds]
      | some z => simp [Instr.sliceBounds, run_bound kt hl (Nat.le_refl _)]
    | some y =>
      cases lo with
      | none => simp [bound] at hl; subst hl; simp [Instr.sliceBounds, run_bound kt hk hcc]
      | some z => simp [Instr.sliceBounds, run_bound kt hk hcc, run_bound kt hl (Nat.le_refl _)]
  | some x =>
    cases hi with
    | none => simp at hg
    | some y =>
      have hmc : m ≤ cap := (bound_some kt hm).choose_spec.2
      refine ⟨m, ?_, hlk, (bound_some kt hk).choose_spec.2, Nat.le_refl _, by omega, fun _ => rfl, by simp⟩
      cases lo with
      | none => simp [bound] at hl; subst hl; simp [Instr.sliceBounds, run_bound kt hm hcc, run_bound kt hk (Nat.le_refl _)]
      | some z => simp [Instr.sliceBounds, run_bound kt hm hcc, run_bound kt hk (Nat.le_refl _), run_bound kt hl (Nat.le_refl _)]
theorem doSlice_sim (k : HR P ι h w) {T0 : Sl} {a : Act} (kt : TR ι T0 a.tmps) {t : TypeId} {lo hi mx : Option Operand} {x : Option V} {v : Value} {r : R} (hv : ∀ y, x = some y → VR ι y v) (hx : doSlice P T0 h t lo hi mx x = some r) :
    SimV P ι h w r (Instr.sliceAt t v (lo.map a.eval) (hi.map a.eval) (mx.map a.eval)) := by
  unfold doSlice at hx
  split at hx
  · rename_i b o len cap sz ex
    obtain ⟨hd, hlc, ad, c, rfl, e1, e2, e3, e4, e5, e6⟩ := hv _ rfl
    split at hx
    · rename_i elem hel
      split at hx
      · rename_i size m hs hm
        split at hx
        · rename_i kk hk
          split at hx
          · rename_i l hl
            cases hg : ((mx.isNone || hi.isSome) && Nat.beq size sz) with
            | false => rw [hg] at hx; simp at hx
            | true =>
              rw [hg, slR_eq] at hx
              simp only [cond_true, Option.some.injEq] at hx
              subst hx
              simp only [Bool.and_eq_true] at hg
              have hsz := Nat.eq_of_beq_eq_true hg.2
              subst hsz
              obtain ⟨M, hB, h1, h2, h3, h4, h5, h6⟩ := run_bounds (P := P) kt hlc e4 hg.1 hm hk hl w
              have hrun : (Instr.sliceAt t (.slice (some ad) len c) (lo.map a.eval) (hi.map a.eval) (mx.map a.eval)).run P w = .ok (.slice (some (if M = l then ad else ad.add (l * size))) (kk - l) (M - l)) w := by
                unfold Instr.sliceAt Instr.slice
                simp only [Sem.run_bind, run_und hel, Result.andThen_ok, hB, run_size hs, Sem.run_pure]
                by_cases hml : M = l <;> simp [hml]
              have had : ad = ⟨ι.blk b, ad.off, none⟩ := by cases ad; simp_all
              have hmul : (M - l) * size + l * size = M * size := by rw [← Nat.add_mul]; congr 1; omega
              have hmul2 : M * size ≤ c * size := Nat.mul_le_mul_right _ h4
              refine SimV.same k (v := .one (.sl _ _ _ _ _ _)) ⟨hd, by omega, (if M = l then ad else ad.add (l * size)), M - l, rfl, ?_, ?_, ?_, by omega, ?_, by omega⟩ hrun
              · split
                · exact e1
                · rw [had, add_none]
              · split
                · exact e2
                · rw [had, add_none]
              · by_cases hml : M = l
                · rw [if_pos hml]
                  exact .inr ⟨by omega, by omega⟩
                · rw [if_neg hml, had, add_none]
                  rcases e3 with e3 | ⟨e3, e3'⟩
                  · left; show ad.off + l * size = _; omega
                  · exfalso; apply hml; subst e3; subst e3'; omega
              · intro hex
                cases hmx : mx.isSome with
                | true => rw [h5 hmx]
                | false =>
                  rw [hmx, Bool.or_false] at hex
                  have := h6 hmx
                  rw [this.1, this.2, e5 hex]
          · simp at hx
        · simp at hx
      · simp at hx
    · simp at hx
  · simp at hx
end
end Go.Ai
