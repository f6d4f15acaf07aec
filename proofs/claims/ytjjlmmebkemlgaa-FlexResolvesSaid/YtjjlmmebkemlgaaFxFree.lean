/-
flex: what is free: what the machine comes to.
-/
import Derived.Test.YtjjlmmebkemlgaaFxOpen
set_option linter.unusedVariables false
set_option linter.unusedSimpArgs false
namespace Go.Ai
open Go.Proofs

/-- A line that is resolved, as it lies. -/
structure Work (h : H) (bw bs bf bl ol cl : Nat) (ex : Bool) (L : List Itm) (gap room : Int) (grows : Bool) (ss : List Int) (fx : List Bool) : Prop where
  w : Cells h bw 72 [.sl bl ol L.length cl 5 ex, .i .i64 gap, .i .i64 room, .b grows, .sl bs 0 L.length L.length 1 false, .sl bf 0 L.length L.length 1 true]
  items : ∀ k x, L[k]? = some x → h.row bl (ol + k * 5) 5 = some x.cells
  sizes : Cells h bs 3 (nums ss)
  fixed : Cells h bf 4 (bools fx)
  ls : ss.length = L.length
  lf : fx.length = L.length
  lt : bw < h.next ∧ bs < h.next ∧ bf < h.next ∧ bl < h.next
  ne : bs ≠ bw ∧ bf ≠ bw ∧ bf ≠ bs ∧ bl ≠ bw ∧ bl ≠ bs ∧ bl ≠ bf
  may : h.may bw = true ∧ h.may bs = true ∧ h.may bf = true
theorem Work.up {p : Nat → Prop} {h h1 : H} {bw bs bf bl ol cl : Nat} {ex : Bool} {L : List Itm} {gap room : Int} {grows : Bool} {ss : List Int} {fx : List Bool} (k : Work h bw bs bf bl ol cl ex L gap room grows ss fx) (u : Up p h h1) (hw : p bw) (hs : p bs) (hf : p bf) (hl : p bl) : Work h1 bw bs bf bl ol cl ex L gap room grows ss fx :=
  ⟨u.cells hw k.w, fun i x hx => by rw [u.row hl]; exact k.items i x hx, u.cells hs k.sizes, u.cells hf k.fixed, k.ls, k.lf, ⟨Nat.lt_of_lt_of_le k.lt.1 u.next, Nat.lt_of_lt_of_le k.lt.2.1 u.next, Nat.lt_of_lt_of_le k.lt.2.2.1 u.next, Nat.lt_of_lt_of_le k.lt.2.2.2 u.next⟩, k.ne, by rw [u.may, u.may, u.may]; exact k.may⟩
theorem Work.upLt {h h1 : H} {bw bs bf bl ol cl : Nat} {ex : Bool} {L : List Itm} {gap room : Int} {grows : Bool} {ss : List Int} {fx : List Bool} (k : Work h bw bs bf bl ol cl ex L gap room grows ss fx) (u : Up (· < h.next) h h1) : Work h1 bw bs bf bl ol cl ex L gap room grows ss fx :=
  k.up u k.lt.1 k.lt.2.1 k.lt.2.2.1 k.lt.2.2.2
/-- What the numbers are. -/
structure LineOk (L : List Itm) (gap room : Int) : Prop where
  ok : ∀ x ∈ L, x.ok
  len : L.length ≤ 64
  gap : 0 ≤ gap ∧ gap ≤ 1099511627776
  room : 0 ≤ room ∧ room ≤ 1099511627776
def taken : List Itm → List Int → List Bool → Int
  | x :: L, s :: ss, f :: fx => (if f then s else x.base) + taken L ss fx
  | _, _, _ => 0
theorem taken_append : ∀ {L : List Itm} {ss : List Int} {fx : List Bool} {M : List Itm} {ts : List Int} {gx : List Bool}, ss.length = L.length → fx.length = L.length → taken (L ++ M) (ss ++ ts) (fx ++ gx) = taken L ss fx + taken M ts gx
  | [], [], [], M, ts, gx, _, _ => by simp [taken]
  | x :: L, s :: ss, f :: fx, M, ts, gx, h1, h2 => by
    simp only [List.length_cons, Nat.add_right_cancel_iff] at h1 h2
    simp only [List.cons_append, taken, taken_append h1 h2]; omega
theorem taken_take {L : List Itm} {ss : List Int} {fx : List Bool} (h1 : ss.length = L.length) (h2 : fx.length = L.length) {k : Nat} {x : Itm} {s : Int} {f : Bool} (hx : L[k]? = some x) (hs : ss[k]? = some s) (hf : fx[k]? = some f) :
    taken (L.take (k + 1)) (ss.take (k + 1)) (fx.take (k + 1)) = taken (L.take k) (ss.take k) (fx.take k) + (if f then s else x.base) := by
  obtain ⟨k1, rfl⟩ := List.getElem?_eq_some_iff.1 hx
  obtain ⟨k2, rfl⟩ := List.getElem?_eq_some_iff.1 hs
  obtain ⟨k3, rfl⟩ := List.getElem?_eq_some_iff.1 hf
  rw [List.take_succ_eq_append_getElem k1, List.take_succ_eq_append_getElem k2, List.take_succ_eq_append_getElem k3, taken_append (by simp; omega) (by simp; omega)]
  simp [taken]
theorem taken_bound : ∀ {L : List Itm} {ss : List Int} {fx : List Bool}, (∀ x ∈ L, x.ok) → (∀ s ∈ ss, 0 ≤ s ∧ s ≤ 1099511627776) → 0 ≤ taken L ss fx ∧ taken L ss fx ≤ L.length * 1099511627776
  | [], _, _, _, _ => by simp [taken]
  | x :: L, [], _, _, _ => by simp [taken]; omega
  | x :: L, s :: ss, [], _, _ => by simp [taken]; omega
  | x :: L, s :: ss, f :: fx, h1, h2 => by
    have := taken_bound (L := L) (ss := ss) (fx := fx) (fun y hy => h1 y (by simp [hy])) (fun y hy => h2 y (by simp [hy]))
    have hx := (h1 x (by simp)).base
    have hs := h2 s (by simp)
    simp only [taken, List.length_cons]
    split <;> omega
def freeN (L : List Itm) (gap room : Int) (grows : Bool) (ss : List Int) (fx : List Bool) : Int :=
  if grows then max (room - gap * max 0 ((L.length : Int) - 1) - taken L ss fx) 0 else max (-(room - gap * max 0 ((L.length : Int) - 1) - taken L ss fx)) 0
set_option maxHeartbeats 0 in
theorem free_ok {spec : CallF} (hs : ∀ args h, spec 66 args h = none) {h : H} {bw bs bf bl ol cl : Nat} {ex : Bool} {L : List Itm} {gap room : Int} {grows : Bool} {ss : List Int} {fx : List Bool} (ok : Ok h) (lok : LineOk L gap room)
    (k : Work h bw bs bf bl ol cl ex L gap room grows ss fx) (sok : ∀ s ∈ ss, 0 ≤ s ∧ s ≤ 1099511627776) :
    WF Try.prog spec 66 [.one (.p bw 0)] h fun v h1 => v = .one (.i .i64 (freeN L gap room grows ss fx)) ∧ Up (· < h.next) h h1 ∧ Ok h1 := by
  refine WF_of Try.func66 rfl (hs _ _) (by rw [Try.ntmps66]; simp) (by rw [Try.ntmps66]; decide) ?_
  rw [Try.ntmps66, Try.results66]
  simp only [Sl.setMany_cons, Sl.setMany_nil, Nat.zero_add]
  have hc := k.w
  have hlen := lok.len
  have hgm : ∀ m : Int, 0 ≤ m → m ≤ 64 → 0 ≤ gap * m ∧ gap * m ≤ 70368744177664 := fun m h0 h1 => by
    refine ⟨Int.mul_nonneg lok.gap.1 h0, ?_⟩
    have q1 : gap * m ≤ 1099511627776 * m := Int.mul_le_mul_of_nonneg_right lok.gap.2 h0
    omega
  have hg1 := hgm (max 0 ((L.length : Int) - 1)) (by omega) (by omega)
  have hr := lok.room
  (repeat refine W_seq ?_); refine W_region ?_
  repeat (first
      | (refine WO_val (by simp (disch := first | omega | simp) only [go_sem, ↓reduceIte, Nat.reduceEqDiff, Nat.reduceAdd]; rfl) (by decide) ?_)
      | (refine WO_val (ex_bin (by simp only [go_sem, ↓reduceIte, Nat.reduceEqDiff]; rfl) (by simp only [go_sem, ↓reduceIte, Nat.reduceEqDiff]; rfl) (by first | exact in_add | exact in_sub | exact in_mul | exact in_lss)) (by decide) ?_; (try rw [wrap_id (by omega) (by omega)]))
      | (refine WO_val (ex_max (by simp only [go_sem, ↓reduceIte, Nat.reduceEqDiff]; rfl) (by simp only [go_sem, ↓reduceIte, Nat.reduceEqDiff]; rfl)) (by decide) ?_)
      | (refine WO_val (ex_neg (by simp only [go_sem, ↓reduceIte, Nat.reduceEqDiff]; rfl)) (by decide) ?_; (try rw [wrap_id (by omega) (by omega)]))
      | (refine WO_val (ex_len el39 (by simp only [go_sem, ↓reduceIte, Nat.reduceEqDiff]; rfl)) (by decide) ?_))
  refine WO_nil ?_; (repeat refine W_seq ?_)
  refine W_drawn dr66_1 (by kernel_rfl) ok.floor ?_
  unfold dr66_1
  repeat (first
      | (refine WI_val rfl wantB_none rfl (by simp (disch := first | omega | simp) only [go_sem, ↓reduceIte, Nat.reduceEqDiff, Nat.reduceAdd, hc.row]; rfl) (by decide) ?_)
      | (refine WI_ld rfl wantB_none (by simp only [go_sem, ↓reduceIte, Nat.reduceEqDiff]; rfl) (by simp (disch := first | omega | simp) only [go_sem, ↓reduceIte, Nat.reduceEqDiff, Nat.reduceAdd, hc.row]; rfl) (by (try simp only [cond_true, cond_false]); repeat (first | exact Off.nil | refine Off.seen rfl ?_ | refine Off.off (by omega) ?_)) (by decide) ?_)
      | (refine WI_val rfl wantB_none rfl (ex_bin (by simp only [go_sem, ↓reduceIte, Nat.reduceEqDiff]; rfl) (by simp only [go_sem, ↓reduceIte, Nat.reduceEqDiff]; rfl) (by first | exact in_add | exact in_sub | exact in_mul | exact in_lss)) (by decide) ?_; (try rw [wrap_id (by omega) (by omega)]))
      | (refine WI_val rfl wantB_none rfl (ex_max (by simp only [go_sem, ↓reduceIte, Nat.reduceEqDiff]; rfl) (by simp only [go_sem, ↓reduceIte, Nat.reduceEqDiff]; rfl)) (by decide) ?_)
      | (refine WI_val rfl wantB_none rfl (ex_neg (by simp only [go_sem, ↓reduceIte, Nat.reduceEqDiff]; rfl)) (by decide) ?_; (try rw [wrap_id (by omega) (by omega)]))
      | (refine WI_val rfl wantB_none rfl (ex_len el39 (by simp only [go_sem, ↓reduceIte, Nat.reduceEqDiff]; rfl)) (by decide) ?_))
  refine WI_nil ?_; (repeat refine W_seq ?_)
  refine W_region ?_
  repeat (first
      | (refine WO_val (by simp (disch := first | omega | simp) only [go_sem, ↓reduceIte, Nat.reduceEqDiff, Nat.reduceAdd, hc.row]; rfl) (by decide) ?_)
      | (refine WO_val (ex_bin (by simp only [go_sem, ↓reduceIte, Nat.reduceEqDiff]; rfl) (by simp only [go_sem, ↓reduceIte, Nat.reduceEqDiff]; rfl) (by first | exact in_add | exact in_sub | exact in_mul | exact in_lss)) (by decide) ?_; (try rw [wrap_id (by omega) (by omega)]))
      | (refine WO_val (ex_max (by simp only [go_sem, ↓reduceIte, Nat.reduceEqDiff]; rfl) (by simp only [go_sem, ↓reduceIte, Nat.reduceEqDiff]; rfl)) (by decide) ?_)
      | (refine WO_val (ex_neg (by simp only [go_sem, ↓reduceIte, Nat.reduceEqDiff]; rfl)) (by decide) ?_; (try rw [wrap_id (by omega) (by omega)]))
      | (refine WO_val (ex_len el39 (by simp only [go_sem, ↓reduceIte, Nat.reduceEqDiff]; rfl)) (by decide) ?_))
  refine WO_nil ?_; (repeat refine W_seq ?_)
  refine W_block (W_rounds (fun j T h1 => ∃ k, j = L.length - k ∧ k ≤ L.length ∧ T.get 0 = some (.one (.p bw 0)) ∧ T.get 3 = some (.one (.i .i64 (room - gap * max 0 ((L.length : Int) - 1) - taken (L.take k) (ss.take k) (fx.take k)))) ∧ T.get 26 = some (.one (.sl bl ol L.length cl 5 ex)) ∧ T.get 27 = some (.one (.i .i64 (L.length : Int))) ∧ T.get 28 = some (.one (.i .i64 (k : Int))) ∧ Up (· < h.next) h h1 ∧ Ok h1) ?_ L.length _ _ ?_)
  rotate_left
  · exact ⟨0, rfl, Nat.zero_le _, gs, by simp only [List.take_zero, taken]; (simp only [go_sem, ↓reduceIte, Nat.reduceEqDiff, Int.sub_zero] <;> first | rfl | simp), gs, gs, gs, .refl _ _, ok⟩
  rintro j T h1 ⟨i, rfl, hi, t0, t3, t26, t27, t28, u1, o1⟩
  have k1 := k.upLt u1
  have hb1 := taken_bound (L := L.take i) (ss := ss.take i) (fx := fx.take i) (fun y hy => lok.ok y (List.mem_of_mem_take hy)) (fun y hy => sok y (List.mem_of_mem_take hy))
  have hb2 : (L.take i).length ≤ 64 := by simp; omega
  generalize hN : room - gap * max 0 ((L.length : Int) - 1) = N at t3
  have hN' : -70368744177664 ≤ N ∧ N ≤ 1099511627776 := by omega
  (repeat refine W_seq ?_); refine W_region ?_
  repeat (first
      | (refine WO_val (by simp (disch := first | omega | simp) only [go_sem, ↓reduceIte, Nat.reduceEqDiff, Nat.reduceAdd, t27, t28]; rfl) (by decide) ?_)
      | (refine WO_val (ex_bin (by simp only [go_sem, ↓reduceIte, Nat.reduceEqDiff, t27, t28]; rfl) (by simp only [go_sem, ↓reduceIte, Nat.reduceEqDiff, t27, t28]; rfl) (by first | exact in_add | exact in_sub | exact in_mul | exact in_lss)) (by decide) ?_; (try rw [wrap_id (by omega) (by omega)]))
      | (refine WO_val (ex_max (by simp only [go_sem, ↓reduceIte, Nat.reduceEqDiff, t27, t28]; rfl) (by simp only [go_sem, ↓reduceIte, Nat.reduceEqDiff, t27, t28]; rfl)) (by decide) ?_)
      | (refine WO_val (ex_neg (by simp only [go_sem, ↓reduceIte, Nat.reduceEqDiff, t27, t28]; rfl)) (by decide) ?_; (try rw [wrap_id (by omega) (by omega)]))
      | (refine WO_val (ex_len el39 (by simp only [go_sem, ↓reduceIte, Nat.reduceEqDiff, t27, t28]; rfl)) (by decide) ?_))
  refine WO_nil ?_; (repeat refine W_seq ?_)
  refine W_cond (ee) (fun hlt => W_skip ?_) (fun hge => W_exit ?_)
  · have hlt : (i : Int) < (L.length : Int) := by simpa using hlt
    have hlt : i < L.length := by omega
    obtain ⟨x, hx⟩ : ∃ x, L[i]? = some x := ⟨_, List.getElem?_eq_getElem hlt⟩
    obtain ⟨s, hsx⟩ : ∃ s, ss[i]? = some s := ⟨_, List.getElem?_eq_getElem (by rw [k.ls]; exact hlt)⟩
    obtain ⟨f, hfx⟩ : ∃ f, fx[i]? = some f := ⟨_, List.getElem?_eq_getElem (by rw [k.lf]; exact hlt)⟩
    have hxo := (lok.ok x (List.mem_of_getElem? hx)).base
    have hso := sok s (List.mem_of_getElem? hsx)
    have r1 := k1.items i x hx
    repeat refine W_seq ?_
    refine W_block ?_
    (repeat refine W_seq ?_); refine W_region ?_
    repeat (first
      | (refine WO_val (by simp (disch := first | omega | simp) only [go_sem, ↓reduceIte, Nat.reduceEqDiff, Nat.reduceAdd, r1, t26, t27, t28]; rfl) (by decide) ?_)
      | (refine WO_val (ex_bin (by simp only [go_sem, ↓reduceIte, Nat.reduceEqDiff, t26, t27, t28]; rfl) (by simp only [go_sem, ↓reduceIte, Nat.reduceEqDiff, t26, t27, t28]; rfl) (by first | exact in_add | exact in_sub | exact in_mul | exact in_lss)) (by decide) ?_; (try rw [wrap_id (by omega) (by omega)]))
      | (refine WO_val (ex_max (by simp only [go_sem, ↓reduceIte, Nat.reduceEqDiff, t26, t27, t28]; rfl) (by simp only [go_sem, ↓reduceIte, Nat.reduceEqDiff, t26, t27, t28]; rfl)) (by decide) ?_)
      | (refine WO_val (ex_neg (by simp only [go_sem, ↓reduceIte, Nat.reduceEqDiff, t26, t27, t28]; rfl)) (by decide) ?_; (try rw [wrap_id (by omega) (by omega)]))
      | (refine WO_val (ex_len el39 (by simp only [go_sem, ↓reduceIte, Nat.reduceEqDiff, t26, t27, t28]; rfl)) (by decide) ?_))
    refine WO_alloc zb46 rfl o1 (by decide) fun h2 n2 => ?_
    repeat (first
      | (refine WO_val (by simp (disch := first | omega | simp) only [go_sem, ↓reduceIte, Nat.reduceEqDiff, Nat.reduceAdd, t28]; rfl) (by decide) ?_)
      | (refine WO_val (ex_bin (by simp only [go_sem, ↓reduceIte, Nat.reduceEqDiff, t28]; rfl) (by simp only [go_sem, ↓reduceIte, Nat.reduceEqDiff, t28]; rfl) (by first | exact in_add | exact in_sub | exact in_mul | exact in_lss)) (by decide) ?_; (try rw [wrap_id (by omega) (by omega)]))
      | (refine WO_val (ex_max (by simp only [go_sem, ↓reduceIte, Nat.reduceEqDiff, t28]; rfl) (by simp only [go_sem, ↓reduceIte, Nat.reduceEqDiff, t28]; rfl)) (by decide) ?_)
      | (refine WO_val (ex_neg (by simp only [go_sem, ↓reduceIte, Nat.reduceEqDiff, t28]; rfl)) (by decide) ?_; (try rw [wrap_id (by omega) (by omega)]))
      | (refine WO_val (ex_len el39 (by simp only [go_sem, ↓reduceIte, Nat.reduceEqDiff, t28]; rfl)) (by decide) ?_))
    refine WO_storeA (ee) (ee) sz46 rfl (by simp [Itm.cells]) n2.cells n2.may (by simp [Itm.cells, V.cells]) fun h3 p3 => ?_
    have k2 := k1.upLt n2.up
    have k3 := k2.up p3.up (by have := k1.lt.1; simp; omega) (by have := k1.lt.2.1; simp; omega) (by have := k1.lt.2.2.1; simp; omega) (by have := k1.lt.2.2.2; simp; omega)
    have c3 := p3.cells
    simp only [Itm.cells, V.cells, List.take_zero, List.nil_append, List.length_cons, List.length_nil, Nat.reduceAdd, Nat.zero_add, List.drop_succ_cons, List.drop_zero, List.append_nil] at c3
    have cw := k3.w
    have r3 : h3.row bf i 1 = some [.b f] := k3.fixed.at1 (by simp [bools, hfx])
    have r4 : h3.row bs i 1 = some [.i .i64 s] := k3.sizes.at1 (by simp [nums, hsx])
    have u3 : Up (· < h.next) h h3 := (u1.trans (n2.up.mono fun b hb => by have := u1.next; omega)).trans (p3.up.mono fun b hb => by have := u1.next; omega)
    have o3 := p3.ok n2.ok
    refine WO_nil ?_; (repeat refine W_seq ?_)
    refine W_region ?_
    repeat (first
      | (refine WO_val (by simp (disch := first | omega | simp) only [go_sem, ↓reduceIte, Nat.reduceEqDiff, Nat.reduceAdd, cw.row, r3, t0, t28]; rfl) (by decide) ?_)
      | (refine WO_val (ex_bin (by simp only [go_sem, ↓reduceIte, Nat.reduceEqDiff, t0, t28]; rfl) (by simp only [go_sem, ↓reduceIte, Nat.reduceEqDiff, t0, t28]; rfl) (by first | exact in_add | exact in_sub | exact in_mul | exact in_lss)) (by decide) ?_; (try rw [wrap_id (by omega) (by omega)]))
      | (refine WO_val (ex_max (by simp only [go_sem, ↓reduceIte, Nat.reduceEqDiff, t0, t28]; rfl) (by simp only [go_sem, ↓reduceIte, Nat.reduceEqDiff, t0, t28]; rfl)) (by decide) ?_)
      | (refine WO_val (ex_neg (by simp only [go_sem, ↓reduceIte, Nat.reduceEqDiff, t0, t28]; rfl)) (by decide) ?_; (try rw [wrap_id (by omega) (by omega)]))
      | (refine WO_val (ex_len el39 (by simp only [go_sem, ↓reduceIte, Nat.reduceEqDiff, t0, t28]; rfl)) (by decide) ?_))
    have hT := taken_take k.ls k.lf hx hsx hfx
    have hL : L.length - (i + 1) < L.length - i := by omega
    have hLe : (L.take i).length = i := by simp; omega
    rw [hLe] at hb1
    generalize hA : taken (L.take i) (ss.take i) (fx.take i) = A at *
    generalize hB : taken (L.take (i + 1)) (ss.take (i + 1)) (fx.take (i + 1)) = B at *
    refine WO_nil ?_; (repeat refine W_seq ?_)
    refine W_cond (ee) (fun hf => ?_) (fun hf => ?_)
    · subst hf
      refine W_region ?_
      repeat (first
      | (refine WO_val (by simp (disch := first | omega | simp) only [go_sem, ↓reduceIte, Nat.reduceEqDiff, Nat.reduceAdd, cw.row, r4, t0, t3, t28]; rfl) (by decide) ?_)
      | (refine WO_val (ex_bin (by simp only [go_sem, ↓reduceIte, Nat.reduceEqDiff, t0, t3, t28]; rfl) (by simp only [go_sem, ↓reduceIte, Nat.reduceEqDiff, t0, t3, t28]; rfl) (by first | exact in_add | exact in_sub | exact in_mul | exact in_lss)) (by decide) ?_; (try rw [wrap_id (by omega) (by omega)]))
      | (refine WO_val (ex_max (by simp only [go_sem, ↓reduceIte, Nat.reduceEqDiff, t0, t3, t28]; rfl) (by simp only [go_sem, ↓reduceIte, Nat.reduceEqDiff, t0, t3, t28]; rfl)) (by decide) ?_)
      | (refine WO_val (ex_neg (by simp only [go_sem, ↓reduceIte, Nat.reduceEqDiff, t0, t3, t28]; rfl)) (by decide) ?_; (try rw [wrap_id (by omega) (by omega)]))
      | (refine WO_val (ex_len el39 (by simp only [go_sem, ↓reduceIte, Nat.reduceEqDiff, t0, t3, t28]; rfl)) (by decide) ?_))
      refine WO_nil ?_; (repeat refine W_seq ?_)
      refine W_region ?_
      repeat (first
      | (refine WO_val (by simp (disch := first | omega | simp) only [go_sem, ↓reduceIte, Nat.reduceEqDiff, Nat.reduceAdd, t28]; rfl) (by decide) ?_)
      | (refine WO_val (ex_bin (by simp only [go_sem, ↓reduceIte, Nat.reduceEqDiff, t28]; rfl) (by simp only [go_sem, ↓reduceIte, Nat.reduceEqDiff, t28]; rfl) (by first | exact in_add | exact in_sub | exact in_mul | exact in_lss)) (by decide) ?_; (try rw [wrap_id (by omega) (by omega)]))
      | (refine WO_val (ex_max (by simp only [go_sem, ↓reduceIte, Nat.reduceEqDiff, t28]; rfl) (by simp only [go_sem, ↓reduceIte, Nat.reduceEqDiff, t28]; rfl)) (by decide) ?_)
      | (refine WO_val (ex_neg (by simp only [go_sem, ↓reduceIte, Nat.reduceEqDiff, t28]; rfl)) (by decide) ?_; (try rw [wrap_id (by omega) (by omega)]))
      | (refine WO_val (ex_len el39 (by simp only [go_sem, ↓reduceIte, Nat.reduceEqDiff, t28]; rfl)) (by decide) ?_))
      refine WO_nil ⟨L.length - (i + 1), hL, i + 1, rfl, hlt, gt t0, ?_, gt t26, gt t27, gs, u3, o3⟩
      simp only [go_sem, ↓reduceIte, Nat.reduceEqDiff]
      rw [hB, hT, if_pos rfl]
      congr 3; omega
    · subst hf
      refine W_region ?_
      repeat (first
      | (refine WO_val (by simp (disch := first | omega | simp) only [go_sem, ↓reduceIte, Nat.reduceEqDiff, Nat.reduceAdd, c3.row, t0, t3, t28]; rfl) (by decide) ?_)
      | (refine WO_val (ex_bin (by simp only [go_sem, ↓reduceIte, Nat.reduceEqDiff, t0, t3, t28]; rfl) (by simp only [go_sem, ↓reduceIte, Nat.reduceEqDiff, t0, t3, t28]; rfl) (by first | exact in_add | exact in_sub | exact in_mul | exact in_lss)) (by decide) ?_; (try rw [wrap_id (by omega) (by omega)]))
      | (refine WO_val (ex_max (by simp only [go_sem, ↓reduceIte, Nat.reduceEqDiff, t0, t3, t28]; rfl) (by simp only [go_sem, ↓reduceIte, Nat.reduceEqDiff, t0, t3, t28]; rfl)) (by decide) ?_)
      | (refine WO_val (ex_neg (by simp only [go_sem, ↓reduceIte, Nat.reduceEqDiff, t0, t3, t28]; rfl)) (by decide) ?_; (try rw [wrap_id (by omega) (by omega)]))
      | (refine WO_val (ex_len el39 (by simp only [go_sem, ↓reduceIte, Nat.reduceEqDiff, t0, t3, t28]; rfl)) (by decide) ?_))
      refine WO_nil ?_; (repeat refine W_seq ?_)
      refine W_region ?_
      repeat (first
      | (refine WO_val (by simp (disch := first | omega | simp) only [go_sem, ↓reduceIte, Nat.reduceEqDiff, Nat.reduceAdd, t28]; rfl) (by decide) ?_)
      | (refine WO_val (ex_bin (by simp only [go_sem, ↓reduceIte, Nat.reduceEqDiff, t28]; rfl) (by simp only [go_sem, ↓reduceIte, Nat.reduceEqDiff, t28]; rfl) (by first | exact in_add | exact in_sub | exact in_mul | exact in_lss)) (by decide) ?_; (try rw [wrap_id (by omega) (by omega)]))
      | (refine WO_val (ex_max (by simp only [go_sem, ↓reduceIte, Nat.reduceEqDiff, t28]; rfl) (by simp only [go_sem, ↓reduceIte, Nat.reduceEqDiff, t28]; rfl)) (by decide) ?_)
      | (refine WO_val (ex_neg (by simp only [go_sem, ↓reduceIte, Nat.reduceEqDiff, t28]; rfl)) (by decide) ?_; (try rw [wrap_id (by omega) (by omega)]))
      | (refine WO_val (ex_len el39 (by simp only [go_sem, ↓reduceIte, Nat.reduceEqDiff, t28]; rfl)) (by decide) ?_))
      refine WO_nil ⟨L.length - (i + 1), hL, i + 1, rfl, hlt, gt t0, ?_, gt t26, gt t27, gs, u3, o3⟩
      simp only [go_sem, ↓reduceIte, Nat.reduceEqDiff]
      rw [hB, hT, if_neg (by simp)]
      congr 3; omega
  · have hge : ¬ (i : Int) < (L.length : Int) := by simpa using hge
    have hi : i = L.length := by omega
    subst hi
    rw [List.take_length, List.take_of_length_le (by rw [k.ls]; exact Nat.le_refl _), List.take_of_length_le (by rw [k.lf]; exact Nat.le_refl _)] at t3 hb1
    refine ⟨fun _ => ?_, fun hne => absurd rfl hne⟩
    have cw := k1.w
    have hfr : freeN L gap room grows ss fx = if grows then max (N - taken L ss fx) 0 else max (-(N - taken L ss fx)) 0 := by unfold freeN; rw [hN]
    (repeat refine W_seq ?_); refine W_region ?_
    repeat (first
      | (refine WO_val (by simp (disch := first | omega | simp) only [go_sem, ↓reduceIte, Nat.reduceEqDiff, Nat.reduceAdd, cw.row, t0]; rfl) (by decide) ?_)
      | (refine WO_val (ex_bin (by simp only [go_sem, ↓reduceIte, Nat.reduceEqDiff, t0]; rfl) (by simp only [go_sem, ↓reduceIte, Nat.reduceEqDiff, t0]; rfl) (by first | exact in_add | exact in_sub | exact in_mul | exact in_lss)) (by decide) ?_; (try rw [wrap_id (by omega) (by omega)]))
      | (refine WO_val (ex_max (by simp only [go_sem, ↓reduceIte, Nat.reduceEqDiff, t0]; rfl) (by simp only [go_sem, ↓reduceIte, Nat.reduceEqDiff, t0]; rfl)) (by decide) ?_)
      | (refine WO_val (ex_neg (by simp only [go_sem, ↓reduceIte, Nat.reduceEqDiff, t0]; rfl)) (by decide) ?_; (try rw [wrap_id (by omega) (by omega)]))
      | (refine WO_val (ex_len el39 (by simp only [go_sem, ↓reduceIte, Nat.reduceEqDiff, t0]; rfl)) (by decide) ?_))
    refine WO_nil ?_; (repeat refine W_seq ?_)
    refine W_cond (ee) (fun hg => ?_) (fun hg => ?_)
    · subst hg
      repeat refine W_seq ?_
      (repeat refine W_seq ?_); refine W_region ?_
      repeat (first
      | (refine WO_val (by simp (disch := first | omega | simp) only [go_sem, ↓reduceIte, Nat.reduceEqDiff, Nat.reduceAdd, t3]; rfl) (by decide) ?_)
      | (refine WO_val (ex_bin (by simp only [go_sem, ↓reduceIte, Nat.reduceEqDiff, t3]; rfl) (by simp only [go_sem, ↓reduceIte, Nat.reduceEqDiff, t3]; rfl) (by first | exact in_add | exact in_sub | exact in_mul | exact in_lss)) (by decide) ?_; (try rw [wrap_id (by omega) (by omega)]))
      | (refine WO_val (ex_max (by simp only [go_sem, ↓reduceIte, Nat.reduceEqDiff, t3]; rfl) (by simp only [go_sem, ↓reduceIte, Nat.reduceEqDiff, t3]; rfl)) (by decide) ?_)
      | (refine WO_val (ex_neg (by simp only [go_sem, ↓reduceIte, Nat.reduceEqDiff, t3]; rfl)) (by decide) ?_; (try rw [wrap_id (by omega) (by omega)]))
      | (refine WO_val (ex_len el39 (by simp only [go_sem, ↓reduceIte, Nat.reduceEqDiff, t3]; rfl)) (by decide) ?_))
      refine WO_nil (W_ret ⟨.inr rfl, _, by (simp only [resultB, resB, parts, V.part, Sl.get_set', ↓reduceIte, Nat.reduceEqDiff] <;> rfl), ?_, u1, o1⟩)
      rw [hfr]; rfl
    · subst hg
      refine W_skip ?_
      repeat refine W_seq ?_
      (repeat refine W_seq ?_); refine W_region ?_
      repeat (first
      | (refine WO_val (by simp (disch := first | omega | simp) only [go_sem, ↓reduceIte, Nat.reduceEqDiff, Nat.reduceAdd, t3]; rfl) (by decide) ?_)
      | (refine WO_val (ex_bin (by simp only [go_sem, ↓reduceIte, Nat.reduceEqDiff, t3]; rfl) (by simp only [go_sem, ↓reduceIte, Nat.reduceEqDiff, t3]; rfl) (by first | exact in_add | exact in_sub | exact in_mul | exact in_lss)) (by decide) ?_; (try rw [wrap_id (by omega) (by omega)]))
      | (refine WO_val (ex_max (by simp only [go_sem, ↓reduceIte, Nat.reduceEqDiff, t3]; rfl) (by simp only [go_sem, ↓reduceIte, Nat.reduceEqDiff, t3]; rfl)) (by decide) ?_)
      | (refine WO_val (ex_neg (by simp only [go_sem, ↓reduceIte, Nat.reduceEqDiff, t3]; rfl)) (by decide) ?_; (try rw [wrap_id (by omega) (by omega)]))
      | (refine WO_val (ex_len el39 (by simp only [go_sem, ↓reduceIte, Nat.reduceEqDiff, t3]; rfl)) (by decide) ?_))
      refine WO_nil (W_ret ⟨.inr rfl, _, by (simp only [resultB, resB, parts, V.part, Sl.get_set', ↓reduceIte, Nat.reduceEqDiff] <;> rfl), ?_, u1, o1⟩)
      rw [hfr]; rfl
end Go.Ai
