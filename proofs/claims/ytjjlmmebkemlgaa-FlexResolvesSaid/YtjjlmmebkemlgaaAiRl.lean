/-
Operations that make blocks or write, as rules: a new heap, and what is known of it.
-/
import Derived.Test.YtjjlmmebkemlgaaAiLs
set_option linter.unusedVariables false
set_option linter.unusedSimpArgs false
namespace Go.Ai
open Go.RowKit
section
variable {P : Program} {spec : CallF} {nt : Nat} {T : Sl} {h : H} {K : Sl → H → Prop} {all l : List Oper} {ty : TypeId} {ps : String} {af : Array Edge} {d : Tmp}
/-- A new block, and what is known of the heap. -/
structure New (h h1 : H) (e : Nat) (xs : List S) : Prop where
  up : Up (· < h.next) h h1
  cells : Cells h1 h.next e xs
  next : h1.next = h.next + 1
  may : h1.may h.next = true
  ok : Ok h1
theorem New.of {e : Nat} {xs : List S} (o : Ok h) : New h (h.alloc (.cells e (Go.Ai.T.setMany .e 0 xs) xs.length)) e xs :=
  have u : Up (· < h.next) h (h.alloc (.cells e (Go.Ai.T.setMany .e 0 xs) xs.length)) := .alloc fun b hb => Nat.ne_of_lt hb
  ⟨u, Cells.of_alloc o.top, rfl, o.mayNew u (Nat.le_refl _), u.ok o⟩
/-- A block written. -/
structure Put (h h1 : H) (b e : Nat) (xs : List S) : Prop where
  up : Up (· ≠ b) h h1
  cells : Cells h1 b e xs
  next : h1.next = h.next
  may : h1.may b = true
  ok : Ok h → Ok h1
theorem Put.of {b e o : Nat} {xs ys : List S} (hc : Cells h b e xs) (hm : h.may b = true) (hl : o + ys.length ≤ xs.length) (hy : ys ≠ []) :
    ∃ h1, storeB h b o ys = some h1 ∧ Put h h1 b e (xs.take o ++ ys ++ xs.drop (o + ys.length)) := by
  obtain ⟨ob, e1, e2⟩ := storeB_of hc hm hl hy
  have u : Up (· ≠ b) h (h.put b ob) := .put fun q => q rfl
  exact ⟨_, e1, u, e2, rfl, by rw [u.may]; exact hm, u.ok⟩
theorem WO_boxA {e : TypeId} {x : Operand} {xs : List S} (hx : ev T x = some (.agg xs)) (o : Ok h) (hd : d < nt) (hk : ∀ h1, New h h1 e xs → WO P spec nt all l (T.set d (.one (.p h.next 0))) h1 K) : WO P spec nt all (⟨some d, .box e x, ty, ps, af, none⟩ :: l) T h K :=
  WO_val (by rw [ex_box, hx, box_agg]) hd (hk _ (.of o))
theorem WO_box1 {e : TypeId} {x : Operand} {y : S} (hx : ev T x = some (.one y)) (o : Ok h) (hd : d < nt) (hk : ∀ h1, New h h1 e [y] → WO P spec nt all l (T.set d (.one (.p h.next 0))) h1 K) : WO P spec nt all (⟨some d, .box e x, ty, ps, af, none⟩ :: l) T h K :=
  WO_val (by rw [ex_box, hx, box_one]) hd (hk _ (.of o))
theorem doAlloc_of {e : TypeId} {z : V} (hz : zeroB P e = some z) (ht : z.isTup = false) : doAlloc P h e = some (.val (.one (.p h.next 0)) (h.alloc (.cells e (Go.Ai.T.setMany .e 0 z.cells) z.cells.length))) := by
  unfold doAlloc alloc1
  rw [hz]
  simp only
  rw [ht, cond_false, H.rowK_eq]
theorem WO_alloc {e : TypeId} {z : V} (hz : zeroB P e = some z) (ht : z.isTup = false) (o : Ok h) (hd : d < nt) (hk : ∀ h1, New h h1 e z.cells → WO P spec nt all l (T.set d (.one (.p h.next 0))) h1 K) : WO P spec nt all (⟨some d, .alloc e, ty, ps, af, none⟩ :: l) T h K :=
  WO_val (by rw [ex_alloc]; exact doAlloc_of hz ht) hd (hk _ (.of o))
theorem WO_store1 {t b o e : Nat} {a x : Operand} {y : S} {xs : List S} (ha : ev T a = some (.one (.p b o))) (hx : ev T x = some (.one y)) (hk : sizeB P t = some 1) (hc : Cells h b e xs) (hm : h.may b = true) (hl : o + 1 ≤ xs.length)
    (hk : ∀ h1, Put h h1 b e (xs.take o ++ [y] ++ xs.drop (o + 1)) → WO P spec nt all l T h1 K) : WO P spec nt all (⟨none, .store t a x, ty, ps, af, none⟩ :: l) T h K := by
  obtain ⟨h1, e1, e2⟩ := Put.of (ys := [y]) hc hm hl (by simp)
  exact WO_eff (by rw [ex_store, ha, hx]; exact st_one (n := 1) ‹_› e1) (hk h1 e2)
theorem WO_storeA {t b o e n : Nat} {a x : Operand} {ys xs : List S} (ha : ev T a = some (.one (.p b o))) (hx : ev T x = some (.agg ys)) (hk : sizeB P t = some n) (hn : ys.length = n) (hy : ys ≠ []) (hc : Cells h b e xs) (hm : h.may b = true) (hl : o + ys.length ≤ xs.length)
    (hk : ∀ h1, Put h h1 b e (xs.take o ++ ys ++ xs.drop (o + ys.length)) → WO P spec nt all l T h1 K) : WO P spec nt all (⟨none, .store t a x, ty, ps, af, none⟩ :: l) T h K := by
  obtain ⟨h1, e1, e2⟩ := Put.of (ys := ys) hc hm hl hy
  exact WO_eff (by rw [ex_store, ha, hx]; exact st_agg ‹_› hn e1) (hk h1 e2)
/-- Built: a slice of one element. -/
theorem WO_bs1 {t : TypeId} {x : Operand} {e : Nat} (ht : elemAt P t = some (e, 1)) (hz : ∃ z, zeroB P e = some (.one z)) {v : S} (hx : ev T x = some (.one v)) (o : Ok h) (hd : d < nt)
    (hk : ∀ h1, New h h1 e [v] → WO P spec nt all l (T.set d (.one (.sl h.next 0 1 1 1 true))) h1 K) : WO P spec nt all (⟨some d, .buildSlice t 1 #[(0, x)], ty, ps, af, none⟩ :: l) T h K :=
  WO_val (by rw [ex_buildSlice]; exact bs_one ht hz hx) hd (hk _ (.of o))
/-- A list that grew. -/
structure Grew (h h1 : H) (v v1 : S) (n0 elem size : Nat) (xs : List S) : Prop where
  grown : Grown h1 v1 n0 elem size xs
  up : Up (fun b => b < h.next ∧ S.blk v ≠ some b) h h1
  ok : Ok h1
  blk : S.blk v1 = some h.next
  next : h1.next = h.next + 1
theorem Grew.below {h1 : H} {v v1 : S} {n0 elem size : Nat} {xs ys : List S} (g : Grew h h1 v v1 n0 elem size xs) (k : Grown h v n0 elem size ys) (h0 : n0 ≤ h.next) : Up (· < n0) h h1 :=
  g.up.mono fun b hb => ⟨Nat.lt_of_lt_of_le hb h0, fun e => by have := (k.lt e).1; omega⟩
theorem ex_append {s x : Operand} {t u : TypeId} {d : Option Tmp} {g : Option (Nat × Bool)} : execO P T h ⟨d, .call ⟨.builtin .append, #[s, x], #[t, u]⟩, ty, ps, af, g⟩ = doAppend P h t u (ev T s) (ev T x) := rfl
theorem WO_app {s x : Operand} {t u elem size bytes n0 : Nat} {v : S} {old xs : List S} {q m : Nat} (ha : appAt P t u = some (elem, size, bytes)) (hs : ev T s = some (.one v)) (hx : ev T x = some (.one (.sl q 0 1 1 size true))) (hq : Cells h q elem xs) (hl : xs.length = size) (k : Grown h v n0 elem size old) (o : Ok h) (h0 : n0 ≤ h.next) (hm : old.length = m * size) (hb : (m + 1) * bytes ≤ 1099511627776) (hb2 : m + 1 ≤ 1099511627776) (hd : d < nt)
    (hk : ∀ v1 h1, Grew h h1 v v1 n0 elem size (old ++ xs) → WO P spec nt all l (T.set d (.one v1)) h1 K) : WO P spec nt all (⟨some d, .call ⟨.builtin .append, #[s, x], #[t, u]⟩, ty, ps, af, none⟩ :: l) T h K := by
  have hr : srcB h size 1 (.one (.sl q 0 1 1 size true)) = some xs := by
    show cond (Nat.beq 1 0) (some []) (h.row q 0 (1 * size)) = _
    rw [Nat.one_mul, hq.row (by omega), List.drop_zero, ← hl, List.take_length]; rfl
  obtain ⟨v1, h1, e1, e2, e3, e4, e5, e6⟩ := k.append o h0 ha (x := .one (.sl q 0 1 1 size true)) rfl hr (by omega) (by omega) hm hb hb2
  exact WO_val (by rw [ex_append, hs, hx]; exact e1) hd (hk v1 h1 ⟨e2, e3, e4, e5, e6⟩)
end

/-! ### The same, in regions that draw -/
section
variable {P : Program} {spec : CallF} {nt : Nat} {T : Sl} {h : H} {K : Sl → H → Prop} {ops : Array Oper} {rg ld : List (Nat × Nat × Nat)} {ix : List (Nat × Nat × Bool)} {i m : Nat} {bar : Bool} {ty : TypeId} {ps : String} {af : Array Edge} {g : Option (Nat × Bool)} {d : Tmp}
theorem WI_val {op : Op} (ho : ops.toList[i]? = some ⟨some d, op, ty, ps, af, g⟩) (hw : wantB ops.toList T ⟨some d, op, ty, ps, af, g⟩ = some true) (hc : cls op = .quiet) {v : V} (hx : execO P T h.emptied ⟨some d, op, ty, ps, af, g⟩ = some (.val v h.emptied)) (hd : d < nt) (hk : WI P spec nt ops ix (T.set d v) h rg ld K) : WI P spec nt ops ((i, m, bar) :: ix) T h rg ld K :=
  WI_quiet ho hw hc hx rfl (putT_some hd) hk
theorem WI_notV {op : Op} (ho : ops.toList[i]? = some ⟨some d, op, ty, ps, af, g⟩) (hw : wantB ops.toList T ⟨some d, op, ty, ps, af, g⟩ = some false) (hd : d < nt) (hk : WI P spec nt ops ix (T.set d (.tup [])) h rg ld K) : WI P spec nt ops ((i, m, bar) :: ix) T h rg ld K :=
  WI_not ho hw (putT_some hd) hk
theorem WI_ld {t : TypeId} {a : Operand} (ho : ops.toList[i]? = some ⟨some d, .load t a, ty, ps, af, g⟩) (hw : wantB ops.toList T ⟨some d, .load t a, ty, ps, af, g⟩ = some true) {b o : Nat} (ha : ev T a = some (.one (.p b o))) {v : V} (hx : doLoad P h t (some (.one (.p b o))) = some (.val v h)) (hl : Off (unseen m rg) b) (hd : d < nt) (hk : WI P spec nt ops ix (T.set d v) h rg ((i, b, b + 1) :: ld) K) : WI P spec nt ops ((i, m, bar) :: ix) T h rg ld K :=
  WI_load ho hw ha hx hl (putT_some hd) hk
theorem WI_mk {t : TypeId} {x : Operand} (ho : ops.toList[i]? = some ⟨some d, .makeSlice t x x, ty, ps, af, none⟩) {n : Nat} (hx : ev T x = some (.one (.i .i64 (n : Int)))) {e size bytes : Nat} {zs : List S} (hm : makeAt P t = some (e, size, bytes, zs)) (hb : n * bytes ≤ 1099511627776) (hb2 : n ≤ 1099511627776) (o : Ok h) (hd : d < nt)
    (hk : ∀ h1, New h h1 e (repeatS zs n) → WI P spec nt ops ix (T.set d (.one (.sl h.next 0 n n size true))) h1 ((i, h.next, h.next + 1) :: rg) ld K) : WI P spec nt ops ((i, m, bar) :: ix) T h rg ld K := by
  have e1 := (mk_sl (P := P) (h := h.emptied) hm rfl hb hb2).2.2
  refine WI_alloc ho rfl rfl (x := .cells e (Go.Ai.T.setMany .e 0 (repeatS zs n)) (repeatS zs n).length) ?_ (putT_some hd) (hk _ (.of o))
  rw [ex_makeSlice, hx]
  exact e1
/-- Built: a slice of one element. -/
theorem WI_bs1 {t : TypeId} {x : Operand} (ho : ops.toList[i]? = some ⟨some d, .buildSlice t 1 #[(0, x)], ty, ps, af, none⟩) {e : Nat} (ht : elemAt P t = some (e, 1)) (hz : ∃ z, zeroB P e = some (.one z)) {v : S} (hx : ev T x = some (.one v)) (o : Ok h) (hd : d < nt)
    (hk : ∀ h1, New h h1 e [v] → WI P spec nt ops ix (T.set d (.one (.sl h.next 0 1 1 1 true))) h1 ((i, h.next, h.next + 1) :: rg) ld K) : WI P spec nt ops ((i, m, bar) :: ix) T h rg ld K := by
  refine WI_alloc ho rfl rfl (x := .cells e (Go.Ai.T.setMany .e 0 [v]) [v].length) ?_ (putT_some hd) (hk _ (.of o))
  rw [ex_buildSlice]
  exact bs_one ht hz hx
/-- A cell stored. -/
theorem WI_store1 {t b o e : Nat} {a x : Operand} {y : S} {xs : List S} (ho : ops.toList[i]? = some ⟨none, .store t a x, ty, ps, af, none⟩) (ha : ev T a = some (.one (.p b o))) (hx : ev T x = some (.one y)) (hk : sizeB P t = some 1) (hc : Cells h b e xs) (hm : h.may b = true) (hl : o + 1 ≤ xs.length)
    (h1 : Off (unseen m rg) b) (h2 : Off (cond bar (unseen m ld) []) b) (h3 : cond bar h.floor h.next ≤ b)
    (hk : ∀ h1, Put h h1 b e (xs.take o ++ [y] ++ xs.drop (o + 1)) → WI P spec nt ops ix T h1 ((i, h.next, h1.next) :: rg) ld K) : WI P spec nt ops ((i, m, bar) :: ix) T h rg ld K := by
  obtain ⟨ob, e1, e2⟩ := storeB_of (o := o) (ys := [y]) (hc.fenced (z := cond bar (unseen m ld) []) (f := cond bar h.floor h.next) h1) (fenced_may h1 h2 h3 hm) hl (by simp)
  refine WI_loud ho rfl rfl (WX_val (by rw [ex_store, ha, hx]; exact st_one (n := 1) ‹_› e1) ⟨T, putT_none, ?_⟩)
  have u : Up (· ≠ b) h (h.put b ob) := .put fun q => q rfl
  rw [back_put, back_fenced]
  refine hk _ ⟨u, ?_, rfl, by rw [u.may]; exact hm, u.ok⟩
  refine e2.get ?_
  obtain ⟨x0, hx0⟩ := hc.there
  obtain ⟨cs, hg, _⟩ := e2
  rw [H.get_put hx0, if_pos rfl, H.get_put (by rw [fenced_get h1]; exact hx0), if_pos rfl]
/-- Built: a slice of one element of some cells. -/
theorem WI_bsA {t : TypeId} {x : Operand} (ho : ops.toList[i]? = some ⟨some d, .buildSlice t 1 #[(0, x)], ty, ps, af, none⟩) {e n : Nat} (ht : elemAt P t = some (e, n)) {zs : List S} (hz : zeroB P e = some (.agg zs)) (hn : zs.length = n) (h1 : 0 < n) (h2 : n ≤ 16777216) {xs : List S} (hx : ev T x = some (.agg xs)) (hl : xs.length = n) (o : Ok h) (hd : d < nt)
    (hk : ∀ h1, New h h1 e xs → WI P spec nt ops ix (T.set d (.one (.sl h.next 0 1 1 n true))) h1 ((i, h.next, h.next + 1) :: rg) ld K) : WI P spec nt ops ((i, m, bar) :: ix) T h rg ld K := by
  refine WI_alloc ho rfl rfl (x := .cells e (Go.Ai.T.setMany .e 0 xs) xs.length) ?_ (putT_some hd) (hk _ (.of o))
  rw [ex_buildSlice]
  exact bs_agg ht hz hn h1 h2 hx hl
/-- Cells stored. -/
theorem WI_storeA {t b o e n : Nat} {a x : Operand} {ys xs : List S} (ho : ops.toList[i]? = some ⟨none, .store t a x, ty, ps, af, none⟩) (ha : ev T a = some (.one (.p b o))) (hx : ev T x = some (.agg ys)) (hk : sizeB P t = some n) (hn : ys.length = n) (hy : ys ≠ []) (hc : Cells h b e xs) (hm : h.may b = true) (hl : o + ys.length ≤ xs.length)
    (h1 : Off (unseen m rg) b) (h2 : Off (cond bar (unseen m ld) []) b) (h3 : cond bar h.floor h.next ≤ b)
    (hk : ∀ h1, Put h h1 b e (xs.take o ++ ys ++ xs.drop (o + ys.length)) → WI P spec nt ops ix T h1 ((i, h.next, h1.next) :: rg) ld K) : WI P spec nt ops ((i, m, bar) :: ix) T h rg ld K := by
  obtain ⟨ob, e1, e2⟩ := storeB_of (o := o) (ys := ys) (hc.fenced (z := cond bar (unseen m ld) []) (f := cond bar h.floor h.next) h1) (fenced_may h1 h2 h3 hm) hl hy
  refine WI_loud ho rfl rfl (WX_val (by rw [ex_store, ha, hx]; exact st_agg ‹_› hn e1) ⟨T, putT_none, ?_⟩)
  have u : Up (· ≠ b) h (h.put b ob) := .put fun q => q rfl
  rw [back_put, back_fenced]
  refine hk _ ⟨u, ?_, rfl, by rw [u.may]; exact hm, u.ok⟩
  refine e2.get ?_
  obtain ⟨x0, hx0⟩ := hc.there
  obtain ⟨cs, hg, _⟩ := e2
  rw [H.get_put hx0, if_pos rfl, H.get_put (by rw [fenced_get h1]; exact hx0), if_pos rfl]
/-- A call that may be guarded. -/
theorem WI_callG {c : Call} {f : FuncId} {args : List V} (ho : ops.toList[i]? = some ⟨some d, .call c, ty, ps, af, g⟩) (hw : wantB ops.toList T ⟨some d, .call c, ty, ps, af, g⟩ = some true) (hc : cls (.call c) = .loud) (hx : execO P T (h.fenced (unseen m rg) (cond bar (unseen m ld) []) (cond bar h.floor h.next)) ⟨some d, .call c, ty, ps, af, g⟩ = some (.enter f args (h.fenced (unseen m rg) (cond bar (unseen m ld) []) (cond bar h.floor h.next)))) (hd : d < nt)
    (hk : WF P spec f args (h.fenced (unseen m rg) (cond bar (unseen m ld) []) (cond bar h.floor h.next)) fun v h1 => WI P spec nt ops ix (T.set d v) (h.back h1) ((i, h.next, h1.next) :: rg) ld K) : WI P spec nt ops ((i, m, bar) :: ix) T h rg ld K :=
  WI_loud ho hw hc (WX_call hx (hk.mono fun v h1 q => ⟨_, putT_some hd, q⟩))
/-- A call. -/
theorem WI_call {c : Call} {f : FuncId} {args : List V} (ho : ops.toList[i]? = some ⟨some d, .call c, ty, ps, af, none⟩) (hc : cls (.call c) = .loud) (hx : execO P T (h.fenced (unseen m rg) (cond bar (unseen m ld) []) (cond bar h.floor h.next)) ⟨some d, .call c, ty, ps, af, none⟩ = some (.enter f args (h.fenced (unseen m rg) (cond bar (unseen m ld) []) (cond bar h.floor h.next)))) (hd : d < nt)
    (hk : WF P spec f args (h.fenced (unseen m rg) (cond bar (unseen m ld) []) (cond bar h.floor h.next)) fun v h1 => WI P spec nt ops ix (T.set d v) (h.back h1) ((i, h.next, h1.next) :: rg) ld K) : WI P spec nt ops ((i, m, bar) :: ix) T h rg ld K :=
  WI_loud ho rfl hc (WX_call hx (hk.mono fun v h1 q => ⟨_, putT_some hd, q⟩))
end
/-! Guards. -/
theorem wantB_none {all : List Oper} {T : Sl} {d : Option Tmp} {op : Op} {ty : TypeId} {ps : String} {af : Array Edge} : wantB all T ⟨d, op, ty, ps, af, none⟩ = some true := rfl
theorem wantB_true {all : List Oper} {T : Sl} {d : Option Tmp} {op : Op} {ty : TypeId} {ps : String} {af : Array Edge} {j : Nat} {want t : Bool} {o : Oper} {r : Tmp} (hg : all[j]? = some o) (hd : o.dst = some r) (ht : T.get r = some (.one (.b t))) (hb : (t == want) = true) : wantB all T ⟨d, op, ty, ps, af, some (j, want)⟩ = some true := by
  unfold wantB
  simp only [hg, hd, ht, hb]
theorem wantB_false {all : List Oper} {T : Sl} {d : Option Tmp} {op : Op} {ty : TypeId} {ps : String} {af : Array Edge} {j : Nat} {want t : Bool} {o : Oper} {r : Tmp} (hg : all[j]? = some o) (hd : o.dst = some r) (ht : T.get r = some (.one (.b t))) (hb : (t == want) = false) : wantB all T ⟨d, op, ty, ps, af, some (j, want)⟩ = some false := by
  unfold wantB
  simp only [hg, hd, ht, hb]
def V.isTup0 : V → Bool
  | .tup [] => true
  | _ => false
theorem wantB_tup {all : List Oper} {T : Sl} {d : Option Tmp} {op : Op} {ty : TypeId} {ps : String} {af : Array Edge} {j : Nat} {want : Bool} {o : Oper} {r : Tmp} {v : V} (hg : all[j]? = some o) (hd : o.dst = some r) (ht : T.get r = some v) (hv : v.isTup0 = true) : wantB all T ⟨d, op, ty, ps, af, some (j, want)⟩ = some false := by
  have : v = .tup [] := by
    unfold V.isTup0 at hv
    split at hv
    · rfl
    · cases hv
  subst this
  unfold wantB
  simp only [hg, hd, ht]
def V.no (want : Bool) : V → Bool
  | .tup [] => true
  | .one (.b t) => t != want
  | _ => false
theorem wantB_no {all : List Oper} {T : Sl} {d : Option Tmp} {op : Op} {ty : TypeId} {ps : String} {af : Array Edge} {j : Nat} {want : Bool} {o : Oper} {r : Tmp} {v : V} (hg : all[j]? = some o) (hd : o.dst = some r) (ht : T.get r = some v) (hv : v.no want = true) : wantB all T ⟨d, op, ty, ps, af, some (j, want)⟩ = some false := by
  unfold V.no at hv
  split at hv
  · exact wantB_tup hg hd ht rfl
  · rename_i t
    exact wantB_false hg hd ht (by cases t <;> cases want <;> first | rfl | cases hv)
  · cases hv
/-! Back from a call in a region that draws. -/
theorem Cells.back {h h2 : H} {q e : Nat} {xs : List S} (k : Cells h2 q e xs) (hh : hidden h.hid q = false) : Cells (h.back h2) q e xs := by
  obtain ⟨cs, h1, h3⟩ := k
  exact ⟨cs, H.get_of hh (H.get_some h1).2, h3⟩
theorem Grown.back {h h2 : H} {v : S} {n0 e s : Nat} {xs : List S} {p : Nat → Prop} {l z : List (Nat × Nat)} {f : Nat} (k : Grown h2 v n0 e s xs) (ok : Ok h) (hn : h.next ≤ n0) (u : Up p (h.fenced l z f) h2) : Grown (h.back h2) v n0 e s xs := by
  rcases k with k | ⟨q, n, rfl, h1, h2, h3, h4, h5, h6⟩
  · exact .inl k
  · exact .inr ⟨q, n, rfl, h1, h2, h3.back (ok.hid q (by omega)), ok.mayNew u.back (by omega), h5, h6⟩
theorem Ok.back {h h2 : H} {p : Nat → Prop} {l z : List (Nat × Nat)} {f : Nat} (ok : Ok h) (u : Up p (h.fenced l z f) h2) : Ok (h.back h2) := u.back.ok ok
theorem Grew.back {h h1 : H} {v v1 : S} {n0 e s : Nat} {xs : List S} {l z : List (Nat × Nat)} {f : Nat} (g : Grew (h.fenced l z f) h1 v v1 n0 e s xs) (ok : Ok h) : Grew h (h.back h1) v v1 n0 e s xs := by
  have u : Up (fun b => b < h.next ∧ S.blk v ≠ some b) h (h.back h1) := g.up.back
  refine ⟨?_, u, u.ok ok, g.blk, g.next⟩
  have hb := g.blk
  rcases g.grown with k | ⟨q, n, rfl, h1', h2, h3, h4, h5, h6⟩
  · exact .inl k
  · have hq : q = h.next := Option.some.inj hb
    subst hq
    exact .inr ⟨_, n, rfl, h1', h2, h3.back ok.top, ok.mayNew u (Nat.le_refl _), h5, h6⟩
theorem Grown.fenced {h : H} {v : S} {n0 e s : Nat} {xs : List S} {l z : List (Nat × Nat)} {f : Nat} (k : Grown h v n0 e s xs) (hv : ∀ b, S.blk v = some b → Off l b ∧ Off z b ∧ f ≤ b) : Grown (h.fenced l z f) v n0 e s xs := by
  rcases k with k | ⟨q, n, rfl, h1, h2, h3, h4, h5, h6⟩
  · exact .inl k
  · obtain ⟨q1, q2, q3⟩ := hv q rfl
    exact .inr ⟨q, n, rfl, h1, h2, h3.fenced q1, fenced_may q1 q2 q3 h4, h5, h6⟩
theorem WI_app {P : Program} {spec : CallF} {nt : Nat} {T : Sl} {h : H} {K : Sl → H → Prop} {ops : Array Oper} {rg ld : List (Nat × Nat × Nat)} {ix : List (Nat × Nat × Bool)} {i m : Nat} {bar : Bool} {ty : TypeId} {ps : String} {af : Array Edge} {d : Tmp}
    {s x : Operand} {t u elem size bytes n0 : Nat} {v : S} {old xs : List S} {q mm : Nat} (ho : ops.toList[i]? = some ⟨some d, .call ⟨.builtin .append, #[s, x], #[t, u]⟩, ty, ps, af, none⟩) (ha : appAt P t u = some (elem, size, bytes)) (hs : ev T s = some (.one v)) (hx : ev T x = some (.one (.sl q 0 1 1 size true))) (hq : Cells h q elem xs) (hqo : Off (unseen m rg) q) (hl : xs.length = size) (k : Grown h v n0 elem size old)
    (hv : ∀ b, S.blk v = some b → Off (unseen m rg) b ∧ Off (cond bar (unseen m ld) []) b ∧ cond bar h.floor h.next ≤ b) (o : Ok h) (okF : Ok (h.fenced (unseen m rg) (cond bar (unseen m ld) []) (cond bar h.floor h.next))) (h0 : n0 ≤ h.next) (hm : old.length = mm * size) (hb : (mm + 1) * bytes ≤ 1099511627776) (hb2 : mm + 1 ≤ 1099511627776) (hd : d < nt)
    (hk : ∀ v1 h1, Grew h h1 v v1 n0 elem size (old ++ xs) → WI P spec nt ops ix (T.set d (.one v1)) h1 ((i, h.next, h1.next) :: rg) ld K) : WI P spec nt ops ((i, m, bar) :: ix) T h rg ld K := by
  have hqf := hq.fenced (z := cond bar (unseen m ld) []) (f := cond bar h.floor h.next) hqo
  have hr : srcB (h.fenced (unseen m rg) (cond bar (unseen m ld) []) (cond bar h.floor h.next)) size 1 (.one (.sl q 0 1 1 size true)) = some xs := by
    show cond (Nat.beq 1 0) (some []) (H.row _ q 0 (1 * size)) = _
    rw [Nat.one_mul, hqf.row (by omega), List.drop_zero, ← hl, List.take_length]; rfl
  have hpos : 0 < size := (app_of (P := P) (s := some (.one v)) ha (x := .one (.sl q 0 1 1 size true)) rfl hr (by omega)).1
  obtain ⟨v1, h1, e1, e2, e3, e4, e5, e6⟩ := (k.fenced hv).append okF h0 ha (x := .one (.sl q 0 1 1 size true)) rfl hr (by omega) (by omega) hm hb hb2
  have g : Grew _ h1 v v1 n0 elem size (old ++ xs) := ⟨e2, e3, e4, e5, e6⟩
  exact WI_loud ho rfl rfl (WX_val (by rw [ex_append, hs, hx]; exact e1) ⟨_, putT_some hd, hk v1 _ (g.back o)⟩)
theorem doCall_fn {P : Program} {T : Sl} {h : H} {f : FuncId} {args : Array Operand} {vs : List V} (ha : evs T args.toList = some vs) (hn : ∀ x y, vs ≠ [.one (.s x), .one (.s y)]) {d : Option Tmp} {ty : TypeId} {ts : Array TypeId} {ps : String} {af : Array Edge} {g : Option (Nat × Bool)} : execO P T h ⟨d, .call ⟨.value (.func f), args, ts⟩, ty, ps, af, g⟩ = some (.enter f vs h) := by
  show (match ev T (.func f), evs T args.toList with
    | some (.one (.fn0 g)), some vs => callR P h g vs
    | some (.one (.fn g r)), some vs => match h.get r with
      | some (.ghost cs) => some (.enter g (vs ++ cs) h)
      | _ => none
    | _, _ => none) = _
  rw [ha]
  show callR P h f vs = _
  unfold callR
  split
  · rename_i x y; exact absurd rfl (hn x y)
  · rfl
theorem doCall_val {P : Program} {T : Sl} {h : H} {x : Operand} {f : FuncId} {args : Array Operand} {vs : List V} (hx : ev T x = some (.one (.fn0 f))) (ha : evs T args.toList = some vs) (hn : ∀ x y, vs ≠ [.one (.s x), .one (.s y)]) {d : Option Tmp} {ty : TypeId} {ts : Array TypeId} {ps : String} {af : Array Edge} {g : Option (Nat × Bool)} : execO P T h ⟨d, .call ⟨.value x, args, ts⟩, ty, ps, af, g⟩ = some (.enter f vs h) := by
  show (match ev T x, evs T args.toList with
    | some (.one (.fn0 g)), some vs => callR P h g vs
    | some (.one (.fn g r)), some vs => match h.get r with
      | some (.ghost cs) => some (.enter g (vs ++ cs) h)
      | _ => none
    | _, _ => none) = _
  rw [ha, hx]
  show callR P h f vs = _
  unfold callR
  split
  · rename_i x y; exact absurd rfl (hn x y)
  · rfl
theorem WO_fn {P : Program} {spec : CallF} {nt : Nat} {T : Sl} {h : H} {K : Sl → H → Prop} {all l : List Oper} {ty : TypeId} {ps : String} {af : Array Edge} {d : Tmp} {f : FuncId} {args : Array Operand} {vs : List V} {ts : Array TypeId} (ha : evs T args.toList = some vs) (hn : ∀ x y, vs ≠ [.one (.s x), .one (.s y)]) (hd : d < nt)
    (hk : WF P spec f vs h fun v h1 => WO P spec nt all l (T.set d v) h1 K) : WO P spec nt all (⟨some d, .call ⟨.value (.func f), args, ts⟩, ty, ps, af, none⟩ :: l) T h K :=
  WO_call (doCall_fn ha hn) (hk.mono fun v h1 q => ⟨_, putT_some hd, q⟩)
section
variable {P : Program} {spec : CallF} {nt : Nat}
/-- Again and again the same code: a number goes down. -/
theorem W_here {X : Code} {Q : Ex → Sl → H → Prop} (I : Nat → Sl → H → Prop) (hr : ∀ k T h, (∀ j, j < k → ∀ T h, I j T h → W P spec nt X T h Q) → I k T h → W P spec nt X T h Q) : ∀ k T h, I k T h → W P spec nt X T h Q := by
  intro k
  induction k using Nat.strongRecOn with
  | _ k ih => intro T h hi; exact hr k T h (fun j hj T h => ih j hj T h) hi
/-- Cut: ways meet again. -/
theorem W_join {a b : Code} {T : Sl} {h : H} {Q : Ex → Sl → H → Prop} (I : Sl → H → Prop) (h1 : W P spec nt a T h (fun e T1 h1 => e = .normal ∧ I T1 h1)) (h2 : ∀ T1 h1, I T1 h1 → W P spec nt b T1 h1 Q) : W P spec nt (.seq a b) T h Q :=
  W_seq (h1.mono fun e T1 h1 ⟨he, hi⟩ => by subst he; exact h2 T1 h1 hi)
theorem thenQ_goto {b : Code} {l : Nat} {T : Sl} {h : H} {Q : Ex → Sl → H → Prop} (hq : Q (.goto l) T h) : thenQ P spec nt b Q (.goto l) T h := hq
theorem blockQ_goto {i l : Nat} {T : Sl} {h : H} {Q : Ex → Sl → H → Prop} (hq : Q (.goto l) T h) : blockQ i Q (.goto l) T h := hq
theorem scope_jump {body rest : Code} {l : Nat} {T : Sl} {h : H} {Q : Ex → Sl → H → Prop} (hf : findLabel body l = some rest) (hw : W P spec nt rest T h (scopeQ P spec nt body Q)) : scopeQ P spec nt body Q (.goto l) T h := by
  show (match findLabel body l with
    | some rest => WS P spec nt body rest T h Q
    | none => Q (.goto l) T h)
  rw [hf]
  exact WS_of hw
theorem W_scoped {body : Code} {T : Sl} {h : H} {Q : Ex → Sl → H → Prop} (hw : W P spec nt body T h (scopeQ P spec nt body Q)) : W P spec nt (.scope body) T h Q := W_scope (WS_of hw)
end
theorem ofNil : V.ofVal (.slice none 0 0) = some (.one .sl0) := rfl
/-! Short forms: what is left out is found by the tactic that stands with it. -/
section
variable {P : Program} {spec : CallF} {nt : Nat} {T : Sl} {h : H} {K : Sl → H → Prop} {all l : List Oper} {ops : Array Oper} {rg ld : List (Nat × Nat × Nat)} {ix : List (Nat × Nat × Bool)} {i m : Nat} {bar : Bool} {op : Op} {ty : TypeId} {ps : String} {af : Array Edge} {g : Option (Nat × Bool)} {d : Tmp} {v : V}
theorem VO {h1 : H} (hk : WO P spec nt all l (T.set d v) h1 K) (hx : execO P T h ⟨some d, op, ty, ps, af, none⟩ = some (.val v h1) := by simp only [go_sem, ↓reduceIte, Nat.reduceEqDiff, Nat.reduceAdd]; rfl) (hd : d < nt := by decide) : WO P spec nt all (⟨some d, op, ty, ps, af, none⟩ :: l) T h K := WO_val hx hd hk
theorem VX {h1 : H} (hx : execO P T h ⟨some d, op, ty, ps, af, none⟩ = some (.val v h1)) (hk : WO P spec nt all l (T.set d v) h1 K) (hd : d < nt := by decide) : WO P spec nt all (⟨some d, op, ty, ps, af, none⟩ :: l) T h K := WO_val hx hd hk
theorem VN (hw : wantB all T ⟨some d, op, ty, ps, af, g⟩ = some false) (hk : WO P spec nt all l (T.set d (.tup [])) h K) (hd : d < nt := by decide) : WO P spec nt all (⟨some d, op, ty, ps, af, g⟩ :: l) T h K := WO_notG hw hd hk
theorem VG {h1 : H} (hw : wantB all T ⟨some d, op, ty, ps, af, g⟩ = some true) (hx : execO P T h ⟨some d, op, ty, ps, af, g⟩ = some (.val v h1)) (hk : WO P spec nt all l (T.set d v) h1 K) (hd : d < nt := by decide) : WO P spec nt all (⟨some d, op, ty, ps, af, g⟩ :: l) T h K := WO_valG hw hx hd hk
theorem IOp (ho : ops.toList[i]? = some ⟨some d, op, ty, ps, af, none⟩) (hk : WI P spec nt ops ix (T.set d v) h rg ld K) (hx : execO P T h.emptied ⟨some d, op, ty, ps, af, none⟩ = some (.val v h.emptied) := by simp only [go_sem, ↓reduceIte, Nat.reduceEqDiff, Nat.reduceAdd]; rfl) (hc : cls op = .quiet := by rfl) (hd : d < nt := by decide) : WI P spec nt ops ((i, m, bar) :: ix) T h rg ld K := WI_val ho wantB_none hc hx hd hk
theorem IX (ho : ops.toList[i]? = some ⟨some d, op, ty, ps, af, none⟩) (hx : execO P T h.emptied ⟨some d, op, ty, ps, af, none⟩ = some (.val v h.emptied)) (hk : WI P spec nt ops ix (T.set d v) h rg ld K) (hc : cls op = .quiet := by rfl) (hd : d < nt := by decide) : WI P spec nt ops ((i, m, bar) :: ix) T h rg ld K := WI_val ho wantB_none hc hx hd hk
theorem IG (ho : ops.toList[i]? = some ⟨some d, op, ty, ps, af, g⟩) (hw : wantB ops.toList T ⟨some d, op, ty, ps, af, g⟩ = some true) (hx : execO P T h.emptied ⟨some d, op, ty, ps, af, g⟩ = some (.val v h.emptied)) (hk : WI P spec nt ops ix (T.set d v) h rg ld K) (hc : cls op = .quiet := by rfl) (hd : d < nt := by decide) : WI P spec nt ops ((i, m, bar) :: ix) T h rg ld K := WI_val ho hw hc hx hd hk
theorem IN (ho : ops.toList[i]? = some ⟨some d, op, ty, ps, af, g⟩) (hw : wantB ops.toList T ⟨some d, op, ty, ps, af, g⟩ = some false) (hk : WI P spec nt ops ix (T.set d (.tup [])) h rg ld K) (hd : d < nt := by decide) : WI P spec nt ops ((i, m, bar) :: ix) T h rg ld K := WI_notV ho hw hd hk
theorem IL {t : TypeId} {a : Operand} (ho : ops.toList[i]? = some ⟨some d, .load t a, ty, ps, af, g⟩) (hw : wantB ops.toList T ⟨some d, .load t a, ty, ps, af, g⟩ = some true) {b o : Nat} (ha : ev T a = some (.one (.p b o))) (hx : doLoad P h t (some (.one (.p b o))) = some (.val v h)) (hk : WI P spec nt ops ix (T.set d v) h rg ((i, b, b + 1) :: ld) K) (hl : Off (unseen m rg) b := by (try simp only [cond_true, cond_false]); repeat (first | exact Off.nil | refine Off.seen rfl ?_ | refine Off.off (by omega) ?_)) (hd : d < nt := by decide) : WI P spec nt ops ((i, m, bar) :: ix) T h rg ld K := WI_ld ho hw ha hx hl hd hk
theorem gs {α : Type} {a b : α} (e : a = b := by simp only [go_sem, ↓reduceIte, Nat.reduceEqDiff] <;> first | rfl | simp) : a = b := e
theorem gt {T1 : Sl} {k : Nat} {r : Option V} (q : T.get k = r) (e : T1.get k = T.get k := by simp only [go_sem, ↓reduceIte, Nat.reduceEqDiff]) : T1.get k = r := e.trans q
theorem ee {α : Type} {a b : α} (e : a = b := by simp only [go_sem, ↓reduceIte, Nat.reduceEqDiff] <;> rfl) : a = b := e
end
end Go.Ai
