/-
LayoutWraps, part 18 of 48: AiLs.
-/
import Derived.Test.YthacbaagffpkoaaLw17
set_option linter.unusedVariables false
set_option linter.unusedSimpArgs false
namespace Go.Ai
open Go.RowKit
section
variable {P : Program} {T : Sl} {h : H}
def appAt (P : Program) (t u : Nat) : Option (Nat × Nat × Nat) := match P.underlying t with
 | some (.slice elem) => match P.info? elem with
  | some i => match i.zero with
   | some z => cond (srcType P u && Nat.blt 0 i.size && Nat.beq z.cells.size i.size) (some (elem, i.size, i.bytes)) none
   | none => none
  | none => none
 | _ => none
theorem app_of {t u elem size bytes : Nat} (ha : appAt P t u = some (elem, size, bytes)) {s : Option V} {x : V} {n : Nat} {xs : List S} (hl : srcLen x = some n) (hs : srcB h size n x = some xs) (hx : xs.length = n * size) :
  0 < size ∧ ∃ i : TypeInfo, i.size = size ∧ i.bytes = bytes ∧ doAppend P h t u s (some x) = appendTo P h elem i xs n s := by
 unfold appAt at ha;split at ha
 ·rename_i el hu;split at ha
  ·rename_i i hi;split at ha
   ·rename_i z hz
    cases hg : (srcType P u && Nat.blt 0 i.size && Nat.beq z.cells.size i.size) with
    | false => rw [hg] at ha; cases ha
    | true =>
     rw [hg] at ha;cases ha;simp only [Bool.and_eq_true] at hg;refine ⟨by have := hg.1.2; rwa [Nat.blt_eq] at this, i, rfl, rfl, ?_⟩;unfold doAppend;simp only;rw [hu]; simp only;rw [hi]; simp only;rw [hg.1.1, cond_true];unfold appendAt;rw [hz, hl]; simp only;rw [hs]; simp only;rw [hg.1.2, hg.2, hx, beq_self]; rfl
   ·cases ha
  ·cases ha
 ·cases ha
theorem appendTo_nil {elem n : Nat} {i : TypeInfo} {xs : List S} (hn : 0 < n) (hb : n * i.bytes ≤ 1099511627776) (hb2 : n ≤ 1099511627776) : appendTo P h elem i xs n (some (.one .sl0)) = some (.val (.one (.sl h.next 0 n n i.size false)) (h.alloc (.cells elem (Go.Ai.T.setMany .e 0 xs) xs.length))) := by
 unfold appendTo;simp only;rw [beq_false (by omega), cond_false, show (Nat.ble (n * i.bytes) 1099511627776 && Nat.ble n 1099511627776) = true by rw [Nat.ble_eq_true_of_le hb, Nat.ble_eq_true_of_le hb2]; rfl, cond_true, H.rowK_eq, slR_eq]
theorem appendTo_own {elem b len n : Nat} {i : TypeInfo} {old xs : List S} (hc : Cells h b elem old) (hm : h.may b = true) (hl : old.length = len * i.size) (hn : 0 < n) (hb : (len + n) * i.bytes ≤ 1099511627776) (hb2 : len + n ≤ 1099511627776) :
  ∃ ob, appendTo P h elem i xs n (some (.one (.sl b 0 len len i.size false))) = some (.val (.one (.sl h.next 0 (len + n) (len + n) i.size false)) ((h.kill b).alloc ob)) ∧ ∀ (hh : hidden h.hid h.next = false), Cells ((h.kill b).alloc ob) h.next elem (old ++ xs) := by
 have hrow := hc.row (o := 0) (n := len * i.size) (by omega);rw [List.drop_zero, ← hl, List.take_length, hl] at hrow;obtain ⟨cs, h1, h2⟩ := hc;refine ⟨.cells elem (cs.setMany old.length xs) (old.length + xs.length), ?_, fun hh => ⟨cs.setMany old.length xs, ?_, fun j hj => ?_⟩⟩
 ·unfold appendTo;simp only
  rw [beq_self, cond_true, show Nat.ble (len + n) len = false by
   cases e : Nat.ble (len + n) len with
   | false => rfl
   | true => have := Nat.le_of_ble_eq_true e; omega, cond_false, show (Nat.ble ((len + n) * i.bytes) 1099511627776 && Nat.ble (len + n) 1099511627776) = true by rw [Nat.ble_eq_true_of_le hb, Nat.ble_eq_true_of_le hb2]; rfl, cond_true, hrow]
  simp only [cond_false];unfold growB;rw [h1];simp only;rw [hm, beq_self, Bool.and_self, cond_true, hl, beq_self, beq_self, Bool.and_self, cond_true, H.killK_eq, T.setManyK_eq, forceN_eq, forceN_eq, H.allocK_eq, slR_eq]; rfl
 ·rw [H.get_alloc (h.kill b) _ _ hh, if_pos (show h.next = (h.kill b).next from rfl)];rw [List.length_append]
 ·rw [T.get_setMany];simp only [List.length_append] at hj
  by_cases q : old.length ≤ j ∧ j < old.length + xs.length
  ·rw [if_pos q, List.getElem?_append_right q.1]
  ·rw [if_neg q, h2 j (by omega), List.getElem?_append_left (by omega)]
def S.blk : S → Option Nat
 | .sl q _ _ _ _ _ => some q
 | .p q _ => some q
 | _ => none
def Grown (h : H) (v : S) (n0 elem size : Nat) (xs : List S) : Prop := (xs = [] ∧ v = .sl0) ∨ ∃ q n, v = .sl q 0 n n size false ∧ 0 < n ∧ xs.length = n * size ∧ Cells h q elem xs ∧ h.may q = true ∧ n0 ≤ q ∧ q < h.next
theorem Grown.nil {n0 elem size : Nat} : Grown h .sl0 n0 elem size [] := .inl ⟨rfl, rfl⟩
theorem Grown.up {p : Nat → Prop} {h' : H} {v : S} {n0 elem size : Nat} {xs : List S} (k : Grown h v n0 elem size xs) (u : Up p h h') (hp : ∀ q, S.blk v = some q → p q) : Grown h' v n0 elem size xs := by
 rcases k with k | ⟨q, n, rfl, h1, h2, h3, h4, h5, h6⟩
 ·exact .inl k
 ·exact .inr ⟨q, n, rfl, h1, h2, u.cells (hp q rfl) h3, by rw [u.may]; exact h4, h5, Nat.lt_of_lt_of_le h6 u.next⟩
theorem Grown.lt {v : S} {n0 elem size : Nat} {xs : List S} (k : Grown h v n0 elem size xs) {q : Nat} (hq : S.blk v = some q) : n0 ≤ q ∧ q < h.next := by
 rcases k with ⟨_, rfl⟩ | ⟨q', n, rfl, h1, h2, h3, h4, h5, h6⟩
 ·cases hq
 ·cases hq; exact ⟨h5, h6⟩
theorem Grown.append {v : S} {n0 t u elem size bytes : Nat} {old : List S} (k : Grown h v n0 elem size old) (o : Ok h) (h0 : n0 ≤ h.next) (ha : appAt P t u = some (elem, size, bytes)) {x : V} {n : Nat} {xs : List S} (hl : srcLen x = some n) (hs : srcB h size n x = some xs) (hx : xs.length = n * size) (hn : 0 < n)
  {m : Nat} (hm : old.length = m * size) (hb : (m + n) * bytes ≤ 1099511627776) (hb2 : m + n ≤ 1099511627776) :
  ∃ v' h', doAppend P h t u (some (.one v)) (some x) = some (.val (.one v') h') ∧ Grown h' v' n0 elem size (old ++ xs) ∧ Up (fun b => b < h.next ∧ S.blk v ≠ some b) h h' ∧ Ok h' ∧ S.blk v' = some h.next ∧ h'.next = h.next + 1 := by
 obtain ⟨hsz, i, rfl, rfl, he⟩ := app_of (s := some (.one v)) ha hl hs hx;rcases k with ⟨rfl, rfl⟩ | ⟨q, m', rfl, h1, h2, h3, h4, h5, h6⟩
 ·have hm0 : m = 0 := by
   simp only [List.length_nil] at hm;rcases Nat.mul_eq_zero.1 hm.symm with e | e
   ·exact e
   ·omega
  subst hm0;have hu : Up (fun b => b < h.next ∧ S.blk .sl0 ≠ some b) h (h.alloc (.cells elem (Go.Ai.T.setMany .e 0 xs) xs.length)) := .alloc fun b hb => by omega
  refine ⟨_, _, he.trans (appendTo_nil hn (by simpa using hb) (by omega)), .inr ⟨h.next, n, rfl, hn, hx, Cells.of_alloc o.top, o.mayNew hu (Nat.le_refl _), h0, Nat.lt_succ_self _⟩, hu, hu.ok o, rfl, rfl⟩
 ·have hmm : m' = m := Nat.eq_of_mul_eq_mul_right hsz (h2.symm.trans hm);subst hmm;obtain ⟨ob, e1, e2⟩ := appendTo_own (P := P) (xs := xs) h3 h4 h2 hn hb hb2
  have hu : Up (fun b => b < h.next ∧ S.blk (.sl q 0 m' m' i.size false) ≠ some b) h ((h.kill q).alloc ob) := by
   refine Up.trans (b := h.kill q) (.kill fun hq => hq.2 rfl) (.alloc fun b hb => ?_);have : b < h.next := hb.1;show b ≠ h.next;omega
  refine ⟨_, _, he.trans e1, .inr ⟨h.next, m' + n, rfl, by omega, by rw [List.length_append, h2, hx, Nat.add_mul], e2 o.top, o.mayNew hu (Nat.le_refl _), h0, Nat.lt_succ_self _⟩, hu, hu.ok o, rfl, rfl⟩
def makeAt (P : Program) (t : Nat) : Option (Nat × Nat × Nat × List S) := match P.underlying t with
 | some (.slice elem) => match P.info? elem, zeroB P elem with
  | some i, some z => cond (Nat.beq z.cells.length i.size && Nat.blt 0 i.size) (some (elem, i.size, i.bytes, z.cells)) none
  | _, _ => none
 | _ => none
theorem mk_sl {t elem size bytes n : Nat} {zs : List S} (hm : makeAt P t = some (elem, size, bytes, zs)) {a : Int} (ha : a = (n : Int)) (hb : n * bytes ≤ 1099511627776) (hb2 : n ≤ 1099511627776) :
  zs.length = size ∧ 0 < size ∧ doMakeSlice P h t (some (.one (.i .i64 a))) (some (.one (.i .i64 a))) = some (.val (.one (.sl h.next 0 n n size true)) (h.alloc (.cells elem (Go.Ai.T.setMany .e 0 (repeatS zs n)) (repeatS zs n).length))) := by
 subst ha;unfold makeAt at hm;split at hm
 ·rename_i el hu;split at hm
  ·rename_i i z hi hz
   cases hg : (Nat.beq z.cells.length i.size && Nat.blt 0 i.size) with
   | false => rw [hg] at hm; cases hm
   | true =>
    rw [hg] at hm;cases hm;have hg' := hg;simp only [Bool.and_eq_true] at hg';have hsz : z.cells.length = i.size := Nat.eq_of_beq_eq_true hg'.1;refine ⟨hsz, by have := hg'.2; rwa [Nat.blt_eq] at this, ?_⟩
    show (match P.underlying t with
     | some (.slice elem) => match P.info? elem, zeroB P elem with
      | some i, some z => cond (Nat.ble n n && Nat.ble (n * i.bytes) 1099511627776 && Nat.ble n 1099511627776 && Nat.beq z.cells.length i.size && Nat.blt 0 i.size)
        (h.rowK elem (repeatS z.cells n) (n * i.size) fun h' q => some (R.val (.one (.sl q 0 n n i.size true)) h')) none
      | _, _ => none
     | _ => none) = _
    rw [hu]; simp only;rw [hi, hz]; simp only;rw [Nat.ble_eq_true_of_le (Nat.le_refl n), Nat.ble_eq_true_of_le hb, Nat.ble_eq_true_of_le hb2, hg'.1, hg'.2];simp only [Bool.and_self, cond_true];rw [H.rowK_eq, repeatS_length, hsz]
  ·cases hm
 ·cases hm
theorem bs_one {t elem : Nat} (ht : elemAt P t = some (elem, 1)) (hz : ∃ z, zeroB P elem = some (.one z)) {x : Operand} {v : S} (hx : ev T x = some (.one v)) :
  doBuildSlice P T h t 1 #[(0, x)] = some (.val (.one (.sl h.next 0 1 1 1 true)) (h.alloc (.cells elem (Go.Ai.T.setMany .e 0 [v]) [v].length))) := by
 obtain ⟨z, hz⟩ := hz;unfold elemAt at ht;split at ht
 ·rename_i e hu;split at ht
  ·rename_i n hs;cases ht;unfold doBuildSlice;have hp : evParts T [(0, x)] = some [(0, .one v)] := by simp only [evParts, hx]
   rw [hu];simp only [hp];rw [hs, hz];simp only
   show cond (Nat.ble (1 * 1) 16777216 && Nat.beq 1 1 && Nat.blt 0 1) (match some [v] with
    | some cells => h.rowK elem cells cells.length fun h' q => some (R.val (.one (.sl q 0 1 1 1 true)) h')
    | none => none) none = _
   simp only [show (Nat.ble (1 * 1) 16777216 && Nat.beq 1 1 && Nat.blt 0 1) = true from rfl, cond_true];rw [H.rowK_eq]
  ·cases ht
 ·cases ht
theorem bs_agg {t elem n : Nat} (ht : elemAt P t = some (elem, n)) {zs : List S} (hz : zeroB P elem = some (.agg zs)) (hn : zs.length = n) (h1 : 0 < n) (h2 : n ≤ 16777216) {x : Operand} {xs : List S} (hx : ev T x = some (.agg xs)) (hl : xs.length = n) :
  doBuildSlice P T h t 1 #[(0, x)] = some (.val (.one (.sl h.next 0 1 1 n true)) (h.alloc (.cells elem (Go.Ai.T.setMany .e 0 xs) xs.length))) := by
 unfold elemAt at ht;split at ht
 ·rename_i e hu;split at ht
  ·rename_i n' hs;cases ht;unfold doBuildSlice;have hp : evParts T [(0, x)] = some [(0, .agg xs)] := by simp only [evParts, hx]
   rw [hu];simp only [hp];rw [hs, hz];have hr : repeatS (V.agg zs).cells 1 = zs := by show zs ++ [] = zs; simp
   show cond (Nat.ble (1 * n) 16777216 && Nat.beq (V.agg zs).cells.length n && Nat.blt 0 n) (match fillS (fun i => some (i * n, n)) (repeatS (V.agg zs).cells 1) [(0, .agg xs)] with
    | some cells => h.rowK elem cells cells.length fun h' q => some (R.val (.one (.sl q 0 1 1 n true)) h')
    | none => none) none = _
   rw [Nat.one_mul, Nat.ble_eq_true_of_le h2, show (V.agg zs).cells.length = n from hn, beq_self, blt_true h1, hr]
   have hf : fillS (fun i => some (i * n, n)) zs [(0, .agg xs)] = some xs := by
    show cond (Nat.beq xs.length n && Nat.ble (0 * n + xs.length) zs.length && true) (some (zs.take (0 * n) ++ xs ++ zs.drop (0 * n + xs.length))) none = _;rw [hl, beq_self, Nat.zero_mul, Nat.zero_add, hn, Nat.ble_eq_true_of_le (Nat.le_refl n)];simp [hn]
   rw [hf];simp only [Bool.and_self, cond_true];rw [H.rowK_eq]
  ·cases ht
 ·cases ht
def placesOf (P : Program) (t : Nat) : Option (List (Nat × Nat)) := match P.underlying t with
 | some (.struct fields) => placesB P fields.toList
 | _ => none
theorem bd_of {t : TypeId} {pl : List (Nat × Nat)} {zs cells : List S} {q : Array (Nat × Operand)} {vs : List (Nat × V)} (hp : placesOf P t = some pl) (hz : zeroB P t = some (.agg zs)) (hv : evParts T q.toList = some vs) (hf : fillS (fun i => pl[i]?) zs vs = some cells) : doBuild P T h t q = some (.val (.agg cells) h) := by
 unfold placesOf at hp;split at hp
 ·rename_i fields hu;unfold doBuild;rw [hz, hu, hv];simp only;rw [hp];simp only;rw [hf]
 ·cases hp
theorem sl_to {t e n b len cap : Nat} {x k : Operand} {ex : Bool} {d : Option Tmp} {ty : TypeId} {ps : String} {af : Array Edge} {g : Option (Nat × Bool)} (ht : elemAt P t = some (e, n)) (hx : ev T x = some (.one (.sl b 0 len cap n ex))) {i : Int} (hk : ev T k = some (.one (.i .i64 i))) (h0 : 0 ≤ i) (h1 : i.toNat ≤ cap) :
  execO P T h ⟨d, .slice t x none (some k) none, ty, ps, af, g⟩ = some (.val (.one (.sl b 0 i.toNat cap n ex)) h) := by
 obtain ⟨j, rfl⟩ := Int.eq_ofNat_of_zero_le h0;show orPure P T h _ (doSlice P T h t none (some k) none (ev T x)) = _
 have : doSlice P T h t none (some k) none (ev T x) = some (.val (.one (.sl b 0 j cap n ex)) h) := by
  rw [hx];unfold elemAt at ht;split at ht
  ·rename_i el hu;split at ht
   ·rename_i n' hs;cases ht;unfold doSlice;simp only;rw [hu]; simp only;rw [hs]
    have hb : bound T (some k) len cap = some j := by
     unfold bound;simp only;have : evInt T k = some (j : Int) := by unfold evInt; rw [hk]
     rw [this];exact inRange_nat (by simp at h1; omega)
    have hm : bound T none cap cap = some cap := rfl;have hl : bound T none 0 j = some 0 := rfl;simp only [hm, hb, hl, Option.isNone_none, Option.isSome_some, Bool.or_true, Bool.true_and];rw [beq_self, cond_true, slR_eq];simp
   ·cases ht
  ·cases ht
 rw [this]; rfl
end
end Go.Ai
