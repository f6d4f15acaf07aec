/-
What the machine leaves as it is: blocks below the floor, hidden blocks.
-/
import Derived.Test.YtjjlmmebkemlgaaAiExec
set_option linter.unusedVariables false
set_option linter.unusedSimpArgs false
namespace Go.Ai
structure Low (h h' : H) : Prop where
  floor : h'.floor = h.floor
  hid : h'.hid = h.hid
  next : h.next ≤ h'.next
  tr : ∀ b, b < h.next → (b < h.floor ∨ hidden h.hid b = true ∨ hidden h.frz b = true) → h'.tr.get b = h.tr.get b
  top : ∀ b, h'.next ≤ b → h.tr.get b = none → h'.tr.get b = none
  frz : h'.frz = h.frz
  kn : h'.kn = h.kn
theorem Low.refl (h : H) : Low h h := ⟨rfl, rfl, Nat.le_refl _, fun _ _ _ => rfl, fun _ _ h => h, rfl, rfl⟩
theorem Low.trans {a b c : H} (h : Low a b) (k : Low b c) : Low a c :=
  ⟨k.floor.trans h.floor, k.hid.trans h.hid, Nat.le_trans h.next k.next, fun x hx hl => (k.tr x (Nat.lt_of_lt_of_le hx h.next) (by rw [h.floor, h.hid, h.frz]; exact hl)).trans (h.tr x hx hl), fun x hx hn => k.top x hx (h.top x (Nat.le_trans k.next hx) hn), k.frz.trans h.frz, k.kn.trans h.kn⟩
theorem Low.alloc (h : H) (o : O) : Low h (h.alloc o) :=
  ⟨rfl, rfl, Nat.le_succ _, fun b hb _ => by show (h.tr.set h.next o).get b = _; rw [T.get_set, if_neg (by omega)],
    fun b hb hn => by
      have hb' : h.next + 1 ≤ b := hb
      show (h.tr.set h.next o).get b = _
      rw [T.get_set, if_neg (by omega)]; exact hn, rfl, rfl⟩
theorem may_not {h : H} {b : Nat} (k : h.may b = true) : ¬ (b < h.floor ∨ hidden h.hid b = true ∨ hidden h.frz b = true) := by
  obtain ⟨⟨h1, h3⟩, h2⟩ := H.may_iff k
  rintro (q | q | q)
  · omega
  · rw [h2] at q; cases q
  · rw [h3] at q; cases q
theorem Low.put {h : H} {b : Nat} (o : O) {o0 : O} (hg : h.get b = some o0) (k : h.may b = true) : Low h (h.put b o) :=
  ⟨rfl, rfl, Nat.le_refl _, fun c _ hl => by
    have hne : c ≠ b := fun e => may_not k (by rw [e] at hl; exact hl)
    show (h.tr.set b o).get c = _
    rw [T.get_set, if_neg hne], fun c _ hn => by
    have hne : c ≠ b := fun e => by rw [e, (H.get_some hg).2] at hn; cases hn
    show (h.tr.set b o).get c = _
    rw [T.get_set, if_neg hne]; exact hn, rfl, rfl⟩
theorem Low.kill {h : H} {b : Nat} (k : h.may b = true) : Low h (h.kill b) :=
  ⟨rfl, rfl, Nat.le_refl _, fun c _ hl => by
    have hne : c ≠ b := fun e => may_not k (by rw [e] at hl; exact hl)
    show (h.tr.upd b none).get c = _
    rw [T.get_upd, if_neg hne], fun c _ hn => by
    show (h.tr.upd b none).get c = _
    rw [T.get_upd]
    by_cases e : c = b
    · rw [if_pos e]
    · rw [if_neg e]; exact hn, rfl, rfl⟩
def LowR (h : H) : R → Prop
  | .val _ h' => Low h h'
  | .enter _ _ h' => Low h h'
section
variable {P : Program} {h : H} {T0 : Sl}
theorem storeB_low {b o : Nat} {xs : List S} {h' : H} (hx : storeB h b o xs = some h') : Low h h' := by
  unfold storeB at hx
  split at hx
  · cases hx; exact .refl h
  · split at hx
    · rename_i e cs n hg
      cases hm : (h.may b && Nat.ble (o + xs.length) n) with
      | false => rw [hm] at hx; simp at hx
      | true =>
        rw [hm] at hx
        simp only [cond_true, T.setManyK_eq, H.putK_eq, Option.some.injEq] at hx
        subst hx
        simp only [Bool.and_eq_true] at hm
        exact .put _ hg hm.1
    · simp at hx
theorem growB_low {b o l elem : Nat} {xs old : List S} {r : R} {K : H → Nat → Option R} (hold : h.row b o l = some old) (hx : growB h b o l elem xs old K = some r) (hK : ∀ h' q, K h' q = some r → LowR h' r) : LowR h r := by
  obtain ⟨e, cs, m, cs', n', hg, he, hm, hn', hcs, hk⟩ := growB_form hold hx
  have h1 := hK _ _ hk
  have h2 : Low h ((h.kill b).alloc (.cells elem cs' n')) := (Low.kill hm).trans (.alloc _ _)
  cases r <;> exact h2.trans h1
theorem LowR.same {v : V} : LowR h (.val v h) := Low.refl h
theorem slR_low {h' : H} {b o len cap sz : Nat} {ex : Bool} {r : R} (hx : slR h' b o len cap sz ex = some r) : LowR h' r := by
  rw [slR_eq] at hx; cases hx; exact Low.refl h'
theorem LowR.trans {h' : H} {r : R} (k : Low h h') (l : LowR h' r) : LowR h r := by cases r <;> exact k.trans l
theorem appendTo_low {elem : TypeId} {i : TypeInfo} {xs : List S} {n : Nat} {s : Option V} {r : R} (hr : appendTo P h elem i xs n s = some r) : LowR h r := by
  unfold appendTo at hr
  simp only [Bool.cond_eq_ite] at hr
  split at hr
  · split at hr
    · cases hr; exact LowR.same
    · split at hr
      · rw [H.rowK_eq] at hr; exact LowR.trans (.alloc _ _) (slR_low hr)
      · simp at hr
  · split at hr
    · split at hr
      · split at hr
        · rename_i h' hst; exact LowR.trans (storeB_low hst) (slR_low hr)
        · simp at hr
      · split at hr
        · split at hr
          · rename_i old hold
            split at hr
            · rw [H.rowK_eq] at hr; exact LowR.trans (.alloc _ _) (slR_low hr)
            · exact growB_low hold hr fun h' q hq => slR_low hq
          · simp at hr
        · simp at hr
    · simp at hr
  · simp at hr
theorem pureOp_low {o : Oper} {r : R} (hr : pureOp P T0 h o = some r) : LowR h r := by
  unfold pureOp at hr
  simp only [Bool.cond_eq_ite] at hr
  split at hr
  · split at hr
    · split at hr
      · cases hr; exact LowR.same
      · simp at hr
    · simp at hr
  · simp at hr
theorem orPure_low {o : Oper} {q : Option R} {r : R} (hr : orPure P T0 h o q = some r) (hq : q = some r → LowR h r) : LowR h r := by
  unfold orPure at hr
  split at hr
  · exact hq (by rw [← hr])
  · split at hr
    · rename_i y hy
      cases hr; exact pureOp_low hy
    · split at hr
      · cases hr; exact LowR.same
      · cases hr
theorem sameR_low {op : BinOp} {b : Option Bool} {r : R} (hr : sameR h op b = some r) : LowR h r := by
  unfold sameR at hr
  repeat' split at hr
  all_goals first | (cases hr; exact LowR.same) | (simp at hr; done)
theorem boolR_low {b : Bool} {r : R} (hr : boolR h b = some r) : LowR h r := by rw [boolR_eq] at hr; cases hr; exact LowR.same
theorem numR_low {n : Int} {r : R} (hr : numR h n = some r) : LowR h r := by rw [numR_eq] at hr; cases hr; exact LowR.same
theorem doBin_low {op : BinOp} {t : TypeId} {x y : Option V} {r : R} (hr : doBin P h op t x y = some r) : LowR h r := by
  unfold doBin binOpS addrOp intOp at hr
  simp only [Bool.cond_eq_ite] at hr
  repeat' split at hr
  all_goals first | (simp at hr; done) | exact numR_low hr | exact boolR_low hr | exact sameR_low hr | (cases hr; exact LowR.same)
theorem doMinMax_low {mn : Bool} {xs : Option (List V)} {r : R} (hr : doMinMax mn h xs = some r) : LowR h r := by
  unfold doMinMax at hr
  simp only [Bool.cond_eq_ite] at hr
  repeat' split at hr
  all_goals first | (simp at hr; done) | (cases hr; exact LowR.same)
theorem doCopy_low {t : TypeId} {x y : Option V} {r : R} (hr : doCopy P h t x y = some r) : LowR h r := by
  unfold doCopy copyB at hr
  repeat' split at hr
  all_goals first | (simp at hr; done) | (rename_i hst; rw [forceN_eq] at hr; cases hr; exact storeB_low hst) | (cases hr; exact LowR.same)
theorem doBuiltin_low {o : Oper} {args : Array Operand} {ts : Array TypeId} {b : Builtin} {r : R} (hr : doBuiltin P T0 h o args ts b = some r) : LowR h r := by
  unfold doBuiltin at hr
  split at hr
  · unfold doLenOp at hr
    split at hr
    · refine orPure_low hr fun hq => ?_
      unfold doLen at hq
      repeat' split at hq
      all_goals first | (simp at hq; done) | (cases hq; exact LowR.same)
    · simp at hr
  · unfold doTwo at hr
    split at hr
    · unfold doAppend appendAt appendZ at hr
      simp only [Bool.cond_eq_ite] at hr
      repeat' split at hr
      all_goals first | (simp at hr; done) | exact appendTo_low hr
    · simp at hr
  · unfold doTwo at hr
    split at hr
    · exact doCopy_low hr
    · simp at hr
  · unfold doOne at hr
    split at hr
    · unfold doClear at hr
      simp only [Bool.cond_eq_ite] at hr
      repeat' split at hr
      all_goals first | (simp at hr; done) | (rename_i hst; cases hr; exact storeB_low hst) | (cases hr; exact LowR.same)
    · simp at hr
  · exact orPure_low hr doMinMax_low
  · exact orPure_low hr doMinMax_low
  · simp only [Bool.cond_eq_ite] at hr
    split at hr
    · exact orPure_low hr (fun e => by cases e)
    · simp at hr
theorem alloc1_low {e : TypeId} {v : V} {r : R} (hr : alloc1 h e v = some r) : LowR h r := by
  unfold alloc1 at hr
  rw [H.rowK_eq] at hr; cases hr; exact Low.alloc _ _
theorem execO_low {o : Oper} {r : R} (hr : execO P T0 h o = some r) : LowR h r := by
  unfold execO at hr
  split at hr
  all_goals first
    | (simp at hr; done)
    | exact pureOp_low hr
    | skip
  · unfold doMove at hr; split at hr <;> first | (simp at hr; done) | (cases hr; exact LowR.same)
  · unfold doMove at hr; split at hr <;> first | (simp at hr; done) | (cases hr; exact LowR.same)
  · unfold doPick doMove at hr
    repeat' split at hr
    all_goals first | (simp at hr; done) | (cases hr; exact LowR.same)
  · unfold doAlloc at hr
    simp only [Bool.cond_eq_ite] at hr
    repeat' split at hr
    all_goals first | (simp at hr; done) | exact alloc1_low hr
  · unfold doBox at hr
    split at hr <;> first | (simp at hr; done) | exact alloc1_low hr
  · unfold doBuild at hr
    repeat' split at hr
    all_goals first | (simp at hr; done) | (cases hr; exact LowR.same)
  · unfold doBuildSlice at hr
    simp only [Bool.cond_eq_ite] at hr
    repeat' split at hr
    all_goals first | (simp at hr; done) | (rw [H.rowK_eq] at hr; cases hr; exact Low.alloc _ _)
  · unfold doLoad at hr
    repeat' split at hr
    all_goals first | (simp at hr; done) | (cases hr; exact LowR.same)
  · unfold doStore at hr
    simp only [Bool.cond_eq_ite] at hr
    repeat' split at hr
    all_goals first | (simp at hr; done) | (rename_i hst; cases hr; exact storeB_low hst)
  · unfold doNilCheck at hr
    repeat' split at hr
    all_goals first | (simp at hr; done) | (cases hr; exact LowR.same)
  · unfold doFieldAddr at hr
    simp only [ptrR_eq] at hr
    repeat' split at hr
    all_goals first | (simp at hr; done) | (cases hr; exact LowR.same)
  · unfold doIndexW doIndexAddr at hr
    simp only [ptrR_eq, Bool.cond_eq_ite] at hr
    repeat' split at hr
    all_goals first | (simp at hr; done) | (cases hr; exact LowR.same)
  · refine orPure_low hr fun hq => ?_
    unfold doSlice at hq
    simp only [Bool.cond_eq_ite] at hq
    repeat' split at hq
    all_goals first | (simp at hq; done) | exact slR_low hq
  · unfold doField at hr
    repeat' split at hr
    all_goals first | (simp at hr; done) | (cases hr; exact LowR.same)
  · unfold doExtract at hr
    repeat' split at hr
    all_goals first | (simp at hr; done) | (cases hr; exact LowR.same)
  · unfold doMakeSlice at hr
    simp only [Bool.cond_eq_ite] at hr
    repeat' split at hr
    all_goals first | (simp at hr; done) | (rw [H.rowK_eq] at hr; cases hr; exact Low.alloc _ _)
  · unfold doMakeFunc at hr
    simp only [Bool.cond_eq_ite, forceN_eq, H.allocK_eq] at hr
    repeat' split at hr
    all_goals first | (simp at hr; done) | (cases hr; exact LowR.same) | (cases hr; exact Low.alloc _ _)
  · exact orPure_low hr doBin_low
  · refine orPure_low hr fun hq => ?_
    unfold doUn at hq
    split at hq <;> first | (simp at hq; done) | exact boolR_low hq
  · refine orPure_low hr fun hq => ?_
    unfold doConv strOf bytesR at hq
    simp only [Bool.cond_eq_ite, T.setManyK_eq, forceN_eq, H.allocK_eq] at hq
    repeat' split at hq
    all_goals first | (simp at hq; done) | exact numR_low hq | (cases hq; exact LowR.same) | (cases hq; exact Low.alloc _ _)
  · unfold doCallOp at hr
    split at hr
    · unfold doCall callR at hr
      simp only [Bool.cond_eq_ite] at hr
      repeat' split at hr
      all_goals first | (simp at hr; done) | (cases hr; exact Low.refl h)
    · exact doBuiltin_low hr
    · simp at hr
  · unfold doLookup lookB lookR at hr
    simp only [Bool.cond_eq_ite] at hr
    repeat' split at hr
    all_goals first | (simp at hr; done) | (cases hr; exact LowR.same)
  · unfold doMapUpdate at hr
    split at hr
    · split at hr
      · rename_i key elem es ht hg
        cases hk : (keyOk (keyB P key) _ && h.may _ && !V.isTup _) with
        | false => rw [hk] at hr; simp at hr
        | true =>
          rw [hk] at hr
          simp only [cond_true] at hr
          simp only [Bool.and_eq_true] at hk
          split at hr
          · rw [H.putK_eq] at hr; cases hr; exact Low.put _ hg hk.1.2
          · simp at hr
      · simp at hr
    · simp at hr
  · unfold doMakeMap at hr
    repeat' split at hr
    all_goals first | (simp at hr; done) | (rw [forceN_eq, H.allocK_eq] at hr; cases hr; exact Low.alloc _ _)
end
end Go.Ai
