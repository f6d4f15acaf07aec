/-
Operations, third part: literals, what is made, numbers, comparisons, calls.
-/
import Derived.Test.YtjjlmmebkemlgaaAiOps2
set_option linter.unusedVariables false
set_option linter.unusedSimpArgs false
namespace Go.Ai
section
variable {P : Program} {ι : Inj} {h : H} {w : World}

/-! ### Literals -/
theorem fold_set (off : Nat) : ∀ (vs : List Value) (i : Nat) (cs : Array Value), off + i + vs.length ≤ cs.size →
    ((vs.zipIdx i).foldl (fun cs (x : Value × Nat) => cs.setIfInBounds (off + x.2) x.1) cs).toList = cs.toList.take (off + i) ++ vs ++ cs.toList.drop (off + i + vs.length)
  | [], i, cs, _ => by simp
  | v :: vs, i, cs, hl => by
    simp only [List.length_cons] at hl
    simp only [List.zipIdx_cons, List.foldl_cons]
    rw [fold_set off vs (i + 1) _ (by simp; omega)]
    have hi : off + i < cs.toList.length := by simp; omega
    rw [Array.toList_setIfInBounds, show off + (i + 1) = off + i + 1 by omega, List.take_set, List.take_succ_eq_append_getElem hi, List.set_append_right _ _ (by simp; omega), List.drop_set_of_lt (by omega)]
    have : off + i - (cs.toList.take (off + i)).length = 0 := by simp; omega
    rw [this]
    simp [Nat.add_assoc, Nat.add_comm 1]
theorem fill_rel {place : Nat → Option (Nat × Nat)} {vs : List (Nat × V)} {us : List (Nat × Value)} (hv : All2 (fun (x : Nat × V) (y : Nat × Value) => x.1 = y.1 ∧ VR ι x.2 y.2) vs us) :
    ∀ {cells cells' : List S} {cs : Array Value}, All2 (SR ι) cells cs.toList → fillS place cells vs = some cells' → ∃ cs', Instr.fill place cs us = some cs' ∧ All2 (SR ι) cells' cs'.toList := by
  induction hv with
  | nil => intro cells cells' cs hc hf; simp [fillS] at hf; subst hf; exact ⟨cs, rfl, hc⟩
  | @cons x y l m hxy _ ih =>
    intro cells cells' cs hc hf
    obtain ⟨i, v⟩ := x
    obtain ⟨i', u⟩ := y
    obtain ⟨rfl, hr⟩ := hxy
    simp only [fillS] at hf
    cases hp : place i with
    | none => simp [hp] at hf
    | some os =>
      obtain ⟨off, size⟩ := os
      simp only [hp] at hf
      cases hg : (Nat.beq v.cells.length size && Nat.ble (off + v.cells.length) cells.length && !v.isTup) with
      | false => rw [hg] at hf; simp at hf
      | true =>
        rw [hg] at hf
        simp only [cond_true] at hf
        simp only [Bool.and_eq_true, Bool.not_eq_true'] at hg
        have h1 := Nat.eq_of_beq_eq_true hg.1.1
        have h2 := Nat.le_of_ble_eq_true hg.1.2
        have hcs := hr.cells hg.2
        have hl1 := hcs.length
        have hl2 := hc.length
        simp only [Array.length_toList] at hl1 hl2
        have hfold := fold_set off u.cells.toList 0 cs (by simp; omega)
        simp only [Nat.add_zero] at hfold
        have hnew : All2 (SR ι) (cells.take off ++ v.cells ++ cells.drop (off + v.cells.length)) (((u.cells.toList.zipIdx 0).foldl (fun cs (x : Value × Nat) => cs.setIfInBounds (off + x.2) x.1) cs)).toList := by
          rw [hfold, hl1]
          refine ((hc.take off).append hcs).append ?_
          have := hc.drop (off + u.cells.size)
          simpa using this
        obtain ⟨cs', e1, e2⟩ := ih hnew hf
        refine ⟨cs', ?_, e2⟩
        simp only [Instr.fill, hp]
        rw [if_neg (by simp; omega)]
        have : (Array.foldl (fun cs (x : Value × Nat) => cs.setIfInBounds (off + x.2) x.1) cs u.cells.zipIdx) = ((u.cells.toList.zipIdx 0).foldl (fun cs (x : Value × Nat) => cs.setIfInBounds (off + x.2) x.1) cs) := by
          rw [← Array.foldl_toList, Array.toList_zipIdx]
        rw [← this] at e1
        exact e1
theorem fillS_length {place : Nat → Option (Nat × Nat)} {vs : List (Nat × V)} : ∀ {cells cells' : List S}, fillS place cells vs = some cells' → cells'.length = cells.length := by
  induction vs with
  | nil => intro c c' hf; simp [fillS] at hf; subst hf; rfl
  | cons x l ih =>
    intro c c' hf
    obtain ⟨i, v⟩ := x
    simp only [fillS] at hf
    cases hp : place i with
    | none => simp [hp] at hf
    | some os =>
      obtain ⟨off, size⟩ := os
      simp only [hp] at hf
      cases hg : (Nat.beq v.cells.length size && Nat.ble (off + v.cells.length) c.length && !v.isTup) with
      | false => rw [hg] at hf; simp at hf
      | true =>
        rw [hg] at hf
        simp only [cond_true] at hf
        simp only [Bool.and_eq_true, Bool.not_eq_true'] at hg
        have h2 := Nat.le_of_ble_eq_true hg.1.2
        rw [ih hf]
        simp; omega
theorem evParts_rel {T0 : Sl} {a : Act} (k : TR ι T0 a.tmps) {xs : List (Nat × Operand)} {vs : List (Nat × V)} (hv : evParts T0 xs = some vs) :
    All2 (fun (x : Nat × V) (y : Nat × Value) => x.1 = y.1 ∧ VR ι x.2 y.2) vs (xs.map fun p => (p.1, a.eval p.2)) := by
  induction xs generalizing vs with
  | nil => simp [evParts] at hv; subst hv; exact .nil
  | cons x xs ih =>
    obtain ⟨i, x⟩ := x
    simp only [evParts] at hv
    cases h1 : ev T0 x with
    | none => simp [h1] at hv
    | some v =>
      cases h2 : evParts T0 xs with
      | none => simp [h1, h2] at hv
      | some r => simp [h1, h2] at hv; subst hv; exact .cons ⟨rfl, ev_rel k h1⟩ (ih h2)
theorem run_places {fs : List Field} {pl : List (Nat × Nat)} (hp : placesB P fs = some pl) (w : World) : (fs.mapM (m := Sem) fun f => do pure (f.offset, ← sizeOf f.type)).run P w = .ok pl w := by
  induction fs generalizing pl with
  | nil => simp [placesB] at hp; subst hp; rfl
  | cons f fs ih =>
    simp only [placesB] at hp
    cases h1 : sizeB P f.type with
    | none => simp [h1] at hp
    | some s =>
      cases h2 : placesB P fs with
      | none => simp [h1, h2] at hp
      | some r =>
        simp [h1, h2] at hp; subst hp
        rw [List.mapM_cons]
        simp only [Sem.run_bind, run_size h1, Result.andThen_ok, Sem.run_pure, ih h2]
theorem doBuild_sim (k : HR P ι h w) {T0 : Sl} {a : Act} (kt : TR ι T0 a.tmps) {t : TypeId} {ps : Array (Nat × Operand)} {r : R} (hx : doBuild P T0 h t ps = some r) :
    SimV P ι h w r (Instr.build t (ps.map fun p => (p.1, a.eval p.2))) := by
  unfold doBuild at hx
  split at hx
  · rename_i zero fields vs hz hu hv
    split at hx
    · rename_i pl hpl
      split at hx
      · rename_i cells hf
        cases hx
        obtain ⟨z, hz1, hz2⟩ := run_zero hz
        obtain ⟨cs, rfl, hc⟩ := hz2 ι
        obtain ⟨cs', e1, e2⟩ := fill_rel (evParts_rel kt hv) hc hf
        refine SimV.same k (v := .agg cells) (v' := .agg cs') ⟨cs', rfl, e2⟩ ?_
        have hm : (fields.mapM (m := Sem) fun f => do pure (f.offset, ← sizeOf f.type)).run P w = .ok pl.toArray w := by
          rw [Array.mapM_eq_mapM_toList, Sem.run_map, run_places hpl]
          rfl
        simp only [Instr.build, Sem.run_bind, hz1, Result.andThen_ok, run_und hu, hm]
        simp only [Value.cells, Array.toList_map, List.getElem?_toArray]
        rw [e1]; rfl
      · simp at hx
    · simp at hx
  · rename_i zero n elem vs hz hu hv
    split at hx
    · rename_i size hs
      split at hx
      · rename_i cells hf
        cases hx
        obtain ⟨z, hz1, hz2⟩ := run_zero hz
        obtain ⟨cs, rfl, hc⟩ := hz2 ι
        obtain ⟨cs', e1, e2⟩ := fill_rel (evParts_rel kt hv) hc hf
        refine SimV.same k (v := .agg cells) (v' := .agg cs') ⟨cs', rfl, e2⟩ ?_
        simp only [Instr.build, Sem.run_bind, hz1, Result.andThen_ok, run_und hu, run_size hs]
        simp only [Value.cells, Array.toList_map]
        rw [e1]; rfl
      · simp at hx
    · simp at hx
  · simp at hx
theorem repeatS_length (z : List S) (n : Nat) : (repeatS z n).length = n * z.length := by
  induction n with
  | zero => simp [repeatS]
  | succ n ih => simp only [repeatS, List.length_append, ih]; rw [Nat.succ_mul, Nat.add_comm]
theorem repeatS_get (z : List S) (hz : 0 < z.length) : ∀ (n i : Nat), i < n * z.length → (repeatS z n)[i]? = z[i % z.length]?
  | 0, i, hi => by simp at hi
  | n + 1, i, hi => by
    simp only [repeatS]
    rcases Nat.lt_or_ge i z.length with h1 | h1
    · rw [List.getElem?_append_left h1, Nat.mod_eq_of_lt h1]
    · rw [List.getElem?_append_right h1, repeatS_get z hz n (i - z.length) (by rw [Nat.succ_mul] at hi; omega)]
      congr 1
      rw [← Nat.mod_eq_sub_mod h1]
theorem madeZero {z : List S} {cs : Array Value} (hc : All2 (SR ι) z cs.toList) (hz : 0 < z.length) (n : Nat) : All2 (SR ι) (repeatS z n) ((Array.range (n * z.length)).map (cs[· % cs.size]!)).toList := by
  have hl : z.length = cs.size := by simpa using hc.length
  refine All2.of_get (by simp [repeatS_length]) fun i x hx => ?_
  have hi : i < n * z.length := by
    rcases Nat.lt_or_ge i (n * z.length) with h | h
    · exact h
    · rw [List.getElem?_eq_none (by rw [repeatS_length]; exact h)] at hx; cases hx
  rw [repeatS_get z hz n i hi] at hx
  obtain ⟨v, hv, hr⟩ := hc.get _ _ hx
  refine ⟨v, ?_, hr⟩
  have hm : i % cs.size < cs.size := Nat.mod_lt _ (by omega)
  simp only [Array.toList_map, Array.toList_range, List.getElem?_map, List.getElem?_range hi, Option.map_some]
  rw [hl] at hv
  have : cs[i % cs.size]? = some v := by simpa using hv
  rw [Array.getElem?_eq_getElem hm] at this
  rw [getElem!_pos cs _ hm]
  exact this
theorem doBuildSlice_sim (k : HR P ι h w) {T0 : Sl} {a : Act} (kt : TR ι T0 a.tmps) {t : TypeId} {len : Nat} {ps : Array (Nat × Operand)} {r : R} (hx : doBuildSlice P T0 h t len ps = some r) :
    SimV P ι h w r (Instr.buildSlice t len (ps.map fun p => (p.1, a.eval p.2))) := by
  unfold doBuildSlice at hx
  split at hx
  · rename_i elem vs hu hv
    split at hx
    · rename_i size z hs hz
      cases hg : (Nat.ble (len * size) 16777216 && Nat.beq z.cells.length size && Nat.blt 0 size) with
      | false => rw [hg] at hx; simp at hx
      | true =>
        rw [hg] at hx
        simp only [cond_true] at hx
        simp only [Bool.and_eq_true] at hg
        have h1 := Nat.le_of_ble_eq_true hg.1.1
        have h2 := Nat.eq_of_beq_eq_true hg.1.2
        have h3 : 0 < size := by simpa [Nat.blt_eq] using hg.2
        split at hx
        · rename_i cells hf
          rw [H.rowK_eq] at hx
          cases hx
          obtain ⟨zv, hz1, hz2⟩ := run_zero hz
          have hzc := (hz2 ι).cells (zeroB_isTup hz)
          subst h2
          have hl : z.cells.length = zv.cells.size := by simpa using hzc.length
          have hmade := madeZero hzc h3 len
          obtain ⟨cs', e1, e2⟩ := fill_rel (evParts_rel kt hv) hmade hf
          have hlen : cells.length = cs'.size := by simpa using e2.length
          refine ⟨_, _, rfl, _, .slice (some ⟨w.heap.size, 0, none⟩) len len, _, ?_, ?_, Step.row k cells cs' (all2_arr e2)⟩
          · have hps : (Array.map (fun p : Nat × Operand => (p.1, a.eval p.2)) ps).toList = List.map (fun p => (p.1, a.eval p.2)) ps.toList := by simp
            have hE : len * z.cells.length = 0 → ∀ f : Nat → Value, Array.map f (Array.range (len * z.cells.length)) = #[] := by intro h0 f; rw [h0]; simp
            simp only [Instr.buildSlice, Sem.run_bind, run_und hu, Result.andThen_ok, run_size hs]
            rw [if_neg (by omega)]
            simp only [Sem.run_ite, Sem.run_bind, Sem.run_pure, Result.andThen_ok, hps]
            by_cases h0 : len * z.cells.length = 0
            · rw [if_pos h0]
              rw [hE h0] at e1 ⊢
              rw [e1]
              simp [newRow]
            · rw [if_neg h0, hz1]
              simp only [Result.andThen_ok]
              rw [e1]
              simp [newRow]
          · refine ⟨Or.inl rfl, Nat.le_refl _, ⟨w.heap.size, 0, none⟩, len, rfl, by simp [Inj.add], rfl, .inl (by simp [Inj.add]), Nat.le_refl _, fun _ => rfl, ?_⟩
            simp only [Inj.add, if_true]
            have := fillS_length hf
            rw [repeatS_length] at this
            omega
        · simp at hx
    · simp at hx
  · simp at hx
end
end Go.Ai
