/- What a row reads as data is told by the print's kinds, with the reach: every slice's bytes are within it; floats and arrays, too. -/
import Derived.Test.YthacbaagffpkoaaWRead
import Derived.SizedLaws
import Derived.OpenShut
namespace Go.Proofs.Ythacbaagffpkoaa
open Go.ChangeShapes Go.WideShapes Go.Deep Go.Proofs.YthacbaagffpkoaaW.PrintWords

/-- As 'Told', where all that was read is within the reach. -/
def ToldZ {α : Type} (P : Program) (K : Kd α) (t : TypeId) (φ : α → Prop) : Prop :=
  ∀ (H : Type) (enc : TypeId × Value → H) (w : World) (base : Nat) (spare : Nat → Bool) (held : Bool) (fuel : Nat) (cs : List Value) (x : DataW H × List MemPlace),
    DataW.trod enc P w base spare held fuel t cs = some x → (∀ n ∈ x.1.weights P t, n ≤ reachBytes) → ∃ a, K.K w a cs ∧ φ a
def ToldFZ {α : Type} (P : Program) (K : Kd α) (fs : List Field) (off : Nat) (φ : α → Prop) : Prop :=
  ∀ (H : Type) (enc : TypeId × Value → H) (w : World) (base : Nat) (spare : Nat → Bool) (held : Bool) (n : Nat) (cs : List Value), cs.length = off + K.sz →
    (∀ (j : Nat) (f : Field), fs[j]? = some f → ∃ y, DataW.trod enc P w base spare held n f.type ((cs.drop f.offset).take (P.cellsOf f.type)) = some y ∧ ∀ n ∈ y.1.weights P f.type, n ≤ reachBytes) → ∃ a, K.K w a (cs.drop off) ∧ φ a
theorem toldz_of {α : Type} {P : Program} {K : Kd α} {t : TypeId} {φ : α → Prop} (h : Told P K t φ) : ToldZ P K t φ := fun H enc w base spare held fuel cs x hx _ => h H enc w base spare held fuel cs x hx

theorem weightsAll_mem {H : Type} {P : Program} {e : TypeId} : ∀ {l : List (DataW H)} {d : DataW H}, d ∈ l → ∀ n ∈ d.weights P e, n ∈ DataW.weightsAll P e l
  | x :: l, d, h, n, hn => by
    simp only [DataW.weightsAll, List.mem_append]
    rcases List.mem_cons.1 h with rfl | h
    · exact Or.inl hn
    · exact Or.inr (weightsAll_mem h n hn)

theorem told_float {P : Program} {t : TypeId} {k : FloatKind} {K : Kd Nat} (hK : ∀ w n cs, K.K w n cs ↔ cs = [Value.float k n]) (ht : P.underlying t = some (.float k)) : Told P K t (fun n => (Lit.float k n).wf = true) := by
  intro H enc w base spare held fuel cs x h
  cases fuel with
  | zero => simp [DataW.trod] at h
  | succ fuel =>
    unfold DataW.trod at h
    rw [ht] at h
    rcases cs with _ | ⟨v, _ | ⟨v2, cs⟩⟩
    · simp at h
    · cases v <;> simp at h
      obtain ⟨⟨rfl, hw⟩, _⟩ := h
      exact ⟨_, (hK _ _ _).2 rfl, hw⟩
    · cases v <;> simp at h

theorem toldz_slice {α : Type} {P : Program} {K : Kd α} {t e : TypeId} {φ : α → Prop} {b : Nat} (ht : P.underlying t = some (.slice e)) (hC : P.cellsOf e = K.sz) (hb' : P.bytesOf e = b) (h : ToldZ P K e φ) :
    ToldZ P (Kd.slice e K) t (fun xs => xs.length * b ≤ reachBytes ∧ xs.length ≤ maxLen ∧ ∀ x ∈ xs, φ x) := by
  intro H enc w base spare held fuel cs x hx hz
  rcases open_slice ht hx with ⟨rfl, _⟩ | ⟨a, len, cap, m, n, D, Pl, rfl, hb, hl, hm, hmm, hx2, hi⟩
  · exact ⟨[], ⟨none, 0, rfl, Nat.le_refl _, rfl, by simp, fun h0 => absurd h0 (by simp)⟩, by simp, by simp [maxLen], by simp⟩
  · have hlm : len ≤ m := by rw [hmm]; split <;> omega
    subst hx2
    have hw0 : (len + (m - len)) * P.bytesOf e ≤ reachBytes := hz _ (by simp [DataW.weights, ht])
    have hwi : ∀ i, i < len → ∀ q ∈ (D i).weights P e, q ≤ reachBytes := fun i hil q hq => hz q (by
      have := weightsAll_mem (P := P) (e := e) (l := (List.range len).map D) (d := D i) (List.mem_map.2 ⟨i, by simpa using hil, rfl⟩) q hq
      simp [DataW.weights, ht, this])
    have hex : ∀ i, i < len → ∃ y cs', w.cells? base (a.add (i * P.cellsOf e)) (P.cellsOf e) = some cs' ∧ K.K w y cs' ∧ φ y := by
      intro i hil
      obtain ⟨cs', hc, hd⟩ := hi i (by omega)
      obtain ⟨y, hk, hp⟩ := h H enc w base spare held n cs' _ hd (hwi i hil)
      exact ⟨y, cs', hc, hk, hp⟩
    have hall : ∀ m', m' ≤ len → ∃ ys : List α, ys.length = m' ∧ (∀ j p, ys[j]? = some p → ∃ cs', w.cells? base (a.add (j * P.cellsOf e)) (P.cellsOf e) = some cs' ∧ K.K w p cs' ∧ φ p) := by
      intro m'
      induction m' with
      | zero => exact fun _ => ⟨[], rfl, by simp⟩
      | succ m' ih =>
        intro hle
        obtain ⟨ys, hy, hys⟩ := ih (by omega)
        obtain ⟨y, cs', h1, h2, h3⟩ := hex m' (by omega)
        refine ⟨ys ++ [y], by simp [hy], ?_⟩
        intro j p hj
        by_cases hjl : j < ys.length
        · rw [List.getElem?_append_left hjl] at hj
          exact hys j p hj
        · rw [List.getElem?_append_right (by omega)] at hj
          have : j = m' := by
            have := (List.getElem?_eq_some_iff.1 hj).1
            simp at this
            omega
          subst this
          rw [hy, Nat.sub_self] at hj
          simp at hj
          subst hj
          exact ⟨cs', h1, h2, h3⟩
    obtain ⟨ys, hy, hys⟩ := hall len (Nat.le_refl _)
    have hm' : cap ≤ 9223372036854775807 := hm
    refine ⟨ys, ⟨some a, cap, by rw [hy], by omega, rfl, by omega, fun _ => ⟨a, rfl, ?_⟩⟩, ?_, by rw [hy]; unfold maxLen; omega, ?_⟩
    · intro j p hj
      obtain ⟨cs', h1, h2, _⟩ := hys j p hj
      obtain ⟨_, hcl, hat⟩ := World.cells?_some h1
      rw [hC] at hcl hat
      refine ⟨cs', hcl, h2, ?_⟩
      intro i u hu
      have hil : i < K.sz := by
        have := (List.getElem?_eq_some_iff.1 hu).1
        omega
      rw [← Go.Deep.add_add, hat i hil, hu]
    · rw [hy, ← hb']
      exact Nat.le_trans (Nat.mul_le_mul_right _ (by omega)) hw0
    · intro p hp
      obtain ⟨j, hj⟩ := List.getElem?_of_mem hp
      obtain ⟨_, _, _, h3⟩ := hys j p hj
      exact h3

theorem toldz_last {α : Type} {P : Program} {K : Kd α} {f : Field} {off : Nat} {φ : α → Prop} (ho : f.offset = off) (hs : P.cellsOf f.type = K.sz) (h : ToldZ P K f.type φ) : ToldFZ P K [f] off φ := by
  intro H enc w base spare held n cs hl hf
  obtain ⟨y, hy, hz⟩ := hf 0 f rfl
  rw [ho, hs, List.take_of_length_le (by simp; omega)] at hy
  exact h H enc w base spare held n _ _ hy hz

theorem toldz_cons {α β : Type} {P : Program} {K : Kd α} {K2 : Kd β} {f : Field} {fs : List Field} {off : Nat} {φ : α → Prop} {ψ : β → Prop} (ho : f.offset = off) (hs : P.cellsOf f.type = K.sz) (h : ToldZ P K f.type φ)
    (h2 : ToldFZ P K2 fs (off + K.sz) ψ) : ToldFZ P (Kd.pair K K2) (f :: fs) off (fun p => φ p.1 ∧ ψ p.2) := by
  intro H enc w base spare held n cs hl hf
  have hl' : cs.length = off + (K.sz + K2.sz) := hl
  obtain ⟨y, hy, hz⟩ := hf 0 f rfl
  rw [ho, hs] at hy
  obtain ⟨a, ha, hp⟩ := h H enc w base spare held n _ _ hy hz
  obtain ⟨b, hb, hq⟩ := h2 H enc w base spare held n cs (by omega) (fun j g hg => hf (j + 1) g (by simpa using hg))
  refine ⟨(a, b), ⟨_, _, ?_, ha, hb⟩, hp, hq⟩
  rw [← List.drop_drop, List.take_append_drop]

theorem toldz_struct {α β : Type} {P : Program} {K : Kd α} {t : TypeId} {fs : Array Field} {φ : α → Prop} {g : β → α} (mk : α → β) (hg : ∀ a, g (mk a) = a) (ht : P.underlying t = some (.struct fs)) (hC : P.cellsOf t = K.sz) (h : ToldFZ P K fs.toList 0 φ) :
    ToldZ P (Kd.iso K g) t (fun b => φ (g b)) := by
  intro H enc w base spare held fuel cs x hx hz
  obtain ⟨ys, n', hn', hy, hlen, hyl, hf⟩ := DataW.trod_struct ht hx
  have hlen' : cs.length = 0 + K.sz := by omega
  obtain ⟨a, ha, hp⟩ := h H enc w base spare held n' cs hlen' (fun j f hj => by
    have hj' : fs[j]? = some f := by simpa using hj
    have h1 := hf j f hj'
    have hjl : j < ys.length := by
      have := (Array.getElem?_eq_some_iff.1 hj').1
      omega
    refine ⟨ys[j], h1.trans (List.getElem?_eq_getElem hjl), fun q hq => hz q ?_⟩
    rw [hy]
    have hw := DataW.weights_mem_each (P := P) (ts := fs.toList.map (·.type)) (ds := ys.map (·.1)) (j := j) (t := f.type) (d := ys[j].1) (by simp [hj']) (by simp [hjl]) q hq
    simpa [DataW.weights, ht] using hw)
  rw [List.drop_zero] at ha
  exact ⟨mk a, by show K.K w (g (mk a)) cs; rw [hg]; exact ha, by show φ (g (mk a)); rw [hg]; exact hp⟩

/-- An array is told as a struct of so many fields. -/
theorem toldz_array {α β : Type} {P : Program} {K : Kd α} {t e : TypeId} {n : Nat} {fs : List Field} {φ : α → Prop} {g : β → α} (mk : α → β) (hg : ∀ a, g (mk a) = a) (ht : P.underlying t = some (.array n e)) (hC : P.cellsOf t = K.sz) (hn : fs.length = n) (hfs : ∀ (j : Nat) (f : Field), fs[j]? = some f → f.type = e ∧ f.offset = j * P.cellsOf e) (h : ToldFZ P K fs 0 φ) :
    ToldZ P (Kd.iso K g) t (fun b => φ (g b)) := by
  intro H enc w base spare held fuel cs x hx hz
  obtain ⟨ys, n', hn', hy, hlen, hyl, hf⟩ := DataW.trod_array ht hx
  have hlen' : cs.length = 0 + K.sz := by omega
  obtain ⟨a, ha, hp⟩ := h H enc w base spare held n' cs hlen' (fun j f hj => by
    obtain ⟨e1, e2⟩ := hfs j f hj
    have hjl : j < n := by
      have := (List.getElem?_eq_some_iff.1 hj).1
      omega
    have h1 := hf j hjl
    have hjy : j < ys.length := by omega
    rw [e1, e2]
    refine ⟨ys[j], h1.trans (List.getElem?_eq_getElem hjy), fun q hq => hz q ?_⟩
    rw [hy]
    have hw := weightsAll_mem (P := P) (e := e) (l := ys.map (·.1)) (d := ys[j].1) (List.mem_map.2 ⟨ys[j], List.getElem_mem hjy, rfl⟩) q hq
    simpa [DataW.weights, ht] using hw)
  rw [List.drop_zero] at ha
  exact ⟨mk a, by show K.K w (g (mk a)) cs; rw [hg]; exact ha, by show φ (g (mk a)); rw [hg]; exact hp⟩

/-- A slice that came in, as the printed walks want it. -/
theorem toldz_arg {α : Type} {P : Program} {K : Kd α} {t e : TypeId} {φ : List α → Prop} (hT : ToldZ P (Kd.slice e K) t φ) {H : Type} {enc : TypeId × Value → H} {w : World} {base : Nat} {spare : Nat → Bool} {held : Bool} {a : Option Addr} {len cap : Nat} {d : DataW H} {ps : List MemPlace}
    (h : DataW.Trod enc P w base spare held t (.slice a len cap) d ps) (hz : ∀ n ∈ d.weights P t, n ≤ reachBytes) : ∃ l : List α, l.length = len ∧ len ≤ cap ∧ K.C w a l.length l ∧ φ l := by
  obtain ⟨fuel, hf⟩ := h
  obtain ⟨l, ⟨A, c, he, hlc, hr⟩, hp⟩ := hT H enc w base spare held fuel _ _ hf hz
  have he' : Value.cells (.slice a len cap) = #[.slice a len cap] := by simp [Value.cells]
  rw [he'] at he
  simp at he
  obtain ⟨rfl, rfl, rfl⟩ := he
  exact ⟨l, rfl, hlc, hr, hp⟩
theorem weights_arg {H : Type} {P : Program} {ts : List TypeId} {ds : List (DataW H)} (h : (DataW.weightsEach P ts ds).all (· ≤ reachBytes) = true) (j : Nat) {t : TypeId} {d : DataW H} (ht : ts[j]? = some t) (hd : ds[j]? = some d) : ∀ n ∈ d.weights P t, n ≤ reachBytes := by
  intro n hn
  have := List.all_eq_true.1 h n (DataW.weights_mem_each ht hd n hn)
  simpa using this
end Go.Proofs.Ythacbaagffpkoaa
