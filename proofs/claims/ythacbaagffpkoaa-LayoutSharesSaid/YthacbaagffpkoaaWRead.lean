/- What a row reads as data is told by the print's kinds: for whole numbers, bools, strings, slices and structs of these, nested as they come; the lengths are within an int, the numbers within their kinds. -/
import Derived.Deep.Slices
import Derived.Deep.Fields
import Derived.ChangeSame
import Derived.Test.YthacbaagffpkoaaWWords
namespace Go.Proofs.Ythacbaagffpkoaa
open Go.ChangeShapes Go.WideShapes Go.Deep Go.Proofs.YthacbaagffpkoaaW.PrintWords

/-- Whatever reads as data of type t is told by kind K, and meets φ. -/
def Told {α : Type} (P : Program) (K : Kd α) (t : TypeId) (φ : α → Prop) : Prop :=
  ∀ (H : Type) (enc : TypeId × Value → H) (w : World) (base : Nat) (spare : Nat → Bool) (held : Bool) (fuel : Nat) (cs : List Value) (x : DataW H × List MemPlace),
    DataW.trod enc P w base spare held fuel t cs = some x → ∃ a, K.K w a cs ∧ φ a
/-- The fields of a struct, from an offset on. -/
def ToldF {α : Type} (P : Program) (K : Kd α) (fs : List Field) (off : Nat) (φ : α → Prop) : Prop :=
  ∀ (H : Type) (enc : TypeId × Value → H) (w : World) (base : Nat) (spare : Nat → Bool) (held : Bool) (n : Nat) (cs : List Value), cs.length = off + K.sz →
    (∀ (j : Nat) (f : Field), fs[j]? = some f → ∃ y, DataW.trod enc P w base spare held n f.type ((cs.drop f.offset).take (P.cellsOf f.type)) = some y) → ∃ a, K.K w a (cs.drop off) ∧ φ a

theorem told_int {P : Program} {t : TypeId} {k : IntKind} (ht : P.underlying t = some (.int k)) : Told P (Kd.int k) t (fun n => (Lit.int k n).wf = true) := by
  intro H enc w base spare held fuel cs x h
  cases fuel with
  | zero => simp [DataW.trod] at h
  | succ fuel =>
    unfold DataW.trod at h
    rw [ht] at h
    rcases cs with _ | ⟨v, _ | ⟨v2, cs⟩⟩
    · simp at h
    · cases v <;> simp at h
      obtain ⟨⟨rfl, hw⟩, _⟩ := h
      exact ⟨_, rfl, hw⟩
    · cases v <;> simp at h

theorem told_bool {P : Program} {t : TypeId} (ht : P.underlying t = some .bool) : Told P Kd.bool t (fun _ => True) := by
  intro H enc w base spare held fuel cs x h
  cases fuel with
  | zero => simp [DataW.trod] at h
  | succ fuel =>
    unfold DataW.trod at h
    rw [ht] at h
    rcases cs with _ | ⟨v, _ | ⟨v2, cs⟩⟩
    · simp at h
    · cases v <;> simp at h
      exact ⟨_, rfl, trivial⟩
    · cases v <;> simp at h

theorem told_string {P : Program} {t : TypeId} (ht : P.underlying t = some .string) : Told P Kd.string t (fun s => s.size ≤ maxLen) := by
  intro H enc w base spare held fuel cs x h
  cases fuel with
  | zero => simp [DataW.trod] at h
  | succ fuel =>
    unfold DataW.trod at h
    rw [ht] at h
    rcases cs with _ | ⟨v, _ | ⟨v2, cs⟩⟩
    · simp at h
    · cases v <;> simp at h
      exact ⟨_, rfl, h.1⟩
    · cases v <;> simp at h

theorem told_slice {α : Type} {P : Program} {K : Kd α} {t e : TypeId} {φ : α → Prop} (ht : P.underlying t = some (.slice e)) (hC : P.cellsOf e = K.sz) (h : Told P K e φ) :
    Told P (Kd.slice e K) t (fun xs => xs.length ≤ maxLen ∧ ∀ x ∈ xs, φ x) := by
  intro H enc w base spare held fuel cs x hx
  rcases open_slice ht hx with ⟨rfl, _⟩ | ⟨a, len, cap, m, n, D, Pl, rfl, hb, hl, hm, hmm, hx2, hi⟩
  · exact ⟨[], ⟨none, 0, rfl, Nat.le_refl _, rfl, by simp, fun h0 => absurd h0 (by simp)⟩, by simp [maxLen], by simp⟩
  · have hlm : len ≤ m := by rw [hmm]; split <;> omega
    have hex : ∀ i, i < len → ∃ y cs', w.cells? base (a.add (i * P.cellsOf e)) (P.cellsOf e) = some cs' ∧ K.K w y cs' ∧ φ y := by
      intro i hil
      obtain ⟨cs', hc, hd⟩ := hi i (by omega)
      obtain ⟨y, hk, hp⟩ := h H enc w base spare held n cs' _ hd
      exact ⟨y, cs', hc, hk, hp⟩
    have hall : ∀ m', m' ≤ len → ∃ ys : List α, ys.length = m' ∧ (∀ j p, ys[j]? = some p → ∃ cs', w.cells? base (a.add (j * P.cellsOf e)) (P.cellsOf e) = some cs' ∧ K.K w p cs' ∧ φ p) := by
      intro m'
      induction m' with
      | zero => exact fun _ => ⟨[], rfl, by simp⟩
      | succ m' ih =>
        intro hle
        obtain ⟨ys, hy, hys⟩ := ih (by omega)
        obtain ⟨y, cs', h1, h2, h3⟩ := hex m' (by omega)
        refine ⟨ys ++ [y], by simp [hy], ?_⟩
        intro j p hj
        by_cases hjl : j < ys.length
        · rw [List.getElem?_append_left hjl] at hj
          exact hys j p hj
        · rw [List.getElem?_append_right (by omega)] at hj
          have : j = m' := by
            have := (List.getElem?_eq_some_iff.1 hj).1
            simp at this
            omega
          subst this
          rw [hy, Nat.sub_self] at hj
          simp at hj
          subst hj
          exact ⟨cs', h1, h2, h3⟩
    obtain ⟨ys, hy, hys⟩ := hall len (Nat.le_refl _)
    have hm' : cap ≤ 9223372036854775807 := hm
    refine ⟨ys, ⟨some a, cap, by rw [hy], by omega, rfl, by omega, fun _ => ⟨a, rfl, ?_⟩⟩, by rw [hy]; unfold maxLen; omega, ?_⟩
    · intro j p hj
      obtain ⟨cs', h1, h2, _⟩ := hys j p hj
      obtain ⟨_, hcl, hat⟩ := World.cells?_some h1
      rw [hC] at hcl hat
      refine ⟨cs', hcl, h2, ?_⟩
      intro i u hu
      have hil : i < K.sz := by
        have := (List.getElem?_eq_some_iff.1 hu).1
        omega
      rw [← Go.Deep.add_add, hat i hil, hu]
    · intro p hp
      obtain ⟨j, hj⟩ := List.getElem?_of_mem hp
      obtain ⟨_, _, _, h3⟩ := hys j p hj
      exact h3

theorem told_last {α : Type} {P : Program} {K : Kd α} {f : Field} {off : Nat} {φ : α → Prop} (ho : f.offset = off) (hs : P.cellsOf f.type = K.sz) (h : Told P K f.type φ) : ToldF P K [f] off φ := by
  intro H enc w base spare held n cs hl hf
  obtain ⟨y, hy⟩ := hf 0 f rfl
  rw [ho, hs, List.take_of_length_le (by simp; omega)] at hy
  exact h H enc w base spare held n _ _ hy

theorem told_cons {α β : Type} {P : Program} {K : Kd α} {K2 : Kd β} {f : Field} {fs : List Field} {off : Nat} {φ : α → Prop} {ψ : β → Prop} (ho : f.offset = off) (hs : P.cellsOf f.type = K.sz) (h : Told P K f.type φ)
    (h2 : ToldF P K2 fs (off + K.sz) ψ) : ToldF P (Kd.pair K K2) (f :: fs) off (fun p => φ p.1 ∧ ψ p.2) := by
  intro H enc w base spare held n cs hl hf
  have hl' : cs.length = off + (K.sz + K2.sz) := hl
  obtain ⟨y, hy⟩ := hf 0 f rfl
  rw [ho, hs] at hy
  obtain ⟨a, ha, hp⟩ := h H enc w base spare held n _ _ hy
  obtain ⟨b, hb, hq⟩ := h2 H enc w base spare held n cs (by omega) (fun j g hg => hf (j + 1) g (by simpa using hg))
  refine ⟨(a, b), ⟨_, _, ?_, ha, hb⟩, hp, hq⟩
  rw [← List.drop_drop, List.take_append_drop]

theorem told_struct {α β : Type} {P : Program} {K : Kd α} {t : TypeId} {fs : Array Field} {φ : α → Prop} {g : β → α} (mk : α → β) (hg : ∀ a, g (mk a) = a) (ht : P.underlying t = some (.struct fs)) (hC : P.cellsOf t = K.sz) (h : ToldF P K fs.toList 0 φ) :
    Told P (Kd.iso K g) t (fun b => φ (g b)) := by
  intro H enc w base spare held fuel cs x hx
  obtain ⟨ys, n', hn', hy, hlen, hyl, hf⟩ := DataW.trod_struct ht hx
  have hlen' : cs.length = 0 + K.sz := by omega
  obtain ⟨a, ha, hp⟩ := h H enc w base spare held n' cs hlen' (fun j f hj => by
    have hj' : fs[j]? = some f := by simpa using hj
    have h1 := hf j f hj'
    have hjl : j < ys.length := by
      have := (Array.getElem?_eq_some_iff.1 hj').1
      omega
    exact ⟨ys[j], h1.trans (List.getElem?_eq_getElem hjl)⟩)
  rw [List.drop_zero] at ha
  exact ⟨mk a, by show K.K w (g (mk a)) cs; rw [hg]; exact ha, by show φ (g (mk a)); rw [hg]; exact hp⟩

/-- A slice that came in, as the printed walks want it. -/
theorem told_arg {α : Type} {P : Program} {K : Kd α} {t e : TypeId} {φ : List α → Prop} (hT : Told P (Kd.slice e K) t φ) {H : Type} {enc : TypeId × Value → H} {w : World} {base : Nat} {spare : Nat → Bool} {held : Bool} {a : Option Addr} {len cap : Nat} {d : DataW H} {ps : List MemPlace}
    (h : DataW.Trod enc P w base spare held t (.slice a len cap) d ps) : ∃ l : List α, l.length = len ∧ len ≤ cap ∧ K.C w a l.length l ∧ φ l := by
  obtain ⟨fuel, hf⟩ := h
  obtain ⟨l, ⟨A, c, he, hlc, hr⟩, hp⟩ := hT H enc w base spare held fuel _ _ hf
  have he' : Value.cells (.slice a len cap) = #[.slice a len cap] := by simp [Value.cells]
  rw [he'] at he
  simp at he
  obtain ⟨rfl, rfl, rfl⟩ := he
  exact ⟨l, rfl, hlc, hr, hp⟩
end Go.Proofs.Ythacbaagffpkoaa
