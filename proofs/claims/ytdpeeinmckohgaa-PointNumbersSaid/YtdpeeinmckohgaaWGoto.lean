/- A scope in which the run jumps back to one label: wp_scope_jumps with a number that every pass lowers, in the form that the printed walks use. -/
import Derived.ScopeJumps
import Derived.WalkMore
import Derived.Deep.LoopGhost
import Derived.Test.YtdpeeinmckohgaaWWords
import Derived.Test.YtdpeeinmckohgaaWMore
namespace Go.Proofs.Ytdpeeinmckohgaa
open Go.Proofs.YtdpeeinmckohgaaW.PrintWords

theorem wp_scope_ghost_k {P : Program} {Q : Exit → Act → World → Prop} {a : Act} {w : World} {c rest : Code} (l : Nat) (I : Nat → Act → World → Prop) (hf : findLabel c l = some (Code.skip.seq rest))
    (first : ∀ K : Act → World → Prop, Aside0 (∀ n a w, I n a w → rest.wp P (Exit.jump l K Q) a w) → c.wp P (Exit.jump l K Q) a w)
    (round : ∀ n a w, I n a w → ∀ J : Nat → Act → World → Prop, (∀ k a' w', I k a' w' → J k a' w') → rest.wp P (Exit.jump l (Handed J n) Q) a w) : (Code.scope c).wp P Q a w := by
  have hs : ∀ {Q : Exit → Act → World → Prop} {a : Act} {w : World}, rest.wp P Q a w → (Code.skip.seq rest).wp P Q a w := fun h => wp_seq (wp_skip h)
  refine wp_scope_jumps l (fun a w => ∃ n, I n a w) (fun a w => leastOf (fun n => I n a w)) hf ?_ ?_
  · refine first _ ⟨fun n a w h => wp_mono (round n a w h I fun _ _ _ q => q) ?_⟩
    intro e a' w' hq
    cases e with
    | goto l' => obtain ⟨rfl, n', _, hI⟩ := hq; exact ⟨rfl, n', hI⟩
    | normal => exact hq
    | exit id => exact hq
    | ret => exact hq
    | panic ch => exact hq
    | outgrown => exact hq
  · intro a w hI
    refine hs (wp_mono (round _ a w (leastOf_spec hI).1 I fun _ _ _ q => q) ?_)
    intro e a' w' hq
    cases e with
    | goto l' =>
      obtain ⟨rfl, n', hlt, hI'⟩ := hq
      exact ⟨rfl, ⟨n', hI'⟩, Nat.lt_of_le_of_lt ((leastOf_spec ⟨n', hI'⟩).2 n' hI') hlt⟩
    | normal => exact hq
    | exit id => exact hq
    | ret => exact hq
    | panic ch => exact hq
    | outgrown => exact hq
/-- What is not below 0 is divided alike by Go and by Lean. -/
theorem tdiv_mx (x b : Int) : (Go.Proofs.YtdpeeinmckohgaaW.PrintWords.mx 0 x).tdiv b = Go.Proofs.YtdpeeinmckohgaaW.PrintWords.mx 0 x / b := Int.tdiv_eq_ediv_of_nonneg (by unfold Go.Proofs.YtdpeeinmckohgaaW.PrintWords.mx; split <;> omega)
end Go.Proofs.Ytdpeeinmckohgaa
