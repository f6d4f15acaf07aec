/- A number brought within bounds (arraslaw0.Within): from 0 below n. -/
import Derived.Test.YtdpeeinmckohgaaBasicsC
import Derived.Test.YtdpeeinmckohgaaPCx9
namespace Go.Proofs.Ytdpeeinmckohgaa.PC
open Go.RowKit Go.Proofs.YtdpeeinmckohgaaW.PrintWords Go.Proofs.YtdpeeinmckohgaaW.PrintLast Go.Proofs.YtdpeeinmckohgaaW.PrintMore

/-- What Within answers. -/
def wthn (a n : Int) : Int := (a % 18446744073709551616) % n
theorem wthn_bd (a n : Int) (h : 0 < n) (_h2 : n ≤ 9223372036854775807) : 0 ≤ wthn a n ∧ wthn a n < n := ⟨Int.emod_nonneg _ (by omega), Int.emod_lt_of_pos _ h⟩
theorem within_eq (a n : Int) (h : 0 < n) (h2 : n ≤ 9223372036854775807) : arraslaw0_Within.f a n = some (wthn a n) := by
  have e1 : IntKind.u64.wrap n = n := by
    have : IntKind.u64.wrap n = n % 18446744073709551616 := rfl
    rw [this]
    omega
  have e2 : IntKind.u64.wrap a = a % 18446744073709551616 := rfl
  have hb := wthn_bd a n h h2
  unfold arraslaw0_Within.f
  rw [e1, e2, if_neg (by omega), Int.tmod_eq_emod_of_nonneg (by omega)]
  show some (wrap64 (wthn a n)) = _
  rw [w64 (by omega) (by omega)]
end Go.Proofs.Ytdpeeinmckohgaa.PC
