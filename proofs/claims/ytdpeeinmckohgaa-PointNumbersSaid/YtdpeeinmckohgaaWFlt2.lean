/- Floats and complex numbers stored into memory. -/
import Derived.Test.YtdpeeinmckohgaaWFlt
namespace Go.Proofs.YtdpeeinmckohgaaW.PrintWords
open Go
variable (P : Program) (w : World) (a : Addr) (m : Mode)
theorem st_f64 (k : FloatKind) (b : Nat) : (store a (.float k b) m).run P w = stored P w a (.float k b) m := run_store P w a _ m rfl
theorem st_c128 (k : FloatKind) (x y : Nat) : (store a (.complex k x y) m).run P w = stored P w a (.complex k x y) m := run_store P w a _ m rfl
end Go.Proofs.YtdpeeinmckohgaaW.PrintWords
