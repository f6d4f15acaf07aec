-- Written by wprint.py, a program of this session's, over the kit's print.
import Derived.Test.YtdilliddflnbnaaProg
import Derived.Below
import Derived.Deep.Draws
import Derived.Deep.AppendLies
import Derived.Maps.AppendAt
import Derived.OwnWalk
import Derived.Laws.BytesArg
import Derived.Laws.MakeOwn
import Derived.Laws.OwnMore
import Derived.Deep.OwnRows
import Derived.Tactics
import Derived.Lib.ConvBytes
import Derived.Laws.Slices
import Derived.WalkKit
import Derived.KernelRfl
import Derived.RowKit3
import Derived.Deep.LoopGhost
import Derived.Deep.QuietTactic
import Derived.BigQuiet
import Derived.WideLaws
import Derived.Deep.DeepCutAuto
import Derived.Deep.CutBlock
import Derived.Deep.RegionHeld3
import Derived.Laws.Rows
import Derived.Lib.AppendStr
import Derived.ArgAppend
import Derived.Laws.IdiomCopy
import Derived.OrdersHeld
import Derived.Laws.BitsLemmas
import Derived.RowKit
import Derived.Test.YtdilliddflnbnaaWWords
import Derived.Test.YtdilliddflnbnaaWLast
import Derived.Test.YtdilliddflnbnaaWTab
import Derived.Test.YtdilliddflnbnaaWFour
import Derived.Test.YtdilliddflnbnaaWQPut
import Derived.Test.YtdilliddflnbnaaWApart
import Derived.Test.YtdilliddflnbnaaWArr
import Derived.Test.YtdilliddflnbnaaWZeros
import Derived.Test.YtdilliddflnbnaaWFoot
import Derived.Test.YtdilliddflnbnaaWKept
import Derived.Test.YtdilliddflnbnaaWShare
import Derived.Test.YtdilliddflnbnaaWN
import Derived.Test.YtdilliddflnbnaaWFootNe
import Derived.Test.YtdilliddflnbnaaWAt
import Derived.Test.YtdilliddflnbnaaWEqStruct
import Derived.Test.YtdilliddflnbnaaWRepsOne
import Derived.Test.YtdilliddflnbnaaWInv
import Derived.Test.YtdilliddflnbnaaWInvWords
import Derived.Test.YtdilliddflnbnaaWGuard
import Derived.Test.YtdilliddflnbnaaWNEv
import Derived.Test.YtdilliddflnbnaaWMore
import Derived.Test.YtdilliddflnbnaaWGoto
namespace Go.Proofs.Ytdilliddflnbnaa.PB
open Go.RowKit Go.Proofs.YtdilliddflnbnaaW.PrintWords Go.Proofs.YtdilliddflnbnaaW.PrintLast Go.Proofs.YtdilliddflnbnaaW.PrintMore
attribute [local go_sem] max2_int min2_int max_two min_two max_three min_three max_four min_four   -- for this text's walks alone
set_option linter.unusedVariables false
set_option linter.unusedSimpArgs false



def errW : Option Int → Value
  | none => .nilIface
  | some c => .iface 0 (.int .i64 c)
theorem errW_none : errW none = .nilIface := rfl
theorem errW_some (c : Int) : errW (some c) = .iface 0 (.int .i64 c) := rfl

theorem info3 : (Try.prog.info? 3).map (fun i => (i.zero, i.size, i.bytes)) = some (some (.int .i64 0), 1, 8) := by kernel_rfl
-- the values' own types

end Go.Proofs.Ytdilliddflnbnaa.PB
