/-
  No cell of these rows narrows 'for every input' (looked for: loops, veiled, ifaces, maps, wideKeys, modest, calm, conditions, laid).
  DERIVED. THE GIVEN ROWS OF THIS SEAT. 6 by the template 'for every input the law returns true; each argument reads behind the call as it read before'; 0 by the template 'total and deterministic' (their statements: YtdpeeinmckohgaaTotals.lean).
  GIVEN WITH THE SEED: the statements are not yours to turn. If you find one false, say at which input.
  Laid BY PROGRAM, IN A SANDBOX (cutbox-rows.mjs): the forced cells as the released guide's own fill.sh prints them over the translation 40d795d58826b0da… (all of the seat's roots in one cut). By AI agents, Wed Nov 11 2026. No macro, syntax, notation, axiom, sorry.
-/
import Derived.Test.YtdpeeinmckohgaaChecked
import GoSem.Claim
import GoSem.ClaimJoined
import GoSem.ClaimMapViews
import Derived.JoinedTies
import Derived.KernelRfl
namespace Go.Proofs.Ytdpeeinmckohgaa
/- THE CELL 'sum', in the pinned program and in every row, IS THE sha256 OF THE DUMP (.gsa) THAT YtdpeeinmckohgaaProg.lean LOADS. Nothing in Lean hashes anything: it is a label: what it is worth is what the hold of that sum in a sandbox is worth. -/
noncomputable def Try.pinned : Pinned := { name := "ytdpeeinmckohgaa", sum := "40d795d58826b0dafa524936cb0f19fa451faaa5962facc4f625eca73335281a", checked := Try.checked }
namespace Rows
def none {H : Type} : Left H := { results := [], args := [] }

/-- 'arraslaw3.PointNumbers': WHATEVER THE INPUT: true; the input reads as it did. -/
def pointNumbersSpec : ChangeSpec := { name := "pointNumbers", fn := fun _ => fun
  | [d] => { results := [.lit (.bool true)], args := [d] }
  | _ => none }
def pointNumbersRow : OpenClaim := { program := "ytdpeeinmckohgaa", sum := "40d795d58826b0dafa524936cb0f19fa451faaa5962facc4f625eca73335281a", func := "arras/arraslaw3.PointNumbers", spec := "pointNumbers", inPlace := ["math.Float64bits"], apart := false }
def PointNumbersSaid : Prop := pointNumbersRow.holds Try.pinned (OpenSpec.ofChange pointNumbersSpec)

/-- ITS FALSE NEIGHBOUR: 'it returns false'. Refute it at one input. -/
def pointNumbersWrong : ChangeSpec := { name := "pointNumbers", fn := fun _ => fun
  | [d] => { results := [.lit (.bool false)], args := [d] }
  | _ => none }
def PointNumbersWrongFalsely : Prop := pointNumbersRow.holds Try.pinned (OpenSpec.ofChange pointNumbersWrong)

/-- 'arraslaw3.PointTurns': WHATEVER THE INPUT: true; the input reads as it did. -/
def pointTurnsSpec : ChangeSpec := { name := "pointTurns", fn := fun _ => fun
  | [d] => { results := [.lit (.bool true)], args := [d] }
  | _ => none }
def pointTurnsRow : OpenClaim := { program := "ytdpeeinmckohgaa", sum := "40d795d58826b0dafa524936cb0f19fa451faaa5962facc4f625eca73335281a", func := "arras/arraslaw3.PointTurns", spec := "pointTurns", apart := false }
def PointTurnsSaid : Prop := pointTurnsRow.holds Try.pinned (OpenSpec.ofChange pointTurnsSpec)

/-- ITS FALSE NEIGHBOUR: 'it returns false'. Refute it at one input. -/
def pointTurnsWrong : ChangeSpec := { name := "pointTurns", fn := fun _ => fun
  | [d] => { results := [.lit (.bool false)], args := [d] }
  | _ => none }
def PointTurnsWrongFalsely : Prop := pointTurnsRow.holds Try.pinned (OpenSpec.ofChange pointTurnsWrong)

/-- 'arraslaw3.PointHas': WHATEVER THE INPUT: true; the input reads as it did. -/
def pointHasSpec : ChangeSpec := { name := "pointHas", fn := fun _ => fun
  | [d] => { results := [.lit (.bool true)], args := [d] }
  | _ => none }
def pointHasRow : OpenClaim := { program := "ytdpeeinmckohgaa", sum := "40d795d58826b0dafa524936cb0f19fa451faaa5962facc4f625eca73335281a", func := "arras/arraslaw3.PointHas", spec := "pointHas", apart := false }
def PointHasSaid : Prop := pointHasRow.holds Try.pinned (OpenSpec.ofChange pointHasSpec)

/-- ITS FALSE NEIGHBOUR: 'it returns false'. Refute it at one input. -/
def pointHasWrong : ChangeSpec := { name := "pointHas", fn := fun _ => fun
  | [d] => { results := [.lit (.bool false)], args := [d] }
  | _ => none }
def PointHasWrongFalsely : Prop := pointHasRow.holds Try.pinned (OpenSpec.ofChange pointHasWrong)

/-- 'arraslaw3.PointSums': WHATEVER THE INPUT: true; the input reads as it did. -/
def pointSumsSpec : ChangeSpec := { name := "pointSums", fn := fun _ => fun
  | [d] => { results := [.lit (.bool true)], args := [d] }
  | _ => none }
def pointSumsRow : OpenClaim := { program := "ytdpeeinmckohgaa", sum := "40d795d58826b0dafa524936cb0f19fa451faaa5962facc4f625eca73335281a", func := "arras/arraslaw3.PointSums", spec := "pointSums", inPlace := ["math.Float64bits"], apart := false }
def PointSumsSaid : Prop := pointSumsRow.holds Try.pinned (OpenSpec.ofChange pointSumsSpec)

/-- ITS FALSE NEIGHBOUR: 'it returns false'. Refute it at one input. -/
def pointSumsWrong : ChangeSpec := { name := "pointSums", fn := fun _ => fun
  | [d] => { results := [.lit (.bool false)], args := [d] }
  | _ => none }
def PointSumsWrongFalsely : Prop := pointSumsRow.holds Try.pinned (OpenSpec.ofChange pointSumsWrong)

/-- 'arraslaw3.PointBoxes': WHATEVER THE INPUT: true; the input reads as it did. -/
def pointBoxesSpec : ChangeSpec := { name := "pointBoxes", fn := fun _ => fun
  | [d] => { results := [.lit (.bool true)], args := [d] }
  | _ => none }
def pointBoxesRow : OpenClaim := { program := "ytdpeeinmckohgaa", sum := "40d795d58826b0dafa524936cb0f19fa451faaa5962facc4f625eca73335281a", func := "arras/arraslaw3.PointBoxes", spec := "pointBoxes", inPlace := ["math.Float64bits"], apart := false }
def PointBoxesSaid : Prop := pointBoxesRow.holds Try.pinned (OpenSpec.ofChange pointBoxesSpec)

/-- ITS FALSE NEIGHBOUR: 'it returns false'. Refute it at one input. -/
def pointBoxesWrong : ChangeSpec := { name := "pointBoxes", fn := fun _ => fun
  | [d] => { results := [.lit (.bool false)], args := [d] }
  | _ => none }
def PointBoxesWrongFalsely : Prop := pointBoxesRow.holds Try.pinned (OpenSpec.ofChange pointBoxesWrong)

/-- 'arraslaw3.PointBoth': WHATEVER THE INPUT: true; the input reads as it did. -/
def pointBothSpec : ChangeSpec := { name := "pointBoth", fn := fun _ => fun
  | [d] => { results := [.lit (.bool true)], args := [d] }
  | _ => none }
def pointBothRow : OpenClaim := { program := "ytdpeeinmckohgaa", sum := "40d795d58826b0dafa524936cb0f19fa451faaa5962facc4f625eca73335281a", func := "arras/arraslaw3.PointBoth", spec := "pointBoth", apart := false }
def PointBothSaid : Prop := pointBothRow.holds Try.pinned (OpenSpec.ofChange pointBothSpec)

/-- ITS FALSE NEIGHBOUR: 'it returns false'. Refute it at one input. -/
def pointBothWrong : ChangeSpec := { name := "pointBoth", fn := fun _ => fun
  | [d] => { results := [.lit (.bool false)], args := [d] }
  | _ => none }
def PointBothWrongFalsely : Prop := pointBothRow.holds Try.pinned (OpenSpec.ofChange pointBothWrong)

/- THE SECOND FORM. 'bulk': how many values and letters a reading holds, each counted each time it is reached (what is shared counts as often as it is met; a slice's spare places count too). A statement '..UptoSaid' is the law's where the arguments, and the package variables that the reading takes, are together of bulk at most 1048576: NARROWER than '..Said'. Prove '..Said' where nothing that the law and all that it calls make is longer than what came in: it says more and counts as full. Else prove '..UptoSaid'. A law counts once. -/
mutual
def uptoBulk {H : Type} : DataW H → Nat
  | .lit (.string bytes) => bytes.length + 1
  | .lit _ => 1
  | .nil => 1
  | .ptr d => uptoBulk d + 1
  | .slice elems spare => uptoBulkAll elems + uptoBulkAll spare + 1
  | .agg parts => uptoBulkAll parts + 1
  | .iface _ d => uptoBulk d + 1
  | .map entries => uptoBulkEntries entries + 1
  | .held _ => 1
def uptoBulkAll {H : Type} : List (DataW H) → Nat
  | [] => 0
  | d :: r => uptoBulk d + uptoBulkAll r
def uptoBulkEntries {H : Type} : List (Lit × DataW H) → Nat
  | [] => 0
  | x :: r => uptoBulkEntry x + uptoBulkEntries r
def uptoBulkEntry {H : Type} : Lit × DataW H → Nat
  | (.string bytes, d) => bytes.length + uptoBulk d + 1
  | (_, d) => uptoBulk d + 1
 end
def uptoSmall : (H : Type) → List (DataW H) → Bool := fun _ ds => decide (uptoBulkAll ds ≤ 1048576)
def OpenSpec.upto (s : _root_.Go.ChangeSpec) : _root_.Go.OpenSpec := { _root_.Go.OpenSpec.ofChange s with cond := some uptoSmall }

/-- 'arraslaw3.PointNumbers', WHERE WHAT IT READS IS OF BULK AT MOST 1048576: true; the input reads as it did. -/
def pointNumbersUptoRow : OpenClaim := { program := "ytdpeeinmckohgaa", sum := "40d795d58826b0dafa524936cb0f19fa451faaa5962facc4f625eca73335281a", func := "arras/arraslaw3.PointNumbers", spec := "pointNumbers", inPlace := ["math.Float64bits"], apart := false, narrowed := true }
def PointNumbersUptoSaid : Prop := pointNumbersUptoRow.holds Try.pinned (OpenSpec.upto pointNumbersSpec)

/-- 'arraslaw3.PointTurns', WHERE WHAT IT READS IS OF BULK AT MOST 1048576: true; the input reads as it did. -/
def pointTurnsUptoRow : OpenClaim := { program := "ytdpeeinmckohgaa", sum := "40d795d58826b0dafa524936cb0f19fa451faaa5962facc4f625eca73335281a", func := "arras/arraslaw3.PointTurns", spec := "pointTurns", apart := false, narrowed := true }
def PointTurnsUptoSaid : Prop := pointTurnsUptoRow.holds Try.pinned (OpenSpec.upto pointTurnsSpec)

/-- 'arraslaw3.PointHas', WHERE WHAT IT READS IS OF BULK AT MOST 1048576: true; the input reads as it did. -/
def pointHasUptoRow : OpenClaim := { program := "ytdpeeinmckohgaa", sum := "40d795d58826b0dafa524936cb0f19fa451faaa5962facc4f625eca73335281a", func := "arras/arraslaw3.PointHas", spec := "pointHas", apart := false, narrowed := true }
def PointHasUptoSaid : Prop := pointHasUptoRow.holds Try.pinned (OpenSpec.upto pointHasSpec)

/-- 'arraslaw3.PointSums', WHERE WHAT IT READS IS OF BULK AT MOST 1048576: true; the input reads as it did. -/
def pointSumsUptoRow : OpenClaim := { program := "ytdpeeinmckohgaa", sum := "40d795d58826b0dafa524936cb0f19fa451faaa5962facc4f625eca73335281a", func := "arras/arraslaw3.PointSums", spec := "pointSums", inPlace := ["math.Float64bits"], apart := false, narrowed := true }
def PointSumsUptoSaid : Prop := pointSumsUptoRow.holds Try.pinned (OpenSpec.upto pointSumsSpec)

/-- 'arraslaw3.PointBoxes', WHERE WHAT IT READS IS OF BULK AT MOST 1048576: true; the input reads as it did. -/
def pointBoxesUptoRow : OpenClaim := { program := "ytdpeeinmckohgaa", sum := "40d795d58826b0dafa524936cb0f19fa451faaa5962facc4f625eca73335281a", func := "arras/arraslaw3.PointBoxes", spec := "pointBoxes", inPlace := ["math.Float64bits"], apart := false, narrowed := true }
def PointBoxesUptoSaid : Prop := pointBoxesUptoRow.holds Try.pinned (OpenSpec.upto pointBoxesSpec)

/-- 'arraslaw3.PointBoth', WHERE WHAT IT READS IS OF BULK AT MOST 1048576: true; the input reads as it did. -/
def pointBothUptoRow : OpenClaim := { program := "ytdpeeinmckohgaa", sum := "40d795d58826b0dafa524936cb0f19fa451faaa5962facc4f625eca73335281a", func := "arras/arraslaw3.PointBoth", spec := "pointBoth", apart := false, narrowed := true }
def PointBothUptoSaid : Prop := pointBothUptoRow.holds Try.pinned (OpenSpec.upto pointBothSpec)

end Rows
end Go.Proofs.Ytdpeeinmckohgaa
