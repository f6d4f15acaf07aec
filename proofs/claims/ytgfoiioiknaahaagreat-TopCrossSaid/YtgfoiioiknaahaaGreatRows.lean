/-
  No cell of these rows narrows 'for every input' (looked for: loops, veiled, ifaces, maps, wideKeys, modest, calm, conditions, laid).
  DERIVED. THE GIVEN ROWS OF THIS SEAT. 3 by the template 'for every input the law returns true; each argument reads behind the call as it read before'; 0 by the template 'total and deterministic' (their statements: YtgfoiioiknaahaaGreatTotals.lean).
  GIVEN WITH THE SEED: the statements are not yours to turn. If you find one false, say at which input.
  Laid BY PROGRAM, IN A SANDBOX (cutbox-rows.mjs): the forced cells as the released guide's own fill.sh prints them over the translation 023990c81553a27b… (all of the seat's roots in one cut). By AI agents, Wed Nov 11 2026. No macro, syntax, notation, axiom, sorry.
-/
import Derived.Test.YtgfoiioiknaahaaGreatChecked
import GoSem.Claim
import GoSem.ClaimJoined
import GoSem.ClaimMapViews
import Derived.JoinedTies
import Derived.KernelRfl
namespace Go.Proofs.YtgfoiioiknaahaaGreat
/- THE CELL 'sum', in the pinned program and in every row, IS THE sha256 OF THE DUMP (.gsa) THAT YtgfoiioiknaahaaGreatProg.lean LOADS. Nothing in Lean hashes anything: it is a label: what it is worth is what the hold of that sum in a sandbox is worth. -/
noncomputable def Tryz.pinned : Pinned := { name := "ytgfoiioiknaahaagreat", sum := "023990c81553a27b5c0e961af9e3e168f25349bbc2c8fca172bdb9e65791fdf0", checked := Tryz.checked }
namespace Rows
def none {H : Type} : Left H := { results := [], args := [] }

/-- 'arrastop.TopShown': WHATEVER THE INPUT: true; the input reads as it did. -/
def topShownSpec : ChangeSpec := { name := "topShown", fn := fun _ => fun
  | [d] => { results := [.lit (.bool true)], args := [d] }
  | _ => none }
def topShownRow : OpenClaim := { program := "ytgfoiioiknaahaagreat", sum := "023990c81553a27b5c0e961af9e3e168f25349bbc2c8fca172bdb9e65791fdf0", func := "arras/arrastop.TopShown", spec := "topShown", inPlace := ["slices.overlaps[arras/api.Node]", "slices.overlaps[arras/api.Look]", "slices.overlaps[arras/api.Reg]", "internal/bytealg.abigen_runtime_cmpstring", "slices.overlaps[arras/api.Op]"], unfollowed := true, recurses := true, plainKeys := false, apart := false }
def TopShownSaid : Prop := topShownRow.holds Tryz.pinned (OpenSpec.ofChange topShownSpec)

/-- ITS FALSE NEIGHBOUR: 'it returns false'. Refute it at one input. -/
def topShownWrong : ChangeSpec := { name := "topShown", fn := fun _ => fun
  | [d] => { results := [.lit (.bool false)], args := [d] }
  | _ => none }
def TopShownWrongFalsely : Prop := topShownRow.holds Tryz.pinned (OpenSpec.ofChange topShownWrong)

/-- 'arrastop.TopAway': WHATEVER THE INPUT: true; the input reads as it did. -/
def topAwaySpec : ChangeSpec := { name := "topAway", fn := fun _ => fun
  | [d] => { results := [.lit (.bool true)], args := [d] }
  | _ => none }
def topAwayRow : OpenClaim := { program := "ytgfoiioiknaahaagreat", sum := "023990c81553a27b5c0e961af9e3e168f25349bbc2c8fca172bdb9e65791fdf0", func := "arras/arrastop.TopAway", spec := "topAway", inPlace := ["slices.overlaps[arras/api.Node]", "slices.overlaps[arras/api.Look]", "slices.overlaps[arras/api.Reg]", "internal/bytealg.abigen_runtime_cmpstring", "slices.overlaps[arras/api.Op]"], unfollowed := true, recurses := true, plainKeys := false, apart := false }
def TopAwaySaid : Prop := topAwayRow.holds Tryz.pinned (OpenSpec.ofChange topAwaySpec)

/-- ITS FALSE NEIGHBOUR: 'it returns false'. Refute it at one input. -/
def topAwayWrong : ChangeSpec := { name := "topAway", fn := fun _ => fun
  | [d] => { results := [.lit (.bool false)], args := [d] }
  | _ => none }
def TopAwayWrongFalsely : Prop := topAwayRow.holds Tryz.pinned (OpenSpec.ofChange topAwayWrong)

/-- 'arrastop.TopCross': WHATEVER THE INPUT: true; the input reads as it did. -/
def topCrossSpec : ChangeSpec := { name := "topCross", fn := fun _ => fun
  | [d] => { results := [.lit (.bool true)], args := [d] }
  | _ => none }
def topCrossRow : OpenClaim := { program := "ytgfoiioiknaahaagreat", sum := "023990c81553a27b5c0e961af9e3e168f25349bbc2c8fca172bdb9e65791fdf0", func := "arras/arrastop.TopCross", spec := "topCross", inPlace := ["slices.overlaps[arras/api.Node]", "slices.overlaps[arras/api.Look]", "slices.overlaps[arras/api.Reg]", "internal/bytealg.abigen_runtime_cmpstring", "slices.overlaps[arras/api.Op]"], unfollowed := true, recurses := true, plainKeys := false, apart := false }
def TopCrossSaid : Prop := topCrossRow.holds Tryz.pinned (OpenSpec.ofChange topCrossSpec)

/-- ITS FALSE NEIGHBOUR: 'it returns false'. Refute it at one input. -/
def topCrossWrong : ChangeSpec := { name := "topCross", fn := fun _ => fun
  | [d] => { results := [.lit (.bool false)], args := [d] }
  | _ => none }
def TopCrossWrongFalsely : Prop := topCrossRow.holds Tryz.pinned (OpenSpec.ofChange topCrossWrong)

/- THE SECOND FORM. 'bulk': how many values and letters a reading holds, each counted each time it is reached (what is shared counts as often as it is met; a slice's spare places count too). A statement '..UptoSaid' is the law's where the arguments, and the package variables that the reading takes, are together of bulk at most 1048576: NARROWER than '..Said'. Prove '..Said' where nothing that the law and all that it calls make is longer than what came in: it says more and counts as full. Else prove '..UptoSaid'. A law counts once. -/
mutual
def uptoBulk {H : Type} : DataW H → Nat
  | .lit (.string bytes) => bytes.length + 1
  | .lit _ => 1
  | .nil => 1
  | .ptr d => uptoBulk d + 1
  | .slice elems spare => uptoBulkAll elems + uptoBulkAll spare + 1
  | .agg parts => uptoBulkAll parts + 1
  | .iface _ d => uptoBulk d + 1
  | .map entries => uptoBulkEntries entries + 1
  | .held _ => 1
def uptoBulkAll {H : Type} : List (DataW H) → Nat
  | [] => 0
  | d :: r => uptoBulk d + uptoBulkAll r
def uptoBulkEntries {H : Type} : List (Lit × DataW H) → Nat
  | [] => 0
  | x :: r => uptoBulkEntry x + uptoBulkEntries r
def uptoBulkEntry {H : Type} : Lit × DataW H → Nat
  | (.string bytes, d) => bytes.length + uptoBulk d + 1
  | (_, d) => uptoBulk d + 1
 end
def uptoSmall : (H : Type) → List (DataW H) → Bool := fun _ ds => decide (uptoBulkAll ds ≤ 1048576)
def OpenSpec.upto (s : _root_.Go.ChangeSpec) : _root_.Go.OpenSpec := { _root_.Go.OpenSpec.ofChange s with cond := some uptoSmall }

/-- 'arrastop.TopShown', WHERE WHAT IT READS IS OF BULK AT MOST 1048576: true; the input reads as it did. -/
def topShownUptoRow : OpenClaim := { program := "ytgfoiioiknaahaagreat", sum := "023990c81553a27b5c0e961af9e3e168f25349bbc2c8fca172bdb9e65791fdf0", func := "arras/arrastop.TopShown", spec := "topShown", inPlace := ["slices.overlaps[arras/api.Node]", "slices.overlaps[arras/api.Look]", "slices.overlaps[arras/api.Reg]", "internal/bytealg.abigen_runtime_cmpstring", "slices.overlaps[arras/api.Op]"], unfollowed := true, recurses := true, plainKeys := false, apart := false, narrowed := true }
def TopShownUptoSaid : Prop := topShownUptoRow.holds Tryz.pinned (OpenSpec.upto topShownSpec)

/-- 'arrastop.TopAway', WHERE WHAT IT READS IS OF BULK AT MOST 1048576: true; the input reads as it did. -/
def topAwayUptoRow : OpenClaim := { program := "ytgfoiioiknaahaagreat", sum := "023990c81553a27b5c0e961af9e3e168f25349bbc2c8fca172bdb9e65791fdf0", func := "arras/arrastop.TopAway", spec := "topAway", inPlace := ["slices.overlaps[arras/api.Node]", "slices.overlaps[arras/api.Look]", "slices.overlaps[arras/api.Reg]", "internal/bytealg.abigen_runtime_cmpstring", "slices.overlaps[arras/api.Op]"], unfollowed := true, recurses := true, plainKeys := false, apart := false, narrowed := true }
def TopAwayUptoSaid : Prop := topAwayUptoRow.holds Tryz.pinned (OpenSpec.upto topAwaySpec)

/-- 'arrastop.TopCross', WHERE WHAT IT READS IS OF BULK AT MOST 1048576: true; the input reads as it did. -/
def topCrossUptoRow : OpenClaim := { program := "ytgfoiioiknaahaagreat", sum := "023990c81553a27b5c0e961af9e3e168f25349bbc2c8fca172bdb9e65791fdf0", func := "arras/arrastop.TopCross", spec := "topCross", inPlace := ["slices.overlaps[arras/api.Node]", "slices.overlaps[arras/api.Look]", "slices.overlaps[arras/api.Reg]", "internal/bytealg.abigen_runtime_cmpstring", "slices.overlaps[arras/api.Op]"], unfollowed := true, recurses := true, plainKeys := false, apart := false, narrowed := true }
def TopCrossUptoSaid : Prop := topCrossUptoRow.holds Tryz.pinned (OpenSpec.upto topCrossSpec)

end Rows
end Go.Proofs.YtgfoiioiknaahaaGreat
