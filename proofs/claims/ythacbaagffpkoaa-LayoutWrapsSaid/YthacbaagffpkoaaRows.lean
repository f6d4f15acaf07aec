/-
  NARROWER THAN 'FOR EVERY INPUT', by the rows' own cells (each row's printed sentence says how): LayoutTotal: loops.
  DERIVED. THE GIVEN ROWS OF THIS SEAT. 10 by the template 'for every input the law returns true; each argument reads behind the call as it read before'; 0 by the template 'total and deterministic' (their statements: YthacbaagffpkoaaTotals.lean).
  GIVEN WITH THE SEED: the statements are not yours to turn. If you find one false, say at which input.
  Laid BY PROGRAM, IN A SANDBOX (cutbox-rows.mjs): the forced cells as the released guide's own fill.sh prints them over the translation c5275089502f00ed… (all of the seat's roots in one cut). By AI agents, Wed Nov 11 2026. No macro, syntax, notation, axiom, sorry.
-/
import Derived.Test.YthacbaagffpkoaaChecked
import GoSem.Claim
import GoSem.ClaimJoined
import GoSem.ClaimMapViews
import Derived.JoinedTies
import Derived.KernelRfl
namespace Go.Proofs.Ythacbaagffpkoaa
/- THE CELL 'sum', in the pinned program and in every row, IS THE sha256 OF THE DUMP (.gsa) THAT YthacbaagffpkoaaProg.lean LOADS. Nothing in Lean hashes anything: it is a label: what it is worth is what the hold of that sum in a sandbox is worth. -/
noncomputable def Try.pinned : Pinned := { name := "ythacbaagffpkoaa", sum := "c5275089502f00ed6684fada9644c3b599d1ec34f2be34fe5d97dd3ad76c216d", checked := Try.checked }
namespace Rows
def none {H : Type} : Left H := { results := [], args := [] }

/-- 'arraslaw22.LayoutTotal': WHATEVER THE INPUT: true; the input reads as it did. -/
def layoutTotalSpec : ChangeSpec := { name := "layoutTotal", fn := fun _ => fun
  | [d] => { results := [.lit (.bool true)], args := [d] }
  | _ => none }
def layoutTotalRow : OpenClaim := { program := "ythacbaagffpkoaa", sum := "c5275089502f00ed6684fada9644c3b599d1ec34f2be34fe5d97dd3ad76c216d", func := "arras/arraslaw22.LayoutTotal", spec := "layoutTotal", unfollowed := true, recurses := true, loops := true, plainKeys := false, apart := false }
def LayoutTotalSaid : Prop := layoutTotalRow.holds Try.pinned (OpenSpec.ofChange layoutTotalSpec)

/-- ITS FALSE NEIGHBOUR: 'it returns false'. Refute it at one input. -/
def layoutTotalWrong : ChangeSpec := { name := "layoutTotal", fn := fun _ => fun
  | [d] => { results := [.lit (.bool false)], args := [d] }
  | _ => none }
def LayoutTotalWrongFalsely : Prop := layoutTotalRow.holds Try.pinned (OpenSpec.ofChange layoutTotalWrong)

/-- 'arraslaw22.LayoutStacks': WHATEVER THE INPUT: true; the input reads as it did. -/
def layoutStacksSpec : ChangeSpec := { name := "layoutStacks", fn := fun _ => fun
  | [d] => { results := [.lit (.bool true)], args := [d] }
  | _ => none }
def layoutStacksRow : OpenClaim := { program := "ythacbaagffpkoaa", sum := "c5275089502f00ed6684fada9644c3b599d1ec34f2be34fe5d97dd3ad76c216d", func := "arras/arraslaw22.LayoutStacks", spec := "layoutStacks", unfollowed := true, recurses := true, plainKeys := false, apart := false }
def LayoutStacksSaid : Prop := layoutStacksRow.holds Try.pinned (OpenSpec.ofChange layoutStacksSpec)

/-- ITS FALSE NEIGHBOUR: 'it returns false'. Refute it at one input. -/
def layoutStacksWrong : ChangeSpec := { name := "layoutStacks", fn := fun _ => fun
  | [d] => { results := [.lit (.bool false)], args := [d] }
  | _ => none }
def LayoutStacksWrongFalsely : Prop := layoutStacksRow.holds Try.pinned (OpenSpec.ofChange layoutStacksWrong)

/-- 'arraslaw22.LayoutShares': WHATEVER THE INPUT: true; the input reads as it did. -/
def layoutSharesSpec : ChangeSpec := { name := "layoutShares", fn := fun _ => fun
  | [d] => { results := [.lit (.bool true)], args := [d] }
  | _ => none }
def layoutSharesRow : OpenClaim := { program := "ythacbaagffpkoaa", sum := "c5275089502f00ed6684fada9644c3b599d1ec34f2be34fe5d97dd3ad76c216d", func := "arras/arraslaw22.LayoutShares", spec := "layoutShares", unfollowed := true, recurses := true, plainKeys := false, apart := false }
def LayoutSharesSaid : Prop := layoutSharesRow.holds Try.pinned (OpenSpec.ofChange layoutSharesSpec)

/-- ITS FALSE NEIGHBOUR: 'it returns false'. Refute it at one input. -/
def layoutSharesWrong : ChangeSpec := { name := "layoutShares", fn := fun _ => fun
  | [d] => { results := [.lit (.bool false)], args := [d] }
  | _ => none }
def LayoutSharesWrongFalsely : Prop := layoutSharesRow.holds Try.pinned (OpenSpec.ofChange layoutSharesWrong)

/-- 'arraslaw22.LayoutMargins': WHATEVER THE INPUT: true; the input reads as it did. -/
def layoutMarginsSpec : ChangeSpec := { name := "layoutMargins", fn := fun _ => fun
  | [d] => { results := [.lit (.bool true)], args := [d] }
  | _ => none }
def layoutMarginsRow : OpenClaim := { program := "ythacbaagffpkoaa", sum := "c5275089502f00ed6684fada9644c3b599d1ec34f2be34fe5d97dd3ad76c216d", func := "arras/arraslaw22.LayoutMargins", spec := "layoutMargins", unfollowed := true, recurses := true, plainKeys := false, apart := false }
def LayoutMarginsSaid : Prop := layoutMarginsRow.holds Try.pinned (OpenSpec.ofChange layoutMarginsSpec)

/-- ITS FALSE NEIGHBOUR: 'it returns false'. Refute it at one input. -/
def layoutMarginsWrong : ChangeSpec := { name := "layoutMargins", fn := fun _ => fun
  | [d] => { results := [.lit (.bool false)], args := [d] }
  | _ => none }
def LayoutMarginsWrongFalsely : Prop := layoutMarginsRow.holds Try.pinned (OpenSpec.ofChange layoutMarginsWrong)

/-- 'arraslaw22.LayoutBounds': WHATEVER THE INPUT: true; the input reads as it did. -/
def layoutBoundsSpec : ChangeSpec := { name := "layoutBounds", fn := fun _ => fun
  | [d] => { results := [.lit (.bool true)], args := [d] }
  | _ => none }
def layoutBoundsRow : OpenClaim := { program := "ythacbaagffpkoaa", sum := "c5275089502f00ed6684fada9644c3b599d1ec34f2be34fe5d97dd3ad76c216d", func := "arras/arraslaw22.LayoutBounds", spec := "layoutBounds", unfollowed := true, recurses := true, plainKeys := false, apart := false }
def LayoutBoundsSaid : Prop := layoutBoundsRow.holds Try.pinned (OpenSpec.ofChange layoutBoundsSpec)

/-- ITS FALSE NEIGHBOUR: 'it returns false'. Refute it at one input. -/
def layoutBoundsWrong : ChangeSpec := { name := "layoutBounds", fn := fun _ => fun
  | [d] => { results := [.lit (.bool false)], args := [d] }
  | _ => none }
def LayoutBoundsWrongFalsely : Prop := layoutBoundsRow.holds Try.pinned (OpenSpec.ofChange layoutBoundsWrong)

/-- 'arraslaw22.LayoutFills': WHATEVER THE INPUT: true; the input reads as it did. -/
def layoutFillsSpec : ChangeSpec := { name := "layoutFills", fn := fun _ => fun
  | [d] => { results := [.lit (.bool true)], args := [d] }
  | _ => none }
def layoutFillsRow : OpenClaim := { program := "ythacbaagffpkoaa", sum := "c5275089502f00ed6684fada9644c3b599d1ec34f2be34fe5d97dd3ad76c216d", func := "arras/arraslaw22.LayoutFills", spec := "layoutFills", unfollowed := true, recurses := true, plainKeys := false, apart := false }
def LayoutFillsSaid : Prop := layoutFillsRow.holds Try.pinned (OpenSpec.ofChange layoutFillsSpec)

/-- ITS FALSE NEIGHBOUR: 'it returns false'. Refute it at one input. -/
def layoutFillsWrong : ChangeSpec := { name := "layoutFills", fn := fun _ => fun
  | [d] => { results := [.lit (.bool false)], args := [d] }
  | _ => none }
def LayoutFillsWrongFalsely : Prop := layoutFillsRow.holds Try.pinned (OpenSpec.ofChange layoutFillsWrong)

/-- 'arraslaw22.LayoutAcross': WHATEVER THE INPUT: true; the input reads as it did. -/
def layoutAcrossSpec : ChangeSpec := { name := "layoutAcross", fn := fun _ => fun
  | [d] => { results := [.lit (.bool true)], args := [d] }
  | _ => none }
def layoutAcrossRow : OpenClaim := { program := "ythacbaagffpkoaa", sum := "c5275089502f00ed6684fada9644c3b599d1ec34f2be34fe5d97dd3ad76c216d", func := "arras/arraslaw22.LayoutAcross", spec := "layoutAcross", unfollowed := true, recurses := true, plainKeys := false, apart := false }
def LayoutAcrossSaid : Prop := layoutAcrossRow.holds Try.pinned (OpenSpec.ofChange layoutAcrossSpec)

/-- ITS FALSE NEIGHBOUR: 'it returns false'. Refute it at one input. -/
def layoutAcrossWrong : ChangeSpec := { name := "layoutAcross", fn := fun _ => fun
  | [d] => { results := [.lit (.bool false)], args := [d] }
  | _ => none }
def LayoutAcrossWrongFalsely : Prop := layoutAcrossRow.holds Try.pinned (OpenSpec.ofChange layoutAcrossWrong)

/-- 'arraslaw22.LayoutJustified': WHATEVER THE INPUT: true; the input reads as it did. -/
def layoutJustifiedSpec : ChangeSpec := { name := "layoutJustified", fn := fun _ => fun
  | [d] => { results := [.lit (.bool true)], args := [d] }
  | _ => none }
def layoutJustifiedRow : OpenClaim := { program := "ythacbaagffpkoaa", sum := "c5275089502f00ed6684fada9644c3b599d1ec34f2be34fe5d97dd3ad76c216d", func := "arras/arraslaw22.LayoutJustified", spec := "layoutJustified", unfollowed := true, recurses := true, plainKeys := false, apart := false }
def LayoutJustifiedSaid : Prop := layoutJustifiedRow.holds Try.pinned (OpenSpec.ofChange layoutJustifiedSpec)

/-- ITS FALSE NEIGHBOUR: 'it returns false'. Refute it at one input. -/
def layoutJustifiedWrong : ChangeSpec := { name := "layoutJustified", fn := fun _ => fun
  | [d] => { results := [.lit (.bool false)], args := [d] }
  | _ => none }
def LayoutJustifiedWrongFalsely : Prop := layoutJustifiedRow.holds Try.pinned (OpenSpec.ofChange layoutJustifiedWrong)

/-- 'arraslaw22.LayoutWraps': WHATEVER THE INPUT: true; the input reads as it did. -/
def layoutWrapsSpec : ChangeSpec := { name := "layoutWraps", fn := fun _ => fun
  | [d] => { results := [.lit (.bool true)], args := [d] }
  | _ => none }
def layoutWrapsRow : OpenClaim := { program := "ythacbaagffpkoaa", sum := "c5275089502f00ed6684fada9644c3b599d1ec34f2be34fe5d97dd3ad76c216d", func := "arras/arraslaw22.LayoutWraps", spec := "layoutWraps", unfollowed := true, recurses := true, plainKeys := false, apart := false }
def LayoutWrapsSaid : Prop := layoutWrapsRow.holds Try.pinned (OpenSpec.ofChange layoutWrapsSpec)

/-- ITS FALSE NEIGHBOUR: 'it returns false'. Refute it at one input. -/
def layoutWrapsWrong : ChangeSpec := { name := "layoutWraps", fn := fun _ => fun
  | [d] => { results := [.lit (.bool false)], args := [d] }
  | _ => none }
def LayoutWrapsWrongFalsely : Prop := layoutWrapsRow.holds Try.pinned (OpenSpec.ofChange layoutWrapsWrong)

/-- 'arraslaw22.LayoutNests': WHATEVER THE INPUT: true; the input reads as it did. -/
def layoutNestsSpec : ChangeSpec := { name := "layoutNests", fn := fun _ => fun
  | [d] => { results := [.lit (.bool true)], args := [d] }
  | _ => none }
def layoutNestsRow : OpenClaim := { program := "ythacbaagffpkoaa", sum := "c5275089502f00ed6684fada9644c3b599d1ec34f2be34fe5d97dd3ad76c216d", func := "arras/arraslaw22.LayoutNests", spec := "layoutNests", unfollowed := true, recurses := true, plainKeys := false, apart := false }
def LayoutNestsSaid : Prop := layoutNestsRow.holds Try.pinned (OpenSpec.ofChange layoutNestsSpec)

/-- ITS FALSE NEIGHBOUR: 'it returns false'. Refute it at one input. -/
def layoutNestsWrong : ChangeSpec := { name := "layoutNests", fn := fun _ => fun
  | [d] => { results := [.lit (.bool false)], args := [d] }
  | _ => none }
def LayoutNestsWrongFalsely : Prop := layoutNestsRow.holds Try.pinned (OpenSpec.ofChange layoutNestsWrong)

/- THE SECOND FORM. 'bulk': how many values and letters a reading holds, each counted each time it is reached (what is shared counts as often as it is met; a slice's spare places count too). A statement '..UptoSaid' is the law's where the arguments, and the package variables that the reading takes, are together of bulk at most 1048576: NARROWER than '..Said'. Prove '..Said' where nothing that the law and all that it calls make is longer than what came in: it says more and counts as full. Else prove '..UptoSaid'. A law counts once. -/
mutual
def uptoBulk {H : Type} : DataW H → Nat
  | .lit (.string bytes) => bytes.length + 1
  | .lit _ => 1
  | .nil => 1
  | .ptr d => uptoBulk d + 1
  | .slice elems spare => uptoBulkAll elems + uptoBulkAll spare + 1
  | .agg parts => uptoBulkAll parts + 1
  | .iface _ d => uptoBulk d + 1
  | .map entries => uptoBulkEntries entries + 1
  | .held _ => 1
def uptoBulkAll {H : Type} : List (DataW H) → Nat
  | [] => 0
  | d :: r => uptoBulk d + uptoBulkAll r
def uptoBulkEntries {H : Type} : List (Lit × DataW H) → Nat
  | [] => 0
  | x :: r => uptoBulkEntry x + uptoBulkEntries r
def uptoBulkEntry {H : Type} : Lit × DataW H → Nat
  | (.string bytes, d) => bytes.length + uptoBulk d + 1
  | (_, d) => uptoBulk d + 1
 end
def uptoSmall : (H : Type) → List (DataW H) → Bool := fun _ ds => decide (uptoBulkAll ds ≤ 1048576)
def OpenSpec.upto (s : _root_.Go.ChangeSpec) : _root_.Go.OpenSpec := { _root_.Go.OpenSpec.ofChange s with cond := some uptoSmall }

/-- 'arraslaw22.LayoutTotal', WHERE WHAT IT READS IS OF BULK AT MOST 1048576: true; the input reads as it did. -/
def layoutTotalUptoRow : OpenClaim := { program := "ythacbaagffpkoaa", sum := "c5275089502f00ed6684fada9644c3b599d1ec34f2be34fe5d97dd3ad76c216d", func := "arras/arraslaw22.LayoutTotal", spec := "layoutTotal", unfollowed := true, recurses := true, loops := true, plainKeys := false, apart := false, narrowed := true }
def LayoutTotalUptoSaid : Prop := layoutTotalUptoRow.holds Try.pinned (OpenSpec.upto layoutTotalSpec)

/-- 'arraslaw22.LayoutStacks', WHERE WHAT IT READS IS OF BULK AT MOST 1048576: true; the input reads as it did. -/
def layoutStacksUptoRow : OpenClaim := { program := "ythacbaagffpkoaa", sum := "c5275089502f00ed6684fada9644c3b599d1ec34f2be34fe5d97dd3ad76c216d", func := "arras/arraslaw22.LayoutStacks", spec := "layoutStacks", unfollowed := true, recurses := true, plainKeys := false, apart := false, narrowed := true }
def LayoutStacksUptoSaid : Prop := layoutStacksUptoRow.holds Try.pinned (OpenSpec.upto layoutStacksSpec)

/-- 'arraslaw22.LayoutShares', WHERE WHAT IT READS IS OF BULK AT MOST 1048576: true; the input reads as it did. -/
def layoutSharesUptoRow : OpenClaim := { program := "ythacbaagffpkoaa", sum := "c5275089502f00ed6684fada9644c3b599d1ec34f2be34fe5d97dd3ad76c216d", func := "arras/arraslaw22.LayoutShares", spec := "layoutShares", unfollowed := true, recurses := true, plainKeys := false, apart := false, narrowed := true }
def LayoutSharesUptoSaid : Prop := layoutSharesUptoRow.holds Try.pinned (OpenSpec.upto layoutSharesSpec)

/-- 'arraslaw22.LayoutMargins', WHERE WHAT IT READS IS OF BULK AT MOST 1048576: true; the input reads as it did. -/
def layoutMarginsUptoRow : OpenClaim := { program := "ythacbaagffpkoaa", sum := "c5275089502f00ed6684fada9644c3b599d1ec34f2be34fe5d97dd3ad76c216d", func := "arras/arraslaw22.LayoutMargins", spec := "layoutMargins", unfollowed := true, recurses := true, plainKeys := false, apart := false, narrowed := true }
def LayoutMarginsUptoSaid : Prop := layoutMarginsUptoRow.holds Try.pinned (OpenSpec.upto layoutMarginsSpec)

/-- 'arraslaw22.LayoutBounds', WHERE WHAT IT READS IS OF BULK AT MOST 1048576: true; the input reads as it did. -/
def layoutBoundsUptoRow : OpenClaim := { program := "ythacbaagffpkoaa", sum := "c5275089502f00ed6684fada9644c3b599d1ec34f2be34fe5d97dd3ad76c216d", func := "arras/arraslaw22.LayoutBounds", spec := "layoutBounds", unfollowed := true, recurses := true, plainKeys := false, apart := false, narrowed := true }
def LayoutBoundsUptoSaid : Prop := layoutBoundsUptoRow.holds Try.pinned (OpenSpec.upto layoutBoundsSpec)

/-- 'arraslaw22.LayoutFills', WHERE WHAT IT READS IS OF BULK AT MOST 1048576: true; the input reads as it did. -/
def layoutFillsUptoRow : OpenClaim := { program := "ythacbaagffpkoaa", sum := "c5275089502f00ed6684fada9644c3b599d1ec34f2be34fe5d97dd3ad76c216d", func := "arras/arraslaw22.LayoutFills", spec := "layoutFills", unfollowed := true, recurses := true, plainKeys := false, apart := false, narrowed := true }
def LayoutFillsUptoSaid : Prop := layoutFillsUptoRow.holds Try.pinned (OpenSpec.upto layoutFillsSpec)

/-- 'arraslaw22.LayoutAcross', WHERE WHAT IT READS IS OF BULK AT MOST 1048576: true; the input reads as it did. -/
def layoutAcrossUptoRow : OpenClaim := { program := "ythacbaagffpkoaa", sum := "c5275089502f00ed6684fada9644c3b599d1ec34f2be34fe5d97dd3ad76c216d", func := "arras/arraslaw22.LayoutAcross", spec := "layoutAcross", unfollowed := true, recurses := true, plainKeys := false, apart := false, narrowed := true }
def LayoutAcrossUptoSaid : Prop := layoutAcrossUptoRow.holds Try.pinned (OpenSpec.upto layoutAcrossSpec)

/-- 'arraslaw22.LayoutJustified', WHERE WHAT IT READS IS OF BULK AT MOST 1048576: true; the input reads as it did. -/
def layoutJustifiedUptoRow : OpenClaim := { program := "ythacbaagffpkoaa", sum := "c5275089502f00ed6684fada9644c3b599d1ec34f2be34fe5d97dd3ad76c216d", func := "arras/arraslaw22.LayoutJustified", spec := "layoutJustified", unfollowed := true, recurses := true, plainKeys := false, apart := false, narrowed := true }
def LayoutJustifiedUptoSaid : Prop := layoutJustifiedUptoRow.holds Try.pinned (OpenSpec.upto layoutJustifiedSpec)

/-- 'arraslaw22.LayoutWraps', WHERE WHAT IT READS IS OF BULK AT MOST 1048576: true; the input reads as it did. -/
def layoutWrapsUptoRow : OpenClaim := { program := "ythacbaagffpkoaa", sum := "c5275089502f00ed6684fada9644c3b599d1ec34f2be34fe5d97dd3ad76c216d", func := "arras/arraslaw22.LayoutWraps", spec := "layoutWraps", unfollowed := true, recurses := true, plainKeys := false, apart := false, narrowed := true }
def LayoutWrapsUptoSaid : Prop := layoutWrapsUptoRow.holds Try.pinned (OpenSpec.upto layoutWrapsSpec)

/-- 'arraslaw22.LayoutNests', WHERE WHAT IT READS IS OF BULK AT MOST 1048576: true; the input reads as it did. -/
def layoutNestsUptoRow : OpenClaim := { program := "ythacbaagffpkoaa", sum := "c5275089502f00ed6684fada9644c3b599d1ec34f2be34fe5d97dd3ad76c216d", func := "arras/arraslaw22.LayoutNests", spec := "layoutNests", unfollowed := true, recurses := true, plainKeys := false, apart := false, narrowed := true }
def LayoutNestsUptoSaid : Prop := layoutNestsUptoRow.holds Try.pinned (OpenSpec.upto layoutNestsSpec)

end Rows
end Go.Proofs.Ythacbaagffpkoaa
