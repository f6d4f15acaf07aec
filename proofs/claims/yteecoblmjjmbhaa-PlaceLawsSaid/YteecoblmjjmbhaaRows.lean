/-
  No cell of these rows narrows 'for every input' (looked for: loops, veiled, ifaces, maps, wideKeys, modest, calm, conditions, laid).
  DERIVED. THE GIVEN ROWS OF THIS SEAT. 12 by the template 'for every input the law returns true; each argument reads behind the call as it read before'; 0 by the template 'total and deterministic' (their statements: YteecoblmjjmbhaaTotals.lean).
  GIVEN WITH THE SEED: the statements are not yours to turn. If you find one false, say at which input.
  Laid BY PROGRAM, IN A SANDBOX (cutbox-rows.mjs): the forced cells as the released guide's own fill.sh prints them over the translation 88a351983c6b27fc… (all of the seat's roots in one cut). By AI agents, Wed Nov 11 2026. No macro, syntax, notation, axiom, sorry.
-/
import Derived.Test.YteecoblmjjmbhaaChecked
import GoSem.Claim
import GoSem.ClaimJoined
import GoSem.ClaimMapViews
import Derived.JoinedTies
import Derived.KernelRfl
namespace Go.Proofs.Yteecoblmjjmbhaa
/- THE CELL 'sum', in the pinned program and in every row, IS THE sha256 OF THE DUMP (.gsa) THAT YteecoblmjjmbhaaProg.lean LOADS. Nothing in Lean hashes anything: it is a label: what it is worth is what the hold of that sum in a sandbox is worth. -/
noncomputable def Try.pinned : Pinned := { name := "yteecoblmjjmbhaa", sum := "88a351983c6b27fc5b5e1c481bae93527d852ac886ced1edda2949fcc8cd2d20", checked := Try.checked }
namespace Rows
def none {H : Type} : Left H := { results := [], args := [] }

/-- 'arraslaw21.PlaceStarts': WHATEVER THE INPUT: true; the input reads as it did. -/
def placeStartsSpec : ChangeSpec := { name := "placeStarts", fn := fun _ => fun
  | [d] => { results := [.lit (.bool true)], args := [d] }
  | _ => none }
def placeStartsRow : OpenClaim := { program := "yteecoblmjjmbhaa", sum := "88a351983c6b27fc5b5e1c481bae93527d852ac886ced1edda2949fcc8cd2d20", func := "arras/arraslaw21.PlaceStarts", spec := "placeStarts", apart := false }
def PlaceStartsSaid : Prop := placeStartsRow.holds Try.pinned (OpenSpec.ofChange placeStartsSpec)

/-- ITS FALSE NEIGHBOUR: 'it returns false'. Refute it at one input. -/
def placeStartsWrong : ChangeSpec := { name := "placeStarts", fn := fun _ => fun
  | [d] => { results := [.lit (.bool false)], args := [d] }
  | _ => none }
def PlaceStartsWrongFalsely : Prop := placeStartsRow.holds Try.pinned (OpenSpec.ofChange placeStartsWrong)

/-- 'arraslaw21.PlaceEnds': WHATEVER THE INPUT: true; the input reads as it did. -/
def placeEndsSpec : ChangeSpec := { name := "placeEnds", fn := fun _ => fun
  | [d] => { results := [.lit (.bool true)], args := [d] }
  | _ => none }
def placeEndsRow : OpenClaim := { program := "yteecoblmjjmbhaa", sum := "88a351983c6b27fc5b5e1c481bae93527d852ac886ced1edda2949fcc8cd2d20", func := "arras/arraslaw21.PlaceEnds", spec := "placeEnds", apart := false }
def PlaceEndsSaid : Prop := placeEndsRow.holds Try.pinned (OpenSpec.ofChange placeEndsSpec)

/-- ITS FALSE NEIGHBOUR: 'it returns false'. Refute it at one input. -/
def placeEndsWrong : ChangeSpec := { name := "placeEnds", fn := fun _ => fun
  | [d] => { results := [.lit (.bool false)], args := [d] }
  | _ => none }
def PlaceEndsWrongFalsely : Prop := placeEndsRow.holds Try.pinned (OpenSpec.ofChange placeEndsWrong)

/-- 'arraslaw21.PlaceCenters': WHATEVER THE INPUT: true; the input reads as it did. -/
def placeCentersSpec : ChangeSpec := { name := "placeCenters", fn := fun _ => fun
  | [d] => { results := [.lit (.bool true)], args := [d] }
  | _ => none }
def placeCentersRow : OpenClaim := { program := "yteecoblmjjmbhaa", sum := "88a351983c6b27fc5b5e1c481bae93527d852ac886ced1edda2949fcc8cd2d20", func := "arras/arraslaw21.PlaceCenters", spec := "placeCenters", apart := false }
def PlaceCentersSaid : Prop := placeCentersRow.holds Try.pinned (OpenSpec.ofChange placeCentersSpec)

/-- ITS FALSE NEIGHBOUR: 'it returns false'. Refute it at one input. -/
def placeCentersWrong : ChangeSpec := { name := "placeCenters", fn := fun _ => fun
  | [d] => { results := [.lit (.bool false)], args := [d] }
  | _ => none }
def PlaceCentersWrongFalsely : Prop := placeCentersRow.holds Try.pinned (OpenSpec.ofChange placeCentersWrong)

/-- 'arraslaw21.PlaceBetweens': WHATEVER THE INPUT: true; the input reads as it did. -/
def placeBetweensSpec : ChangeSpec := { name := "placeBetweens", fn := fun _ => fun
  | [d] => { results := [.lit (.bool true)], args := [d] }
  | _ => none }
def placeBetweensRow : OpenClaim := { program := "yteecoblmjjmbhaa", sum := "88a351983c6b27fc5b5e1c481bae93527d852ac886ced1edda2949fcc8cd2d20", func := "arras/arraslaw21.PlaceBetweens", spec := "placeBetweens", apart := false }
def PlaceBetweensSaid : Prop := placeBetweensRow.holds Try.pinned (OpenSpec.ofChange placeBetweensSpec)

/-- ITS FALSE NEIGHBOUR: 'it returns false'. Refute it at one input. -/
def placeBetweensWrong : ChangeSpec := { name := "placeBetweens", fn := fun _ => fun
  | [d] => { results := [.lit (.bool false)], args := [d] }
  | _ => none }
def PlaceBetweensWrongFalsely : Prop := placeBetweensRow.holds Try.pinned (OpenSpec.ofChange placeBetweensWrong)

/-- 'arraslaw21.PlaceArounds': WHATEVER THE INPUT: true; the input reads as it did. -/
def placeAroundsSpec : ChangeSpec := { name := "placeArounds", fn := fun _ => fun
  | [d] => { results := [.lit (.bool true)], args := [d] }
  | _ => none }
def placeAroundsRow : OpenClaim := { program := "yteecoblmjjmbhaa", sum := "88a351983c6b27fc5b5e1c481bae93527d852ac886ced1edda2949fcc8cd2d20", func := "arras/arraslaw21.PlaceArounds", spec := "placeArounds", apart := false }
def PlaceAroundsSaid : Prop := placeAroundsRow.holds Try.pinned (OpenSpec.ofChange placeAroundsSpec)

/-- ITS FALSE NEIGHBOUR: 'it returns false'. Refute it at one input. -/
def placeAroundsWrong : ChangeSpec := { name := "placeArounds", fn := fun _ => fun
  | [d] => { results := [.lit (.bool false)], args := [d] }
  | _ => none }
def PlaceAroundsWrongFalsely : Prop := placeAroundsRow.holds Try.pinned (OpenSpec.ofChange placeAroundsWrong)

/-- 'arraslaw21.PlaceJustifies': WHATEVER THE INPUT: true; the input reads as it did. -/
def placeJustifiesSpec : ChangeSpec := { name := "placeJustifies", fn := fun _ => fun
  | [d] => { results := [.lit (.bool true)], args := [d] }
  | _ => none }
def placeJustifiesRow : OpenClaim := { program := "yteecoblmjjmbhaa", sum := "88a351983c6b27fc5b5e1c481bae93527d852ac886ced1edda2949fcc8cd2d20", func := "arras/arraslaw21.PlaceJustifies", spec := "placeJustifies", apart := false }
def PlaceJustifiesSaid : Prop := placeJustifiesRow.holds Try.pinned (OpenSpec.ofChange placeJustifiesSpec)

/-- ITS FALSE NEIGHBOUR: 'it returns false'. Refute it at one input. -/
def placeJustifiesWrong : ChangeSpec := { name := "placeJustifies", fn := fun _ => fun
  | [d] => { results := [.lit (.bool false)], args := [d] }
  | _ => none }
def PlaceJustifiesWrongFalsely : Prop := placeJustifiesRow.holds Try.pinned (OpenSpec.ofChange placeJustifiesWrong)

/-- 'arraslaw21.PlaceStacks': WHATEVER THE INPUT: true; the input reads as it did. -/
def placeStacksSpec : ChangeSpec := { name := "placeStacks", fn := fun _ => fun
  | [d] => { results := [.lit (.bool true)], args := [d] }
  | _ => none }
def placeStacksRow : OpenClaim := { program := "yteecoblmjjmbhaa", sum := "88a351983c6b27fc5b5e1c481bae93527d852ac886ced1edda2949fcc8cd2d20", func := "arras/arraslaw21.PlaceStacks", spec := "placeStacks", apart := false }
def PlaceStacksSaid : Prop := placeStacksRow.holds Try.pinned (OpenSpec.ofChange placeStacksSpec)

/-- ITS FALSE NEIGHBOUR: 'it returns false'. Refute it at one input. -/
def placeStacksWrong : ChangeSpec := { name := "placeStacks", fn := fun _ => fun
  | [d] => { results := [.lit (.bool false)], args := [d] }
  | _ => none }
def PlaceStacksWrongFalsely : Prop := placeStacksRow.holds Try.pinned (OpenSpec.ofChange placeStacksWrong)

/-- 'arraslaw21.PlaceAligns': WHATEVER THE INPUT: true; the input reads as it did. -/
def placeAlignsSpec : ChangeSpec := { name := "placeAligns", fn := fun _ => fun
  | [d] => { results := [.lit (.bool true)], args := [d] }
  | _ => none }
def placeAlignsRow : OpenClaim := { program := "yteecoblmjjmbhaa", sum := "88a351983c6b27fc5b5e1c481bae93527d852ac886ced1edda2949fcc8cd2d20", func := "arras/arraslaw21.PlaceAligns", spec := "placeAligns", apart := false }
def PlaceAlignsSaid : Prop := placeAlignsRow.holds Try.pinned (OpenSpec.ofChange placeAlignsSpec)

/-- ITS FALSE NEIGHBOUR: 'it returns false'. Refute it at one input. -/
def placeAlignsWrong : ChangeSpec := { name := "placeAligns", fn := fun _ => fun
  | [d] => { results := [.lit (.bool false)], args := [d] }
  | _ => none }
def PlaceAlignsWrongFalsely : Prop := placeAlignsRow.holds Try.pinned (OpenSpec.ofChange placeAlignsWrong)

/-- 'arraslaw21.PlaceLaws': WHATEVER THE INPUT: true; the input reads as it did. -/
def placeLawsSpec : ChangeSpec := { name := "placeLaws", fn := fun _ => fun
  | [d] => { results := [.lit (.bool true)], args := [d] }
  | _ => none }
def placeLawsRow : OpenClaim := { program := "yteecoblmjjmbhaa", sum := "88a351983c6b27fc5b5e1c481bae93527d852ac886ced1edda2949fcc8cd2d20", func := "arras/arraslaw21.PlaceLaws", spec := "placeLaws", apart := false }
def PlaceLawsSaid : Prop := placeLawsRow.holds Try.pinned (OpenSpec.ofChange placeLawsSpec)

/-- ITS FALSE NEIGHBOUR: 'it returns false'. Refute it at one input. -/
def placeLawsWrong : ChangeSpec := { name := "placeLaws", fn := fun _ => fun
  | [d] => { results := [.lit (.bool false)], args := [d] }
  | _ => none }
def PlaceLawsWrongFalsely : Prop := placeLawsRow.holds Try.pinned (OpenSpec.ofChange placeLawsWrong)

/-- 'arraslaw21.PlaceStretches': WHATEVER THE INPUT: true; the input reads as it did. -/
def placeStretchesSpec : ChangeSpec := { name := "placeStretches", fn := fun _ => fun
  | [d] => { results := [.lit (.bool true)], args := [d] }
  | _ => none }
def placeStretchesRow : OpenClaim := { program := "yteecoblmjjmbhaa", sum := "88a351983c6b27fc5b5e1c481bae93527d852ac886ced1edda2949fcc8cd2d20", func := "arras/arraslaw21.PlaceStretches", spec := "placeStretches", apart := false }
def PlaceStretchesSaid : Prop := placeStretchesRow.holds Try.pinned (OpenSpec.ofChange placeStretchesSpec)

/-- ITS FALSE NEIGHBOUR: 'it returns false'. Refute it at one input. -/
def placeStretchesWrong : ChangeSpec := { name := "placeStretches", fn := fun _ => fun
  | [d] => { results := [.lit (.bool false)], args := [d] }
  | _ => none }
def PlaceStretchesWrongFalsely : Prop := placeStretchesRow.holds Try.pinned (OpenSpec.ofChange placeStretchesWrong)

/-- 'arraslaw21.PlaceFirsts': WHATEVER THE INPUT: true; the input reads as it did. -/
def placeFirstsSpec : ChangeSpec := { name := "placeFirsts", fn := fun _ => fun
  | [d] => { results := [.lit (.bool true)], args := [d] }
  | _ => none }
def placeFirstsRow : OpenClaim := { program := "yteecoblmjjmbhaa", sum := "88a351983c6b27fc5b5e1c481bae93527d852ac886ced1edda2949fcc8cd2d20", func := "arras/arraslaw21.PlaceFirsts", spec := "placeFirsts", apart := false }
def PlaceFirstsSaid : Prop := placeFirstsRow.holds Try.pinned (OpenSpec.ofChange placeFirstsSpec)

/-- ITS FALSE NEIGHBOUR: 'it returns false'. Refute it at one input. -/
def placeFirstsWrong : ChangeSpec := { name := "placeFirsts", fn := fun _ => fun
  | [d] => { results := [.lit (.bool false)], args := [d] }
  | _ => none }
def PlaceFirstsWrongFalsely : Prop := placeFirstsRow.holds Try.pinned (OpenSpec.ofChange placeFirstsWrong)

/-- 'arraslaw21.PlaceLasts': WHATEVER THE INPUT: true; the input reads as it did. -/
def placeLastsSpec : ChangeSpec := { name := "placeLasts", fn := fun _ => fun
  | [d] => { results := [.lit (.bool true)], args := [d] }
  | _ => none }
def placeLastsRow : OpenClaim := { program := "yteecoblmjjmbhaa", sum := "88a351983c6b27fc5b5e1c481bae93527d852ac886ced1edda2949fcc8cd2d20", func := "arras/arraslaw21.PlaceLasts", spec := "placeLasts", apart := false }
def PlaceLastsSaid : Prop := placeLastsRow.holds Try.pinned (OpenSpec.ofChange placeLastsSpec)

/-- ITS FALSE NEIGHBOUR: 'it returns false'. Refute it at one input. -/
def placeLastsWrong : ChangeSpec := { name := "placeLasts", fn := fun _ => fun
  | [d] => { results := [.lit (.bool false)], args := [d] }
  | _ => none }
def PlaceLastsWrongFalsely : Prop := placeLastsRow.holds Try.pinned (OpenSpec.ofChange placeLastsWrong)

/- THE SECOND FORM. 'bulk': how many values and letters a reading holds, each counted each time it is reached (what is shared counts as often as it is met; a slice's spare places count too). A statement '..UptoSaid' is the law's where the arguments, and the package variables that the reading takes, are together of bulk at most 1048576: NARROWER than '..Said'. Prove '..Said' where nothing that the law and all that it calls make is longer than what came in: it says more and counts as full. Else prove '..UptoSaid'. A law counts once. -/
mutual
def uptoBulk {H : Type} : DataW H → Nat
  | .lit (.string bytes) => bytes.length + 1
  | .lit _ => 1
  | .nil => 1
  | .ptr d => uptoBulk d + 1
  | .slice elems spare => uptoBulkAll elems + uptoBulkAll spare + 1
  | .agg parts => uptoBulkAll parts + 1
  | .iface _ d => uptoBulk d + 1
  | .map entries => uptoBulkEntries entries + 1
  | .held _ => 1
def uptoBulkAll {H : Type} : List (DataW H) → Nat
  | [] => 0
  | d :: r => uptoBulk d + uptoBulkAll r
def uptoBulkEntries {H : Type} : List (Lit × DataW H) → Nat
  | [] => 0
  | x :: r => uptoBulkEntry x + uptoBulkEntries r
def uptoBulkEntry {H : Type} : Lit × DataW H → Nat
  | (.string bytes, d) => bytes.length + uptoBulk d + 1
  | (_, d) => uptoBulk d + 1
 end
def uptoSmall : (H : Type) → List (DataW H) → Bool := fun _ ds => decide (uptoBulkAll ds ≤ 1048576)
def OpenSpec.upto (s : _root_.Go.ChangeSpec) : _root_.Go.OpenSpec := { _root_.Go.OpenSpec.ofChange s with cond := some uptoSmall }

/-- 'arraslaw21.PlaceStarts', WHERE WHAT IT READS IS OF BULK AT MOST 1048576: true; the input reads as it did. -/
def placeStartsUptoRow : OpenClaim := { program := "yteecoblmjjmbhaa", sum := "88a351983c6b27fc5b5e1c481bae93527d852ac886ced1edda2949fcc8cd2d20", func := "arras/arraslaw21.PlaceStarts", spec := "placeStarts", apart := false, narrowed := true }
def PlaceStartsUptoSaid : Prop := placeStartsUptoRow.holds Try.pinned (OpenSpec.upto placeStartsSpec)

/-- 'arraslaw21.PlaceEnds', WHERE WHAT IT READS IS OF BULK AT MOST 1048576: true; the input reads as it did. -/
def placeEndsUptoRow : OpenClaim := { program := "yteecoblmjjmbhaa", sum := "88a351983c6b27fc5b5e1c481bae93527d852ac886ced1edda2949fcc8cd2d20", func := "arras/arraslaw21.PlaceEnds", spec := "placeEnds", apart := false, narrowed := true }
def PlaceEndsUptoSaid : Prop := placeEndsUptoRow.holds Try.pinned (OpenSpec.upto placeEndsSpec)

/-- 'arraslaw21.PlaceCenters', WHERE WHAT IT READS IS OF BULK AT MOST 1048576: true; the input reads as it did. -/
def placeCentersUptoRow : OpenClaim := { program := "yteecoblmjjmbhaa", sum := "88a351983c6b27fc5b5e1c481bae93527d852ac886ced1edda2949fcc8cd2d20", func := "arras/arraslaw21.PlaceCenters", spec := "placeCenters", apart := false, narrowed := true }
def PlaceCentersUptoSaid : Prop := placeCentersUptoRow.holds Try.pinned (OpenSpec.upto placeCentersSpec)

/-- 'arraslaw21.PlaceBetweens', WHERE WHAT IT READS IS OF BULK AT MOST 1048576: true; the input reads as it did. -/
def placeBetweensUptoRow : OpenClaim := { program := "yteecoblmjjmbhaa", sum := "88a351983c6b27fc5b5e1c481bae93527d852ac886ced1edda2949fcc8cd2d20", func := "arras/arraslaw21.PlaceBetweens", spec := "placeBetweens", apart := false, narrowed := true }
def PlaceBetweensUptoSaid : Prop := placeBetweensUptoRow.holds Try.pinned (OpenSpec.upto placeBetweensSpec)

/-- 'arraslaw21.PlaceArounds', WHERE WHAT IT READS IS OF BULK AT MOST 1048576: true; the input reads as it did. -/
def placeAroundsUptoRow : OpenClaim := { program := "yteecoblmjjmbhaa", sum := "88a351983c6b27fc5b5e1c481bae93527d852ac886ced1edda2949fcc8cd2d20", func := "arras/arraslaw21.PlaceArounds", spec := "placeArounds", apart := false, narrowed := true }
def PlaceAroundsUptoSaid : Prop := placeAroundsUptoRow.holds Try.pinned (OpenSpec.upto placeAroundsSpec)

/-- 'arraslaw21.PlaceJustifies', WHERE WHAT IT READS IS OF BULK AT MOST 1048576: true; the input reads as it did. -/
def placeJustifiesUptoRow : OpenClaim := { program := "yteecoblmjjmbhaa", sum := "88a351983c6b27fc5b5e1c481bae93527d852ac886ced1edda2949fcc8cd2d20", func := "arras/arraslaw21.PlaceJustifies", spec := "placeJustifies", apart := false, narrowed := true }
def PlaceJustifiesUptoSaid : Prop := placeJustifiesUptoRow.holds Try.pinned (OpenSpec.upto placeJustifiesSpec)

/-- 'arraslaw21.PlaceStacks', WHERE WHAT IT READS IS OF BULK AT MOST 1048576: true; the input reads as it did. -/
def placeStacksUptoRow : OpenClaim := { program := "yteecoblmjjmbhaa", sum := "88a351983c6b27fc5b5e1c481bae93527d852ac886ced1edda2949fcc8cd2d20", func := "arras/arraslaw21.PlaceStacks", spec := "placeStacks", apart := false, narrowed := true }
def PlaceStacksUptoSaid : Prop := placeStacksUptoRow.holds Try.pinned (OpenSpec.upto placeStacksSpec)

/-- 'arraslaw21.PlaceAligns', WHERE WHAT IT READS IS OF BULK AT MOST 1048576: true; the input reads as it did. -/
def placeAlignsUptoRow : OpenClaim := { program := "yteecoblmjjmbhaa", sum := "88a351983c6b27fc5b5e1c481bae93527d852ac886ced1edda2949fcc8cd2d20", func := "arras/arraslaw21.PlaceAligns", spec := "placeAligns", apart := false, narrowed := true }
def PlaceAlignsUptoSaid : Prop := placeAlignsUptoRow.holds Try.pinned (OpenSpec.upto placeAlignsSpec)

/-- 'arraslaw21.PlaceLaws', WHERE WHAT IT READS IS OF BULK AT MOST 1048576: true; the input reads as it did. -/
def placeLawsUptoRow : OpenClaim := { program := "yteecoblmjjmbhaa", sum := "88a351983c6b27fc5b5e1c481bae93527d852ac886ced1edda2949fcc8cd2d20", func := "arras/arraslaw21.PlaceLaws", spec := "placeLaws", apart := false, narrowed := true }
def PlaceLawsUptoSaid : Prop := placeLawsUptoRow.holds Try.pinned (OpenSpec.upto placeLawsSpec)

/-- 'arraslaw21.PlaceStretches', WHERE WHAT IT READS IS OF BULK AT MOST 1048576: true; the input reads as it did. -/
def placeStretchesUptoRow : OpenClaim := { program := "yteecoblmjjmbhaa", sum := "88a351983c6b27fc5b5e1c481bae93527d852ac886ced1edda2949fcc8cd2d20", func := "arras/arraslaw21.PlaceStretches", spec := "placeStretches", apart := false, narrowed := true }
def PlaceStretchesUptoSaid : Prop := placeStretchesUptoRow.holds Try.pinned (OpenSpec.upto placeStretchesSpec)

/-- 'arraslaw21.PlaceFirsts', WHERE WHAT IT READS IS OF BULK AT MOST 1048576: true; the input reads as it did. -/
def placeFirstsUptoRow : OpenClaim := { program := "yteecoblmjjmbhaa", sum := "88a351983c6b27fc5b5e1c481bae93527d852ac886ced1edda2949fcc8cd2d20", func := "arras/arraslaw21.PlaceFirsts", spec := "placeFirsts", apart := false, narrowed := true }
def PlaceFirstsUptoSaid : Prop := placeFirstsUptoRow.holds Try.pinned (OpenSpec.upto placeFirstsSpec)

/-- 'arraslaw21.PlaceLasts', WHERE WHAT IT READS IS OF BULK AT MOST 1048576: true; the input reads as it did. -/
def placeLastsUptoRow : OpenClaim := { program := "yteecoblmjjmbhaa", sum := "88a351983c6b27fc5b5e1c481bae93527d852ac886ced1edda2949fcc8cd2d20", func := "arras/arraslaw21.PlaceLasts", spec := "placeLasts", apart := false, narrowed := true }
def PlaceLastsUptoSaid : Prop := placeLastsUptoRow.holds Try.pinned (OpenSpec.upto placeLastsSpec)

end Rows
end Go.Proofs.Yteecoblmjjmbhaa
