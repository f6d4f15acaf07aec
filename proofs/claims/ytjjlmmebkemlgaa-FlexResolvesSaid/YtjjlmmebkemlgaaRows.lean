/-
  No cell of these rows narrows 'for every input' (looked for: loops, veiled, ifaces, maps, wideKeys, modest, calm, conditions, laid).
  DERIVED. THE GIVEN ROWS OF THIS SEAT. 10 by the template 'for every input the law returns true; each argument reads behind the call as it read before'; 0 by the template 'total and deterministic' (their statements: YtjjlmmebkemlgaaTotals.lean).
  GIVEN WITH THE SEED: the statements are not yours to turn. If you find one false, say at which input.
  Laid BY PROGRAM, IN A SANDBOX (cutbox-rows.mjs): the forced cells as the released guide's own fill.sh prints them over the translation eb38492914ea3139… (all of the seat's roots in one cut). By AI agents, Wed Nov 11 2026. No macro, syntax, notation, axiom, sorry.
-/
import Derived.Test.YtjjlmmebkemlgaaChecked
import GoSem.Claim
import GoSem.ClaimJoined
import GoSem.ClaimMapViews
import Derived.JoinedTies
import Derived.KernelRfl
namespace Go.Proofs.Ytjjlmmebkemlgaa
/- THE CELL 'sum', in the pinned program and in every row, IS THE sha256 OF THE DUMP (.gsa) THAT YtjjlmmebkemlgaaProg.lean LOADS. Nothing in Lean hashes anything: it is a label: what it is worth is what the hold of that sum in a sandbox is worth. -/
noncomputable def Try.pinned : Pinned := { name := "ytjjlmmebkemlgaa", sum := "eb38492914ea313942635a80091cef92edb479aafa4a6e84d3d44161b10b3daa", checked := Try.checked }
namespace Rows
def none {H : Type} : Left H := { results := [], args := [] }

/-- 'arraslaw2.ShareSplits': WHATEVER THE INPUT: true; the input reads as it did. -/
def shareSplitsSpec : ChangeSpec := { name := "shareSplits", fn := fun _ => fun
  | [d] => { results := [.lit (.bool true)], args := [d] }
  | _ => none }
def shareSplitsRow : OpenClaim := { program := "ytjjlmmebkemlgaa", sum := "eb38492914ea313942635a80091cef92edb479aafa4a6e84d3d44161b10b3daa", func := "arras/arraslaw2.ShareSplits", spec := "shareSplits", unfollowed := true, recurses := true, apart := false }
def ShareSplitsSaid : Prop := shareSplitsRow.holds Try.pinned (OpenSpec.ofChange shareSplitsSpec)

/-- ITS FALSE NEIGHBOUR: 'it returns false'. Refute it at one input. -/
def shareSplitsWrong : ChangeSpec := { name := "shareSplits", fn := fun _ => fun
  | [d] => { results := [.lit (.bool false)], args := [d] }
  | _ => none }
def ShareSplitsWrongFalsely : Prop := shareSplitsRow.holds Try.pinned (OpenSpec.ofChange shareSplitsWrong)

/-- 'arraslaw2.ShareLaws': WHATEVER THE INPUT: true; the input reads as it did. -/
def shareLawsSpec : ChangeSpec := { name := "shareLaws", fn := fun _ => fun
  | [d] => { results := [.lit (.bool true)], args := [d] }
  | _ => none }
def shareLawsRow : OpenClaim := { program := "ytjjlmmebkemlgaa", sum := "eb38492914ea313942635a80091cef92edb479aafa4a6e84d3d44161b10b3daa", func := "arras/arraslaw2.ShareLaws", spec := "shareLaws", unfollowed := true, recurses := true, apart := false }
def ShareLawsSaid : Prop := shareLawsRow.holds Try.pinned (OpenSpec.ofChange shareLawsSpec)

/-- ITS FALSE NEIGHBOUR: 'it returns false'. Refute it at one input. -/
def shareLawsWrong : ChangeSpec := { name := "shareLaws", fn := fun _ => fun
  | [d] => { results := [.lit (.bool false)], args := [d] }
  | _ => none }
def ShareLawsWrongFalsely : Prop := shareLawsRow.holds Try.pinned (OpenSpec.ofChange shareLawsWrong)

/-- 'arraslaw2.ShareScales': WHATEVER THE INPUT: true; the input reads as it did. -/
def shareScalesSpec : ChangeSpec := { name := "shareScales", fn := fun _ => fun
  | [d] => { results := [.lit (.bool true)], args := [d] }
  | _ => none }
def shareScalesRow : OpenClaim := { program := "ytjjlmmebkemlgaa", sum := "eb38492914ea313942635a80091cef92edb479aafa4a6e84d3d44161b10b3daa", func := "arras/arraslaw2.ShareScales", spec := "shareScales", unfollowed := true, recurses := true, apart := false }
def ShareScalesSaid : Prop := shareScalesRow.holds Try.pinned (OpenSpec.ofChange shareScalesSpec)

/-- ITS FALSE NEIGHBOUR: 'it returns false'. Refute it at one input. -/
def shareScalesWrong : ChangeSpec := { name := "shareScales", fn := fun _ => fun
  | [d] => { results := [.lit (.bool false)], args := [d] }
  | _ => none }
def ShareScalesWrongFalsely : Prop := shareScalesRow.holds Try.pinned (OpenSpec.ofChange shareScalesWrong)

/-- 'arraslaw20.FlexResolves': WHATEVER THE INPUT: true; the input reads as it did. -/
def flexResolvesSpec : ChangeSpec := { name := "flexResolves", fn := fun _ => fun
  | [d] => { results := [.lit (.bool true)], args := [d] }
  | _ => none }
def flexResolvesRow : OpenClaim := { program := "ytjjlmmebkemlgaa", sum := "eb38492914ea313942635a80091cef92edb479aafa4a6e84d3d44161b10b3daa", func := "arras/arraslaw20.FlexResolves", spec := "flexResolves", unfollowed := true, recurses := true, apart := false }
def FlexResolvesSaid : Prop := flexResolvesRow.holds Try.pinned (OpenSpec.ofChange flexResolvesSpec)

/-- ITS FALSE NEIGHBOUR: 'it returns false'. Refute it at one input. -/
def flexResolvesWrong : ChangeSpec := { name := "flexResolves", fn := fun _ => fun
  | [d] => { results := [.lit (.bool false)], args := [d] }
  | _ => none }
def FlexResolvesWrongFalsely : Prop := flexResolvesRow.holds Try.pinned (OpenSpec.ofChange flexResolvesWrong)

/-- 'arraslaw20.FlexFills': WHATEVER THE INPUT: true; the input reads as it did. -/
def flexFillsSpec : ChangeSpec := { name := "flexFills", fn := fun _ => fun
  | [d] => { results := [.lit (.bool true)], args := [d] }
  | _ => none }
def flexFillsRow : OpenClaim := { program := "ytjjlmmebkemlgaa", sum := "eb38492914ea313942635a80091cef92edb479aafa4a6e84d3d44161b10b3daa", func := "arras/arraslaw20.FlexFills", spec := "flexFills", unfollowed := true, recurses := true, apart := false }
def FlexFillsSaid : Prop := flexFillsRow.holds Try.pinned (OpenSpec.ofChange flexFillsSpec)

/-- ITS FALSE NEIGHBOUR: 'it returns false'. Refute it at one input. -/
def flexFillsWrong : ChangeSpec := { name := "flexFills", fn := fun _ => fun
  | [d] => { results := [.lit (.bool false)], args := [d] }
  | _ => none }
def FlexFillsWrongFalsely : Prop := flexFillsRow.holds Try.pinned (OpenSpec.ofChange flexFillsWrong)

/-- 'arraslaw20.FlexBounds': WHATEVER THE INPUT: true; the input reads as it did. -/
def flexBoundsSpec : ChangeSpec := { name := "flexBounds", fn := fun _ => fun
  | [d] => { results := [.lit (.bool true)], args := [d] }
  | _ => none }
def flexBoundsRow : OpenClaim := { program := "ytjjlmmebkemlgaa", sum := "eb38492914ea313942635a80091cef92edb479aafa4a6e84d3d44161b10b3daa", func := "arras/arraslaw20.FlexBounds", spec := "flexBounds", unfollowed := true, recurses := true, apart := false }
def FlexBoundsSaid : Prop := flexBoundsRow.holds Try.pinned (OpenSpec.ofChange flexBoundsSpec)

/-- ITS FALSE NEIGHBOUR: 'it returns false'. Refute it at one input. -/
def flexBoundsWrong : ChangeSpec := { name := "flexBounds", fn := fun _ => fun
  | [d] => { results := [.lit (.bool false)], args := [d] }
  | _ => none }
def FlexBoundsWrongFalsely : Prop := flexBoundsRow.holds Try.pinned (OpenSpec.ofChange flexBoundsWrong)

/-- 'arraslaw20.FlexGrowing': WHATEVER THE INPUT: true; the input reads as it did. -/
def flexGrowingSpec : ChangeSpec := { name := "flexGrowing", fn := fun _ => fun
  | [d] => { results := [.lit (.bool true)], args := [d] }
  | _ => none }
def flexGrowingRow : OpenClaim := { program := "ytjjlmmebkemlgaa", sum := "eb38492914ea313942635a80091cef92edb479aafa4a6e84d3d44161b10b3daa", func := "arras/arraslaw20.FlexGrowing", spec := "flexGrowing", unfollowed := true, recurses := true, apart := false }
def FlexGrowingSaid : Prop := flexGrowingRow.holds Try.pinned (OpenSpec.ofChange flexGrowingSpec)

/-- ITS FALSE NEIGHBOUR: 'it returns false'. Refute it at one input. -/
def flexGrowingWrong : ChangeSpec := { name := "flexGrowing", fn := fun _ => fun
  | [d] => { results := [.lit (.bool false)], args := [d] }
  | _ => none }
def FlexGrowingWrongFalsely : Prop := flexGrowingRow.holds Try.pinned (OpenSpec.ofChange flexGrowingWrong)

/-- 'arraslaw20.FlexShrinking': WHATEVER THE INPUT: true; the input reads as it did. -/
def flexShrinkingSpec : ChangeSpec := { name := "flexShrinking", fn := fun _ => fun
  | [d] => { results := [.lit (.bool true)], args := [d] }
  | _ => none }
def flexShrinkingRow : OpenClaim := { program := "ytjjlmmebkemlgaa", sum := "eb38492914ea313942635a80091cef92edb479aafa4a6e84d3d44161b10b3daa", func := "arras/arraslaw20.FlexShrinking", spec := "flexShrinking", unfollowed := true, recurses := true, apart := false }
def FlexShrinkingSaid : Prop := flexShrinkingRow.holds Try.pinned (OpenSpec.ofChange flexShrinkingSpec)

/-- ITS FALSE NEIGHBOUR: 'it returns false'. Refute it at one input. -/
def flexShrinkingWrong : ChangeSpec := { name := "flexShrinking", fn := fun _ => fun
  | [d] => { results := [.lit (.bool false)], args := [d] }
  | _ => none }
def FlexShrinkingWrongFalsely : Prop := flexShrinkingRow.holds Try.pinned (OpenSpec.ofChange flexShrinkingWrong)

/-- 'arraslaw20.FlexFrozen': WHATEVER THE INPUT: true; the input reads as it did. -/
def flexFrozenSpec : ChangeSpec := { name := "flexFrozen", fn := fun _ => fun
  | [d] => { results := [.lit (.bool true)], args := [d] }
  | _ => none }
def flexFrozenRow : OpenClaim := { program := "ytjjlmmebkemlgaa", sum := "eb38492914ea313942635a80091cef92edb479aafa4a6e84d3d44161b10b3daa", func := "arras/arraslaw20.FlexFrozen", spec := "flexFrozen", unfollowed := true, recurses := true, apart := false }
def FlexFrozenSaid : Prop := flexFrozenRow.holds Try.pinned (OpenSpec.ofChange flexFrozenSpec)

/-- ITS FALSE NEIGHBOUR: 'it returns false'. Refute it at one input. -/
def flexFrozenWrong : ChangeSpec := { name := "flexFrozen", fn := fun _ => fun
  | [d] => { results := [.lit (.bool false)], args := [d] }
  | _ => none }
def FlexFrozenWrongFalsely : Prop := flexFrozenRow.holds Try.pinned (OpenSpec.ofChange flexFrozenWrong)

/-- 'arraslaw20.FlexPlains': WHATEVER THE INPUT: true; the input reads as it did. -/
def flexPlainsSpec : ChangeSpec := { name := "flexPlains", fn := fun _ => fun
  | [d] => { results := [.lit (.bool true)], args := [d] }
  | _ => none }
def flexPlainsRow : OpenClaim := { program := "ytjjlmmebkemlgaa", sum := "eb38492914ea313942635a80091cef92edb479aafa4a6e84d3d44161b10b3daa", func := "arras/arraslaw20.FlexPlains", spec := "flexPlains", unfollowed := true, recurses := true, apart := false }
def FlexPlainsSaid : Prop := flexPlainsRow.holds Try.pinned (OpenSpec.ofChange flexPlainsSpec)

/-- ITS FALSE NEIGHBOUR: 'it returns false'. Refute it at one input. -/
def flexPlainsWrong : ChangeSpec := { name := "flexPlains", fn := fun _ => fun
  | [d] => { results := [.lit (.bool false)], args := [d] }
  | _ => none }
def FlexPlainsWrongFalsely : Prop := flexPlainsRow.holds Try.pinned (OpenSpec.ofChange flexPlainsWrong)

/- THE SECOND FORM. 'bulk': how many values and letters a reading holds, each counted each time it is reached (what is shared counts as often as it is met; a slice's spare places count too). A statement '..UptoSaid' is the law's where the arguments, and the package variables that the reading takes, are together of bulk at most 1048576: NARROWER than '..Said'. Prove '..Said' where nothing that the law and all that it calls make is longer than what came in: it says more and counts as full. Else prove '..UptoSaid'. A law counts once. -/
mutual
def uptoBulk {H : Type} : DataW H → Nat
  | .lit (.string bytes) => bytes.length + 1
  | .lit _ => 1
  | .nil => 1
  | .ptr d => uptoBulk d + 1
  | .slice elems spare => uptoBulkAll elems + uptoBulkAll spare + 1
  | .agg parts => uptoBulkAll parts + 1
  | .iface _ d => uptoBulk d + 1
  | .map entries => uptoBulkEntries entries + 1
  | .held _ => 1
def uptoBulkAll {H : Type} : List (DataW H) → Nat
  | [] => 0
  | d :: r => uptoBulk d + uptoBulkAll r
def uptoBulkEntries {H : Type} : List (Lit × DataW H) → Nat
  | [] => 0
  | x :: r => uptoBulkEntry x + uptoBulkEntries r
def uptoBulkEntry {H : Type} : Lit × DataW H → Nat
  | (.string bytes, d) => bytes.length + uptoBulk d + 1
  | (_, d) => uptoBulk d + 1
 end
def uptoSmall : (H : Type) → List (DataW H) → Bool := fun _ ds => decide (uptoBulkAll ds ≤ 1048576)
def OpenSpec.upto (s : _root_.Go.ChangeSpec) : _root_.Go.OpenSpec := { _root_.Go.OpenSpec.ofChange s with cond := some uptoSmall }

/-- 'arraslaw2.ShareSplits', WHERE WHAT IT READS IS OF BULK AT MOST 1048576: true; the input reads as it did. -/
def shareSplitsUptoRow : OpenClaim := { program := "ytjjlmmebkemlgaa", sum := "eb38492914ea313942635a80091cef92edb479aafa4a6e84d3d44161b10b3daa", func := "arras/arraslaw2.ShareSplits", spec := "shareSplits", unfollowed := true, recurses := true, apart := false, narrowed := true }
def ShareSplitsUptoSaid : Prop := shareSplitsUptoRow.holds Try.pinned (OpenSpec.upto shareSplitsSpec)

/-- 'arraslaw2.ShareLaws', WHERE WHAT IT READS IS OF BULK AT MOST 1048576: true; the input reads as it did. -/
def shareLawsUptoRow : OpenClaim := { program := "ytjjlmmebkemlgaa", sum := "eb38492914ea313942635a80091cef92edb479aafa4a6e84d3d44161b10b3daa", func := "arras/arraslaw2.ShareLaws", spec := "shareLaws", unfollowed := true, recurses := true, apart := false, narrowed := true }
def ShareLawsUptoSaid : Prop := shareLawsUptoRow.holds Try.pinned (OpenSpec.upto shareLawsSpec)

/-- 'arraslaw2.ShareScales', WHERE WHAT IT READS IS OF BULK AT MOST 1048576: true; the input reads as it did. -/
def shareScalesUptoRow : OpenClaim := { program := "ytjjlmmebkemlgaa", sum := "eb38492914ea313942635a80091cef92edb479aafa4a6e84d3d44161b10b3daa", func := "arras/arraslaw2.ShareScales", spec := "shareScales", unfollowed := true, recurses := true, apart := false, narrowed := true }
def ShareScalesUptoSaid : Prop := shareScalesUptoRow.holds Try.pinned (OpenSpec.upto shareScalesSpec)

/-- 'arraslaw20.FlexResolves', WHERE WHAT IT READS IS OF BULK AT MOST 1048576: true; the input reads as it did. -/
def flexResolvesUptoRow : OpenClaim := { program := "ytjjlmmebkemlgaa", sum := "eb38492914ea313942635a80091cef92edb479aafa4a6e84d3d44161b10b3daa", func := "arras/arraslaw20.FlexResolves", spec := "flexResolves", unfollowed := true, recurses := true, apart := false, narrowed := true }
def FlexResolvesUptoSaid : Prop := flexResolvesUptoRow.holds Try.pinned (OpenSpec.upto flexResolvesSpec)

/-- 'arraslaw20.FlexFills', WHERE WHAT IT READS IS OF BULK AT MOST 1048576: true; the input reads as it did. -/
def flexFillsUptoRow : OpenClaim := { program := "ytjjlmmebkemlgaa", sum := "eb38492914ea313942635a80091cef92edb479aafa4a6e84d3d44161b10b3daa", func := "arras/arraslaw20.FlexFills", spec := "flexFills", unfollowed := true, recurses := true, apart := false, narrowed := true }
def FlexFillsUptoSaid : Prop := flexFillsUptoRow.holds Try.pinned (OpenSpec.upto flexFillsSpec)

/-- 'arraslaw20.FlexBounds', WHERE WHAT IT READS IS OF BULK AT MOST 1048576: true; the input reads as it did. -/
def flexBoundsUptoRow : OpenClaim := { program := "ytjjlmmebkemlgaa", sum := "eb38492914ea313942635a80091cef92edb479aafa4a6e84d3d44161b10b3daa", func := "arras/arraslaw20.FlexBounds", spec := "flexBounds", unfollowed := true, recurses := true, apart := false, narrowed := true }
def FlexBoundsUptoSaid : Prop := flexBoundsUptoRow.holds Try.pinned (OpenSpec.upto flexBoundsSpec)

/-- 'arraslaw20.FlexGrowing', WHERE WHAT IT READS IS OF BULK AT MOST 1048576: true; the input reads as it did. -/
def flexGrowingUptoRow : OpenClaim := { program := "ytjjlmmebkemlgaa", sum := "eb38492914ea313942635a80091cef92edb479aafa4a6e84d3d44161b10b3daa", func := "arras/arraslaw20.FlexGrowing", spec := "flexGrowing", unfollowed := true, recurses := true, apart := false, narrowed := true }
def FlexGrowingUptoSaid : Prop := flexGrowingUptoRow.holds Try.pinned (OpenSpec.upto flexGrowingSpec)

/-- 'arraslaw20.FlexShrinking', WHERE WHAT IT READS IS OF BULK AT MOST 1048576: true; the input reads as it did. -/
def flexShrinkingUptoRow : OpenClaim := { program := "ytjjlmmebkemlgaa", sum := "eb38492914ea313942635a80091cef92edb479aafa4a6e84d3d44161b10b3daa", func := "arras/arraslaw20.FlexShrinking", spec := "flexShrinking", unfollowed := true, recurses := true, apart := false, narrowed := true }
def FlexShrinkingUptoSaid : Prop := flexShrinkingUptoRow.holds Try.pinned (OpenSpec.upto flexShrinkingSpec)

/-- 'arraslaw20.FlexFrozen', WHERE WHAT IT READS IS OF BULK AT MOST 1048576: true; the input reads as it did. -/
def flexFrozenUptoRow : OpenClaim := { program := "ytjjlmmebkemlgaa", sum := "eb38492914ea313942635a80091cef92edb479aafa4a6e84d3d44161b10b3daa", func := "arras/arraslaw20.FlexFrozen", spec := "flexFrozen", unfollowed := true, recurses := true, apart := false, narrowed := true }
def FlexFrozenUptoSaid : Prop := flexFrozenUptoRow.holds Try.pinned (OpenSpec.upto flexFrozenSpec)

/-- 'arraslaw20.FlexPlains', WHERE WHAT IT READS IS OF BULK AT MOST 1048576: true; the input reads as it did. -/
def flexPlainsUptoRow : OpenClaim := { program := "ytjjlmmebkemlgaa", sum := "eb38492914ea313942635a80091cef92edb479aafa4a6e84d3d44161b10b3daa", func := "arras/arraslaw20.FlexPlains", spec := "flexPlains", unfollowed := true, recurses := true, apart := false, narrowed := true }
def FlexPlainsUptoSaid : Prop := flexPlainsUptoRow.holds Try.pinned (OpenSpec.upto flexPlainsSpec)

end Rows
end Go.Proofs.Ytjjlmmebkemlgaa
