/-
  No cell of these rows narrows 'for every input' (looked for: loops, veiled, ifaces, maps, wideKeys, modest, calm, conditions, laid).
  DERIVED. THE GIVEN ROWS OF THIS SEAT. 8 by the template 'for every input the law returns true; each argument reads behind the call as it read before'; 0 by the template 'total and deterministic' (their statements: YtdilliddflnbnaaTotals.lean).
  GIVEN WITH THE SEED: the statements are not yours to turn. If you find one false, say at which input.
  Laid BY PROGRAM, IN A SANDBOX (cutbox-rows.mjs): the forced cells as the released guide's own fill.sh prints them over the translation 638c0d666cc1ae6b… (all of the seat's roots in one cut). By AI agents, Wed Nov 11 2026. No macro, syntax, notation, axiom, sorry.
-/
import Derived.Test.YtdilliddflnbnaaChecked
import GoSem.Claim
import GoSem.ClaimJoined
import GoSem.ClaimMapViews
import Derived.JoinedTies
import Derived.KernelRfl
namespace Go.Proofs.Ytdilliddflnbnaa
/- THE CELL 'sum', in the pinned program and in every row, IS THE sha256 OF THE DUMP (.gsa) THAT YtdilliddflnbnaaProg.lean LOADS. Nothing in Lean hashes anything: it is a label: what it is worth is what the hold of that sum in a sandbox is worth. -/
noncomputable def Try.pinned : Pinned := { name := "ytdilliddflnbnaa", sum := "638c0d666cc1ae6bfa2c9523aa687e9be9a7505ccd13d8acacf2785e45117dfd", checked := Try.checked }
namespace Rows
def none {H : Type} : Left H := { results := [], args := [] }

/-- 'arraslaw19.LineBreaks': WHATEVER THE INPUT: true; the input reads as it did. -/
def lineBreaksSpec : ChangeSpec := { name := "lineBreaks", fn := fun _ => fun
  | [d] => { results := [.lit (.bool true)], args := [d] }
  | _ => none }
def lineBreaksRow : OpenClaim := { program := "ytdilliddflnbnaa", sum := "638c0d666cc1ae6bfa2c9523aa687e9be9a7505ccd13d8acacf2785e45117dfd", func := "arras/arraslaw19.LineBreaks", spec := "lineBreaks", apart := false }
def LineBreaksSaid : Prop := lineBreaksRow.holds Try.pinned (OpenSpec.ofChange lineBreaksSpec)

/-- ITS FALSE NEIGHBOUR: 'it returns false'. Refute it at one input. -/
def lineBreaksWrong : ChangeSpec := { name := "lineBreaks", fn := fun _ => fun
  | [d] => { results := [.lit (.bool false)], args := [d] }
  | _ => none }
def LineBreaksWrongFalsely : Prop := lineBreaksRow.holds Try.pinned (OpenSpec.ofChange lineBreaksWrong)

/-- 'arraslaw19.LineLaws': WHATEVER THE INPUT: true; the input reads as it did. -/
def lineLawsSpec : ChangeSpec := { name := "lineLaws", fn := fun _ => fun
  | [d] => { results := [.lit (.bool true)], args := [d] }
  | _ => none }
def lineLawsRow : OpenClaim := { program := "ytdilliddflnbnaa", sum := "638c0d666cc1ae6bfa2c9523aa687e9be9a7505ccd13d8acacf2785e45117dfd", func := "arras/arraslaw19.LineLaws", spec := "lineLaws", apart := false }
def LineLawsSaid : Prop := lineLawsRow.holds Try.pinned (OpenSpec.ofChange lineLawsSpec)

/-- ITS FALSE NEIGHBOUR: 'it returns false'. Refute it at one input. -/
def lineLawsWrong : ChangeSpec := { name := "lineLaws", fn := fun _ => fun
  | [d] => { results := [.lit (.bool false)], args := [d] }
  | _ => none }
def LineLawsWrongFalsely : Prop := lineLawsRow.holds Try.pinned (OpenSpec.ofChange lineLawsWrong)

/-- 'arraslaw19.LineOnes': WHATEVER THE INPUT: true; the input reads as it did. -/
def lineOnesSpec : ChangeSpec := { name := "lineOnes", fn := fun _ => fun
  | [d] => { results := [.lit (.bool true)], args := [d] }
  | _ => none }
def lineOnesRow : OpenClaim := { program := "ytdilliddflnbnaa", sum := "638c0d666cc1ae6bfa2c9523aa687e9be9a7505ccd13d8acacf2785e45117dfd", func := "arras/arraslaw19.LineOnes", spec := "lineOnes", apart := false }
def LineOnesSaid : Prop := lineOnesRow.holds Try.pinned (OpenSpec.ofChange lineOnesSpec)

/-- ITS FALSE NEIGHBOUR: 'it returns false'. Refute it at one input. -/
def lineOnesWrong : ChangeSpec := { name := "lineOnes", fn := fun _ => fun
  | [d] => { results := [.lit (.bool false)], args := [d] }
  | _ => none }
def LineOnesWrongFalsely : Prop := lineOnesRow.holds Try.pinned (OpenSpec.ofChange lineOnesWrong)

/-- 'arraslaw1.FixedProducts': WHATEVER THE INPUT: true; the input reads as it did. -/
def fixedProductsSpec : ChangeSpec := { name := "fixedProducts", fn := fun _ => fun
  | [d] => { results := [.lit (.bool true)], args := [d] }
  | _ => none }
def fixedProductsRow : OpenClaim := { program := "ytdilliddflnbnaa", sum := "638c0d666cc1ae6bfa2c9523aa687e9be9a7505ccd13d8acacf2785e45117dfd", func := "arras/arraslaw1.FixedProducts", spec := "fixedProducts", named := ["math/bits.divideError", "math/bits.overflowError"], apart := false }
def FixedProductsSaid : Prop := fixedProductsRow.holds Try.pinned (OpenSpec.ofChange fixedProductsSpec)

/-- ITS FALSE NEIGHBOUR: 'it returns false'. Refute it at one input. -/
def fixedProductsWrong : ChangeSpec := { name := "fixedProducts", fn := fun _ => fun
  | [d] => { results := [.lit (.bool false)], args := [d] }
  | _ => none }
def FixedProductsWrongFalsely : Prop := fixedProductsRow.holds Try.pinned (OpenSpec.ofChange fixedProductsWrong)

/-- 'arraslaw1.FixedClamps': WHATEVER THE INPUT: true; the input reads as it did. -/
def fixedClampsSpec : ChangeSpec := { name := "fixedClamps", fn := fun _ => fun
  | [d] => { results := [.lit (.bool true)], args := [d] }
  | _ => none }
def fixedClampsRow : OpenClaim := { program := "ytdilliddflnbnaa", sum := "638c0d666cc1ae6bfa2c9523aa687e9be9a7505ccd13d8acacf2785e45117dfd", func := "arras/arraslaw1.FixedClamps", spec := "fixedClamps", named := ["math/bits.divideError", "math/bits.overflowError"], apart := false }
def FixedClampsSaid : Prop := fixedClampsRow.holds Try.pinned (OpenSpec.ofChange fixedClampsSpec)

/-- ITS FALSE NEIGHBOUR: 'it returns false'. Refute it at one input. -/
def fixedClampsWrong : ChangeSpec := { name := "fixedClamps", fn := fun _ => fun
  | [d] => { results := [.lit (.bool false)], args := [d] }
  | _ => none }
def FixedClampsWrongFalsely : Prop := fixedClampsRow.holds Try.pinned (OpenSpec.ofChange fixedClampsWrong)

/-- 'arraslaw1.FixedLaws': WHATEVER THE INPUT: true; the input reads as it did. -/
def fixedLawsSpec : ChangeSpec := { name := "fixedLaws", fn := fun _ => fun
  | [d] => { results := [.lit (.bool true)], args := [d] }
  | _ => none }
def fixedLawsRow : OpenClaim := { program := "ytdilliddflnbnaa", sum := "638c0d666cc1ae6bfa2c9523aa687e9be9a7505ccd13d8acacf2785e45117dfd", func := "arras/arraslaw1.FixedLaws", spec := "fixedLaws", named := ["math/bits.divideError", "math/bits.overflowError"], apart := false }
def FixedLawsSaid : Prop := fixedLawsRow.holds Try.pinned (OpenSpec.ofChange fixedLawsSpec)

/-- ITS FALSE NEIGHBOUR: 'it returns false'. Refute it at one input. -/
def fixedLawsWrong : ChangeSpec := { name := "fixedLaws", fn := fun _ => fun
  | [d] => { results := [.lit (.bool false)], args := [d] }
  | _ => none }
def FixedLawsWrongFalsely : Prop := fixedLawsRow.holds Try.pinned (OpenSpec.ofChange fixedLawsWrong)

/-- 'arraslaw1.FixedSums': WHATEVER THE INPUT: true; the input reads as it did. -/
def fixedSumsSpec : ChangeSpec := { name := "fixedSums", fn := fun _ => fun
  | [d] => { results := [.lit (.bool true)], args := [d] }
  | _ => none }
def fixedSumsRow : OpenClaim := { program := "ytdilliddflnbnaa", sum := "638c0d666cc1ae6bfa2c9523aa687e9be9a7505ccd13d8acacf2785e45117dfd", func := "arras/arraslaw1.FixedSums", spec := "fixedSums", named := ["math/bits.divideError", "math/bits.overflowError"], apart := false }
def FixedSumsSaid : Prop := fixedSumsRow.holds Try.pinned (OpenSpec.ofChange fixedSumsSpec)

/-- ITS FALSE NEIGHBOUR: 'it returns false'. Refute it at one input. -/
def fixedSumsWrong : ChangeSpec := { name := "fixedSums", fn := fun _ => fun
  | [d] => { results := [.lit (.bool false)], args := [d] }
  | _ => none }
def FixedSumsWrongFalsely : Prop := fixedSumsRow.holds Try.pinned (OpenSpec.ofChange fixedSumsWrong)

/-- 'arraslaw1.FixedEnds': WHATEVER THE INPUT: true; the input reads as it did. -/
def fixedEndsSpec : ChangeSpec := { name := "fixedEnds", fn := fun _ => fun
  | [d] => { results := [.lit (.bool true)], args := [d] }
  | _ => none }
def fixedEndsRow : OpenClaim := { program := "ytdilliddflnbnaa", sum := "638c0d666cc1ae6bfa2c9523aa687e9be9a7505ccd13d8acacf2785e45117dfd", func := "arras/arraslaw1.FixedEnds", spec := "fixedEnds", named := ["math/bits.divideError", "math/bits.overflowError"], apart := false }
def FixedEndsSaid : Prop := fixedEndsRow.holds Try.pinned (OpenSpec.ofChange fixedEndsSpec)

/-- ITS FALSE NEIGHBOUR: 'it returns false'. Refute it at one input. -/
def fixedEndsWrong : ChangeSpec := { name := "fixedEnds", fn := fun _ => fun
  | [d] => { results := [.lit (.bool false)], args := [d] }
  | _ => none }
def FixedEndsWrongFalsely : Prop := fixedEndsRow.holds Try.pinned (OpenSpec.ofChange fixedEndsWrong)

/- THE SECOND FORM. 'bulk': how many values and letters a reading holds, each counted each time it is reached (what is shared counts as often as it is met; a slice's spare places count too). A statement '..UptoSaid' is the law's where the arguments, and the package variables that the reading takes, are together of bulk at most 1048576: NARROWER than '..Said'. Prove '..Said' where nothing that the law and all that it calls make is longer than what came in: it says more and counts as full. Else prove '..UptoSaid'. A law counts once. -/
mutual
def uptoBulk {H : Type} : DataW H → Nat
  | .lit (.string bytes) => bytes.length + 1
  | .lit _ => 1
  | .nil => 1
  | .ptr d => uptoBulk d + 1
  | .slice elems spare => uptoBulkAll elems + uptoBulkAll spare + 1
  | .agg parts => uptoBulkAll parts + 1
  | .iface _ d => uptoBulk d + 1
  | .map entries => uptoBulkEntries entries + 1
  | .held _ => 1
def uptoBulkAll {H : Type} : List (DataW H) → Nat
  | [] => 0
  | d :: r => uptoBulk d + uptoBulkAll r
def uptoBulkEntries {H : Type} : List (Lit × DataW H) → Nat
  | [] => 0
  | x :: r => uptoBulkEntry x + uptoBulkEntries r
def uptoBulkEntry {H : Type} : Lit × DataW H → Nat
  | (.string bytes, d) => bytes.length + uptoBulk d + 1
  | (_, d) => uptoBulk d + 1
 end
def uptoSmall : (H : Type) → List (DataW H) → Bool := fun _ ds => decide (uptoBulkAll ds ≤ 1048576)
def OpenSpec.upto (s : _root_.Go.ChangeSpec) : _root_.Go.OpenSpec := { _root_.Go.OpenSpec.ofChange s with cond := some uptoSmall }

/-- 'arraslaw19.LineBreaks', WHERE WHAT IT READS IS OF BULK AT MOST 1048576: true; the input reads as it did. -/
def lineBreaksUptoRow : OpenClaim := { program := "ytdilliddflnbnaa", sum := "638c0d666cc1ae6bfa2c9523aa687e9be9a7505ccd13d8acacf2785e45117dfd", func := "arras/arraslaw19.LineBreaks", spec := "lineBreaks", apart := false, narrowed := true }
def LineBreaksUptoSaid : Prop := lineBreaksUptoRow.holds Try.pinned (OpenSpec.upto lineBreaksSpec)

/-- 'arraslaw19.LineLaws', WHERE WHAT IT READS IS OF BULK AT MOST 1048576: true; the input reads as it did. -/
def lineLawsUptoRow : OpenClaim := { program := "ytdilliddflnbnaa", sum := "638c0d666cc1ae6bfa2c9523aa687e9be9a7505ccd13d8acacf2785e45117dfd", func := "arras/arraslaw19.LineLaws", spec := "lineLaws", apart := false, narrowed := true }
def LineLawsUptoSaid : Prop := lineLawsUptoRow.holds Try.pinned (OpenSpec.upto lineLawsSpec)

/-- 'arraslaw19.LineOnes', WHERE WHAT IT READS IS OF BULK AT MOST 1048576: true; the input reads as it did. -/
def lineOnesUptoRow : OpenClaim := { program := "ytdilliddflnbnaa", sum := "638c0d666cc1ae6bfa2c9523aa687e9be9a7505ccd13d8acacf2785e45117dfd", func := "arras/arraslaw19.LineOnes", spec := "lineOnes", apart := false, narrowed := true }
def LineOnesUptoSaid : Prop := lineOnesUptoRow.holds Try.pinned (OpenSpec.upto lineOnesSpec)

/-- 'arraslaw1.FixedProducts', WHERE WHAT IT READS IS OF BULK AT MOST 1048576: true; the input reads as it did. -/
def fixedProductsUptoRow : OpenClaim := { program := "ytdilliddflnbnaa", sum := "638c0d666cc1ae6bfa2c9523aa687e9be9a7505ccd13d8acacf2785e45117dfd", func := "arras/arraslaw1.FixedProducts", spec := "fixedProducts", named := ["math/bits.divideError", "math/bits.overflowError"], apart := false, narrowed := true }
def FixedProductsUptoSaid : Prop := fixedProductsUptoRow.holds Try.pinned (OpenSpec.upto fixedProductsSpec)

/-- 'arraslaw1.FixedClamps', WHERE WHAT IT READS IS OF BULK AT MOST 1048576: true; the input reads as it did. -/
def fixedClampsUptoRow : OpenClaim := { program := "ytdilliddflnbnaa", sum := "638c0d666cc1ae6bfa2c9523aa687e9be9a7505ccd13d8acacf2785e45117dfd", func := "arras/arraslaw1.FixedClamps", spec := "fixedClamps", named := ["math/bits.divideError", "math/bits.overflowError"], apart := false, narrowed := true }
def FixedClampsUptoSaid : Prop := fixedClampsUptoRow.holds Try.pinned (OpenSpec.upto fixedClampsSpec)

/-- 'arraslaw1.FixedLaws', WHERE WHAT IT READS IS OF BULK AT MOST 1048576: true; the input reads as it did. -/
def fixedLawsUptoRow : OpenClaim := { program := "ytdilliddflnbnaa", sum := "638c0d666cc1ae6bfa2c9523aa687e9be9a7505ccd13d8acacf2785e45117dfd", func := "arras/arraslaw1.FixedLaws", spec := "fixedLaws", named := ["math/bits.divideError", "math/bits.overflowError"], apart := false, narrowed := true }
def FixedLawsUptoSaid : Prop := fixedLawsUptoRow.holds Try.pinned (OpenSpec.upto fixedLawsSpec)

/-- 'arraslaw1.FixedSums', WHERE WHAT IT READS IS OF BULK AT MOST 1048576: true; the input reads as it did. -/
def fixedSumsUptoRow : OpenClaim := { program := "ytdilliddflnbnaa", sum := "638c0d666cc1ae6bfa2c9523aa687e9be9a7505ccd13d8acacf2785e45117dfd", func := "arras/arraslaw1.FixedSums", spec := "fixedSums", named := ["math/bits.divideError", "math/bits.overflowError"], apart := false, narrowed := true }
def FixedSumsUptoSaid : Prop := fixedSumsUptoRow.holds Try.pinned (OpenSpec.upto fixedSumsSpec)

/-- 'arraslaw1.FixedEnds', WHERE WHAT IT READS IS OF BULK AT MOST 1048576: true; the input reads as it did. -/
def fixedEndsUptoRow : OpenClaim := { program := "ytdilliddflnbnaa", sum := "638c0d666cc1ae6bfa2c9523aa687e9be9a7505ccd13d8acacf2785e45117dfd", func := "arras/arraslaw1.FixedEnds", spec := "fixedEnds", named := ["math/bits.divideError", "math/bits.overflowError"], apart := false, narrowed := true }
def FixedEndsUptoSaid : Prop := fixedEndsUptoRow.holds Try.pinned (OpenSpec.upto fixedEndsSpec)

end Rows
end Go.Proofs.Ytdilliddflnbnaa
