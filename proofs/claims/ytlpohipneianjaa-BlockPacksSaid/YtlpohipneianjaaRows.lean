/-
  No cell of these rows narrows 'for every input' (looked for: loops, veiled, ifaces, maps, wideKeys, modest, calm, conditions, laid).
  DERIVED. THE GIVEN ROWS OF THIS SEAT. 9 by the template 'for every input the law returns true; each argument reads behind the call as it read before'; 0 by the template 'total and deterministic' (their statements: YtlpohipneianjaaTotals.lean).
  GIVEN WITH THE SEED: the statements are not yours to turn. If you find one false, say at which input.
  Laid BY PROGRAM, IN A SANDBOX (cutbox-rows.mjs): the forced cells as the released guide's own fill.sh prints them over the translation 4545266ba609cc49… (all of the seat's roots in one cut). By AI agents, Wed Nov 11 2026. No macro, syntax, notation, axiom, sorry.
-/
import Derived.Test.YtlpohipneianjaaChecked
import GoSem.Claim
import GoSem.ClaimJoined
import GoSem.ClaimMapViews
import Derived.JoinedTies
import Derived.KernelRfl
namespace Go.Proofs.Ytlpohipneianjaa
/- THE CELL 'sum', in the pinned program and in every row, IS THE sha256 OF THE DUMP (.gsa) THAT YtlpohipneianjaaProg.lean LOADS. Nothing in Lean hashes anything: it is a label: what it is worth is what the hold of that sum in a sandbox is worth. -/
noncomputable def Try.pinned : Pinned := { name := "ytlpohipneianjaa", sum := "4545266ba609cc49179f55a7e29ab6966ec18e6056a3c0ec1abcba2ff1d1f916", checked := Try.checked }
namespace Rows
def none {H : Type} : Left H := { results := [], args := [] }

/-- 'windroselaw02.FrameNumbers': WHATEVER THE INPUT: true; the input reads as it did. -/
def frameNumbersSpec : ChangeSpec := { name := "frameNumbers", fn := fun _ => fun
  | [d] => { results := [.lit (.bool true)], args := [d] }
  | _ => none }
def frameNumbersRow : OpenClaim := { program := "ytlpohipneianjaa", sum := "4545266ba609cc49179f55a7e29ab6966ec18e6056a3c0ec1abcba2ff1d1f916", func := "windrose/windroselaw02.FrameNumbers", spec := "frameNumbers", recurses := true, apart := false }
def FrameNumbersSaid : Prop := frameNumbersRow.holds Try.pinned (OpenSpec.ofChange frameNumbersSpec)

/-- ITS FALSE NEIGHBOUR: 'it returns false'. Refute it at one input. -/
def frameNumbersWrong : ChangeSpec := { name := "frameNumbers", fn := fun _ => fun
  | [d] => { results := [.lit (.bool false)], args := [d] }
  | _ => none }
def FrameNumbersWrongFalsely : Prop := frameNumbersRow.holds Try.pinned (OpenSpec.ofChange frameNumbersWrong)

/-- 'windroselaw11.BlockUnpacks': WHATEVER THE INPUT: true; the input reads as it did. -/
def blockUnpacksSpec : ChangeSpec := { name := "blockUnpacks", fn := fun _ => fun
  | [d] => { results := [.lit (.bool true)], args := [d] }
  | _ => none }
def blockUnpacksRow : OpenClaim := { program := "ytlpohipneianjaa", sum := "4545266ba609cc49179f55a7e29ab6966ec18e6056a3c0ec1abcba2ff1d1f916", func := "windrose/windroselaw11.BlockUnpacks", spec := "blockUnpacks", unfollowed := true, recurses := true, apart := false }
def BlockUnpacksSaid : Prop := blockUnpacksRow.holds Try.pinned (OpenSpec.ofChange blockUnpacksSpec)

/-- ITS FALSE NEIGHBOUR: 'it returns false'. Refute it at one input. -/
def blockUnpacksWrong : ChangeSpec := { name := "blockUnpacks", fn := fun _ => fun
  | [d] => { results := [.lit (.bool false)], args := [d] }
  | _ => none }
def BlockUnpacksWrongFalsely : Prop := blockUnpacksRow.holds Try.pinned (OpenSpec.ofChange blockUnpacksWrong)

/-- 'windroselaw11.BlockEven': WHATEVER THE INPUT: true; the input reads as it did. -/
def blockEvenSpec : ChangeSpec := { name := "blockEven", fn := fun _ => fun
  | [d1, d2, d3] => { results := [.lit (.bool true)], args := [d1, d2, d3] }
  | _ => none }
def blockEvenRow : OpenClaim := { program := "ytlpohipneianjaa", sum := "4545266ba609cc49179f55a7e29ab6966ec18e6056a3c0ec1abcba2ff1d1f916", func := "windrose/windroselaw11.BlockEven", spec := "blockEven", apart := false }
def BlockEvenSaid : Prop := blockEvenRow.holds Try.pinned (OpenSpec.ofChange blockEvenSpec)

/-- ITS FALSE NEIGHBOUR: 'it returns false'. Refute it at one input. -/
def blockEvenWrong : ChangeSpec := { name := "blockEven", fn := fun _ => fun
  | [d1, d2, d3] => { results := [.lit (.bool false)], args := [d1, d2, d3] }
  | _ => none }
def BlockEvenWrongFalsely : Prop := blockEvenRow.holds Try.pinned (OpenSpec.ofChange blockEvenWrong)

/-- 'windroselaw02.FrameCodes': WHATEVER THE INPUT: true; the input reads as it did. -/
def frameCodesSpec : ChangeSpec := { name := "frameCodes", fn := fun _ => fun
  | [d1, d2] => { results := [.lit (.bool true)], args := [d1, d2] }
  | _ => none }
def frameCodesRow : OpenClaim := { program := "ytlpohipneianjaa", sum := "4545266ba609cc49179f55a7e29ab6966ec18e6056a3c0ec1abcba2ff1d1f916", func := "windrose/windroselaw02.FrameCodes", spec := "frameCodes", recurses := true, apart := false }
def FrameCodesSaid : Prop := frameCodesRow.holds Try.pinned (OpenSpec.ofChange frameCodesSpec)

/-- ITS FALSE NEIGHBOUR: 'it returns false'. Refute it at one input. -/
def frameCodesWrong : ChangeSpec := { name := "frameCodes", fn := fun _ => fun
  | [d1, d2] => { results := [.lit (.bool false)], args := [d1, d2] }
  | _ => none }
def FrameCodesWrongFalsely : Prop := frameCodesRow.holds Try.pinned (OpenSpec.ofChange frameCodesWrong)

/-- 'windroselaw02.FrameDecodes': WHATEVER THE INPUT: true; the input reads as it did. -/
def frameDecodesSpec : ChangeSpec := { name := "frameDecodes", fn := fun _ => fun
  | [d] => { results := [.lit (.bool true)], args := [d] }
  | _ => none }
def frameDecodesRow : OpenClaim := { program := "ytlpohipneianjaa", sum := "4545266ba609cc49179f55a7e29ab6966ec18e6056a3c0ec1abcba2ff1d1f916", func := "windrose/windroselaw02.FrameDecodes", spec := "frameDecodes", recurses := true, apart := false }
def FrameDecodesSaid : Prop := frameDecodesRow.holds Try.pinned (OpenSpec.ofChange frameDecodesSpec)

/-- ITS FALSE NEIGHBOUR: 'it returns false'. Refute it at one input. -/
def frameDecodesWrong : ChangeSpec := { name := "frameDecodes", fn := fun _ => fun
  | [d] => { results := [.lit (.bool false)], args := [d] }
  | _ => none }
def FrameDecodesWrongFalsely : Prop := frameDecodesRow.holds Try.pinned (OpenSpec.ofChange frameDecodesWrong)

/-- 'windroselaw11.BlockPacks': WHATEVER THE INPUT: true; the input reads as it did. -/
def blockPacksSpec : ChangeSpec := { name := "blockPacks", fn := fun _ => fun
  | [d] => { results := [.lit (.bool true)], args := [d] }
  | _ => none }
def blockPacksRow : OpenClaim := { program := "ytlpohipneianjaa", sum := "4545266ba609cc49179f55a7e29ab6966ec18e6056a3c0ec1abcba2ff1d1f916", func := "windrose/windroselaw11.BlockPacks", spec := "blockPacks", unfollowed := true, recurses := true, apart := false }
def BlockPacksSaid : Prop := blockPacksRow.holds Try.pinned (OpenSpec.ofChange blockPacksSpec)

/-- ITS FALSE NEIGHBOUR: 'it returns false'. Refute it at one input. -/
def blockPacksWrong : ChangeSpec := { name := "blockPacks", fn := fun _ => fun
  | [d] => { results := [.lit (.bool false)], args := [d] }
  | _ => none }
def BlockPacksWrongFalsely : Prop := blockPacksRow.holds Try.pinned (OpenSpec.ofChange blockPacksWrong)

/-- 'windroselaw02.FrameBursts': WHATEVER THE INPUT: true; the input reads as it did. -/
def frameBurstsSpec : ChangeSpec := { name := "frameBursts", fn := fun _ => fun
  | [d1, d2, d3] => { results := [.lit (.bool true)], args := [d1, d2, d3] }
  | _ => none }
def frameBurstsRow : OpenClaim := { program := "ytlpohipneianjaa", sum := "4545266ba609cc49179f55a7e29ab6966ec18e6056a3c0ec1abcba2ff1d1f916", func := "windrose/windroselaw02.FrameBursts", spec := "frameBursts", recurses := true, apart := false }
def FrameBurstsSaid : Prop := frameBurstsRow.holds Try.pinned (OpenSpec.ofChange frameBurstsSpec)

/-- ITS FALSE NEIGHBOUR: 'it returns false'. Refute it at one input. -/
def frameBurstsWrong : ChangeSpec := { name := "frameBursts", fn := fun _ => fun
  | [d1, d2, d3] => { results := [.lit (.bool false)], args := [d1, d2, d3] }
  | _ => none }
def FrameBurstsWrongFalsely : Prop := frameBurstsRow.holds Try.pinned (OpenSpec.ofChange frameBurstsWrong)

/-- 'windroselaw02.FrameRows': WHATEVER THE INPUT: true; the input reads as it did. -/
def frameRowsSpec : ChangeSpec := { name := "frameRows", fn := fun _ => fun
  | [d] => { results := [.lit (.bool true)], args := [d] }
  | _ => none }
def frameRowsRow : OpenClaim := { program := "ytlpohipneianjaa", sum := "4545266ba609cc49179f55a7e29ab6966ec18e6056a3c0ec1abcba2ff1d1f916", func := "windrose/windroselaw02.FrameRows", spec := "frameRows", recurses := true, apart := false }
def FrameRowsSaid : Prop := frameRowsRow.holds Try.pinned (OpenSpec.ofChange frameRowsSpec)

/-- ITS FALSE NEIGHBOUR: 'it returns false'. Refute it at one input. -/
def frameRowsWrong : ChangeSpec := { name := "frameRows", fn := fun _ => fun
  | [d] => { results := [.lit (.bool false)], args := [d] }
  | _ => none }
def FrameRowsWrongFalsely : Prop := frameRowsRow.holds Try.pinned (OpenSpec.ofChange frameRowsWrong)

/-- 'windroselaw02.FrameCuts': WHATEVER THE INPUT: true; the input reads as it did. -/
def frameCutsSpec : ChangeSpec := { name := "frameCuts", fn := fun _ => fun
  | [d1, d2] => { results := [.lit (.bool true)], args := [d1, d2] }
  | _ => none }
def frameCutsRow : OpenClaim := { program := "ytlpohipneianjaa", sum := "4545266ba609cc49179f55a7e29ab6966ec18e6056a3c0ec1abcba2ff1d1f916", func := "windrose/windroselaw02.FrameCuts", spec := "frameCuts", recurses := true, apart := false }
def FrameCutsSaid : Prop := frameCutsRow.holds Try.pinned (OpenSpec.ofChange frameCutsSpec)

/-- ITS FALSE NEIGHBOUR: 'it returns false'. Refute it at one input. -/
def frameCutsWrong : ChangeSpec := { name := "frameCuts", fn := fun _ => fun
  | [d1, d2] => { results := [.lit (.bool false)], args := [d1, d2] }
  | _ => none }
def FrameCutsWrongFalsely : Prop := frameCutsRow.holds Try.pinned (OpenSpec.ofChange frameCutsWrong)

/- THE SECOND FORM. 'bulk': how many values and letters a reading holds, each counted each time it is reached (what is shared counts as often as it is met; a slice's spare places count too). A statement '..UptoSaid' is the law's where the arguments, and the package variables that the reading takes, are together of bulk at most 1048576: NARROWER than '..Said'. Prove '..Said' where nothing that the law and all that it calls make is longer than what came in: it says more and counts as full. Else prove '..UptoSaid'. A law counts once. -/
mutual
def uptoBulk {H : Type} : DataW H → Nat
  | .lit (.string bytes) => bytes.length + 1
  | .lit _ => 1
  | .nil => 1
  | .ptr d => uptoBulk d + 1
  | .slice elems spare => uptoBulkAll elems + uptoBulkAll spare + 1
  | .agg parts => uptoBulkAll parts + 1
  | .iface _ d => uptoBulk d + 1
  | .map entries => uptoBulkEntries entries + 1
  | .held _ => 1
def uptoBulkAll {H : Type} : List (DataW H) → Nat
  | [] => 0
  | d :: r => uptoBulk d + uptoBulkAll r
def uptoBulkEntries {H : Type} : List (Lit × DataW H) → Nat
  | [] => 0
  | x :: r => uptoBulkEntry x + uptoBulkEntries r
def uptoBulkEntry {H : Type} : Lit × DataW H → Nat
  | (.string bytes, d) => bytes.length + uptoBulk d + 1
  | (_, d) => uptoBulk d + 1
 end
def uptoSmall : (H : Type) → List (DataW H) → Bool := fun _ ds => decide (uptoBulkAll ds ≤ 1048576)
def OpenSpec.upto (s : _root_.Go.ChangeSpec) : _root_.Go.OpenSpec := { _root_.Go.OpenSpec.ofChange s with cond := some uptoSmall }

/-- 'windroselaw02.FrameNumbers', WHERE WHAT IT READS IS OF BULK AT MOST 1048576: true; the input reads as it did. -/
def frameNumbersUptoRow : OpenClaim := { program := "ytlpohipneianjaa", sum := "4545266ba609cc49179f55a7e29ab6966ec18e6056a3c0ec1abcba2ff1d1f916", func := "windrose/windroselaw02.FrameNumbers", spec := "frameNumbers", recurses := true, apart := false, narrowed := true }
def FrameNumbersUptoSaid : Prop := frameNumbersUptoRow.holds Try.pinned (OpenSpec.upto frameNumbersSpec)

/-- 'windroselaw11.BlockUnpacks', WHERE WHAT IT READS IS OF BULK AT MOST 1048576: true; the input reads as it did. -/
def blockUnpacksUptoRow : OpenClaim := { program := "ytlpohipneianjaa", sum := "4545266ba609cc49179f55a7e29ab6966ec18e6056a3c0ec1abcba2ff1d1f916", func := "windrose/windroselaw11.BlockUnpacks", spec := "blockUnpacks", unfollowed := true, recurses := true, apart := false, narrowed := true }
def BlockUnpacksUptoSaid : Prop := blockUnpacksUptoRow.holds Try.pinned (OpenSpec.upto blockUnpacksSpec)

/-- 'windroselaw11.BlockEven', WHERE WHAT IT READS IS OF BULK AT MOST 1048576: true; the input reads as it did. -/
def blockEvenUptoRow : OpenClaim := { program := "ytlpohipneianjaa", sum := "4545266ba609cc49179f55a7e29ab6966ec18e6056a3c0ec1abcba2ff1d1f916", func := "windrose/windroselaw11.BlockEven", spec := "blockEven", apart := false, narrowed := true }
def BlockEvenUptoSaid : Prop := blockEvenUptoRow.holds Try.pinned (OpenSpec.upto blockEvenSpec)

/-- 'windroselaw02.FrameCodes', WHERE WHAT IT READS IS OF BULK AT MOST 1048576: true; the input reads as it did. -/
def frameCodesUptoRow : OpenClaim := { program := "ytlpohipneianjaa", sum := "4545266ba609cc49179f55a7e29ab6966ec18e6056a3c0ec1abcba2ff1d1f916", func := "windrose/windroselaw02.FrameCodes", spec := "frameCodes", recurses := true, apart := false, narrowed := true }
def FrameCodesUptoSaid : Prop := frameCodesUptoRow.holds Try.pinned (OpenSpec.upto frameCodesSpec)

/-- 'windroselaw02.FrameDecodes', WHERE WHAT IT READS IS OF BULK AT MOST 1048576: true; the input reads as it did. -/
def frameDecodesUptoRow : OpenClaim := { program := "ytlpohipneianjaa", sum := "4545266ba609cc49179f55a7e29ab6966ec18e6056a3c0ec1abcba2ff1d1f916", func := "windrose/windroselaw02.FrameDecodes", spec := "frameDecodes", recurses := true, apart := false, narrowed := true }
def FrameDecodesUptoSaid : Prop := frameDecodesUptoRow.holds Try.pinned (OpenSpec.upto frameDecodesSpec)

/-- 'windroselaw11.BlockPacks', WHERE WHAT IT READS IS OF BULK AT MOST 1048576: true; the input reads as it did. -/
def blockPacksUptoRow : OpenClaim := { program := "ytlpohipneianjaa", sum := "4545266ba609cc49179f55a7e29ab6966ec18e6056a3c0ec1abcba2ff1d1f916", func := "windrose/windroselaw11.BlockPacks", spec := "blockPacks", unfollowed := true, recurses := true, apart := false, narrowed := true }
def BlockPacksUptoSaid : Prop := blockPacksUptoRow.holds Try.pinned (OpenSpec.upto blockPacksSpec)

/-- 'windroselaw02.FrameBursts', WHERE WHAT IT READS IS OF BULK AT MOST 1048576: true; the input reads as it did. -/
def frameBurstsUptoRow : OpenClaim := { program := "ytlpohipneianjaa", sum := "4545266ba609cc49179f55a7e29ab6966ec18e6056a3c0ec1abcba2ff1d1f916", func := "windrose/windroselaw02.FrameBursts", spec := "frameBursts", recurses := true, apart := false, narrowed := true }
def FrameBurstsUptoSaid : Prop := frameBurstsUptoRow.holds Try.pinned (OpenSpec.upto frameBurstsSpec)

/-- 'windroselaw02.FrameRows', WHERE WHAT IT READS IS OF BULK AT MOST 1048576: true; the input reads as it did. -/
def frameRowsUptoRow : OpenClaim := { program := "ytlpohipneianjaa", sum := "4545266ba609cc49179f55a7e29ab6966ec18e6056a3c0ec1abcba2ff1d1f916", func := "windrose/windroselaw02.FrameRows", spec := "frameRows", recurses := true, apart := false, narrowed := true }
def FrameRowsUptoSaid : Prop := frameRowsUptoRow.holds Try.pinned (OpenSpec.upto frameRowsSpec)

/-- 'windroselaw02.FrameCuts', WHERE WHAT IT READS IS OF BULK AT MOST 1048576: true; the input reads as it did. -/
def frameCutsUptoRow : OpenClaim := { program := "ytlpohipneianjaa", sum := "4545266ba609cc49179f55a7e29ab6966ec18e6056a3c0ec1abcba2ff1d1f916", func := "windrose/windroselaw02.FrameCuts", spec := "frameCuts", recurses := true, apart := false, narrowed := true }
def FrameCutsUptoSaid : Prop := frameCutsUptoRow.holds Try.pinned (OpenSpec.upto frameCutsSpec)

end Rows
end Go.Proofs.Ytlpohipneianjaa
