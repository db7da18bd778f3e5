/-
  No cell of these rows narrows 'for every input' (looked for: loops, veiled, ifaces, maps, wideKeys, modest, calm, conditions, laid).
  DERIVED. THE GIVEN ROWS OF THIS SEAT. 12 by the template 'for every input the law returns true; each argument reads behind the call as it read before'; 0 by the template 'total and deterministic' (their statements: YtmddmbagehjdeaaTotals.lean).
  GIVEN WITH THE SEED: the statements are not yours to turn. If you find one false, say at which input.
  Laid BY PROGRAM, IN A SANDBOX (cutbox-rows.mjs): the forced cells as the released guide's own fill.sh prints them over the translation dfa7b2d897b71ff3… (all of the seat's roots in one cut). By AI agents, Wed Nov 11 2026. No macro, syntax, notation, axiom, sorry.
-/
import Derived.Test.YtmddmbagehjdeaaChecked
import GoSem.Claim
import GoSem.ClaimJoined
import GoSem.ClaimMapViews
import Derived.JoinedTies
import Derived.KernelRfl
namespace Go.Proofs.Ytmddmbagehjdeaa
/- THE CELL 'sum', in the pinned program and in every row, IS THE sha256 OF THE DUMP (.gsa) THAT YtmddmbagehjdeaaProg.lean LOADS. Nothing in Lean hashes anything: it is a label: what it is worth is what the hold of that sum in a sandbox is worth. -/
noncomputable def Try.pinned : Pinned := { name := "ytmddmbagehjdeaa", sum := "dfa7b2d897b71ff30956533e41b9639e595331e92573e377711515b64a402876", checked := Try.checked }
namespace Rows
def none {H : Type} : Left H := { results := [], args := [] }

/-- 'windroselaw17.BitsRows': WHATEVER THE INPUT: true; the input reads as it did. -/
def bitsRowsSpec : ChangeSpec := { name := "bitsRows", fn := fun _ => fun
  | [d] => { results := [.lit (.bool true)], args := [d] }
  | _ => none }
def bitsRowsRow : OpenClaim := { program := "ytmddmbagehjdeaa", sum := "dfa7b2d897b71ff30956533e41b9639e595331e92573e377711515b64a402876", func := "windrose/windroselaw17.BitsRows", spec := "bitsRows", apart := false }
def BitsRowsSaid : Prop := bitsRowsRow.holds Try.pinned (OpenSpec.ofChange bitsRowsSpec)

/-- ITS FALSE NEIGHBOUR: 'it returns false'. Refute it at one input. -/
def bitsRowsWrong : ChangeSpec := { name := "bitsRows", fn := fun _ => fun
  | [d] => { results := [.lit (.bool false)], args := [d] }
  | _ => none }
def BitsRowsWrongFalsely : Prop := bitsRowsRow.holds Try.pinned (OpenSpec.ofChange bitsRowsWrong)

/-- 'windroselaw17.BitsReads': WHATEVER THE INPUT: true; the input reads as it did. -/
def bitsReadsSpec : ChangeSpec := { name := "bitsReads", fn := fun _ => fun
  | [d1, d2] => { results := [.lit (.bool true)], args := [d1, d2] }
  | _ => none }
def bitsReadsRow : OpenClaim := { program := "ytmddmbagehjdeaa", sum := "dfa7b2d897b71ff30956533e41b9639e595331e92573e377711515b64a402876", func := "windrose/windroselaw17.BitsReads", spec := "bitsReads", apart := false }
def BitsReadsSaid : Prop := bitsReadsRow.holds Try.pinned (OpenSpec.ofChange bitsReadsSpec)

/-- ITS FALSE NEIGHBOUR: 'it returns false'. Refute it at one input. -/
def bitsReadsWrong : ChangeSpec := { name := "bitsReads", fn := fun _ => fun
  | [d1, d2] => { results := [.lit (.bool false)], args := [d1, d2] }
  | _ => none }
def BitsReadsWrongFalsely : Prop := bitsReadsRow.holds Try.pinned (OpenSpec.ofChange bitsReadsWrong)

/-- 'windroselaw17.BitsNobody': WHATEVER THE INPUT: true; the input reads as it did. -/
def bitsNobodySpec : ChangeSpec := { name := "bitsNobody", fn := fun _ => fun
  | [d] => { results := [.lit (.bool true)], args := [d] }
  | _ => none }
def bitsNobodyRow : OpenClaim := { program := "ytmddmbagehjdeaa", sum := "dfa7b2d897b71ff30956533e41b9639e595331e92573e377711515b64a402876", func := "windrose/windroselaw17.BitsNobody", spec := "bitsNobody", apart := false }
def BitsNobodySaid : Prop := bitsNobodyRow.holds Try.pinned (OpenSpec.ofChange bitsNobodySpec)

/-- ITS FALSE NEIGHBOUR: 'it returns false'. Refute it at one input. -/
def bitsNobodyWrong : ChangeSpec := { name := "bitsNobody", fn := fun _ => fun
  | [d] => { results := [.lit (.bool false)], args := [d] }
  | _ => none }
def BitsNobodyWrongFalsely : Prop := bitsNobodyRow.holds Try.pinned (OpenSpec.ofChange bitsNobodyWrong)

/-- 'windroselaw17.BitsPuts': WHATEVER THE INPUT: true; the input reads as it did. -/
def bitsPutsSpec : ChangeSpec := { name := "bitsPuts", fn := fun _ => fun
  | [d1, d2, d3] => { results := [.lit (.bool true)], args := [d1, d2, d3] }
  | _ => none }
def bitsPutsRow : OpenClaim := { program := "ytmddmbagehjdeaa", sum := "dfa7b2d897b71ff30956533e41b9639e595331e92573e377711515b64a402876", func := "windrose/windroselaw17.BitsPuts", spec := "bitsPuts", apart := false }
def BitsPutsSaid : Prop := bitsPutsRow.holds Try.pinned (OpenSpec.ofChange bitsPutsSpec)

/-- ITS FALSE NEIGHBOUR: 'it returns false'. Refute it at one input. -/
def bitsPutsWrong : ChangeSpec := { name := "bitsPuts", fn := fun _ => fun
  | [d1, d2, d3] => { results := [.lit (.bool false)], args := [d1, d2, d3] }
  | _ => none }
def BitsPutsWrongFalsely : Prop := bitsPutsRow.holds Try.pinned (OpenSpec.ofChange bitsPutsWrong)

/-- 'windroselaw17.BitsFull': WHATEVER THE INPUT: true; the input reads as it did. -/
def bitsFullSpec : ChangeSpec := { name := "bitsFull", fn := fun _ => fun
  | [d1, d2] => { results := [.lit (.bool true)], args := [d1, d2] }
  | _ => none }
def bitsFullRow : OpenClaim := { program := "ytmddmbagehjdeaa", sum := "dfa7b2d897b71ff30956533e41b9639e595331e92573e377711515b64a402876", func := "windrose/windroselaw17.BitsFull", spec := "bitsFull", apart := false }
def BitsFullSaid : Prop := bitsFullRow.holds Try.pinned (OpenSpec.ofChange bitsFullSpec)

/-- ITS FALSE NEIGHBOUR: 'it returns false'. Refute it at one input. -/
def bitsFullWrong : ChangeSpec := { name := "bitsFull", fn := fun _ => fun
  | [d1, d2] => { results := [.lit (.bool false)], args := [d1, d2] }
  | _ => none }
def BitsFullWrongFalsely : Prop := bitsFullRow.holds Try.pinned (OpenSpec.ofChange bitsFullWrong)

/-- 'windroselaw18.GorillaEven': WHATEVER THE INPUT: true; the input reads as it did. -/
def gorillaEvenSpec : ChangeSpec := { name := "gorillaEven", fn := fun _ => fun
  | [d1, d2] => { results := [.lit (.bool true)], args := [d1, d2] }
  | _ => none }
def gorillaEvenRow : OpenClaim := { program := "ytmddmbagehjdeaa", sum := "dfa7b2d897b71ff30956533e41b9639e595331e92573e377711515b64a402876", func := "windrose/windroselaw18.GorillaEven", spec := "gorillaEven", unfollowed := true, recurses := true, apart := false }
def GorillaEvenSaid : Prop := gorillaEvenRow.holds Try.pinned (OpenSpec.ofChange gorillaEvenSpec)

/-- ITS FALSE NEIGHBOUR: 'it returns false'. Refute it at one input. -/
def gorillaEvenWrong : ChangeSpec := { name := "gorillaEven", fn := fun _ => fun
  | [d1, d2] => { results := [.lit (.bool false)], args := [d1, d2] }
  | _ => none }
def GorillaEvenWrongFalsely : Prop := gorillaEvenRow.holds Try.pinned (OpenSpec.ofChange gorillaEvenWrong)

/-- 'windroselaw18.GorillaBuilds': WHATEVER THE INPUT: true; the input reads as it did. -/
def gorillaBuildsSpec : ChangeSpec := { name := "gorillaBuilds", fn := fun _ => fun
  | [d] => { results := [.lit (.bool true)], args := [d] }
  | _ => none }
def gorillaBuildsRow : OpenClaim := { program := "ytmddmbagehjdeaa", sum := "dfa7b2d897b71ff30956533e41b9639e595331e92573e377711515b64a402876", func := "windrose/windroselaw18.GorillaBuilds", spec := "gorillaBuilds", unfollowed := true, recurses := true, apart := false }
def GorillaBuildsSaid : Prop := gorillaBuildsRow.holds Try.pinned (OpenSpec.ofChange gorillaBuildsSpec)

/-- ITS FALSE NEIGHBOUR: 'it returns false'. Refute it at one input. -/
def gorillaBuildsWrong : ChangeSpec := { name := "gorillaBuilds", fn := fun _ => fun
  | [d] => { results := [.lit (.bool false)], args := [d] }
  | _ => none }
def GorillaBuildsWrongFalsely : Prop := gorillaBuildsRow.holds Try.pinned (OpenSpec.ofChange gorillaBuildsWrong)

/-- 'windroselaw18.GorillaNobody': WHATEVER THE INPUT: true; the input reads as it did. -/
def gorillaNobodySpec : ChangeSpec := { name := "gorillaNobody", fn := fun _ => fun
  | [d] => { results := [.lit (.bool true)], args := [d] }
  | _ => none }
def gorillaNobodyRow : OpenClaim := { program := "ytmddmbagehjdeaa", sum := "dfa7b2d897b71ff30956533e41b9639e595331e92573e377711515b64a402876", func := "windrose/windroselaw18.GorillaNobody", spec := "gorillaNobody", unfollowed := true, recurses := true, apart := false }
def GorillaNobodySaid : Prop := gorillaNobodyRow.holds Try.pinned (OpenSpec.ofChange gorillaNobodySpec)

/-- ITS FALSE NEIGHBOUR: 'it returns false'. Refute it at one input. -/
def gorillaNobodyWrong : ChangeSpec := { name := "gorillaNobody", fn := fun _ => fun
  | [d] => { results := [.lit (.bool false)], args := [d] }
  | _ => none }
def GorillaNobodyWrongFalsely : Prop := gorillaNobodyRow.holds Try.pinned (OpenSpec.ofChange gorillaNobodyWrong)

/-- 'windroselaw18.GorillaAppends': WHATEVER THE INPUT: true; the input reads as it did. -/
def gorillaAppendsSpec : ChangeSpec := { name := "gorillaAppends", fn := fun _ => fun
  | [d1, d2] => { results := [.lit (.bool true)], args := [d1, d2] }
  | _ => none }
def gorillaAppendsRow : OpenClaim := { program := "ytmddmbagehjdeaa", sum := "dfa7b2d897b71ff30956533e41b9639e595331e92573e377711515b64a402876", func := "windrose/windroselaw18.GorillaAppends", spec := "gorillaAppends", unfollowed := true, recurses := true, apart := false }
def GorillaAppendsSaid : Prop := gorillaAppendsRow.holds Try.pinned (OpenSpec.ofChange gorillaAppendsSpec)

/-- ITS FALSE NEIGHBOUR: 'it returns false'. Refute it at one input. -/
def gorillaAppendsWrong : ChangeSpec := { name := "gorillaAppends", fn := fun _ => fun
  | [d1, d2] => { results := [.lit (.bool false)], args := [d1, d2] }
  | _ => none }
def GorillaAppendsWrongFalsely : Prop := gorillaAppendsRow.holds Try.pinned (OpenSpec.ofChange gorillaAppendsWrong)

/-- 'windroselaw18.GorillaCursors': WHATEVER THE INPUT: true; the input reads as it did. -/
def gorillaCursorsSpec : ChangeSpec := { name := "gorillaCursors", fn := fun _ => fun
  | [d1, d2] => { results := [.lit (.bool true)], args := [d1, d2] }
  | _ => none }
def gorillaCursorsRow : OpenClaim := { program := "ytmddmbagehjdeaa", sum := "dfa7b2d897b71ff30956533e41b9639e595331e92573e377711515b64a402876", func := "windrose/windroselaw18.GorillaCursors", spec := "gorillaCursors", unfollowed := true, recurses := true, apart := false }
def GorillaCursorsSaid : Prop := gorillaCursorsRow.holds Try.pinned (OpenSpec.ofChange gorillaCursorsSpec)

/-- ITS FALSE NEIGHBOUR: 'it returns false'. Refute it at one input. -/
def gorillaCursorsWrong : ChangeSpec := { name := "gorillaCursors", fn := fun _ => fun
  | [d1, d2] => { results := [.lit (.bool false)], args := [d1, d2] }
  | _ => none }
def GorillaCursorsWrongFalsely : Prop := gorillaCursorsRow.holds Try.pinned (OpenSpec.ofChange gorillaCursorsWrong)

/-- 'windroselaw18.GorillaDatas': WHATEVER THE INPUT: true; the input reads as it did. -/
def gorillaDatasSpec : ChangeSpec := { name := "gorillaDatas", fn := fun _ => fun
  | [d1, d2] => { results := [.lit (.bool true)], args := [d1, d2] }
  | _ => none }
def gorillaDatasRow : OpenClaim := { program := "ytmddmbagehjdeaa", sum := "dfa7b2d897b71ff30956533e41b9639e595331e92573e377711515b64a402876", func := "windrose/windroselaw18.GorillaDatas", spec := "gorillaDatas", unfollowed := true, recurses := true, apart := false }
def GorillaDatasSaid : Prop := gorillaDatasRow.holds Try.pinned (OpenSpec.ofChange gorillaDatasSpec)

/-- ITS FALSE NEIGHBOUR: 'it returns false'. Refute it at one input. -/
def gorillaDatasWrong : ChangeSpec := { name := "gorillaDatas", fn := fun _ => fun
  | [d1, d2] => { results := [.lit (.bool false)], args := [d1, d2] }
  | _ => none }
def GorillaDatasWrongFalsely : Prop := gorillaDatasRow.holds Try.pinned (OpenSpec.ofChange gorillaDatasWrong)

/-- 'windroselaw18.GorillaReads': WHATEVER THE INPUT: true; the input reads as it did. -/
def gorillaReadsSpec : ChangeSpec := { name := "gorillaReads", fn := fun _ => fun
  | [d1, d2, d3] => { results := [.lit (.bool true)], args := [d1, d2, d3] }
  | _ => none }
def gorillaReadsRow : OpenClaim := { program := "ytmddmbagehjdeaa", sum := "dfa7b2d897b71ff30956533e41b9639e595331e92573e377711515b64a402876", func := "windrose/windroselaw18.GorillaReads", spec := "gorillaReads", unfollowed := true, recurses := true, apart := false }
def GorillaReadsSaid : Prop := gorillaReadsRow.holds Try.pinned (OpenSpec.ofChange gorillaReadsSpec)

/-- ITS FALSE NEIGHBOUR: 'it returns false'. Refute it at one input. -/
def gorillaReadsWrong : ChangeSpec := { name := "gorillaReads", fn := fun _ => fun
  | [d1, d2, d3] => { results := [.lit (.bool false)], args := [d1, d2, d3] }
  | _ => none }
def GorillaReadsWrongFalsely : Prop := gorillaReadsRow.holds Try.pinned (OpenSpec.ofChange gorillaReadsWrong)

/- THE SECOND FORM. 'bulk': how many values and letters a reading holds, each counted each time it is reached (what is shared counts as often as it is met; a slice's spare places count too). A statement '..UptoSaid' is the law's where the arguments, and the package variables that the reading takes, are together of bulk at most 1048576: NARROWER than '..Said'. Prove '..Said' where nothing that the law and all that it calls make is longer than what came in: it says more and counts as full. Else prove '..UptoSaid'. A law counts once. -/
mutual
def uptoBulk {H : Type} : DataW H → Nat
  | .lit (.string bytes) => bytes.length + 1
  | .lit _ => 1
  | .nil => 1
  | .ptr d => uptoBulk d + 1
  | .slice elems spare => uptoBulkAll elems + uptoBulkAll spare + 1
  | .agg parts => uptoBulkAll parts + 1
  | .iface _ d => uptoBulk d + 1
  | .map entries => uptoBulkEntries entries + 1
  | .held _ => 1
def uptoBulkAll {H : Type} : List (DataW H) → Nat
  | [] => 0
  | d :: r => uptoBulk d + uptoBulkAll r
def uptoBulkEntries {H : Type} : List (Lit × DataW H) → Nat
  | [] => 0
  | x :: r => uptoBulkEntry x + uptoBulkEntries r
def uptoBulkEntry {H : Type} : Lit × DataW H → Nat
  | (.string bytes, d) => bytes.length + uptoBulk d + 1
  | (_, d) => uptoBulk d + 1
 end
def uptoSmall : (H : Type) → List (DataW H) → Bool := fun _ ds => decide (uptoBulkAll ds ≤ 1048576)
def OpenSpec.upto (s : _root_.Go.ChangeSpec) : _root_.Go.OpenSpec := { _root_.Go.OpenSpec.ofChange s with cond := some uptoSmall }

/-- 'windroselaw17.BitsRows', WHERE WHAT IT READS IS OF BULK AT MOST 1048576: true; the input reads as it did. -/
def bitsRowsUptoRow : OpenClaim := { program := "ytmddmbagehjdeaa", sum := "dfa7b2d897b71ff30956533e41b9639e595331e92573e377711515b64a402876", func := "windrose/windroselaw17.BitsRows", spec := "bitsRows", apart := false, narrowed := true }
def BitsRowsUptoSaid : Prop := bitsRowsUptoRow.holds Try.pinned (OpenSpec.upto bitsRowsSpec)

/-- 'windroselaw17.BitsReads', WHERE WHAT IT READS IS OF BULK AT MOST 1048576: true; the input reads as it did. -/
def bitsReadsUptoRow : OpenClaim := { program := "ytmddmbagehjdeaa", sum := "dfa7b2d897b71ff30956533e41b9639e595331e92573e377711515b64a402876", func := "windrose/windroselaw17.BitsReads", spec := "bitsReads", apart := false, narrowed := true }
def BitsReadsUptoSaid : Prop := bitsReadsUptoRow.holds Try.pinned (OpenSpec.upto bitsReadsSpec)

/-- 'windroselaw17.BitsNobody', WHERE WHAT IT READS IS OF BULK AT MOST 1048576: true; the input reads as it did. -/
def bitsNobodyUptoRow : OpenClaim := { program := "ytmddmbagehjdeaa", sum := "dfa7b2d897b71ff30956533e41b9639e595331e92573e377711515b64a402876", func := "windrose/windroselaw17.BitsNobody", spec := "bitsNobody", apart := false, narrowed := true }
def BitsNobodyUptoSaid : Prop := bitsNobodyUptoRow.holds Try.pinned (OpenSpec.upto bitsNobodySpec)

/-- 'windroselaw17.BitsPuts', WHERE WHAT IT READS IS OF BULK AT MOST 1048576: true; the input reads as it did. -/
def bitsPutsUptoRow : OpenClaim := { program := "ytmddmbagehjdeaa", sum := "dfa7b2d897b71ff30956533e41b9639e595331e92573e377711515b64a402876", func := "windrose/windroselaw17.BitsPuts", spec := "bitsPuts", apart := false, narrowed := true }
def BitsPutsUptoSaid : Prop := bitsPutsUptoRow.holds Try.pinned (OpenSpec.upto bitsPutsSpec)

/-- 'windroselaw17.BitsFull', WHERE WHAT IT READS IS OF BULK AT MOST 1048576: true; the input reads as it did. -/
def bitsFullUptoRow : OpenClaim := { program := "ytmddmbagehjdeaa", sum := "dfa7b2d897b71ff30956533e41b9639e595331e92573e377711515b64a402876", func := "windrose/windroselaw17.BitsFull", spec := "bitsFull", apart := false, narrowed := true }
def BitsFullUptoSaid : Prop := bitsFullUptoRow.holds Try.pinned (OpenSpec.upto bitsFullSpec)

/-- 'windroselaw18.GorillaEven', WHERE WHAT IT READS IS OF BULK AT MOST 1048576: true; the input reads as it did. -/
def gorillaEvenUptoRow : OpenClaim := { program := "ytmddmbagehjdeaa", sum := "dfa7b2d897b71ff30956533e41b9639e595331e92573e377711515b64a402876", func := "windrose/windroselaw18.GorillaEven", spec := "gorillaEven", unfollowed := true, recurses := true, apart := false, narrowed := true }
def GorillaEvenUptoSaid : Prop := gorillaEvenUptoRow.holds Try.pinned (OpenSpec.upto gorillaEvenSpec)

/-- 'windroselaw18.GorillaBuilds', WHERE WHAT IT READS IS OF BULK AT MOST 1048576: true; the input reads as it did. -/
def gorillaBuildsUptoRow : OpenClaim := { program := "ytmddmbagehjdeaa", sum := "dfa7b2d897b71ff30956533e41b9639e595331e92573e377711515b64a402876", func := "windrose/windroselaw18.GorillaBuilds", spec := "gorillaBuilds", unfollowed := true, recurses := true, apart := false, narrowed := true }
def GorillaBuildsUptoSaid : Prop := gorillaBuildsUptoRow.holds Try.pinned (OpenSpec.upto gorillaBuildsSpec)

/-- 'windroselaw18.GorillaNobody', WHERE WHAT IT READS IS OF BULK AT MOST 1048576: true; the input reads as it did. -/
def gorillaNobodyUptoRow : OpenClaim := { program := "ytmddmbagehjdeaa", sum := "dfa7b2d897b71ff30956533e41b9639e595331e92573e377711515b64a402876", func := "windrose/windroselaw18.GorillaNobody", spec := "gorillaNobody", unfollowed := true, recurses := true, apart := false, narrowed := true }
def GorillaNobodyUptoSaid : Prop := gorillaNobodyUptoRow.holds Try.pinned (OpenSpec.upto gorillaNobodySpec)

/-- 'windroselaw18.GorillaAppends', WHERE WHAT IT READS IS OF BULK AT MOST 1048576: true; the input reads as it did. -/
def gorillaAppendsUptoRow : OpenClaim := { program := "ytmddmbagehjdeaa", sum := "dfa7b2d897b71ff30956533e41b9639e595331e92573e377711515b64a402876", func := "windrose/windroselaw18.GorillaAppends", spec := "gorillaAppends", unfollowed := true, recurses := true, apart := false, narrowed := true }
def GorillaAppendsUptoSaid : Prop := gorillaAppendsUptoRow.holds Try.pinned (OpenSpec.upto gorillaAppendsSpec)

/-- 'windroselaw18.GorillaCursors', WHERE WHAT IT READS IS OF BULK AT MOST 1048576: true; the input reads as it did. -/
def gorillaCursorsUptoRow : OpenClaim := { program := "ytmddmbagehjdeaa", sum := "dfa7b2d897b71ff30956533e41b9639e595331e92573e377711515b64a402876", func := "windrose/windroselaw18.GorillaCursors", spec := "gorillaCursors", unfollowed := true, recurses := true, apart := false, narrowed := true }
def GorillaCursorsUptoSaid : Prop := gorillaCursorsUptoRow.holds Try.pinned (OpenSpec.upto gorillaCursorsSpec)

/-- 'windroselaw18.GorillaDatas', WHERE WHAT IT READS IS OF BULK AT MOST 1048576: true; the input reads as it did. -/
def gorillaDatasUptoRow : OpenClaim := { program := "ytmddmbagehjdeaa", sum := "dfa7b2d897b71ff30956533e41b9639e595331e92573e377711515b64a402876", func := "windrose/windroselaw18.GorillaDatas", spec := "gorillaDatas", unfollowed := true, recurses := true, apart := false, narrowed := true }
def GorillaDatasUptoSaid : Prop := gorillaDatasUptoRow.holds Try.pinned (OpenSpec.upto gorillaDatasSpec)

/-- 'windroselaw18.GorillaReads', WHERE WHAT IT READS IS OF BULK AT MOST 1048576: true; the input reads as it did. -/
def gorillaReadsUptoRow : OpenClaim := { program := "ytmddmbagehjdeaa", sum := "dfa7b2d897b71ff30956533e41b9639e595331e92573e377711515b64a402876", func := "windrose/windroselaw18.GorillaReads", spec := "gorillaReads", unfollowed := true, recurses := true, apart := false, narrowed := true }
def GorillaReadsUptoSaid : Prop := gorillaReadsUptoRow.holds Try.pinned (OpenSpec.upto gorillaReadsSpec)

end Rows
end Go.Proofs.Ytmddmbagehjdeaa
