/-
  No cell of these rows narrows 'for every input' (looked for: loops, veiled, ifaces, maps, wideKeys, modest, calm, conditions, laid).
  DERIVED. THE GIVEN ROWS OF THIS SEAT. 7 by the template 'for every input the law returns true; each argument reads behind the call as it read before'; 0 by the template 'total and deterministic' (their statements: YtfmdllbkfpbdcaaTotals.lean).
  GIVEN WITH THE SEED: the statements are not yours to turn. If you find one false, say at which input.
  Laid BY PROGRAM, IN A SANDBOX (cutbox-rows.mjs): the forced cells as the released guide's own fill.sh prints them over the translation 1126266847f1356a… (all of the seat's roots in one cut). By AI agents, Wed Nov 11 2026. No macro, syntax, notation, axiom, sorry.
-/
import Derived.Test.YtfmdllbkfpbdcaaChecked
import GoSem.Claim
import GoSem.ClaimJoined
import GoSem.ClaimMapViews
import Derived.JoinedTies
import Derived.KernelRfl
namespace Go.Proofs.Ytfmdllbkfpbdcaa
/- THE CELL 'sum', in the pinned program and in every row, IS THE sha256 OF THE DUMP (.gsa) THAT YtfmdllbkfpbdcaaProg.lean LOADS. Nothing in Lean hashes anything: it is a label: what it is worth is what the hold of that sum in a sandbox is worth. -/
noncomputable def Try.pinned : Pinned := { name := "ytfmdllbkfpbdcaa", sum := "1126266847f1356a626ea1e1fe5c18ab9ecb222f48e1527b226ac4e7b280c95e", checked := Try.checked }
namespace Rows
def none {H : Type} : Left H := { results := [], args := [] }

/-- 'windroselaw09.DrumKeeps': WHATEVER THE INPUT: true; the input reads as it did. -/
def drumKeepsSpec : ChangeSpec := { name := "drumKeeps", fn := fun _ => fun
  | [d1, d2, d3] => { results := [.lit (.bool true)], args := [d1, d2, d3] }
  | _ => none }
def drumKeepsRow : OpenClaim := { program := "ytfmdllbkfpbdcaa", sum := "1126266847f1356a626ea1e1fe5c18ab9ecb222f48e1527b226ac4e7b280c95e", func := "windrose/windroselaw09.DrumKeeps", spec := "drumKeeps", unfollowed := true, recurses := true, apart := false }
def DrumKeepsSaid : Prop := drumKeepsRow.holds Try.pinned (OpenSpec.ofChange drumKeepsSpec)

/-- ITS FALSE NEIGHBOUR: 'it returns false'. Refute it at one input. -/
def drumKeepsWrong : ChangeSpec := { name := "drumKeeps", fn := fun _ => fun
  | [d1, d2, d3] => { results := [.lit (.bool false)], args := [d1, d2, d3] }
  | _ => none }
def DrumKeepsWrongFalsely : Prop := drumKeepsRow.holds Try.pinned (OpenSpec.ofChange drumKeepsWrong)

/-- 'windroselaw09.DrumNew': WHATEVER THE INPUT: true; the input reads as it did. -/
def drumNewSpec : ChangeSpec := { name := "drumNew", fn := fun _ => fun
  | [d] => { results := [.lit (.bool true)], args := [d] }
  | _ => none }
def drumNewRow : OpenClaim := { program := "ytfmdllbkfpbdcaa", sum := "1126266847f1356a626ea1e1fe5c18ab9ecb222f48e1527b226ac4e7b280c95e", func := "windrose/windroselaw09.DrumNew", spec := "drumNew", unfollowed := true, recurses := true, apart := false }
def DrumNewSaid : Prop := drumNewRow.holds Try.pinned (OpenSpec.ofChange drumNewSpec)

/-- ITS FALSE NEIGHBOUR: 'it returns false'. Refute it at one input. -/
def drumNewWrong : ChangeSpec := { name := "drumNew", fn := fun _ => fun
  | [d] => { results := [.lit (.bool false)], args := [d] }
  | _ => none }
def DrumNewWrongFalsely : Prop := drumNewRow.holds Try.pinned (OpenSpec.ofChange drumNewWrong)

/-- 'windroselaw09.DrumNobody': WHATEVER THE INPUT: true; the input reads as it did. -/
def drumNobodySpec : ChangeSpec := { name := "drumNobody", fn := fun _ => fun
  | [d] => { results := [.lit (.bool true)], args := [d] }
  | _ => none }
def drumNobodyRow : OpenClaim := { program := "ytfmdllbkfpbdcaa", sum := "1126266847f1356a626ea1e1fe5c18ab9ecb222f48e1527b226ac4e7b280c95e", func := "windrose/windroselaw09.DrumNobody", spec := "drumNobody", unfollowed := true, recurses := true, apart := false }
def DrumNobodySaid : Prop := drumNobodyRow.holds Try.pinned (OpenSpec.ofChange drumNobodySpec)

/-- ITS FALSE NEIGHBOUR: 'it returns false'. Refute it at one input. -/
def drumNobodyWrong : ChangeSpec := { name := "drumNobody", fn := fun _ => fun
  | [d] => { results := [.lit (.bool false)], args := [d] }
  | _ => none }
def DrumNobodyWrongFalsely : Prop := drumNobodyRow.holds Try.pinned (OpenSpec.ofChange drumNobodyWrong)

/-- 'windroselaw10.JournalNobody': WHATEVER THE INPUT: true; the input reads as it did. -/
def journalNobodySpec : ChangeSpec := { name := "journalNobody", fn := fun _ => fun
  | [d] => { results := [.lit (.bool true)], args := [d] }
  | _ => none }
def journalNobodyRow : OpenClaim := { program := "ytfmdllbkfpbdcaa", sum := "1126266847f1356a626ea1e1fe5c18ab9ecb222f48e1527b226ac4e7b280c95e", func := "windrose/windroselaw10.JournalNobody", spec := "journalNobody", unfollowed := true, recurses := true, apart := false }
def JournalNobodySaid : Prop := journalNobodyRow.holds Try.pinned (OpenSpec.ofChange journalNobodySpec)

/-- ITS FALSE NEIGHBOUR: 'it returns false'. Refute it at one input. -/
def journalNobodyWrong : ChangeSpec := { name := "journalNobody", fn := fun _ => fun
  | [d] => { results := [.lit (.bool false)], args := [d] }
  | _ => none }
def JournalNobodyWrongFalsely : Prop := journalNobodyRow.holds Try.pinned (OpenSpec.ofChange journalNobodyWrong)

/-- 'windroselaw10.JournalWhole': WHATEVER THE INPUT: true; the input reads as it did. -/
def journalWholeSpec : ChangeSpec := { name := "journalWhole", fn := fun _ => fun
  | [d1, d2, d3] => { results := [.lit (.bool true)], args := [d1, d2, d3] }
  | _ => none }
def journalWholeRow : OpenClaim := { program := "ytfmdllbkfpbdcaa", sum := "1126266847f1356a626ea1e1fe5c18ab9ecb222f48e1527b226ac4e7b280c95e", func := "windrose/windroselaw10.JournalWhole", spec := "journalWhole", unfollowed := true, recurses := true, apart := false }
def JournalWholeSaid : Prop := journalWholeRow.holds Try.pinned (OpenSpec.ofChange journalWholeSpec)

/-- ITS FALSE NEIGHBOUR: 'it returns false'. Refute it at one input. -/
def journalWholeWrong : ChangeSpec := { name := "journalWhole", fn := fun _ => fun
  | [d1, d2, d3] => { results := [.lit (.bool false)], args := [d1, d2, d3] }
  | _ => none }
def JournalWholeWrongFalsely : Prop := journalWholeRow.holds Try.pinned (OpenSpec.ofChange journalWholeWrong)

/-- 'windroselaw10.JournalActs': WHATEVER THE INPUT: true; the input reads as it did. -/
def journalActsSpec : ChangeSpec := { name := "journalActs", fn := fun _ => fun
  | [d1, d2] => { results := [.lit (.bool true)], args := [d1, d2] }
  | _ => none }
def journalActsRow : OpenClaim := { program := "ytfmdllbkfpbdcaa", sum := "1126266847f1356a626ea1e1fe5c18ab9ecb222f48e1527b226ac4e7b280c95e", func := "windrose/windroselaw10.JournalActs", spec := "journalActs", unfollowed := true, recurses := true, apart := false }
def JournalActsSaid : Prop := journalActsRow.holds Try.pinned (OpenSpec.ofChange journalActsSpec)

/-- ITS FALSE NEIGHBOUR: 'it returns false'. Refute it at one input. -/
def journalActsWrong : ChangeSpec := { name := "journalActs", fn := fun _ => fun
  | [d1, d2] => { results := [.lit (.bool false)], args := [d1, d2] }
  | _ => none }
def JournalActsWrongFalsely : Prop := journalActsRow.holds Try.pinned (OpenSpec.ofChange journalActsWrong)

/-- 'windroselaw10.JournalOdd': WHATEVER THE INPUT: true; the input reads as it did. -/
def journalOddSpec : ChangeSpec := { name := "journalOdd", fn := fun _ => fun
  | [d1, d2, d3] => { results := [.lit (.bool true)], args := [d1, d2, d3] }
  | _ => none }
def journalOddRow : OpenClaim := { program := "ytfmdllbkfpbdcaa", sum := "1126266847f1356a626ea1e1fe5c18ab9ecb222f48e1527b226ac4e7b280c95e", func := "windrose/windroselaw10.JournalOdd", spec := "journalOdd", unfollowed := true, recurses := true, apart := false }
def JournalOddSaid : Prop := journalOddRow.holds Try.pinned (OpenSpec.ofChange journalOddSpec)

/-- ITS FALSE NEIGHBOUR: 'it returns false'. Refute it at one input. -/
def journalOddWrong : ChangeSpec := { name := "journalOdd", fn := fun _ => fun
  | [d1, d2, d3] => { results := [.lit (.bool false)], args := [d1, d2, d3] }
  | _ => none }
def JournalOddWrongFalsely : Prop := journalOddRow.holds Try.pinned (OpenSpec.ofChange journalOddWrong)

/- THE SECOND FORM. 'bulk': how many values and letters a reading holds, each counted each time it is reached (what is shared counts as often as it is met; a slice's spare places count too). A statement '..UptoSaid' is the law's where the arguments, and the package variables that the reading takes, are together of bulk at most 1048576: NARROWER than '..Said'. Prove '..Said' where nothing that the law and all that it calls make is longer than what came in: it says more and counts as full. Else prove '..UptoSaid'. A law counts once. -/
mutual
def uptoBulk {H : Type} : DataW H → Nat
  | .lit (.string bytes) => bytes.length + 1
  | .lit _ => 1
  | .nil => 1
  | .ptr d => uptoBulk d + 1
  | .slice elems spare => uptoBulkAll elems + uptoBulkAll spare + 1
  | .agg parts => uptoBulkAll parts + 1
  | .iface _ d => uptoBulk d + 1
  | .map entries => uptoBulkEntries entries + 1
  | .held _ => 1
def uptoBulkAll {H : Type} : List (DataW H) → Nat
  | [] => 0
  | d :: r => uptoBulk d + uptoBulkAll r
def uptoBulkEntries {H : Type} : List (Lit × DataW H) → Nat
  | [] => 0
  | x :: r => uptoBulkEntry x + uptoBulkEntries r
def uptoBulkEntry {H : Type} : Lit × DataW H → Nat
  | (.string bytes, d) => bytes.length + uptoBulk d + 1
  | (_, d) => uptoBulk d + 1
 end
def uptoSmall : (H : Type) → List (DataW H) → Bool := fun _ ds => decide (uptoBulkAll ds ≤ 1048576)
def OpenSpec.upto (s : _root_.Go.ChangeSpec) : _root_.Go.OpenSpec := { _root_.Go.OpenSpec.ofChange s with cond := some uptoSmall }

/-- 'windroselaw09.DrumKeeps', WHERE WHAT IT READS IS OF BULK AT MOST 1048576: true; the input reads as it did. -/
def drumKeepsUptoRow : OpenClaim := { program := "ytfmdllbkfpbdcaa", sum := "1126266847f1356a626ea1e1fe5c18ab9ecb222f48e1527b226ac4e7b280c95e", func := "windrose/windroselaw09.DrumKeeps", spec := "drumKeeps", unfollowed := true, recurses := true, apart := false, narrowed := true }
def DrumKeepsUptoSaid : Prop := drumKeepsUptoRow.holds Try.pinned (OpenSpec.upto drumKeepsSpec)

/-- 'windroselaw09.DrumNew', WHERE WHAT IT READS IS OF BULK AT MOST 1048576: true; the input reads as it did. -/
def drumNewUptoRow : OpenClaim := { program := "ytfmdllbkfpbdcaa", sum := "1126266847f1356a626ea1e1fe5c18ab9ecb222f48e1527b226ac4e7b280c95e", func := "windrose/windroselaw09.DrumNew", spec := "drumNew", unfollowed := true, recurses := true, apart := false, narrowed := true }
def DrumNewUptoSaid : Prop := drumNewUptoRow.holds Try.pinned (OpenSpec.upto drumNewSpec)

/-- 'windroselaw09.DrumNobody', WHERE WHAT IT READS IS OF BULK AT MOST 1048576: true; the input reads as it did. -/
def drumNobodyUptoRow : OpenClaim := { program := "ytfmdllbkfpbdcaa", sum := "1126266847f1356a626ea1e1fe5c18ab9ecb222f48e1527b226ac4e7b280c95e", func := "windrose/windroselaw09.DrumNobody", spec := "drumNobody", unfollowed := true, recurses := true, apart := false, narrowed := true }
def DrumNobodyUptoSaid : Prop := drumNobodyUptoRow.holds Try.pinned (OpenSpec.upto drumNobodySpec)

/-- 'windroselaw10.JournalNobody', WHERE WHAT IT READS IS OF BULK AT MOST 1048576: true; the input reads as it did. -/
def journalNobodyUptoRow : OpenClaim := { program := "ytfmdllbkfpbdcaa", sum := "1126266847f1356a626ea1e1fe5c18ab9ecb222f48e1527b226ac4e7b280c95e", func := "windrose/windroselaw10.JournalNobody", spec := "journalNobody", unfollowed := true, recurses := true, apart := false, narrowed := true }
def JournalNobodyUptoSaid : Prop := journalNobodyUptoRow.holds Try.pinned (OpenSpec.upto journalNobodySpec)

/-- 'windroselaw10.JournalWhole', WHERE WHAT IT READS IS OF BULK AT MOST 1048576: true; the input reads as it did. -/
def journalWholeUptoRow : OpenClaim := { program := "ytfmdllbkfpbdcaa", sum := "1126266847f1356a626ea1e1fe5c18ab9ecb222f48e1527b226ac4e7b280c95e", func := "windrose/windroselaw10.JournalWhole", spec := "journalWhole", unfollowed := true, recurses := true, apart := false, narrowed := true }
def JournalWholeUptoSaid : Prop := journalWholeUptoRow.holds Try.pinned (OpenSpec.upto journalWholeSpec)

/-- 'windroselaw10.JournalActs', WHERE WHAT IT READS IS OF BULK AT MOST 1048576: true; the input reads as it did. -/
def journalActsUptoRow : OpenClaim := { program := "ytfmdllbkfpbdcaa", sum := "1126266847f1356a626ea1e1fe5c18ab9ecb222f48e1527b226ac4e7b280c95e", func := "windrose/windroselaw10.JournalActs", spec := "journalActs", unfollowed := true, recurses := true, apart := false, narrowed := true }
def JournalActsUptoSaid : Prop := journalActsUptoRow.holds Try.pinned (OpenSpec.upto journalActsSpec)

/-- 'windroselaw10.JournalOdd', WHERE WHAT IT READS IS OF BULK AT MOST 1048576: true; the input reads as it did. -/
def journalOddUptoRow : OpenClaim := { program := "ytfmdllbkfpbdcaa", sum := "1126266847f1356a626ea1e1fe5c18ab9ecb222f48e1527b226ac4e7b280c95e", func := "windrose/windroselaw10.JournalOdd", spec := "journalOdd", unfollowed := true, recurses := true, apart := false, narrowed := true }
def JournalOddUptoSaid : Prop := journalOddUptoRow.holds Try.pinned (OpenSpec.upto journalOddSpec)

end Rows
end Go.Proofs.Ytfmdllbkfpbdcaa
