/-
  No cell of these rows narrows 'for every input' (looked for: loops, veiled, ifaces, maps, wideKeys, modest, calm, conditions, laid).
  DERIVED. THE GIVEN ROWS OF THIS SEAT. 4 by the template 'for every input the law returns true; each argument reads behind the call as it read before'; 0 by the template 'total and deterministic' (their statements: YthmjfoikkfoelaaTotals.lean).
  GIVEN WITH THE SEED: the statements are not yours to turn. If you find one false, say at which input.
  Laid BY PROGRAM, IN A SANDBOX (cutbox-rows.mjs): the forced cells as the released guide's own fill.sh prints them over the translation a26069c492a4d128… (all of the seat's roots in one cut). By AI agents, Wed Nov 11 2026. No macro, syntax, notation, axiom, sorry.
-/
import Derived.Test.YthmjfoikkfoelaaChecked
import GoSem.Claim
import GoSem.ClaimJoined
import GoSem.ClaimMapViews
import Derived.JoinedTies
import Derived.KernelRfl
namespace Go.Proofs.Ythmjfoikkfoelaa
/- THE CELL 'sum', in the pinned program and in every row, IS THE sha256 OF THE DUMP (.gsa) THAT YthmjfoikkfoelaaProg.lean LOADS. Nothing in Lean hashes anything: it is a label: what it is worth is what the hold of that sum in a sandbox is worth. -/
noncomputable def Try.pinned : Pinned := { name := "ythmjfoikkfoelaa", sum := "a26069c492a4d128bdcb8146d6ca1be1beff065f664b0299fbc8db9160f5d8c1", checked := Try.checked }
namespace Rows
def none {H : Type} : Left H := { results := [], args := [] }

/-- 'windroselaw22.CompactRolls': WHATEVER THE INPUT: true; the input reads as it did. -/
def compactRollsSpec : ChangeSpec := { name := "compactRolls", fn := fun _ => fun
  | [d1, d2] => { results := [.lit (.bool true)], args := [d1, d2] }
  | _ => none }
def compactRollsRow : OpenClaim := { program := "ythmjfoikkfoelaa", sum := "a26069c492a4d128bdcb8146d6ca1be1beff065f664b0299fbc8db9160f5d8c1", func := "windrose/windroselaw22.CompactRolls", spec := "compactRolls", apart := false }
def CompactRollsSaid : Prop := compactRollsRow.holds Try.pinned (OpenSpec.ofChange compactRollsSpec)

/-- ITS FALSE NEIGHBOUR: 'it returns false'. Refute it at one input. -/
def compactRollsWrong : ChangeSpec := { name := "compactRolls", fn := fun _ => fun
  | [d1, d2] => { results := [.lit (.bool false)], args := [d1, d2] }
  | _ => none }
def CompactRollsWrongFalsely : Prop := compactRollsRow.holds Try.pinned (OpenSpec.ofChange compactRollsWrong)

/-- 'windroselaw22.CompactLays': WHATEVER THE INPUT: true; the input reads as it did. -/
def compactLaysSpec : ChangeSpec := { name := "compactLays", fn := fun _ => fun
  | [d1, d2] => { results := [.lit (.bool true)], args := [d1, d2] }
  | _ => none }
def compactLaysRow : OpenClaim := { program := "ythmjfoikkfoelaa", sum := "a26069c492a4d128bdcb8146d6ca1be1beff065f664b0299fbc8db9160f5d8c1", func := "windrose/windroselaw22.CompactLays", spec := "compactLays", apart := false }
def CompactLaysSaid : Prop := compactLaysRow.holds Try.pinned (OpenSpec.ofChange compactLaysSpec)

/-- ITS FALSE NEIGHBOUR: 'it returns false'. Refute it at one input. -/
def compactLaysWrong : ChangeSpec := { name := "compactLays", fn := fun _ => fun
  | [d1, d2] => { results := [.lit (.bool false)], args := [d1, d2] }
  | _ => none }
def CompactLaysWrongFalsely : Prop := compactLaysRow.holds Try.pinned (OpenSpec.ofChange compactLaysWrong)

/-- 'windroselaw22.CompactJoins': WHATEVER THE INPUT: true; the input reads as it did. -/
def compactJoinsSpec : ChangeSpec := { name := "compactJoins", fn := fun _ => fun
  | [d1, d2, d3] => { results := [.lit (.bool true)], args := [d1, d2, d3] }
  | _ => none }
def compactJoinsRow : OpenClaim := { program := "ythmjfoikkfoelaa", sum := "a26069c492a4d128bdcb8146d6ca1be1beff065f664b0299fbc8db9160f5d8c1", func := "windrose/windroselaw22.CompactJoins", spec := "compactJoins", apart := false }
def CompactJoinsSaid : Prop := compactJoinsRow.holds Try.pinned (OpenSpec.ofChange compactJoinsSpec)

/-- ITS FALSE NEIGHBOUR: 'it returns false'. Refute it at one input. -/
def compactJoinsWrong : ChangeSpec := { name := "compactJoins", fn := fun _ => fun
  | [d1, d2, d3] => { results := [.lit (.bool false)], args := [d1, d2, d3] }
  | _ => none }
def CompactJoinsWrongFalsely : Prop := compactJoinsRow.holds Try.pinned (OpenSpec.ofChange compactJoinsWrong)

/-- 'windroselaw22.CompactParts': WHATEVER THE INPUT: true; the input reads as it did. -/
def compactPartsSpec : ChangeSpec := { name := "compactParts", fn := fun _ => fun
  | [d1, d2, d3] => { results := [.lit (.bool true)], args := [d1, d2, d3] }
  | _ => none }
def compactPartsRow : OpenClaim := { program := "ythmjfoikkfoelaa", sum := "a26069c492a4d128bdcb8146d6ca1be1beff065f664b0299fbc8db9160f5d8c1", func := "windrose/windroselaw22.CompactParts", spec := "compactParts", apart := false }
def CompactPartsSaid : Prop := compactPartsRow.holds Try.pinned (OpenSpec.ofChange compactPartsSpec)

/-- ITS FALSE NEIGHBOUR: 'it returns false'. Refute it at one input. -/
def compactPartsWrong : ChangeSpec := { name := "compactParts", fn := fun _ => fun
  | [d1, d2, d3] => { results := [.lit (.bool false)], args := [d1, d2, d3] }
  | _ => none }
def CompactPartsWrongFalsely : Prop := compactPartsRow.holds Try.pinned (OpenSpec.ofChange compactPartsWrong)

/- THE SECOND FORM. 'bulk': how many values and letters a reading holds, each counted each time it is reached (what is shared counts as often as it is met; a slice's spare places count too). A statement '..UptoSaid' is the law's where the arguments, and the package variables that the reading takes, are together of bulk at most 1048576: NARROWER than '..Said'. Prove '..Said' where nothing that the law and all that it calls make is longer than what came in: it says more and counts as full. Else prove '..UptoSaid'. A law counts once. -/
mutual
def uptoBulk {H : Type} : DataW H → Nat
  | .lit (.string bytes) => bytes.length + 1
  | .lit _ => 1
  | .nil => 1
  | .ptr d => uptoBulk d + 1
  | .slice elems spare => uptoBulkAll elems + uptoBulkAll spare + 1
  | .agg parts => uptoBulkAll parts + 1
  | .iface _ d => uptoBulk d + 1
  | .map entries => uptoBulkEntries entries + 1
  | .held _ => 1
def uptoBulkAll {H : Type} : List (DataW H) → Nat
  | [] => 0
  | d :: r => uptoBulk d + uptoBulkAll r
def uptoBulkEntries {H : Type} : List (Lit × DataW H) → Nat
  | [] => 0
  | x :: r => uptoBulkEntry x + uptoBulkEntries r
def uptoBulkEntry {H : Type} : Lit × DataW H → Nat
  | (.string bytes, d) => bytes.length + uptoBulk d + 1
  | (_, d) => uptoBulk d + 1
 end
def uptoSmall : (H : Type) → List (DataW H) → Bool := fun _ ds => decide (uptoBulkAll ds ≤ 1048576)
def OpenSpec.upto (s : _root_.Go.ChangeSpec) : _root_.Go.OpenSpec := { _root_.Go.OpenSpec.ofChange s with cond := some uptoSmall }

/-- 'windroselaw22.CompactRolls', WHERE WHAT IT READS IS OF BULK AT MOST 1048576: true; the input reads as it did. -/
def compactRollsUptoRow : OpenClaim := { program := "ythmjfoikkfoelaa", sum := "a26069c492a4d128bdcb8146d6ca1be1beff065f664b0299fbc8db9160f5d8c1", func := "windrose/windroselaw22.CompactRolls", spec := "compactRolls", apart := false, narrowed := true }
def CompactRollsUptoSaid : Prop := compactRollsUptoRow.holds Try.pinned (OpenSpec.upto compactRollsSpec)

/-- 'windroselaw22.CompactLays', WHERE WHAT IT READS IS OF BULK AT MOST 1048576: true; the input reads as it did. -/
def compactLaysUptoRow : OpenClaim := { program := "ythmjfoikkfoelaa", sum := "a26069c492a4d128bdcb8146d6ca1be1beff065f664b0299fbc8db9160f5d8c1", func := "windrose/windroselaw22.CompactLays", spec := "compactLays", apart := false, narrowed := true }
def CompactLaysUptoSaid : Prop := compactLaysUptoRow.holds Try.pinned (OpenSpec.upto compactLaysSpec)

/-- 'windroselaw22.CompactJoins', WHERE WHAT IT READS IS OF BULK AT MOST 1048576: true; the input reads as it did. -/
def compactJoinsUptoRow : OpenClaim := { program := "ythmjfoikkfoelaa", sum := "a26069c492a4d128bdcb8146d6ca1be1beff065f664b0299fbc8db9160f5d8c1", func := "windrose/windroselaw22.CompactJoins", spec := "compactJoins", apart := false, narrowed := true }
def CompactJoinsUptoSaid : Prop := compactJoinsUptoRow.holds Try.pinned (OpenSpec.upto compactJoinsSpec)

/-- 'windroselaw22.CompactParts', WHERE WHAT IT READS IS OF BULK AT MOST 1048576: true; the input reads as it did. -/
def compactPartsUptoRow : OpenClaim := { program := "ythmjfoikkfoelaa", sum := "a26069c492a4d128bdcb8146d6ca1be1beff065f664b0299fbc8db9160f5d8c1", func := "windrose/windroselaw22.CompactParts", spec := "compactParts", apart := false, narrowed := true }
def CompactPartsUptoSaid : Prop := compactPartsUptoRow.holds Try.pinned (OpenSpec.upto compactPartsSpec)

end Rows
end Go.Proofs.Ythmjfoikkfoelaa
