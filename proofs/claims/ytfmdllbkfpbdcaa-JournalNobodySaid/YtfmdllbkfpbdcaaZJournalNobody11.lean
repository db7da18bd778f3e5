/- More lines for the row. -/
import Derived.Test.YtfmdllbkfpbdcaaZJournalNobody10
import Derived.Test.YtfmdllbkfpbdcaaRows
import Derived.ShutString
import Derived.ChangeOld
import Derived.SizedLaws
set_option linter.unusedVariables false
set_option linter.unusedSimpArgs false
section
namespace Go.Proofs.Ytfmdllbkfpbdcaa.journalNobody
open Go.ChangeShapes Go.WideShapes Go.ChangeAt Go.RowKit Go.Proofs.YtfmdllbkfpbdcaaX Go.Proofs.Ytfmdllbkfpbdcaa.G
open Go.ChangeMaps (open_string shut_string)
theorem own : ownKnob Try.prog.godebug = none := by kernel_rfl
theorem laidOut : laidOutB Try.prog = true := by kernel_rfl
set_option maxRecDepth 100000 in
theorem lifted (os : Os) (started : os.Started) (H : Type) (enc : TypeId × Value → H) :
    ReturnsInHanded {} Try.checked os 6 .any (Rows.journalNobodySpec.pre6 enc Try.prog Try.f6 Rows.journalNobodyRow.domain false) (Rows.journalNobodySpec.post enc Try.prog Try.f6 false true false false) := by
  refine returnsInHanded_of_change_sized (C := Try.checked) own started (by kernel_rfl) Try.func6
    (ChangeSpec.witness6 (enc := enc) (C := Try.checked) false ⟨#[], #[.agg #[.int .i64 0, .slice none 0 0, .slice none 0 0, .slice none 0 0, .int .i64 0, .int .i64 0, .int .i64 0, .slice none 0 0, .slice none 0 0]], []⟩ 8 (by kernel_rfl) (by kernel_rfl) (by kernel_rfl) (by kernel_rfl)) ?_
  intro W base args ds gs before hval0 hW hcnd hsz0 _
  have hval : ∀ (j : Nat) t v, Try.f6.params[j]? = some t → args[j]? = some v → Value.okWide Try.prog W .any base t v := hval0
  have hW' := hW
  obtain ⟨p, q, hA0, hV, rfl, hfz, hnd⟩ := hW
  have hA : DataW.TrodAll enc Try.prog W 0 (fun _ => true) true Try.f6.params.toList args.toList ds p := hA0
  rw [Try.params6] at hA hval
  obtain ⟨v0, vs0, d0, ds0, p0, q0, hargs, rfl, rfl, h0, r0⟩ := trodAll_cons hA
  obtain ⟨rfl, rfl, rfl⟩ := trodAll_nil r0
  obtain rfl : args = #[v0] := by cases args; simp_all
  obtain ⟨rfl, rfl⟩ := trodVars_none hV
  have k0 := h0
  have lt0 : ∀ x ∈ p0, x.block < W.heap.size := by obtain ⟨m, hm⟩ := k0; exact DataW.trod_lt m _ _ _ hm
  obtain ⟨cs0, rfl, _⟩ := okWide_struct Try.underlying51 (hval 0 51 v0 rfl rfl)
  obtain ⟨fuel0, hf0⟩ := h0
  obtain ⟨⟨a0_0, ⟨l0_1, l0_2⟩, l0_3, ⟨a0_4, a0_5, a0_6, l0_7, l0_8⟩⟩, hK0, w0⟩ := (Rd.struct (fun x => x) (fun x => x) (fun _ => rfl) Try.underlying51 (RdFs.cons (Rd.int Try.underlying3) (RdFs.cons (Rd.struct (fun x => x) (fun x => x) (fun _ => rfl) Try.underlying48 (RdFs.cons (Rd.slice Try.underlying45 (by kernel_rfl) (Rd.int Try.underlying3)) (RdFs.one (Rd.slice Try.underlying46 (by kernel_rfl) (Rd.string Try.underlying9))))) (RdFs.cons (Rd.slice Try.underlying49 (by kernel_rfl) rd48) (RdFs.one (Rd.struct (fun x => x) (fun x => x) (fun _ => rfl) Try.underlying40 (RdFs.cons (Rd.int Try.underlying3) (RdFs.cons (Rd.int Try.underlying3) (RdFs.cons (Rd.int Try.underlying3) (RdFs.cons (Rd.slice Try.underlying30 (by kernel_rfl) (Rd.int Try.underlying5)) (RdFs.one (Rd.slice Try.underlying23 (by kernel_rfl) (Rd.bool Try.underlying4))))))))))))) enc W _ _ _ fuel0 _ _ hf0
  dsimp only at hK0 w0
  obtain ⟨_, _, e0, rfl, ⟨_, _, rfl, ⟨_, _, rfl, ⟨A0_1, c0_1, rfl, hc0_1, hr0_1⟩, ⟨A0_2, c0_2, rfl, hc0_2, hr0_2⟩⟩, ⟨_, _, rfl, ⟨A0_3, c0_3, rfl, hc0_3, hr0_3⟩, ⟨_, _, rfl, rfl, ⟨_, _, rfl, rfl, ⟨_, _, rfl, rfl, ⟨_, _, rfl, ⟨A0_7, c0_7, rfl, hc0_7, hr0_7⟩, ⟨A0_8, c0_8, rfl, hc0_8, hr0_8⟩⟩⟩⟩⟩⟩⟩⟩ := hK0
  obtain rfl : cs0 = #[.int .i64 a0_0, .slice A0_1 l0_1.length c0_1, .slice A0_2 l0_2.length c0_2, .slice A0_3 l0_3.length c0_3, .int .i64 a0_4, .int .i64 a0_5, .int .i64 a0_6, .slice A0_7 l0_7.length c0_7, .slice A0_8 l0_8.length c0_8] := Array.ext' (by simpa [Value.cells] using e0)
  clear hA0 hval0 hsz0
  obtain ⟨k, h⟩ := Q.JournalNobody a0_0 l0_1 l0_2 l0_3 a0_4 a0_5 a0_6 l0_7 l0_8 w0
  refine (windroselaw10_JournalNobody.calls k a0_0 A0_1 c0_1 l0_1 A0_2 c0_2 l0_2 A0_3 c0_3 l0_3 a0_4 a0_5 a0_6 A0_7 c0_7 l0_7 A0_8 c0_8 l0_8 true W hr0_1 hc0_1 hr0_2 hc0_2 hr0_3 hc0_3 hr0_7 hc0_7 hr0_8 hc0_8 h).mono fun e W' ⟨he, bel⟩ => ?_
  subst he
  exact ⟨_, rfl, _, _, _, [], _, [], hW', trodAll_mk1 (shut_bool Try.underlying4 _), (trodAll_cons_mk (Below.trod laidOut (by kernel_rfl) (of_decide_eq_true (by kernel_rfl)) k0 bel lt0) trodAll_mk0), rfl, bel.frame _, fun h => by cases h⟩
theorem over : Rows.journalNobodyRow.holds Try.pinned (OpenSpec.ofChange Rows.journalNobodySpec) :=
  OpenClaim.holds_of_wide 6 Try.f6 rfl rfl rfl rfl rfl rfl rfl ⟨rfl, rfl, rfl, rfl, rfl⟩ rfl rfl rfl rfl rfl (by kernel_rfl) Try.func6 (by kernel_rfl)
    (of_decide_eq_true (by kernel_rfl)) (by unfold Func.isWrapper; first | (rw [if_pos (by decide +kernel)]; kernel_rfl) | (rw [if_neg (by decide +kernel)]; exact ⟨rfl, rfl⟩))
    (fun os started H enc _ => lifted os started H enc)
theorem proved : Rows.JournalNobodySaid := over
#print axioms proved
end Go.Proofs.Ytfmdllbkfpbdcaa.journalNobody
namespace Go.Proofs.Ytfmdllbkfpbdcaa
theorem journalNobody_holds : Rows.JournalNobodySaid := journalNobody.proved
end Go.Proofs.Ytfmdllbkfpbdcaa
end
