/- More lines for the row. -/
import Derived.Test.YtmddmbagehjdeaaZBitsPuts7
import Derived.Test.YtmddmbagehjdeaaRows
import Derived.ShutString
import Derived.ChangeOld
import Derived.SizedLaws
set_option linter.unusedVariables false
set_option linter.unusedSimpArgs false
section
namespace Go.Proofs.Ytmddmbagehjdeaa.bitsPuts
open Go.ChangeShapes Go.WideShapes Go.ChangeAt Go.RowKit Go.Proofs.YtmddmbagehjdeaaX Go.Proofs.Ytmddmbagehjdeaa.G
open Go.ChangeMaps (open_string shut_string)
theorem own : ownKnob Try.prog.godebug = none := by kernel_rfl
theorem laidOut : laidOutB Try.prog = true := by kernel_rfl
set_option maxRecDepth 100000 in
theorem lifted (os : Os) (started : os.Started) (H : Type) (enc : TypeId × Value → H) :
    ReturnsInHanded {} Try.checked os 6 .any (Rows.bitsPutsSpec.pre6 enc Try.prog Try.f6 Rows.bitsPutsRow.domain false) (Rows.bitsPutsSpec.post enc Try.prog Try.f6 false true false false) := by
  refine returnsInHanded_of_change_sized (C := Try.checked) own started (by kernel_rfl) Try.func6
    (ChangeSpec.witness6 (enc := enc) (C := Try.checked) false ⟨#[], #[.agg #[.slice none 0 0, .int .i64 0], .agg #[.slice none 0 0, .int .i64 0], .agg #[.int .u64 0, .int .u64 0]], []⟩ 8 (by kernel_rfl) (by kernel_rfl) (by kernel_rfl) (by kernel_rfl)) ?_
  intro W base args ds gs before hval0 hW hcnd hsz0 _
  have hval : ∀ (j : Nat) t v, Try.f6.params[j]? = some t → args[j]? = some v → Value.okWide Try.prog W .any base t v := hval0
  have hW' := hW
  obtain ⟨p, q, hA0, hV, rfl, hfz, hnd⟩ := hW
  have hA : DataW.TrodAll enc Try.prog W 0 (fun _ => true) true Try.f6.params.toList args.toList ds p := hA0
  rw [Try.params6] at hA hval
  obtain ⟨v0, vs0, d0, ds0, p0, q0, hargs, rfl, rfl, h0, r0⟩ := trodAll_cons hA
  obtain ⟨v1, vs1, d1, ds1, p1, q1, rfl, rfl, rfl, h1, r1⟩ := trodAll_cons r0
  obtain ⟨v2, vs2, d2, ds2, p2, q2, rfl, rfl, rfl, h2, r2⟩ := trodAll_cons r1
  obtain ⟨rfl, rfl, rfl⟩ := trodAll_nil r2
  obtain rfl : args = #[v0, v1, v2] := by cases args; simp_all
  obtain ⟨rfl, rfl⟩ := trodVars_none hV
  have k0 := h0
  have lt0 : ∀ x ∈ p0, x.block < W.heap.size := by obtain ⟨m, hm⟩ := k0; exact DataW.trod_lt m _ _ _ hm
  obtain ⟨cs0, rfl, _⟩ := okWide_struct Try.underlying25 (hval 0 25 v0 rfl rfl)
  obtain ⟨fuel0, hf0⟩ := h0
  obtain ⟨⟨l0_0, a0_1⟩, hK0, w0⟩ := (Rd.struct (fun x => x) (fun x => x) (fun _ => rfl) Try.underlying25 (RdFs.cons (Rd.slice Try.underlying23 (by kernel_rfl) (Rd.int Try.underlying5)) (RdFs.one (Rd.int Try.underlying3)))) enc W _ _ _ fuel0 _ _ hf0
  dsimp only at hK0 w0
  obtain ⟨_, _, e0, ⟨A0_0, c0_0, rfl, hc0_0, hr0_0⟩, rfl⟩ := hK0
  obtain rfl : cs0 = #[.slice A0_0 l0_0.length c0_0, .int .i64 a0_1] := Array.ext' (by simpa [Value.cells] using e0)
  have k1 := h1
  have lt1 : ∀ x ∈ p1, x.block < W.heap.size := by obtain ⟨m, hm⟩ := k1; exact DataW.trod_lt m _ _ _ hm
  obtain ⟨cs1, rfl, _⟩ := okWide_struct Try.underlying25 (hval 1 25 v1 rfl rfl)
  obtain ⟨fuel1, hf1⟩ := h1
  obtain ⟨⟨l1_0, a1_1⟩, hK1, w1⟩ := (Rd.struct (fun x => x) (fun x => x) (fun _ => rfl) Try.underlying25 (RdFs.cons (Rd.slice Try.underlying23 (by kernel_rfl) (Rd.int Try.underlying5)) (RdFs.one (Rd.int Try.underlying3)))) enc W _ _ _ fuel1 _ _ hf1
  dsimp only at hK1 w1
  obtain ⟨_, _, e1, ⟨A1_0, c1_0, rfl, hc1_0, hr1_0⟩, rfl⟩ := hK1
  obtain rfl : cs1 = #[.slice A1_0 l1_0.length c1_0, .int .i64 a1_1] := Array.ext' (by simpa [Value.cells] using e1)
  have k2 := h2
  have lt2 : ∀ x ∈ p2, x.block < W.heap.size := by obtain ⟨m, hm⟩ := k2; exact DataW.trod_lt m _ _ _ hm
  obtain ⟨cs2, rfl, _⟩ := okWide_array Try.underlying54 (hval 2 54 v2 rfl rfl)
  obtain ⟨fuel2, hf2⟩ := h2
  obtain ⟨⟨a2_0, a2_1⟩, hK2, w2⟩ := (Rd.array (fun x => x) (fun x => x) (fun _ => rfl) Try.underlying54 (RdFs.cons (Rd.int Try.underlying43) (RdFs.one (Rd.int Try.underlying43)))) enc W _ _ _ fuel2 _ _ hf2
  dsimp only at hK2 w2
  obtain ⟨_, _, e2, rfl, rfl⟩ := hK2
  obtain rfl : cs2 = #[.int .u64 a2_0, .int .u64 a2_1] := Array.ext' (by simpa [Value.cells] using e2)
  clear hA0 hval0 hsz0
  obtain ⟨k, h⟩ := Q.BitsPuts l0_0 a0_1 l1_0 a1_1 a2_0 a2_1 w0 w1 w2
  refine (windroselaw17_BitsPuts.calls k A0_0 c0_0 l0_0 a0_1 A1_0 c1_0 l1_0 a1_1 a2_0 a2_1 true W hr0_0 hc0_0 hr1_0 hc1_0 h).mono fun e W' ⟨he, bel⟩ => ?_
  subst he
  exact ⟨_, rfl, _, _, _, [], _, [], hW', trodAll_mk1 (shut_bool Try.underlying4 _), (trodAll_cons_mk (Below.trod laidOut (by kernel_rfl) (of_decide_eq_true (by kernel_rfl)) k0 bel lt0) (trodAll_cons_mk (Below.trod laidOut (by kernel_rfl) (of_decide_eq_true (by kernel_rfl)) k1 bel lt1) (trodAll_cons_mk (Below.trod laidOut (by kernel_rfl) (of_decide_eq_true (by kernel_rfl)) k2 bel lt2) trodAll_mk0))), rfl, bel.frame _, fun h => by cases h⟩
theorem over : Rows.bitsPutsRow.holds Try.pinned (OpenSpec.ofChange Rows.bitsPutsSpec) :=
  OpenClaim.holds_of_wide 6 Try.f6 rfl rfl rfl rfl rfl rfl rfl ⟨rfl, rfl, rfl, rfl, rfl⟩ rfl rfl rfl rfl rfl (by kernel_rfl) Try.func6 (by kernel_rfl)
    (of_decide_eq_true (by kernel_rfl)) (by unfold Func.isWrapper; first | (rw [if_pos (by decide +kernel)]; kernel_rfl) | (rw [if_neg (by decide +kernel)]; exact ⟨rfl, rfl⟩))
    (fun os started H enc _ => lifted os started H enc)
theorem proved : Rows.BitsPutsSaid := over
#print axioms proved
end Go.Proofs.Ytmddmbagehjdeaa.bitsPuts
namespace Go.Proofs.Ytmddmbagehjdeaa
theorem bitsPuts_holds : Rows.BitsPutsSaid := bitsPuts.proved
end Go.Proofs.Ytmddmbagehjdeaa
end
