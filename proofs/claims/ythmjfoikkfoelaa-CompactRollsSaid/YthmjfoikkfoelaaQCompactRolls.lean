/- CompactRolls: the rolls of any samples are what the document says, for every list of samples and every width. No condition. -/
import Derived.Test.YthmjfoikkfoelaaG8
import Derived.Test.YthmjfoikkfoelaaGR
import Derived.Test.YthmjfoikkfoelaaPRoll
namespace Go.Proofs.Ythmjfoikkfoelaa.Q
open Go Go.RowKit Go.Proofs.Ythmjfoikkfoelaa.G Go.Proofs.YthmjfoikkfoelaaW.PrintWords Go.Proofs.YthmjfoikkfoelaaW.PrintLast

theorem CompactRolls : ∀ (l0 : List (S41)) (a1 : Int), (l0.length ≤ maxLen ∧ ∀ y2 ∈ l0, ok41 y2) → (Lit.int .i64 a1).wf = true → ∃ k, windroselaw22_CompactRolls.f k l0 a1 = some true := by
  intro l w hl hw
  obtain ⟨K1, h1⟩ := rolls_ev l w
  obtain ⟨K2, h2⟩ := may_ev l hl.1
  obtain ⟨K3, h3⟩ := awake22_ev
  by_cases hm : May l ∧ 1 ≤ w ∧ w ≤ 1048576
  · obtain ⟨K4, h4⟩ := ref_rolls_ev w hm.2 l hm.1
    have hlen := rolls_length w l []
    have h64 := hm.1.1
    obtain ⟨K5, h5⟩ := same_rolls_ev (rolls w [] l) (by simp at hlen; unfold maxLen; omega)
    refine ⟨K1 + K2 + K3 + K4 + K5 + 1, ?_⟩
    unfold windroselaw22_CompactRolls.f
    rw [if_neg (by omega), h1 _ (by omega), if_pos hm, Option.bind_some, h2 _ (by omega), Option.bind_some, decide_eq_true hm.1, if_pos rfl, if_neg (by omega)]
    simp only [windroselaw22_CompactRolls.j0]
    rw [if_neg (by simp; omega), if_pos trivial, h4 _ (by omega), Option.bind_some, h5 _ (by omega), Option.bind_some, if_pos rfl, h3 _ (by omega)]
    rfl
  · by_cases h200 : (l.length : Int) > 200
    · refine ⟨K3, ?_⟩
      unfold windroselaw22_CompactRolls.f
      rw [if_pos h200, h3 _ (by omega)]
      rfl
    · refine ⟨K1 + K2 + K3 + 1, ?_⟩
      unfold windroselaw22_CompactRolls.f
      rw [if_neg h200, h1 _ (by omega), if_neg hm, Option.bind_some, h2 _ (by omega), Option.bind_some]
      have j : windroselaw22_CompactRolls.j0 (K1 + K2 + K3 + 1) l w [] 1 true = some true := by
        simp only [windroselaw22_CompactRolls.j0]
        rw [h3 _ (by omega)]
        rfl
      by_cases hmay : May l
      · have hw2 : ¬ (1 ≤ w ∧ w ≤ 1048576) := fun h => hm ⟨hmay, h⟩
        rw [decide_eq_true hmay, if_pos rfl]
        by_cases h1 : w < 1
        · rw [if_pos h1]; exact j
        · rw [if_neg h1, decide_eq_true (by omega)]; exact j
      · rw [decide_eq_false hmay, if_neg (by simp)]; exact j
end Go.Proofs.Ythmjfoikkfoelaa.Q
