/- CompactLays: any samples put together are what the document says, for every two lists of samples. No condition. -/
import Derived.Test.YthmjfoikkfoelaaG12
import Derived.Test.YthmjfoikkfoelaaGR
import Derived.Test.YthmjfoikkfoelaaPLay
import Derived.Test.YthmjfoikkfoelaaPAwake22
namespace Go.Proofs.Ythmjfoikkfoelaa.Q
open Go Go.RowKit Go.Proofs.Ythmjfoikkfoelaa.G Go.Proofs.YthmjfoikkfoelaaW.PrintWords Go.Proofs.YthmjfoikkfoelaaW.PrintLast

theorem CompactLays : ∀ (l0 : List (S41)) (l1 : List (S41)), (l0.length ≤ maxLen ∧ ∀ y2 ∈ l0, ok41 y2) → (l1.length ≤ maxLen ∧ ∀ y2 ∈ l1, ok41 y2) → ∃ k, windroselaw22_CompactLays.f k l0 l1 = some true := by
  intro a b ha hb
  obtain ⟨K1, h1⟩ := Lay_ev a b
  obtain ⟨K2, h2⟩ := mayW_ev a ha.1
  obtain ⟨K3, h3⟩ := mayW_ev b hb.1
  obtain ⟨K4, h4⟩ := awake_ev
  by_cases hbig : (a.length : Int) > 300 ∨ (b.length : Int) > 300
  · have e : windroselaw22_CompactLays.f (K4 + 1) a b = windroselaw22_CompactLays.j0 (K4 + 1) a b true := by
      unfold windroselaw22_CompactLays.f
      by_cases h : (a.length : Int) > 300
      · rw [if_pos h]
      · rw [if_neg h, decide_eq_true (by omega)]
    refine ⟨K4 + 1, ?_⟩
    rw [e]
    simp only [windroselaw22_CompactLays.j0]
    rw [if_pos trivial, h4 _ (by omega)]
    rfl
  · have e : ∀ k, windroselaw22_CompactLays.f k a b = windroselaw22_CompactLays.j0 k a b false := by
      intro k
      unfold windroselaw22_CompactLays.f
      rw [if_neg (by omega), decide_eq_false (by omega)]
    by_cases hm : MayW a ∧ MayW b
    · have hra := (fits_ok a hm.1.2).2
      have hrb := (fits_ok b hm.2.2).2
      obtain ⟨K5, h5⟩ := refLay_ev a b (by omega) hra hrb
      obtain ⟨K6, h6⟩ := same_samples_ev (layS a b) (by have := layS_length a b; unfold maxLen; omega)
      refine ⟨K1 + K2 + K3 + K4 + K5 + K6 + 2, ?_⟩
      rw [e]
      simp only [windroselaw22_CompactLays.j0, windroselaw22_CompactLays.j1]
      rw [if_neg (by simp), h1 _ (by omega), if_pos hm, Option.bind_some, h2 _ (by omega), Option.bind_some, decide_eq_true hm.1, if_pos rfl, h3 _ (by omega), Option.bind_some, decide_eq_true hm.2, if_neg (by simp),
        h5 _ (by omega), Option.bind_some, h6 _ (by omega), Option.bind_some, if_pos rfl, h4 _ (by omega)]
      rfl
    · have j : ∀ k, K4 ≤ k → windroselaw22_CompactLays.j1 (k + 1) a b [] true = some true := by
        intro k hk
        simp only [windroselaw22_CompactLays.j1]
        rw [if_pos trivial, if_pos (by simp), h4 _ hk]
        rfl
      refine ⟨K1 + K2 + K3 + K4 + 2, ?_⟩
      rw [e]
      simp only [windroselaw22_CompactLays.j0]
      rw [if_neg (by simp), h1 _ (by omega), if_neg hm, Option.bind_some, h2 _ (by omega), Option.bind_some]
      by_cases hma : MayW a
      · rw [decide_eq_true hma, if_pos rfl, h3 _ (by omega), Option.bind_some, decide_eq_false (fun h => hm ⟨hma, h⟩)]
        exact j _ (by omega)
      · rw [decide_eq_false hma, if_neg (by simp)]
        exact j _ (by omega)
end Go.Proofs.Ythmjfoikkfoelaa.Q
