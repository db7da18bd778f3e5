/- The law's own small example answers true. No condition. -/
import Derived.Test.YtlpohipneianjaaG2
import Derived.Test.YtlpohipneianjaaHAwake02
import Derived.Test.YtlpohipneianjaaPEv
namespace Go.Proofs.Ytlpohipneianjaa.Q
open Go Go.RowKit Go.Proofs.Ytlpohipneianjaa.G Go.Proofs.YtlpohipneianjaaW.PrintWords Go.Proofs.YtlpohipneianjaaW.PrintLast
theorem awake02_ev : (∃ K, ∀ k, K ≤ k → windroselaw02_awake.f k = some (true)) := by
  have h1 : frame_Encode.f 40 [5] [(⟨#[97]⟩ : ByteArray)] = some ([1, 10, 1, 1, 97], 0) := by decide +kernel
  have h2 : frame_Sum.f 200 [49, 50, 51, 52, 53, 54, 55, 56, 57] = some 783370361 := by decide +kernel
  refine ⟨200, fun k hk => ?_⟩
  unfold windroselaw02_awake.f
  rw [if_pos ⟨at_rounds (g := fun k => frame_Encode.f k [5] [(⟨#[97]⟩ : ByteArray)]) (fun k => frame_Encode.mono _ _ k) (by omega) h1, at_rounds (g := fun k => frame_Sum.f k [49, 50, 51, 52, 53, 54, 55, 56, 57]) (fun k => frame_Sum.mono _ k) hk h2⟩]
end Go.Proofs.Ytlpohipneianjaa.Q
