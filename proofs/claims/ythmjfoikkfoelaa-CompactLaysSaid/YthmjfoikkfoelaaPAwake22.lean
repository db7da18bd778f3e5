/- The law's own small example answers true. No condition. -/
import Derived.Test.YthmjfoikkfoelaaG5
import Derived.Test.YthmjfoikkfoelaaPEv
namespace Go.Proofs.Ythmjfoikkfoelaa.Q
open Go Go.RowKit Go.Proofs.Ythmjfoikkfoelaa.G Go.Proofs.YthmjfoikkfoelaaW.PrintWords Go.Proofs.YthmjfoikkfoelaaW.PrintLast
theorem awake_ev : (∃ K, ∀ k, K ≤ k → windroselaw22_awake.f k = some (true)) := by
  have h : windroselaw22_awake.f 12 = some true := by decide +kernel
  exact Ev.of windroselaw22_awake.mono h
end Go.Proofs.Ythmjfoikkfoelaa.Q
