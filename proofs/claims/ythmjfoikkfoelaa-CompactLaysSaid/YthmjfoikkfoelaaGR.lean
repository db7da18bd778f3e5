/- Written by a program of this session (wip/mk.py) over the translation: what the functions answer, proved by walking them; a law's row behind its plain law. No condition. -/
import Derived.Test.YthmjfoikkfoelaaG0
import Derived.Test.YthmjfoikkfoelaaXRead
namespace Go.Proofs.Ythmjfoikkfoelaa.G
open Go Go.RowKit Go.Proofs.YthmjfoikkfoelaaW.PrintWords Go.Proofs.YthmjfoikkfoelaaX
set_option linter.unusedVariables false
def ok41 (x : S41) : Prop := (Lit.int .i64 x.f0).wf = true ∧ (Lit.int .i64 x.f1).wf = true
theorem rd41 : Rd Try.prog 41 k41 ok41 := Rd.struct _ (fun b => ⟨b.1, b.2⟩) (fun _ => rfl) Try.underlying41 (RdFs.cons (Rd.int Try.underlying3) (RdFs.one (Rd.int Try.underlying3)))
end Go.Proofs.Ythmjfoikkfoelaa.G
