/- Written by a program of this session (wip/mk.py): what functions answer, proved. No condition. -/
import Derived.Test.YtlpohipneianjaaG0
import Derived.Test.YtlpohipneianjaaXRead
namespace Go.Proofs.Ytlpohipneianjaa.G
open Go Go.RowKit Go.Proofs.YtlpohipneianjaaW.PrintWords Go.Proofs.YtlpohipneianjaaX
set_option linter.unusedVariables false
end Go.Proofs.Ytlpohipneianjaa.G
