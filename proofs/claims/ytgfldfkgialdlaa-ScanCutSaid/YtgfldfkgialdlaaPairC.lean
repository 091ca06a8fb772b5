/- awake of the statements over pair. -/
import Derived.Test.YtgfldfkgialdlaaPairB
namespace Go.Proofs.Ytgfldfkgialdlaa
set_option linter.unusedVariables false
set_option linter.unusedSimpArgs false
open Go.RowKit
end Go.Proofs.Ytgfldfkgialdlaa
