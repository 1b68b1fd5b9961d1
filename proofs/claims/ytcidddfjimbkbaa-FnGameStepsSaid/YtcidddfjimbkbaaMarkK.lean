/- Numbers that a law writes through elements of some cells each, on the machine. Conditions: lengths that a law allows. -/
import Derived.Test.YtcidddfjimbkbaaMarkKP
import Derived.Test.YtcidddfjimbkbaaME
set_option linter.all false
set_option linter.unusedSimpArgs false
set_option linter.unusedVariables false
namespace Go.Proofs.Ytcidddfjimbkbaa
open Go Go.RowKit Am

end Go.Proofs.Ytcidddfjimbkbaa
