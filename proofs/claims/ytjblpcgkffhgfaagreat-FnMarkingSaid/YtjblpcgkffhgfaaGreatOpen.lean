/- Arguments that come in: what a slice of ints, a slice of such, and so on, read as. Conditions: none. -/
import Derived.Test.YtjblpcgkffhgfaaGreatLawEnd
import Derived.Deep.Matrix
set_option linter.all false
set_option linter.unusedSimpArgs false
set_option linter.unusedVariables false
namespace Go.Proofs.YtjblpcgkffhgfaaGreat
open Go.ChangeShapes Go.WideShapes Go.ChangeAt Go.RowKit Go.Deep

/-- a number that an int can be -/
def I64 (n:Int):Prop := -9223372036854775808≤n∧n≤9223372036854775807
end Go.Proofs.YtjblpcgkffhgfaaGreat
