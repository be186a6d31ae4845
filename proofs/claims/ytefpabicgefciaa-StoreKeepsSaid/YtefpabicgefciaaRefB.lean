/- The reference's bank: what its memory holds, its methods. -/
import Derived.Test.YtefpabicgefciaaConsPlain
namespace Go.Proofs.Ytefpabicgefciaa
open Go.RowKit
set_option linter.unusedSimpArgs false
set_option linter.unusedVariables false

end Go.Proofs.Ytefpabicgefciaa
