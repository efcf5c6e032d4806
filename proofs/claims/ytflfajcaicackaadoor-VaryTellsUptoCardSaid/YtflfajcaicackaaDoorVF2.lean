/- The program's functions on fields, reckoned. -/
import Derived.Test.YtflfajcaicackaaDoorVF1
import Derived.Test.YtflfajcaicackaaDoorFieldS
import Derived.Test.YtflfajcaicackaaDoorFieldP
import Derived.Test.YtflfajcaicackaaDoorFieldQ
import Derived.Test.YtflfajcaicackaaDoorFieldV
import Derived.Test.YtflfajcaicackaaDoorFieldPl
namespace Go.Proofs.YtflfajcaicackaaDoor.Vex
open Go Go.RowKit
set_option maxRecDepth 100000
set_option linter.unusedSectionVars false
variable {gI : GI} [HasMax gI]

end Go.Proofs.YtflfajcaicackaaDoor.Vex
