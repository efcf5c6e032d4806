/- The references' functions on fields, reckoned. -/
import Derived.Test.YtflfajcaicackaaDoorVR1
namespace Go.Proofs.YtflfajcaicackaaDoor.Vex
open Go Go.RowKit
set_option maxRecDepth 100000
set_option linter.unusedSectionVars false
variable {gI : GI} [HasMax gI]

end Go.Proofs.YtflfajcaicackaaDoor.Vex
