/- The laws' heavy. -/
import Derived.Test.YtpjmolnkmlpfeaaGreatDoorOpenJu
namespace Go.Proofs.YtpjmolnkmlpfeaaGreatDoor
set_option linter.unusedVariables false
set_option linter.unusedSimpArgs false
set_option maxRecDepth 100000
open Go.RowKit

end Go.Proofs.YtpjmolnkmlpfeaaGreatDoor
