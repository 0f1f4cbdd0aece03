/- The walk of the law LossplanMatchesSpec. -/
import Derived.Test.YtmpjkdkgolmgdaaGreatLpO
namespace Go.Proofs.YtmpjkdkgolmgdaaGreat
open Go.RowKit
set_option linter.unusedVariables false

end Go.Proofs.YtmpjkdkgolmgdaaGreat
