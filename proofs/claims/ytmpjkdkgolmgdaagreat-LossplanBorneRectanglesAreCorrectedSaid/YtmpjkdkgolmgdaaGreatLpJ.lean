/- The walk of the reference's PageBears. -/
import Derived.Test.YtmpjkdkgolmgdaaGreatLpI
namespace Go.Proofs.YtmpjkdkgolmgdaaGreat
open Go.RowKit
set_option linter.unusedVariables false

end Go.Proofs.YtmpjkdkgolmgdaaGreat
