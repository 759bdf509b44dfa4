/- The laws of package bindlelaw02 come to true. -/
import Derived.Test.YtpkhilbgkkjebaaField
set_option linter.unusedVariables false
set_option linter.unusedSimpArgs false
set_option maxHeartbeats 4000000
set_option maxRecDepth 20000
namespace Go.Bn
open Go Proofs
end Go.Bn
