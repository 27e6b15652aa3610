/- The laws' own tests: too long a code, two rows of numbers. No condition. -/
import Derived.Test.YtbjmpllnkkfgfaaCur
namespace Go.Proofs.Ytbjmpllnkkfgfaa
open Go.RowKit

end Go.Proofs.Ytbjmpllnkkfgfaa
