/- The laws' own tests: too long a code, two rows of numbers. No condition. -/
import Derived.Test.YtnndhgeddfghcaaCur
namespace Go.Proofs.Ytnndhgeddfghcaa
open Go.RowKit

end Go.Proofs.Ytnndhgeddfghcaa
