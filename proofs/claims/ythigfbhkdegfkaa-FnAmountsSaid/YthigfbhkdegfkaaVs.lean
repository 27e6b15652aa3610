/- The laws' own tests: too long a code, two rows of numbers. No condition. -/
import Derived.Test.YthigfbhkdegfkaaCur
namespace Go.Proofs.Ythigfbhkdegfkaa
open Go.RowKit

end Go.Proofs.Ythigfbhkdegfkaa
