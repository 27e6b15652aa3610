/- Chapter 9 and 10: factors, dividends, divisors: range tests. No condition. -/
import Derived.Test.YtkgbcjiinicffaaBase
namespace Go.Proofs.Ytkgbcjiinicffaa
open Go.RowKit

theorem mul_bd {a b : Int} (ha : 0 ≤ a) (ha' : a ≤ 9999) (hb : 0 ≤ b) (hb' : b ≤ 9999) : 0 ≤ a * b ∧ a * b ≤ 99980001 :=
  ⟨Int.mul_nonneg ha hb, Int.le_trans (Int.mul_le_mul ha' hb' hb (by omega)) (by omega)⟩

end Go.Proofs.Ytkgbcjiinicffaa
