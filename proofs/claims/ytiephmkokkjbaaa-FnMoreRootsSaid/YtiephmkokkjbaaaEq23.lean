/- Arrays of 2 and 3 numbers held against each other. No condition. -/
import Derived.Test.YtiephmkokkjbaaaBase
namespace Go.Proofs.Ytiephmkokkjbaaa
open Go.RowKit

theorem run_equal2 (w : World) (a b c d : Int) : (Op.equalIn 10000 52 (.agg #[.int .i64 a, .int .i64 b]) (.agg #[.int .i64 c, .int .i64 d])).run Try.prog w = .ok ((a == c) && (b == d)) w := by
  show (Op.equalIn (9999 + 1) _ _ _).run _ _ = _
  have hu : Try.prog.underlying 52 = some (.array 2 3) := by kernel_rfl
  have hi : ∀ (x y : Int) (w : World), (Op.equalIn 9999 3 (.int .i64 x) (.int .i64 y)).run Try.prog w = .ok (x == y) w := fun x y w => run_equalIn_int w 9998 3 .i64 .i64 x y Try.underlying3
  have p0 : ∀ (x y : Int) (w : World), (part 3 #[.int .i64 x, .int .i64 y] 0).run Try.prog w = .ok (.int .i64 x) w := fun x y w => by kernel_rfl
  have p1 : ∀ (x y : Int) (w : World), (part 3 #[.int .i64 x, .int .i64 y] 1).run Try.prog w = .ok (.int .i64 y) w := fun x y w => by kernel_rfl
  unfold Op.equalIn
  simp [run_underlying hu, List.range', p0, p1, hi]
  by_cases h1 : a = c <;> by_cases h2 : b = d <;> simp [h1, h2]
theorem run_equal3 (w : World) (a b c d e f : Int) : (Op.equalIn 10000 49 (.agg #[.int .i64 a, .int .i64 b, .int .i64 c]) (.agg #[.int .i64 d, .int .i64 e, .int .i64 f])).run Try.prog w = .ok ((a == d) && ((b == e) && (c == f))) w := by
  show (Op.equalIn (9999 + 1) _ _ _).run _ _ = _
  have hu : Try.prog.underlying 49 = some (.array 3 3) := by kernel_rfl
  have hi : ∀ (x y : Int) (w : World), (Op.equalIn 9999 3 (.int .i64 x) (.int .i64 y)).run Try.prog w = .ok (x == y) w := fun x y w => run_equalIn_int w 9998 3 .i64 .i64 x y Try.underlying3
  have p0 : ∀ (x y z : Int) (w : World), (part 3 #[.int .i64 x, .int .i64 y, .int .i64 z] 0).run Try.prog w = .ok (.int .i64 x) w := fun x y z w => by kernel_rfl
  have p1 : ∀ (x y z : Int) (w : World), (part 3 #[.int .i64 x, .int .i64 y, .int .i64 z] 1).run Try.prog w = .ok (.int .i64 y) w := fun x y z w => by kernel_rfl
  have p2 : ∀ (x y z : Int) (w : World), (part 3 #[.int .i64 x, .int .i64 y, .int .i64 z] 2).run Try.prog w = .ok (.int .i64 z) w := fun x y z w => by kernel_rfl
  unfold Op.equalIn
  simp [run_underlying hu, List.range', p0, p1, p2, hi]
  by_cases h1 : a = d <;> by_cases h2 : b = e <;> by_cases h3 : c = f <;> simp [h1, h2, h3]
end Go.Proofs.Ytiephmkokkjbaaa
