/- Two numbers of two words compared. -/
import Derived.Test.YtboiipkbhbbgfaaDoorK
namespace Go.Proofs.YtboiipkbhbbgfaaDoor
open Go.RowKit

theorem eq_double (x y : Int) (w : World) : Sem.run Tryd.prog (Op.equalIn 10000 71 (.agg #[.int .u64 x, .int .u64 y]) (.agg #[.int .u64 0, .int .u64 0])) w = .ok ((x == 0) && (y == 0)) w := by
  rcases x with (_ | n) | n <;> rcases y with (_ | m) | m <;> kernel_rfl
end Go.Proofs.YtboiipkbhbbgfaaDoor
