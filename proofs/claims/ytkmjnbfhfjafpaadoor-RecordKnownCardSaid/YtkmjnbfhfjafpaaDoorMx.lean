/- The greatest of three or four. -/
import Derived.Test.YtkmjnbfhfjafpaaDoorBase
namespace Go.Proofs.YtkmjnbfhfjafpaaDoor
set_option linter.unusedVariables false
set_option linter.unusedSimpArgs false
open Go.RowKit
def mx3 (a b c : Int) : Int := max (max a b) c
def mx4 (a b c d : Int) : Int := max (max (max a b) c) d
theorem run_mx3 {P : Program} (ts : Array TypeId) (t : TypeId) (x y z : Int) (w : World) : (Builtin.max_ ts t #[.int .i64 x, .int .i64 y, .int .i64 z]).run P w = .ok (.int .i64 (mx3 x y z)) w := by
  simp only [Builtin.max_, Builtin.max2, List.foldlM_cons, List.foldlM_nil, mx3, Int.max_def]
  simp
  (repeat' split) <;> omega
theorem run_mx4 {P : Program} (ts : Array TypeId) (t : TypeId) (x y z v : Int) (w : World) : (Builtin.max_ ts t #[.int .i64 x, .int .i64 y, .int .i64 z, .int .i64 v]).run P w = .ok (.int .i64 (mx4 x y z v)) w := by
  simp only [Builtin.max_, Builtin.max2, List.foldlM_cons, List.foldlM_nil, mx4, Int.max_def]
  simp
  (repeat' split) <;> omega
theorem mx3_lt (a b c n : Int) : n < mx3 a b c ↔ n < a ∨ n < b ∨ n < c := by unfold mx3; omega
theorem mx4_lt (a b c d n : Int) : n < mx4 a b c d ↔ n < a ∨ n < b ∨ n < c ∨ n < d := by unfold mx4; omega
end Go.Proofs.YtkmjnbfhfjafpaaDoor
