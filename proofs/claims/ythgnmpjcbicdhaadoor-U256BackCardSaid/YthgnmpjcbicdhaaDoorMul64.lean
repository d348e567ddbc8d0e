/- math/bits.Mul64. -/
import Derived.Test.YthgnmpjcbicdhaaDoorAdd
import Derived.Test.YthgnmpjcbicdhaaDoorNumM
import Derived.Laws.MathBits
set_option linter.unusedSimpArgs false
set_option linter.unusedVariables false
namespace Go.Proofs.YthgnmpjcbicdhaaDoor
open Go Go.RowKit

theorem mul64_c (x y : Int) (hx : 0 ≤ x) (hx' : x < M64) (hy : 0 ≤ y) (hy' : y < M64) (w : World) :
    Calls Tryd.prog 31 #[.int .u64 x, .int .u64 y] w fun e w' => e = .returned (.tuple #[.int .u64 (hi64 x y), .int .u64 (lo64 x y)]) ∧ w = w' := by
  have a1 := and_low32 x hx hx'
  have a2 := and_low32 y hy hy'
  go_enter Tryd.func31, Tryd.ntmps31
  go_wp2_with fail
  go_ret2
  refine ⟨?_, rfl⟩
  have h := mul64_arith x y hx hx' hy hy'
  unfold hi64 lo64 M64
  simp only [IntKind.wrap_u64]
  rw [and_low32 _ (by omega) (by omega), ← h]
  simp only [Array.getD_eq_getD_getElem?]
  rfl
end Go.Proofs.YthgnmpjcbicdhaaDoor

