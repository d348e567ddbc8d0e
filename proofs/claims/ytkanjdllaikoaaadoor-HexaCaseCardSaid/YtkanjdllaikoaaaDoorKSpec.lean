/- Keccak-f[1600], said by lanes. -/
import Derived.Test.YtkanjdllaikoaaaDoorKLane
set_option linter.unusedSimpArgs false
set_option linter.unusedVariables false
namespace Go.Proofs.YtkanjdllaikoaaaDoor
open Go Go.RowKit

/-- The sum of a column. -/
def colS (a : Nat → B64) (x : Nat) : B64 := 0 ^^^ a x ^^^ a (x + 5) ^^^ a (x + 10) ^^^ a (x + 15) ^^^ a (x + 20)
def theta (a : Nat → B64) (i : Nat) : B64 := a i ^^^ (colS a ((i + 4) % 5) ^^^ rot (colS a ((i + 1) % 5)) 1)
def turnsL : List Nat := [0, 1, 62, 28, 27, 36, 44, 6, 55, 20, 3, 10, 43, 25, 39, 41, 45, 15, 21, 8, 18, 2, 61, 56, 14]
def srcL : List Nat := [0, 6, 12, 18, 24, 3, 9, 10, 16, 22, 1, 7, 13, 19, 20, 4, 5, 11, 17, 23, 2, 8, 14, 15, 21]
def rhopi (a : Nat → B64) (j : Nat) : B64 := rot (theta a (srcL.getD j 0)) (turnsL.getD (srcL.getD j 0) 0)
def chi (a : Nat → B64) (j : Nat) : B64 := rhopi a j ^^^ (~~~ (rhopi a (5 * (j / 5) + (j + 1) % 5)) &&& rhopi a (5 * (j / 5) + (j + 2) % 5))
def roundK (a : Nat → B64) (r : B64) (j : Nat) : B64 := match j with
  | 0 => chi a 0 ^^^ r
  | j + 1 => chi a (j + 1)
def rcL : List B64 := [1#64, 32898#64, 9223372036854808714#64, 9223372039002292224#64, 32907#64, 2147483649#64, 9223372039002292353#64, 9223372036854808585#64, 138#64, 136#64, 2147516425#64, 2147483658#64, 2147516555#64, 9223372036854775947#64, 9223372036854808713#64, 9223372036854808579#64, 9223372036854808578#64, 9223372036854775936#64, 32778#64, 9223372039002259466#64, 9223372039002292353#64, 9223372036854808704#64, 2147483649#64, 9223372039002292232#64]
def permN (a : Nat → B64) : Nat → Nat → B64
  | 0 => a
  | i + 1 => roundK (permN a i) (rcL.getD i 0)
abbrev laneC (a : Nat → B64) (j : Nat) : Seg := .cell (.val (.int .u64 (bv (a j))))
abbrev lanesRow (a : Nat → B64) : List Seg := [laneC a 0, laneC a 1, laneC a 2, laneC a 3, laneC a 4, laneC a 5, laneC a 6, laneC a 7, laneC a 8, laneC a 9, laneC a 10, laneC a 11, laneC a 12, laneC a 13, laneC a 14, laneC a 15, laneC a 16, laneC a 17, laneC a 18, laneC a 19, laneC a 20, laneC a 21, laneC a 22, laneC a 23, laneC a 24]
abbrev lanesV (a : Nat → B64) : Value := .agg #[.int .u64 (bv (a 0)), .int .u64 (bv (a 1)), .int .u64 (bv (a 2)), .int .u64 (bv (a 3)), .int .u64 (bv (a 4)), .int .u64 (bv (a 5)), .int .u64 (bv (a 6)), .int .u64 (bv (a 7)), .int .u64 (bv (a 8)), .int .u64 (bv (a 9)), .int .u64 (bv (a 10)), .int .u64 (bv (a 11)), .int .u64 (bv (a 12)), .int .u64 (bv (a 13)), .int .u64 (bv (a 14)), .int .u64 (bv (a 15)), .int .u64 (bv (a 16)), .int .u64 (bv (a 17)), .int .u64 (bv (a 18)), .int .u64 (bv (a 19)), .int .u64 (bv (a 20)), .int .u64 (bv (a 21)), .int .u64 (bv (a 22)), .int .u64 (bv (a 23)), .int .u64 (bv (a 24))]
def rcI : List Int := [1, 32898, 9223372036854808714, 9223372039002292224, 32907, 2147483649, 9223372039002292353, 9223372036854808585, 138, 136, 2147516425, 2147483658, 2147516555, 9223372036854775947, 9223372036854808713, 9223372036854808579, 9223372036854808578, 9223372036854775936, 32778, 9223372039002259466, 9223372039002292353, 9223372036854808704, 2147483649, 9223372039002292232]
theorem rc_at (i : Nat) (hi : i < 24) : rcI.getD i 0 = bv (rcL.getD i 0) := by
  have : ∀ i, i < 24 → rcI.getD i 0 = bv (rcL.getD i 0) := by decide
  exact this i hi
theorem k_xor' (a b : B64) (y : Int) (h : y = bv b) : IntKind.u64.wrap ((BitVec.ofInt IntKind.u64.bits (bv a) ^^^ BitVec.ofInt IntKind.u64.bits y).toNat : Int) = bv (a ^^^ b) := by
  subst h; exact k_xor a b
end Go.Proofs.YtkanjdllaikoaaaDoor

