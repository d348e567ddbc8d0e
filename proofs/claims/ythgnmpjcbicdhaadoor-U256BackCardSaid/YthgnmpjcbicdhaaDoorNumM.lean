/- Rows of limbs as numbers; one step of a product. No program. -/
import Derived.Test.YthgnmpjcbicdhaaDoorNum
set_option linter.unusedSimpArgs false
set_option linter.unusedVariables false
namespace Go.Proofs.YthgnmpjcbicdhaaDoor
open Go

def hi64 (x y : Int) : Int := x * y / M64
def lo64 (x y : Int) : Int := x * y % M64
theorem hilo (x y : Int) : x * y = hi64 x y * M64 + lo64 x y := by unfold hi64 lo64; have := Int.mul_ediv_add_emod (x * y) M64; rw [Int.mul_comm M64] at this; omega
theorem lo64_bd (x y : Int) : 0 ≤ lo64 x y ∧ lo64 x y < M64 := ⟨Int.emod_nonneg _ (by unfold M64; decide), Int.emod_lt_of_pos _ (by unfold M64; decide)⟩
theorem hi64_bd (x y : Int) (hx : 0 ≤ x) (hx' : x < M64) (hy : 0 ≤ y) (hy' : y < M64) : 0 ≤ hi64 x y ∧ hi64 x y ≤ 18446744073709551614 := by
  have h1 : x * y ≤ 18446744073709551615 * 18446744073709551615 := Int.mul_le_mul (by unfold M64 at *; omega) (by unfold M64 at *; omega) hy (by decide)
  have h0 : 0 ≤ x * y := Int.mul_nonneg hx hy
  unfold hi64 M64
  generalize x * y = p at *
  omega

/-- A row of limbs' number, the lowest first. -/
def val : List Int → Int
  | [] => 0
  | z :: zs => z + M64 * val zs
theorem val_set : ∀ (zs : List Int) (k : Nat) (v : Int), k < zs.length → val (zs.set k v) = val zs + (v - zs.getD k 0) * M64 ^ k
  | [], k, v, h => by simp at h
  | z :: zs, 0, v, h => by simp [val]; omega
  | z :: zs, k + 1, v, h => by
    have ih := val_set zs k v (by simpa using h)
    simp only [List.set_cons_succ, val, ih, List.getD_cons_succ, Int.pow_succ]
    grind
theorem val_append (xs ys : List Int) : val (xs ++ ys) = val xs + M64 ^ xs.length * val ys := by
  induction xs with
  | nil => simp [val]
  | cons x xs ih => simp only [List.cons_append, val, ih, List.length_cons, Int.pow_succ]; grind

/-- All are limbs. -/
def lims (zs : List Int) : Prop := ∀ k, 0 ≤ zs.getD k 0 ∧ zs.getD k 0 < M64
theorem lims_set {zs : List Int} (h : lims zs) (i : Nat) (v : Int) (h0 : 0 ≤ v) (h1 : v < M64) : lims (zs.set i v) := by
  intro k
  have hk := h k
  simp only [List.getD_eq_getElem?_getD, List.getElem?_set] at *
  split
  · split
    · exact ⟨h0, h1⟩
    · exact ⟨by simp, by simp [M64]⟩
  · exact hk
theorem getD_set_ne {zs : List Int} {i k : Nat} (v : Int) (h : i ≠ k) : (zs.set i v).getD k 0 = zs.getD k 0 := by
  simp [List.getD_eq_getElem?_getD, List.getElem?_set_ne h]

/-- One digit's step: nothing is lost. -/
theorem mul_step (x y z o : Int) (hx : 0 ≤ x) (hx' : x < M64) (hy : 0 ≤ y) (hy' : y < M64) (hz : 0 ≤ z) (hz' : z < M64) (ho : 0 ≤ o) (ho' : o < M64) :
    0 ≤ hi64 x y + cr (lo64 x y) z 0 ∧ hi64 x y + cr (lo64 x y) z 0 ≤ 18446744073709551615 ∧
    0 ≤ hi64 x y + cr (lo64 x y) z 0 + cr (sm (lo64 x y) z 0) o 0 ∧ hi64 x y + cr (lo64 x y) z 0 + cr (sm (lo64 x y) z 0) o 0 ≤ 18446744073709551615 ∧
    sm (sm (lo64 x y) z 0) o 0 + (hi64 x y + cr (lo64 x y) z 0 + cr (sm (lo64 x y) z 0) o 0) * M64 = x * y + z + o := by
  have e := hilo x y
  have l := lo64_bd x y
  have hh := hi64_bd x y hx hx' hy hy'
  have hp : x * y ≤ 18446744073709551615 * 18446744073709551615 := Int.mul_le_mul (by unfold M64 at *; omega) (by unfold M64 at *; omega) hy (by decide)
  have s1 := sm_eq (lo64 x y) z 0
  have s2 := sm_eq (sm (lo64 x y) z 0) o 0
  have c1 := cr_01 (lo64 x y) z 0 l.1 hz l.2 hz' (by omega) (by omega)
  have c2 := cr_01 (sm (lo64 x y) z 0) o 0 s1.2.1 ho (by unfold M64; omega) ho' (by omega) (by omega)
  generalize x * y = p at *
  generalize hi64 x y = h at *
  generalize lo64 x y = l0 at *
  generalize sm l0 z 0 = l1 at *
  generalize cr l0 z 0 = k1 at *
  generalize sm l1 o 0 = l2 at *
  generalize cr l1 o 0 = k2 at *
  unfold M64 at *
  refine ⟨by omega, by omega, by omega, by omega, by omega⟩

/-- The first n limbs of a. -/
def lowI (a n : Nat) : Int := ((a % 2 ^ (64 * n) : Nat) : Int)
theorem lowI_zero (a : Nat) : lowI a 0 = 0 := by simp [lowI, Nat.mod_one]
theorem lowI_succ (a n : Nat) : lowI a (n + 1) = lowI a n + L a n * M64 ^ n := by
  unfold lowI L M64
  have h : a % 2 ^ (64 * (n + 1)) = a % 2 ^ (64 * n) + 2 ^ (64 * n) * (a / 2 ^ (64 * n) % 2 ^ 64) := by
    rw [Nat.mul_add, Nat.mul_one, Nat.pow_add, Nat.mod_mul]
  rw [h]
  have e : (18446744073709551616 : Int) ^ n = ((2 ^ (64 * n) : Nat) : Int) := by rw [Nat.pow_mul]; simp
  rw [e]
  simp only [Int.natCast_add, Int.natCast_mul]
  rw [Int.mul_comm (((2 ^ (64 * n) : Nat)) : Int)]
theorem lowI_four (a : Nat) (h : a < T256) : lowI a 4 = a := by
  unfold lowI
  rw [Nat.mod_eq_of_lt (by unfold T256 at h; exact h)]
theorem mul_limbs (a b : Nat) (z0 z1 z2 z3 z4 z5 z6 z7 : Int) (h0 : 0 ≤ z0 ∧ z0 < M64) (h1 : 0 ≤ z1 ∧ z1 < M64) (h2 : 0 ≤ z2 ∧ z2 < M64) (h3 : 0 ≤ z3 ∧ z3 < M64)
    (h4 : 0 ≤ z4 ∧ z4 < M64) (h5 : 0 ≤ z5 ∧ z5 < M64) (h6 : 0 ≤ z6 ∧ z6 < M64) (h7 : 0 ≤ z7 ∧ z7 < M64) (h : val [z0, z1, z2, z3, z4, z5, z6, z7] = (a : Int) * b) :
    Value.tuple #[.agg #[.int .u64 z4, .int .u64 z5, .int .u64 z6, .int .u64 z7], .agg #[.int .u64 z0, .int .u64 z1, .int .u64 z2, .int .u64 z3]] = .tuple #[U (a * b / T256), U (a * b % T256)] := by
  unfold M64 at h0 h1 h2 h3 h4 h5 h6 h7
  have gg := four_lt h0 h1 h2 h3
  have key : ((a * b : Nat) : Int) = (z0 + z1 * 18446744073709551616 + z2 * 340282366920938463463374607431768211456 + z3 * 6277101735386680763835789423207666416102355444464034512896) +
      (z4 + z5 * 18446744073709551616 + z6 * 340282366920938463463374607431768211456 + z7 * 6277101735386680763835789423207666416102355444464034512896) * (T256 : Int) := by
    rw [Int.natCast_mul, ← h, T256_eq]
    simp only [val, M64]
    omega
  have r1 : (((a * b) % T256 : Nat) : Int) = z0 + z1 * 18446744073709551616 + z2 * 340282366920938463463374607431768211456 + z3 * 6277101735386680763835789423207666416102355444464034512896 := by
    rw [Int.natCast_emod, key, Int.add_mul_emod_self_right, Int.emod_eq_of_lt gg.1 gg.2]
  have r2 : (((a * b) / T256 : Nat) : Int) = z4 + z5 * 18446744073709551616 + z6 * 340282366920938463463374607431768211456 + z7 * 6277101735386680763835789423207666416102355444464034512896 := by
    rw [Int.natCast_ediv, key, Int.add_mul_ediv_right _ _ (by have := T256_pos; omega), Int.ediv_eq_zero_of_lt gg.1 gg.2, Int.zero_add]
  rw [U_of _ z0 z1 z2 z3 h0.1 h0.2 h1.1 h1.2 h2.1 h2.2 h3.1 h3.2 r1, U_of _ z4 z5 z6 z7 h4.1 h4.2 h5.1 h5.2 h6.1 h6.2 h7.1 h7.2 r2]
end Go.Proofs.YthgnmpjcbicdhaaDoor

