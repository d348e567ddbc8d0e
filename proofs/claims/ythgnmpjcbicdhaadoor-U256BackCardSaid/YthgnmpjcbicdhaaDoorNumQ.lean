/- Division bit by bit; no program. -/
import Derived.Test.YthgnmpjcbicdhaaDoorNumS
set_option linter.unusedSimpArgs false
set_option linter.unusedVariables false
namespace Go.Proofs.YthgnmpjcbicdhaaDoor
open Go

/-- Behind the bits from k on: the quotient as it stands, and the rest. -/
def QQ (N m k : Nat) : Nat := N / 2 ^ k / m * 2 ^ k
def RR (N m k : Nat) : Nat := N / 2 ^ k % m
theorem QQ_zero (N m : Nat) : QQ N m 0 = N / m := by simp [QQ]
theorem RR_zero (N m : Nat) : RR N m 0 = N % m := by simp [RR]
theorem QQ_top (N m k : Nat) (h : N < 2 ^ k) : QQ N m k = 0 := by unfold QQ; rw [Nat.div_eq_of_lt h]; simp
theorem RR_top (N m k : Nat) (h : N < 2 ^ k) : RR N m k = 0 := by unfold RR; rw [Nat.div_eq_of_lt h]; simp
theorem RR_lt (N m k : Nat) (h : 0 < m) : RR N m k < m := Nat.mod_lt _ h
theorem half_step (N n : Nat) : N / 2 ^ n = 2 * (N / 2 ^ (n + 1)) + N / 2 ^ n % 2 := by
  rw [Nat.pow_succ, ← Nat.div_div_eq_div_mul]; omega
theorem step_small (N m n : Nat) (hm : 0 < m) (h : 2 * RR N m (n + 1) + N / 2 ^ n % 2 < m) :
    RR N m n = 2 * RR N m (n + 1) + N / 2 ^ n % 2 ∧ QQ N m n = QQ N m (n + 1) := by
  unfold RR QQ at *
  have e := half_step N n
  have d := Nat.div_add_mod (N / 2 ^ (n + 1)) m
  generalize N / 2 ^ (n + 1) = A at *
  generalize N / 2 ^ n = B at *
  have e2 : B = m * (2 * (A / m)) + (2 * (A % m) + B % 2) := by
    have : m * (2 * (A / m)) = 2 * (m * (A / m)) := by rw [Nat.mul_left_comm]
    omega
  have e3 : B / m = 2 * (A / m) := by
    rw [e2, Nat.mul_add_div hm, Nat.div_eq_of_lt h]; simp
  have e4 : B % m = 2 * (A % m) + B % 2 := by
    conv => lhs; rw [e2]
    rw [Nat.mul_add_mod, Nat.mod_eq_of_lt h]
  refine ⟨e4, ?_⟩
  rw [e3, Nat.pow_succ, Nat.mul_comm 2 (A / m), Nat.mul_assoc, Nat.mul_comm 2]
theorem step_big (N m n : Nat) (hm : 0 < m) (h : m ≤ 2 * RR N m (n + 1) + N / 2 ^ n % 2) :
    RR N m n = 2 * RR N m (n + 1) + N / 2 ^ n % 2 - m ∧ QQ N m n = QQ N m (n + 1) + 2 ^ n := by
  have hr := RR_lt N m (n + 1) hm
  unfold RR QQ at *
  have e := half_step N n
  have d := Nat.div_add_mod (N / 2 ^ (n + 1)) m
  generalize N / 2 ^ (n + 1) = A at *
  generalize N / 2 ^ n = B at *
  have hlt : 2 * (A % m) + B % 2 - m < m := by omega
  have e2 : B = m * (2 * (A / m) + 1) + (2 * (A % m) + B % 2 - m) := by
    have : m * (2 * (A / m) + 1) = 2 * (m * (A / m)) + m := by rw [Nat.mul_add, Nat.mul_left_comm]; omega
    omega
  have e3 : B / m = 2 * (A / m) + 1 := by
    conv => lhs; rw [e2]
    rw [Nat.mul_add_div hm, Nat.div_eq_of_lt hlt]
  have e4 : B % m = 2 * (A % m) + B % 2 - m := by
    conv => lhs; rw [e2]
    rw [Nat.mul_add_mod, Nat.mod_eq_of_lt hlt]
  refine ⟨e4, ?_⟩
  rw [e3, Nat.pow_succ, Nat.add_mul, Nat.one_mul, Nat.mul_comm 2 (A / m), Nat.mul_assoc, Nat.mul_comm 2]
/-- The new bit of the quotient is laid where a 0 is. -/
theorem QQ_or (N m n : Nat) : QQ N m (n + 1) + 2 ^ n = QQ N m (n + 1) ||| 2 ^ n := by
  unfold QQ
  rw [Nat.mul_comm _ (2 ^ (n + 1)), Nat.two_pow_add_eq_or_of_lt (by exact Nat.pow_lt_pow_right (by omega) (by omega))]
/-- In the higher half, in the lower half. -/
theorem or_hi (x n : Nat) (h : 256 ≤ n) : (x ||| 2 ^ n) / T256 = x / T256 ||| 2 ^ (n - 256) ∧ (x ||| 2 ^ n) % T256 = x % T256 := by
  rw [T256_pow]
  constructor
  · refine Nat.eq_of_testBit_eq fun j => ?_
    rw [Nat.testBit_div_two_pow, Nat.testBit_or, Nat.testBit_or, Nat.testBit_div_two_pow, Nat.testBit_two_pow, Nat.testBit_two_pow]
    have : (n = j + 256) ↔ (n - 256 = j) := by omega
    simp [this]
  · refine Nat.eq_of_testBit_eq fun j => ?_
    rw [Nat.testBit_mod_two_pow, Nat.testBit_or, Nat.testBit_mod_two_pow, Nat.testBit_two_pow]
    by_cases hj : j < 256
    · have : ¬ n = j := by omega
      simp [hj, this]
    · simp [hj]
theorem or_lo (x n : Nat) (h : n < 256) : (x ||| 2 ^ n) / T256 = x / T256 ∧ (x ||| 2 ^ n) % T256 = x % T256 ||| 2 ^ n := by
  rw [T256_pow]
  constructor
  · refine Nat.eq_of_testBit_eq fun j => ?_
    rw [Nat.testBit_div_two_pow, Nat.testBit_or, Nat.testBit_div_two_pow, Nat.testBit_two_pow]
    have : ¬ n = j + 256 := by omega
    simp [this]
  · refine Nat.eq_of_testBit_eq fun j => ?_
    rw [Nat.testBit_mod_two_pow, Nat.testBit_or, Nat.testBit_or, Nat.testBit_mod_two_pow, Nat.testBit_two_pow]
    by_cases hj : j < 256
    · simp [hj]
    · have : ¬ n = j := by omega
      simp [hj, this]
/-- A bit of the whole number out of its halves. -/
theorem bit_hi (hi lo n : Nat) (hlo : lo < T256) (h : 256 ≤ n) : (hi * T256 + lo) / 2 ^ n % 2 = hi / 2 ^ (n - 256) % 2 := by
  have e : n = 256 + (n - 256) := by omega
  conv => lhs; rw [e]
  rw [Nat.pow_add, ← Nat.div_div_eq_div_mul, ← T256_pow, Nat.mul_comm, Nat.mul_add_div T256_pos, Nat.div_eq_of_lt hlo, Nat.add_zero]
theorem bit_lo (hi lo n : Nat) (h : n < 256) : (hi * T256 + lo) / 2 ^ n % 2 = lo / 2 ^ n % 2 := by
  rw [← Nat.toNat_testBit, ← Nat.toNat_testBit, T256_pow]
  have e : (hi * 2 ^ 256 + lo).testBit n = lo.testBit n := by
    have h1 : ((hi * 2 ^ 256 + lo) % 2 ^ 256).testBit n = (lo % 2 ^ 256).testBit n := by rw [Nat.mul_comm, Nat.mul_add_mod]
    rw [Nat.testBit_mod_two_pow, Nat.testBit_mod_two_pow] at h1
    simpa [h] using h1
  rw [e]

/-- The four cells of a number. -/
def UC (n : Nat) : Array Value := #[.int .u64 (L n 0), .int .u64 (L n 1), .int .u64 (L n 2), .int .u64 (L n 3)]
theorem UC_at (a i : Nat) (h : i < 4) : (UC a)[i]? = some (.int .u64 (L a i)) := by
  match i, h with
  | 0, _ => rfl
  | 1, _ => rfl
  | 2, _ => rfl
  | 3, _ => rfl
theorem UC_or (a n : Nat) (h : n < 256) : (UC a).setIfInBounds (n / 64) (.int .u64 (bits BinOp.or IntKind.u64 (L a (n / 64)) (IntKind.u64.wrap (2 ^ (n % 64))))) = UC (a ||| 2 ^ n) := by
  have hs := with_same a n (n / 64) (by omega) (by omega)
  have ho := fun p hp => with_other a n (n / 64) p (by omega) (by omega) hp
  have e1 : (((n : Int) % 64).toNat) = n % 64 := by omega
  rw [e1, Int.toNat_natCast] at hs
  simp only [Int.toNat_natCast] at ho
  rw [hs]
  have hq : n / 64 < 4 := by omega
  generalize n / 64 = q at *
  unfold UC
  match q, hq with
  | 0, _ => rw [← ho 1 (by decide), ← ho 2 (by decide), ← ho 3 (by decide)]; rfl
  | 1, _ => rw [← ho 0 (by decide), ← ho 2 (by decide), ← ho 3 (by decide)]; rfl
  | 2, _ => rw [← ho 0 (by decide), ← ho 1 (by decide), ← ho 3 (by decide)]; rfl
  | 3, _ => rw [← ho 0 (by decide), ← ho 1 (by decide), ← ho 2 (by decide)]; rfl
/-- The rest, doubled, and a bit laid into it. -/
theorem UC_bit (r b : Nat) (hb : b < 2) : (UC (2 * r % T256)).setIfInBounds 0 (.int .u64 (bits BinOp.or IntKind.u64 (L (2 * r % T256) 0) b)) = UC (2 * r % T256 + b) := by
  have h0 : 2 * r % T256 % 2 = 0 := by rw [T256_eq]; omega
  generalize 2 * r % T256 = x at *
  have e : L x 0 = ((x % 18446744073709551616 : Nat) : Int) := L0 x
  have hx : x % 18446744073709551616 ||| b = x % 18446744073709551616 + b := by
    rcases (show b = 0 ∨ b = 1 by omega) with rfl | rfl
    · simp
    · have := Nat.two_pow_add_eq_or_of_lt (show 1 < 2 ^ 1 by decide) (x % 18446744073709551616 / 2)
      rw [show 2 ^ 1 * (x % 18446744073709551616 / 2) = x % 18446744073709551616 by omega] at this
      exact this.symm
  rw [e, bits_or_u64_nat _ _ (Nat.mod_lt _ (by decide)) (by omega), hx]
  unfold UC
  have l0 : L (x + b) 0 = ((x % 18446744073709551616 + b : Nat) : Int) := by rw [L0]; omega
  have l1 : L (x + b) 1 = L x 1 := by rw [L1, L1]; omega
  have l2 : L (x + b) 2 = L x 2 := by rw [L2, L2]; omega
  have l3 : L (x + b) 3 = L x 3 := by rw [L3, L3]; omega
  rw [l0, l1, l2, l3]
  rfl
theorem top_eq (r : Nat) (h : r < T256) : L r 3 / 9223372036854775808 = ((2 * r / T256 : Nat) : Int) := by
  rw [L3]; rw [T256_eq] at *; omega
theorem two_div (R : Nat) (h : R < T256) : 2 * R / T256 = 0 ∨ 2 * R / T256 = 1 := by rw [T256_eq] at *; omega
theorem dbl (k j : Nat) (h : k = j + j) : 2 ^ k = 2 ^ j * 2 ^ j := by rw [h, Nat.pow_add]
theorem full_lt (hi lo : Nat) (hh : hi < T256) (hl : lo < T256) (k : Nat) (hk : k = 256 + 256) : hi * T256 + lo < 2 ^ k := by
  have e := dbl k 256 hk
  rw [← T256_pow] at e
  rw [e]
  have := Nat.mul_le_mul_right T256 (show hi + 1 ≤ T256 by omega)
  rw [Nat.add_mul] at this
  omega
theorem QQ_full (hi lo m k : Nat) (hk : k = 256 + 256) (hh : hi < T256) (hl : lo < T256) : QQ (hi * T256 + lo) m k = 0 := QQ_top _ _ _ (full_lt hi lo hh hl _ hk)
theorem RR_full (hi lo m k : Nat) (hk : k = 256 + 256) (hh : hi < T256) (hl : lo < T256) : RR (hi * T256 + lo) m k = 0 := RR_top _ _ _ (full_lt hi lo hh hl _ hk)
end Go.Proofs.YthgnmpjcbicdhaaDoor

