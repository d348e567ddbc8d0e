/- Shifts, limb by limb; no program. -/
import Derived.Test.YthgnmpjcbicdhaaDoorNumB
set_option linter.unusedSimpArgs false
set_option linter.unusedVariables false
namespace Go.Proofs.YthgnmpjcbicdhaaDoor
open Go

theorem T256_pow : T256 = 2 ^ 256 := rfl
theorem shl_bit (a n i j : Nat) (hi : i < 4) (hj : j < 64) : (a * 2 ^ n % T256).testBit (64 * i + j) = (decide (n ≤ 64 * i + j) && a.testBit (64 * i + j - n)) := by
  rw [T256_pow, Nat.testBit_mod_two_pow, Nat.testBit_mul_two_pow]
  have : 64 * i + j < 256 := by omega
  simp [this]
theorem lo_testBit (x r j : Nat) : (x * 2 ^ r % 18446744073709551616).testBit j = (decide (j < 64) && (decide (r ≤ j) && x.testBit (j - r))) := by
  have : (18446744073709551616 : Nat) = 2 ^ 64 := rfl
  rw [this, Nat.testBit_mod_two_pow, Nat.testBit_mul_two_pow]
theorem shl_none (a n q r i : Nat) (hn : n = 64 * q + r) (hi : i < 4) (hq : i < q) : Ln (a * 2 ^ n % T256) i = 0 := by
  refine Nat.eq_of_testBit_eq fun j => ?_
  rw [Ln_testBit, Nat.zero_testBit]
  by_cases hj : j < 64
  · rw [shl_bit _ _ _ _ hi hj]
    have : ¬ n ≤ 64 * i + j := by omega
    simp [this]
  · simp [hj]
theorem shl_first (a n q r i : Nat) (hn : n = 64 * q + r) (hr : r < 64) (hi : i < 4) (hq : i = q ∨ (q ≤ i ∧ r = 0)) : Ln (a * 2 ^ n % T256) i = Ln a (i - q) * 2 ^ r % 18446744073709551616 := by
  refine Nat.eq_of_testBit_eq fun j => ?_
  rw [Ln_testBit, lo_testBit]
  by_cases hj : j < 64
  · rw [shl_bit _ _ _ _ hi hj, Ln_testBit]
    by_cases hrj : r ≤ j
    · have h1 : n ≤ 64 * i + j := by omega
      have h2 : 64 * i + j - n = 64 * (i - q) + (j - r) := by omega
      have h3 : j - r < 64 := by omega
      simp [hj, h1, h2, h3, hrj]
    · have h1 : ¬ n ≤ 64 * i + j := by omega
      simp [h1, hrj]
  · simp [hj]
theorem shl_next (a n q r i : Nat) (hn : n = 64 * q + r) (hr0 : 0 < r) (hr : r < 64) (hi : i < 4) (hq : q < i) :
    Ln (a * 2 ^ n % T256) i = (Ln a (i - q) * 2 ^ r % 18446744073709551616) ||| (Ln a (i - q - 1) / 2 ^ (64 - r)) := by
  refine Nat.eq_of_testBit_eq fun j => ?_
  rw [Ln_testBit, Nat.testBit_or, lo_testBit, Nat.testBit_div_two_pow, Ln_testBit]
  by_cases hj : j < 64
  · rw [shl_bit _ _ _ _ hi hj, Ln_testBit]
    have h1 : n ≤ 64 * i + j := by omega
    by_cases hrj : r ≤ j
    · have h2 : 64 * i + j - n = 64 * (i - q) + (j - r) := by omega
      have h3 : j - r < 64 := by omega
      have h4 : ¬ j + (64 - r) < 64 := by omega
      simp [hj, h1, h2, h3, hrj, h4]
    · have h2 : 64 * i + j - n = 64 * (i - q - 1) + (j + (64 - r)) := by omega
      have h4 : j + (64 - r) < 64 := by omega
      simp [hj, h1, h2, hrj, h4]
  · have h4 : ¬ j + (64 - r) < 64 := by omega
    simp [hj, h4, Ln_testBit]
theorem shr_bit (a n i j : Nat) : (a / 2 ^ n).testBit (64 * i + j) = a.testBit (64 * i + j + n) := by
  rw [Nat.testBit_div_two_pow]
theorem shr_last (a n q r i : Nat) (ha : a < T256) (hn : n = 64 * q + r) (hr : r < 64) (hq : i + q = 3 ∨ r = 0) : Ln (a / 2 ^ n) i = Ln a (i + q) / 2 ^ r := by
  refine Nat.eq_of_testBit_eq fun j => ?_
  rw [Ln_testBit, shr_bit, Nat.testBit_div_two_pow, Ln_testBit]
  by_cases hj : j + r < 64
  · have h1 : j < 64 := by omega
    have h2 : 64 * i + j + n = 64 * (i + q) + (j + r) := by omega
    simp [hj, h1, h2]
  · by_cases h1 : j < 64
    · have h3 : i + q = 3 := by omega
      have h2 : a.testBit (64 * i + j + n) = false := Nat.testBit_lt_two_pow (Nat.lt_of_lt_of_le ha (by rw [T256_pow]; exact Nat.pow_le_pow_right (by omega) (by omega)))
      simp [hj, h2]
    · simp [hj, h1]
theorem shr_out (a n q r i : Nat) (ha : a < T256) (hn : n = 64 * q + r) (hq : 3 < i + q) : Ln (a / 2 ^ n) i = 0 := by
  refine Nat.eq_of_testBit_eq fun j => ?_
  rw [Ln_testBit, shr_bit, Nat.zero_testBit]
  have h2 : a.testBit (64 * i + j + n) = false := Nat.testBit_lt_two_pow (Nat.lt_of_lt_of_le ha (by rw [T256_pow]; exact Nat.pow_le_pow_right (by omega) (by omega)))
  simp [h2]
theorem shr_next (a n q r i : Nat) (hn : n = 64 * q + r) (hr0 : 0 < r) (hr : r < 64) :
    Ln (a / 2 ^ n) i = (Ln a (i + q) / 2 ^ r) ||| (Ln a (i + q + 1) * 2 ^ (64 - r) % 18446744073709551616) := by
  refine Nat.eq_of_testBit_eq fun j => ?_
  rw [Ln_testBit, shr_bit, Nat.testBit_or, Nat.testBit_div_two_pow, Ln_testBit, lo_testBit, Ln_testBit]
  by_cases hj : j < 64
  · by_cases hjr : j + r < 64
    · have h2 : 64 * i + j + n = 64 * (i + q) + (j + r) := by omega
      have h3 : ¬ 64 - r ≤ j := by omega
      simp [hj, hjr, h2, h3]
    · have h2 : 64 * i + j + n = 64 * (i + q + 1) + (j - (64 - r)) := by omega
      have h3 : 64 - r ≤ j := by omega
      have h4 : j - (64 - r) < 64 := by omega
      simp [hj, hjr, h2, h3, h4]
  · have h3 : ¬ j + r < 64 := by omega
    simp [hj, h3]

/-- The walk's spelling of a limb that is moved up, moved down, and of both together. -/
theorem up_eq (x r : Nat) : IntKind.u64.wrap ((x : Int) * 2 ^ r) = ((x * 2 ^ r % 18446744073709551616 : Nat) : Int) := by
  rw [IntKind.wrap_u64]; simp
theorem down_eq (x r : Nat) : ((x : Int) / 2 ^ r) = ((x / 2 ^ r : Nat) : Int) := by simp
theorem or_eq (x y : Nat) (hx : x < 18446744073709551616) (hy : y < 18446744073709551616) : bits BinOp.or IntKind.u64 (x : Int) (y : Int) = ((x ||| y : Nat) : Int) := bits_or_u64_nat _ _ hx hy
theorem both_eq (x y r s : Nat) (hy : y < 18446744073709551616) : bits BinOp.or IntKind.u64 (IntKind.u64.wrap ((x : Int) * 2 ^ r)) ((y : Int) / 2 ^ s) = ((x * 2 ^ r % 18446744073709551616 ||| y / 2 ^ s : Nat) : Int) := by
  rw [up_eq, down_eq, or_eq _ _ (Nat.mod_lt _ (by decide)) (Nat.lt_of_le_of_lt (Nat.div_le_self _ _) hy)]
theorem both_eq' (x y r s : Nat) (hx : x < 18446744073709551616) : bits BinOp.or IntKind.u64 ((x : Int) / 2 ^ r) (IntKind.u64.wrap ((y : Int) * 2 ^ s)) = ((x / 2 ^ r ||| y * 2 ^ s % 18446744073709551616 : Nat) : Int) := by
  rw [up_eq, down_eq, or_eq _ _ (Nat.lt_of_le_of_lt (Nat.div_le_self _ _) hx) (Nat.mod_lt _ (by decide))]

/-- In Int's spelling: limb i of a shifted up by n. -/
theorem shlL_none (a : Nat) (n : Int) (q i : Nat) (h0 : 0 ≤ n) (hq : n / 64 = q) (hi : i < 4) (h : i < q) : L (a * 2 ^ n.toNat % T256) i = 0 := by
  rw [L_Ln, shl_none a n.toNat q (n % 64).toNat i (by omega) hi h]; rfl
theorem shlL_first (a : Nat) (n : Int) (q i p : Nat) (h0 : 0 ≤ n) (hq : n / 64 = q) (hi : i < 4) (h : i = q ∨ (q ≤ i ∧ n % 64 = 0)) (hp : i - q = p) :
    L (a * 2 ^ n.toNat % T256) i = IntKind.u64.wrap (L a p * 2 ^ (n % 64).toNat) := by
  subst hp
  rw [L_Ln, L_Ln, up_eq, shl_first a n.toNat q (n % 64).toNat i (by omega) (by omega) hi (by omega)]
theorem shlL_next (a : Nat) (n : Int) (q i p s : Nat) (h0 : 0 ≤ n) (hq : n / 64 = q) (hr : 0 < n % 64) (hi : i < 4) (h : q < i) (hp : i - q = p) (hs : i - q - 1 = s) :
    L (a * 2 ^ n.toNat % T256) i = bits BinOp.or IntKind.u64 (IntKind.u64.wrap (L a p * 2 ^ (n % 64).toNat)) (L a s / 2 ^ (64 - n % 64).toNat) := by
  subst hp hs
  rw [L_Ln, L_Ln, L_Ln, both_eq _ _ _ _ (Ln_lt _ _), shl_next a n.toNat q (n % 64).toNat i (by omega) (by omega) (by omega) hi h]
  have : 64 - (n % 64).toNat = (64 - n % 64).toNat := by omega
  rw [this]
theorem shrL_out (a : Nat) (n : Int) (q i : Nat) (ha : a < T256) (h0 : 0 ≤ n) (hq : n / 64 = q) (h : 3 < i + q) : L (a / 2 ^ n.toNat) i = 0 := by
  rw [L_Ln, shr_out a n.toNat q (n % 64).toNat i ha (by omega) h]; rfl
theorem shrL_last (a : Nat) (n : Int) (q i p : Nat) (ha : a < T256) (h0 : 0 ≤ n) (hq : n / 64 = q) (h : i + q = 3 ∨ n % 64 = 0) (hp : i + q = p) :
    L (a / 2 ^ n.toNat) i = L a p / 2 ^ (n % 64).toNat := by
  subst hp
  rw [L_Ln, L_Ln, down_eq, shr_last a n.toNat q (n % 64).toNat i ha (by omega) (by omega) (by omega)]
theorem shrL_next (a : Nat) (n : Int) (q i p s : Nat) (h0 : 0 ≤ n) (hq : n / 64 = q) (hr : 0 < n % 64) (hp : i + q = p) (hs : i + q + 1 = s) :
    L (a / 2 ^ n.toNat) i = bits BinOp.or IntKind.u64 (L a p / 2 ^ (n % 64).toNat) (IntKind.u64.wrap (L a s * 2 ^ (64 - n % 64).toNat)) := by
  subst hp hs
  rw [L_Ln, L_Ln, L_Ln, both_eq' _ _ _ _ (Ln_lt _ _), shr_next a n.toNat q (n % 64).toNat i (by omega) (by omega) (by omega)]
  have : 64 - (n % 64).toNat = (64 - n % 64).toNat := by omega
  rw [this]
end Go.Proofs.YthgnmpjcbicdhaaDoor

