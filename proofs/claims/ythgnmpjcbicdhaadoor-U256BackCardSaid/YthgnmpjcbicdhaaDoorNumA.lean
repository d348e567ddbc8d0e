/- And, Or, Xor, Not by limbs; the length of a number; bits moved one by one. No program. -/
import Derived.Test.YthgnmpjcbicdhaaDoorNumS
import Derived.Test.YthgnmpjcbicdhaaDoorNumQ
namespace Go.Proofs.YthgnmpjcbicdhaaDoor
open Go Go.RowKit

theorem Ln_and (a b i : Nat) : Ln (a &&& b) i = Ln a i &&& Ln b i := by
  refine Nat.eq_of_testBit_eq fun j => ?_
  rw [Ln_testBit, Nat.testBit_and, Nat.testBit_and, Ln_testBit, Ln_testBit]
  by_cases hj : j < 64 <;> simp [hj]
theorem Ln_or (a b i : Nat) : Ln (a ||| b) i = Ln a i ||| Ln b i := by
  refine Nat.eq_of_testBit_eq fun j => ?_
  rw [Ln_testBit, Nat.testBit_or, Nat.testBit_or, Ln_testBit, Ln_testBit]
  by_cases hj : j < 64 <;> simp [hj]
theorem Ln_xor (a b i : Nat) : Ln (a ^^^ b) i = Ln a i ^^^ Ln b i := by
  refine Nat.eq_of_testBit_eq fun j => ?_
  rw [Ln_testBit, Nat.testBit_xor, Nat.testBit_xor, Ln_testBit, Ln_testBit]
  by_cases hj : j < 64 <;> simp [hj]
/-- All bits turned. -/
def notN (a : Nat) : Nat := a ^^^ (T256 - 1)
theorem Ln_ones (i : Nat) (h : i < 4) : Ln (T256 - 1) i = 18446744073709551615 := by
  match i, h with
  | 0, _ | 1, _ | 2, _ | 3, _ => decide +kernel
theorem L_and (a b i : Nat) : L (a &&& b) i = bits BinOp.and IntKind.u64 (L a i) (L b i) := by
  rw [L_Ln, L_Ln, L_Ln, Ln_and, bits_and_u64_nat _ _ (Ln_lt _ _) (Ln_lt _ _)]
theorem L_or (a b i : Nat) : L (a ||| b) i = bits BinOp.or IntKind.u64 (L a i) (L b i) := by
  rw [L_Ln, L_Ln, L_Ln, Ln_or, bits_or_u64_nat _ _ (Ln_lt _ _) (Ln_lt _ _)]
theorem L_xor (a b i : Nat) : L (a ^^^ b) i = bits BinOp.xor IntKind.u64 (L a i) (L b i) := by
  rw [L_Ln, L_Ln, L_Ln, Ln_xor, bits_xor_u64_nat _ _ (Ln_lt _ _) (Ln_lt _ _)]
theorem L_not (a i : Nat) (h : i < 4) : L (notN a) i = bits BinOp.xor IntKind.u64 IntKind.u64.max (L a i) := by
  have e := bits_xor_u64_nat 18446744073709551615 (Ln a i) (by omega) (Ln_lt _ _)
  rw [show IntKind.u64.max = 18446744073709551615 from rfl]
  rw [L_Ln, L_Ln, notN, Ln_xor, Ln_ones i h, Nat.xor_comm]
  exact e.symm
theorem U_and (a b : Nat) : U (a &&& b) = .agg #[.int .u64 (bits BinOp.and IntKind.u64 (L a 0) (L b 0)), .int .u64 (bits BinOp.and IntKind.u64 (L a 1) (L b 1)), .int .u64 (bits BinOp.and IntKind.u64 (L a 2) (L b 2)), .int .u64 (bits BinOp.and IntKind.u64 (L a 3) (L b 3))] := by
  unfold U; rw [L_and, L_and, L_and, L_and]
theorem U_or (a b : Nat) : U (a ||| b) = .agg #[.int .u64 (bits BinOp.or IntKind.u64 (L a 0) (L b 0)), .int .u64 (bits BinOp.or IntKind.u64 (L a 1) (L b 1)), .int .u64 (bits BinOp.or IntKind.u64 (L a 2) (L b 2)), .int .u64 (bits BinOp.or IntKind.u64 (L a 3) (L b 3))] := by
  unfold U; rw [L_or, L_or, L_or, L_or]
theorem U_xor (a b : Nat) : U (a ^^^ b) = .agg #[.int .u64 (bits BinOp.xor IntKind.u64 (L a 0) (L b 0)), .int .u64 (bits BinOp.xor IntKind.u64 (L a 1) (L b 1)), .int .u64 (bits BinOp.xor IntKind.u64 (L a 2) (L b 2)), .int .u64 (bits BinOp.xor IntKind.u64 (L a 3) (L b 3))] := by
  unfold U; rw [L_xor, L_xor, L_xor, L_xor]
theorem U_not (a : Nat) : U (notN a) = .agg #[.int .u64 (bits BinOp.xor IntKind.u64 IntKind.u64.max (L a 0)), .int .u64 (bits BinOp.xor IntKind.u64 IntKind.u64.max (L a 1)), .int .u64 (bits BinOp.xor IntKind.u64 IntKind.u64.max (L a 2)), .int .u64 (bits BinOp.xor IntKind.u64 IntKind.u64.max (L a 3))] := by
  unfold U; rw [L_not _ _ (by decide), L_not _ _ (by decide), L_not _ _ (by decide), L_not _ _ (by decide)]

/-- How many bits a number has. -/
def lenN (a : Nat) : Nat := if a = 0 then 0 else a.log2 + 1
theorem lenN_le (a k : Nat) (h : a < 2 ^ k) : lenN a ≤ k := by
  unfold lenN; split
  · omega
  · rename_i h0; have := (Nat.log2_lt h0).2 h; omega
theorem lenN_of (a k : Nat) (h0 : 2 ^ k ≤ a) (h1 : a < 2 ^ (k + 1)) : lenN a = k + 1 := by
  have hp : 0 < 2 ^ k := Nat.two_pow_pos k
  have hne : a ≠ 0 := by omega
  unfold lenN
  rw [if_neg hne]
  have h2 := (Nat.log2_lt hne).2 h1
  have h3 := (Nat.le_log2 hne).2 h0
  omega
theorem lenN_lt (a : Nat) : a < 2 ^ lenN a := by
  unfold lenN; split
  · rename_i h; subst h; decide
  · exact Nat.lt_log2_self
theorem lenN_top (a : Nat) (h : 0 < lenN a) : 2 ^ (lenN a - 1) ≤ a := by
  unfold lenN at *
  split at h
  · omega
  · rename_i h0
    rw [if_neg h0]
    exact (Nat.le_log2 h0).1 (by omega)
/-- By its highest limb that is not 0. -/
theorem lenN_limb (a i : Nat) (x : Nat) (h : a / 2 ^ (64 * i) = x) (hx : 0 < x) : lenN a = 64 * i + lenN x := by
  have h1 := lenN_lt x
  have h2 := lenN_top x (by unfold lenN; split <;> omega)
  have hl : 0 < lenN x := by unfold lenN; split <;> omega
  obtain ⟨m, hm⟩ : ∃ m, lenN x = m + 1 := ⟨lenN x - 1, by omega⟩
  rw [hm] at h1 h2 ⊢
  have hp : 0 < 2 ^ (64 * i) := Nat.two_pow_pos _
  refine lenN_of a (64 * i + m) ?_ ?_
  · rw [Nat.pow_add]
    have := Nat.mul_le_mul_left (2 ^ (64 * i)) h2
    simp only [Nat.add_sub_cancel] at this
    have h3 := Nat.div_mul_le_self a (2 ^ (64 * i))
    rw [h, Nat.mul_comm] at h3
    omega
  · rw [show 64 * i + m + 1 = 64 * i + (m + 1) by omega, Nat.pow_add]
    rw [← h] at h1
    have h5 := (Nat.div_lt_iff_lt_mul hp).1 h1
    rwa [Nat.mul_comm] at h5
theorem testBit_lenN (a j : Nat) (h : lenN a ≤ j) : a.testBit j = false :=
  Nat.testBit_lt_two_pow (Nat.lt_of_lt_of_le (lenN_lt a) (Nat.pow_le_pow_right (by omega) h))
theorem lenN_bits (a k : Nat) (h1 : a.testBit k = true) (h2 : ∀ j, k < j → a.testBit j = false) : lenN a = k + 1 := by
  refine lenN_of a k (Nat.ge_two_pow_of_testBit h1) ?_
  exact Nat.lt_pow_two_of_testBit a fun j hj => h2 j (by omega)
theorem lenN_zero (a : Nat) (h2 : ∀ j, a.testBit j = false) : lenN a = 0 := by
  have : a = 0 := Nat.eq_of_testBit_eq fun j => by rw [h2 j, Nat.zero_testBit]
  subst this; rfl

/-- x moved up by n places (down, if n is below 0). -/
def shlZ (a : Nat) (n : Int) : Nat := if n < -255 ∨ 255 < n then 0 else if n < 0 then a / 2 ^ (-n).toNat else a * 2 ^ n.toNat % T256
theorem shlZ_lt (a : Nat) (n : Int) (h : a < T256) : shlZ a n < T256 := by
  unfold shlZ; split
  · exact T256_pos
  · split
    · exact Nat.lt_of_le_of_lt (Nat.div_le_self _ _) h
    · exact mod_lt256 _
def bitB (a : Nat) (i : Int) : Bool := bitI a i == 1
theorem bitB_at (a : Nat) (i : Int) : bitB a i = (decide (0 ≤ i) && decide (i ≤ 255) && a.testBit i.toNat) := by
  unfold bitB bitI
  by_cases h : i < 0 ∨ 255 < i
  · rw [if_pos h]
    rcases h with h | h
    · have : decide (0 ≤ i) = false := by simp; omega
      simp [this]
    · have : decide (i ≤ 255) = false := by simp; omega
      simp [this]
  · rw [if_neg h]
    have h1 : decide (0 ≤ i) = true := by simp; omega
    have h2 : decide (i ≤ 255) = true := by simp; omega
    rw [h1, h2, ← Nat.toNat_testBit]
    cases a.testBit i.toNat <;> simp
/-- The first k bits of x moved up by n places. -/
def shlK (a : Nat) (n : Int) : Nat → Nat
  | 0 => 0
  | k + 1 => if bitI a ((k : Int) - n) = 1 then shlK a n k ||| 2 ^ k else shlK a n k
theorem shlK_testBit (a : Nat) (n : Int) : ∀ (k j : Nat), (shlK a n k).testBit j = (decide (j < k) && bitB a ((j : Int) - n))
  | 0, j => by simp [shlK]
  | k + 1, j => by
    have ih := shlK_testBit a n k j
    unfold shlK
    by_cases hb : bitI a ((k : Int) - n) = 1
    · rw [if_pos hb, Nat.testBit_or, ih, Nat.testBit_two_pow]
      by_cases hj : k = j
      · subst hj
        have : bitB a ((k : Int) - n) = true := by unfold bitB; simp [hb]
        simp [this]
      · have : (decide (j < k) : Bool) = decide (j < k + 1) := by rw [decide_eq_decide]; omega
        rw [this]; simp [hj]
    · rw [if_neg hb, ih]
      by_cases hj : k = j
      · subst hj
        have : bitB a ((k : Int) - n) = false := by unfold bitB; simp [hb]
        simp [this]
      · have : (decide (j < k) : Bool) = decide (j < k + 1) := by rw [decide_eq_decide]; omega
        rw [this]
theorem shlK_full (a : Nat) (n : Int) (ha : a < T256) (h0 : -255 ≤ n) (h1 : n ≤ 255) (k : Nat) (hk : k = 256) : shlK a n k = shlZ a n := by
  subst hk
  refine Nat.eq_of_testBit_eq fun j => ?_
  rw [shlK_testBit, bitB_at]
  unfold shlZ
  rw [if_neg (by omega)]
  have hz : ∀ i, 256 ≤ i → a.testBit i = false := fun i hi => Nat.testBit_lt_two_pow (Nat.lt_of_lt_of_le ha (by rw [T256_pow]; exact Nat.pow_le_pow_right (by omega) hi))
  by_cases hn : n < 0
  · rw [if_pos hn, Nat.testBit_div_two_pow]
    have e : ((j : Int) - n).toNat = j + (-n).toNat := by omega
    rw [e]
    by_cases hj : j + (-n).toNat < 256
    · have d1 : decide (j < 256) = true := by simp; omega
      have d2 : decide (0 ≤ (j : Int) - n) = true := by simp; omega
      have d3 : decide ((j : Int) - n ≤ 255) = true := by simp; omega
      rw [d1, d2, d3]; simp
    · rw [hz _ (by omega)]; simp
  · rw [if_neg hn, T256_pow, Nat.testBit_mod_two_pow, Nat.testBit_mul_two_pow]
    by_cases hj : n.toNat ≤ j
    · have e : ((j : Int) - n).toNat = j - n.toNat := by omega
      rw [e]
      by_cases h2 : j - n.toNat < 256
      · have d2 : decide (0 ≤ (j : Int) - n) = true := by simp; omega
        have d3 : decide ((j : Int) - n ≤ 255) = true := by simp; omega
        have d4 : decide (n.toNat ≤ j) = true := by simpa using hj
        rw [d2, d3, d4]; simp
      · rw [hz _ (by omega)]; simp
    · have d2 : decide (0 ≤ (j : Int) - n) = false := by simp; omega
      have d4 : decide (n.toNat ≤ j) = false := by simpa using hj
      rw [d2, d4]; simp
end Go.Proofs.YthgnmpjcbicdhaaDoor

