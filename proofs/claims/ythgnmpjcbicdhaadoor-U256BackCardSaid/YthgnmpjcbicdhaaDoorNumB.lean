/- Bits of numbers and of their limbs; no program. -/
import Derived.Test.YthgnmpjcbicdhaaDoorNum
import Derived.WalkSmall
import Derived.Laws.Bits64b
set_option linter.unusedSimpArgs false
set_option linter.unusedVariables false
namespace Go.Proofs.YthgnmpjcbicdhaaDoor
open Go

/-- Limb i as a natural number. -/
def Ln (n i : Nat) : Nat := n / 2 ^ (64 * i) % 2 ^ 64
theorem L_Ln (n i : Nat) : L n i = (Ln n i : Int) := rfl
theorem Ln_lt (n i : Nat) : Ln n i < 18446744073709551616 := Nat.mod_lt _ (by decide)
theorem Ln_testBit (n i j : Nat) : (Ln n i).testBit j = (decide (j < 64) && n.testBit (64 * i + j)) := by
  unfold Ln
  rw [Nat.testBit_mod_two_pow, Nat.testBit_div_two_pow, Nat.add_comm]
theorem Ln_bit (n q r : Nat) (h : r < 64) : Ln n q / 2 ^ r % 2 = n / 2 ^ (64 * q + r) % 2 := by
  rw [← Nat.toNat_testBit, ← Nat.toNat_testBit, Ln_testBit]
  simp [h]

def bitI (a : Nat) (i : Int) : Int := if i < 0 ∨ 255 < i then 0 else ((a / 2 ^ i.toNat % 2 : Nat) : Int)
theorem bitI_01 (a : Nat) (i : Int) : bitI a i = 0 ∨ bitI a i = 1 := by
  unfold bitI; split
  · exact .inl rfl
  · omega
theorem bitI_at (a i : Nat) (h : i ≤ 255) : bitI a i = ((a / 2 ^ i % 2 : Nat) : Int) := by
  unfold bitI; rw [if_neg (by omega)]; simp
/-- A limb moved down, as the walk spells it. -/
theorem limb_shr (a q : Nat) (r : Nat) : L a q / 2 ^ r = ((Ln a q / 2 ^ r : Nat) : Int) := by rw [L_Ln]; simp
theorem limb_pos (a q r : Nat) : 0 ≤ L a q / 2 ^ r := by rw [limb_shr]; exact Int.natCast_nonneg _
theorem limb_bit (a : Nat) (i : Int) (q : Nat) (h0 : 0 ≤ i) (h1 : i ≤ 255) (hq : i / 64 = q) : bits BinOp.and IntKind.u64 (L a q / 2 ^ (i % 64).toNat) 1 = bitI a i ∧ L a q / 2 ^ (i % 64).toNat % 2 = bitI a i := by
  have hb : L a q / 2 ^ (i % 64).toNat % 2 = bitI a i := by
    rw [limb_shr]
    have := Ln_bit a q (i % 64).toNat (by omega)
    have e : 64 * q + (i % 64).toNat = i.toNat := by omega
    rw [e] at this
    unfold bitI
    rw [if_neg (by omega), ← this]
    rfl
  refine ⟨?_, hb⟩
  rw [and_one_u64, hb]
  · rw [limb_shr]; exact Int.natCast_nonneg _
  · rw [limb_shr]
    have : Ln a q / 2 ^ (i % 64).toNat ≤ Ln a q := Nat.div_le_self _ _
    have := Ln_lt a q
    omega

theorem Ln_or_same (a i : Nat) : Ln (a ||| 2 ^ i) (i / 64) = Ln a (i / 64) ||| 2 ^ (i % 64) := by
  refine Nat.eq_of_testBit_eq fun j => ?_
  rw [Ln_testBit, Nat.testBit_or, Nat.testBit_or, Ln_testBit, Nat.testBit_two_pow, Nat.testBit_two_pow]
  by_cases hj : j < 64
  · have : (i = 64 * (i / 64) + j) ↔ (i % 64 = j) := by omega
    simp [hj, this]
  · have h1 : ¬ (i % 64 = j) := by omega
    simp [hj, h1]
theorem Ln_or_other (a i q : Nat) (h : q ≠ i / 64) : Ln (a ||| 2 ^ i) q = Ln a q := by
  refine Nat.eq_of_testBit_eq fun j => ?_
  rw [Ln_testBit, Nat.testBit_or, Ln_testBit, Nat.testBit_two_pow]
  by_cases hj : j < 64
  · have : ¬ (i = 64 * q + j) := by omega
    simp [hj, this]
  · simp [hj]
theorem two_pow_lt64 (r : Nat) (h : r < 64) : 2 ^ r < 18446744073709551616 := by
  have : 2 ^ r < 2 ^ 64 := Nat.pow_lt_pow_right (by omega) h
  simpa using this
theorem with_same (a : Nat) (i : Int) (q : Nat) (h0 : 0 ≤ i) (hq : i / 64 = q) : bits BinOp.or IntKind.u64 (L a q) (IntKind.u64.wrap (2 ^ (i % 64).toNat)) = L (a ||| 2 ^ i.toNat) q := by
  have hr := two_pow_lt64 (i % 64).toNat (by omega)
  have e : q = i.toNat / 64 := by omega
  have e2 : i.toNat % 64 = (i % 64).toNat := by omega
  have e3 : IntKind.u64.wrap (2 ^ (i % 64).toNat) = ((2 ^ (i % 64).toNat : Nat) : Int) := by
    rw [IntKind.wrap_u64]
    have : (2 ^ (i % 64).toNat : Int) = ((2 ^ (i % 64).toNat : Nat) : Int) := by simp
    rw [this]
    generalize 2 ^ (i % 64).toNat = x at hr
    omega
  rw [e3, L_Ln, L_Ln, bits_or_u64_nat _ _ (Ln_lt _ _) hr, e, Ln_or_same, e2]
theorem with_other (a : Nat) (i : Int) (q p : Nat) (h0 : 0 ≤ i) (hq : i / 64 = q) (hp : p ≠ q) : L a p = L (a ||| 2 ^ i.toNat) p := by
  rw [L_Ln, L_Ln, Ln_or_other]; omega
end Go.Proofs.YthgnmpjcbicdhaaDoor

