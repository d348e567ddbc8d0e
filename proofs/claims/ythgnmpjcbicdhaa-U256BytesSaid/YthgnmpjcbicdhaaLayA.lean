/- Digits laid by adding instead of OR. No program. -/
import Derived.Test.YthgnmpjcbicdhaaLay
set_option linter.unusedSimpArgs false
set_option linter.unusedVariables false
namespace Go.Proofs.Ythgnmpjcbicdhaa
open Go Go.RowKit

theorem L_base (m q t : Nat) (ht : t ≤ 64) : L (m * 2 ^ (64 * q + t)) q = ((2 ^ t * (m % 2 ^ (64 - t)) : Nat) : Int) := by
  unfold L
  have e1 : m * 2 ^ (64 * q + t) = (2 ^ t * m) * 2 ^ (64 * q) := by rw [Nat.pow_add, Nat.mul_comm (2 ^ (64 * q)), ← Nat.mul_assoc, Nat.mul_comm m]
  have e2 : 2 ^ 64 = 2 ^ t * 2 ^ (64 - t) := by rw [← Nat.pow_add]; congr 1; omega
  rw [e1, Nat.mul_div_cancel _ (Nat.two_pow_pos _), e2, Nat.mul_mod_mul_left]
theorem or_plus (m d e q r : Nat) (hd : d < 2 ^ e) (hr : r + e ≤ 64) :
    bits BinOp.or IntKind.u64 (L (m * 2 ^ (64 * q + r + e)) q) ((d * 2 ^ r : Nat) : Int) = L (m * 2 ^ (64 * q + r + e)) q + ((d * 2 ^ r : Nat) : Int) ∧
      L (m * 2 ^ (64 * q + r + e)) q + ((d * 2 ^ r : Nat) : Int) < 18446744073709551616 := by
  have hy : d * 2 ^ r < 2 ^ (r + e) := by
    rw [Nat.pow_add, Nat.mul_comm]; exact Nat.mul_lt_mul_of_pos_left hd (Nat.two_pow_pos r)
  have hL := L_base m q (r + e) hr
  rw [← Nat.add_assoc] at hL
  rw [hL]
  have hm := Nat.mod_lt m (Nat.two_pow_pos (64 - (r + e)))
  have e2 : 2 ^ (r + e) * 2 ^ (64 - (r + e)) = 18446744073709551616 := by
    rw [← Nat.pow_add, show r + e + (64 - (r + e)) = 64 by omega]
  generalize m % 2 ^ (64 - (r + e)) = x at *
  have hx : 2 ^ (r + e) * (x + 1) ≤ 2 ^ (r + e) * 2 ^ (64 - (r + e)) := Nat.mul_le_mul_left _ hm
  rw [Nat.mul_add, Nat.mul_one, e2] at hx
  have hs := Nat.shiftLeft_add_eq_or_of_lt hy x
  rw [Nat.shiftLeft_eq, Nat.mul_comm x] at hs
  generalize d * 2 ^ r = y at *
  rw [bits_or_u64_nat _ _ (by omega) (by omega), ← hs]
  constructor
  · simp
  · omega
theorem limbs_at (v q : Nat) (hq : q < 4) : (limbs v).getD q 0 = L v q := by
  match q, hq with
  | 0, _ | 1, _ | 2, _ | 3, _ => rfl
theorem lay_plus (e c : Nat) (hec : e * c = 64) (l : List Int) (hb : ∀ x ∈ l, 0 ≤ x ∧ x < 2 ^ e) (i k : Nat) (hi : i < l.length) (hk : k = l.length - 1 - i) (hn : l.length ≤ 4 * c) :
    bits BinOp.or IntKind.u64 ((limbs (va e l i)).getD (k / c) 0) (((l.getD i 0).toNat * 2 ^ (e * (k % c)) : Nat) : Int) = (limbs (va e l i)).getD (k / c) 0 + (((l.getD i 0).toNat * 2 ^ (e * (k % c)) : Nat) : Int) ∧
      (limbs (va e l i)).getD (k / c) 0 + (((l.getD i 0).toNat * 2 ^ (e * (k % c)) : Nat) : Int) < 18446744073709551616 := by
  have hc : 0 < c := by rcases Nat.eq_zero_or_pos c with h | h
                        · rw [h] at hec; omega
                        · exact h
  have hm := Nat.mod_lt k hc
  have hdm := Nat.div_add_mod k c
  have hq : k / c < 4 := by rw [Nat.div_lt_iff_lt_mul hc]; omega
  have h64 : 64 * (k / c) + e * (k % c) = e * k := by
    rw [← hec, Nat.mul_assoc, ← Nat.mul_add, hdm]
  have hd : (l.getD i 0).toNat < 2 ^ e := by
    have := hb (l.getD i 0) (by simp [List.getD_eq_getElem?_getD, hi])
    have : ((2 : Int) ^ e) = ((2 ^ e : Nat) : Int) := by simp
    omega
  have hr : e * (k % c) + e ≤ 64 := by
    rw [← hec, ← Nat.mul_succ]; exact Nat.mul_le_mul_left _ hm
  rw [limbs_at _ _ hq, va_now e l i hi, ← hk, ← h64]
  exact or_plus _ _ e _ _ hd hr
end Go.Proofs.Ythgnmpjcbicdhaa

