/- Digits laid into a number's limbs, from the highest on. No program. -/
import Derived.Test.YthgnmpjcbicdhaaDoorNumA
set_option linter.unusedSimpArgs false
set_option linter.unusedVariables false
namespace Go.Proofs.YthgnmpjcbicdhaaDoor
open Go Go.RowKit

theorem L_shift (d e q r j : Nat) (hd : d < 2 ^ e) (hr : r + e ≤ 64) : L (d * 2 ^ (64 * q + r)) j = if j = q then ((d * 2 ^ r : Nat) : Int) else 0 := by
  unfold L
  have hdr : d * 2 ^ r < 2 ^ 64 := by
    have h1 : d * 2 ^ r < 2 ^ e * 2 ^ r := Nat.mul_lt_mul_of_pos_right hd (Nat.two_pow_pos r)
    have h2 : 2 ^ (e + r) ≤ 2 ^ 64 := Nat.pow_le_pow_right (by omega) (by omega)
    rw [Nat.pow_add] at h2
    exact Nat.lt_of_lt_of_le h1 h2
  have e1 : d * 2 ^ (64 * q + r) = (d * 2 ^ r) * 2 ^ (64 * q) := by rw [Nat.pow_add, Nat.mul_comm (2 ^ (64 * q)), Nat.mul_assoc]
  rw [e1]
  generalize d * 2 ^ r = x at *
  rcases Nat.lt_trichotomy j q with h | h | h
  · rw [if_neg (by omega)]
    have : x * 2 ^ (64 * q) / 2 ^ (64 * j) % 2 ^ 64 = 0 := by
      rw [show 64 * q = 64 * (q - j - 1) + 64 + 64 * j by omega, Nat.pow_add, Nat.pow_add, ← Nat.mul_assoc, Nat.mul_div_cancel _ (Nat.two_pow_pos _), ← Nat.mul_assoc, Nat.mul_mod_left]
    rw [this]; rfl
  · subst h
    rw [if_pos rfl, Nat.mul_div_cancel _ (Nat.two_pow_pos _), Nat.mod_eq_of_lt hdr]
  · rw [if_neg (by omega)]
    have : x * 2 ^ (64 * q) / 2 ^ (64 * j) = 0 := by
      apply Nat.div_eq_of_lt
      have h1 : x * 2 ^ (64 * q) < 2 ^ 64 * 2 ^ (64 * q) := Nat.mul_lt_mul_of_pos_right hdr (Nat.two_pow_pos _)
      have h2 : 2 ^ (64 + 64 * q) ≤ 2 ^ (64 * j) := Nat.pow_le_pow_right (by omega) (by omega)
      rw [Nat.pow_add] at h2
      exact Nat.lt_of_lt_of_le h1 h2
    rw [this]; rfl
theorem lay_or (m d e s : Nat) (hd : d < 2 ^ e) : m * 2 ^ (s + e) + d * 2 ^ s = m * 2 ^ (s + e) ||| d * 2 ^ s := by
  have h : d * 2 ^ s < 2 ^ (s + e) := by rw [Nat.pow_add, Nat.mul_comm]; exact Nat.mul_lt_mul_of_pos_left hd (Nat.two_pow_pos s)
  have := Nat.shiftLeft_add_eq_or_of_lt h m
  rwa [Nat.shiftLeft_eq] at this
theorem L_null (j : Nat) : L 0 j = 0 := by simp [L]
theorem or_null (v j : Nat) : bits BinOp.or IntKind.u64 (L v j) 0 = L v j := by
  have := L_or v 0 j
  rw [Nat.or_zero, L_null] at this
  exact this.symm
theorem L_lay (m d e q r j : Nat) (hd : d < 2 ^ e) (hr : r + e ≤ 64) :
    L (m * 2 ^ (64 * q + r + e) + d * 2 ^ (64 * q + r)) j = if j = q then bits BinOp.or IntKind.u64 (L (m * 2 ^ (64 * q + r + e)) j) ((d * 2 ^ r : Nat) : Int) else L (m * 2 ^ (64 * q + r + e)) j := by
  rw [lay_or m d e _ hd, L_or, L_shift d e q r j hd hr]
  by_cases h : j = q
  · rw [if_pos h, if_pos h]
  · rw [if_neg h, if_neg h, or_null]
/-- A number's limbs. -/
def limbs (v : Nat) : List Int := [L v 0, L v 1, L v 2, L v 3]
theorem limbs_len (v : Nat) : (limbs v).length = 4 := rfl
theorem limbs_lay (m d e q r : Nat) (hq : q < 4) (hd : d < 2 ^ e) (hr : r + e ≤ 64) :
    (limbs (m * 2 ^ (64 * q + r + e))).set q (bits BinOp.or IntKind.u64 ((limbs (m * 2 ^ (64 * q + r + e))).getD q 0) ((d * 2 ^ r : Nat) : Int)) = limbs (m * 2 ^ (64 * q + r + e) + d * 2 ^ (64 * q + r)) := by
  unfold limbs
  rw [L_lay m d e q r 0 hd hr, L_lay m d e q r 1 hd hr, L_lay m d e q r 2 hd hr, L_lay m d e q r 3 hd hr]
  match q, hq with
  | 0, _ | 1, _ | 2, _ | 3, _ => simp
/-- The number that digits tell, of e bits each. -/
def valB (e : Nat) (l : List Int) : Nat := l.foldl (fun v x => v * 2 ^ e + x.toNat) 0
theorem valB_snoc (e : Nat) (l : List Int) (x : Int) : valB e (l ++ [x]) = valB e l * 2 ^ e + x.toNat := by simp [valB]
theorem valA_lt (e : Nat) : ∀ (l : List Int) (acc : Nat), (∀ x ∈ l, 0 ≤ x ∧ x < 2 ^ e) → l.foldl (fun v x => v * 2 ^ e + x.toNat) acc < (acc + 1) * 2 ^ (e * l.length)
  | [], acc, _ => by simp
  | x :: l, acc, hb => by
    have h1 := valA_lt e l (acc * 2 ^ e + x.toNat) (fun y hy => hb y (by simp [hy]))
    have h2 := hb x (by simp)
    have h3 : x.toNat < 2 ^ e := by
      have : ((2 : Int) ^ e) = ((2 ^ e : Nat) : Int) := by simp
      omega
    rw [List.foldl_cons, List.length_cons, Nat.mul_add, Nat.mul_one, Nat.add_comm (e * l.length), Nat.pow_add, ← Nat.mul_assoc]
    refine Nat.lt_of_lt_of_le h1 (Nat.mul_le_mul_right _ ?_)
    rw [Nat.add_mul]
    omega
theorem valB_lt (e : Nat) (l : List Int) (hb : ∀ x ∈ l, 0 ≤ x ∧ x < 2 ^ e) : valB e l < 2 ^ (e * l.length) := by
  have := valA_lt e l 0 hb
  simpa [valB] using this
/-- The number as it stands when so many digits are laid. -/
def va (e : Nat) (l : List Int) (i : Nat) : Nat := valB e (l.take i) * 2 ^ (e * (l.length - i))
theorem va_zero (e : Nat) (l : List Int) : va e l 0 = 0 := by simp [va, valB]
theorem va_full (e : Nat) (l : List Int) : va e l l.length = valB e l := by simp [va]
theorem va_step (e : Nat) (l : List Int) (i : Nat) (hi : i < l.length) : va e l (i + 1) = valB e (l.take i) * 2 ^ (e * (l.length - 1 - i) + e) + (l.getD i 0).toNat * 2 ^ (e * (l.length - 1 - i)) := by
  unfold va
  rw [List.take_succ_eq_append_getElem hi, valB_snoc, show l.length - (i + 1) = l.length - 1 - i by omega, Nat.add_mul, Nat.pow_add, Nat.mul_assoc, Nat.mul_comm (2 ^ e)]
  simp [List.getD_eq_getElem?_getD, hi]
theorem va_now (e : Nat) (l : List Int) (i : Nat) (hi : i < l.length) : va e l i = valB e (l.take i) * 2 ^ (e * (l.length - 1 - i) + e) := by
  unfold va
  rw [show l.length - i = l.length - 1 - i + 1 by omega, Nat.mul_add, Nat.mul_one]
theorem lay_step (e c : Nat) (hec : e * c = 64) (l : List Int) (hb : ∀ x ∈ l, 0 ≤ x ∧ x < 2 ^ e) (i k : Nat) (hi : i < l.length) (hk : k = l.length - 1 - i) (hn : l.length ≤ 4 * c) :
    (limbs (va e l i)).set (k / c) (bits BinOp.or IntKind.u64 ((limbs (va e l i)).getD (k / c) 0) (((l.getD i 0).toNat * 2 ^ (e * (k % c)) : Nat) : Int)) = limbs (va e l (i + 1)) := by
  have hc : 0 < c := by rcases Nat.eq_zero_or_pos c with h | h
                        · rw [h] at hec; omega
                        · exact h
  have hm := Nat.mod_lt k hc
  have hdm := Nat.div_add_mod k c
  have hq : k / c < 4 := by rw [Nat.div_lt_iff_lt_mul hc]; omega
  have h64 : 64 * (k / c) + e * (k % c) = e * k := by
    rw [← hec, Nat.mul_assoc, ← Nat.mul_add, hdm]
  have hd : (l.getD i 0).toNat < 2 ^ e := by
    have := hb (l.getD i 0) (by simp [List.getD_eq_getElem?_getD, hi])
    have : ((2 : Int) ^ e) = ((2 ^ e : Nat) : Int) := by simp
    omega
  have hr : e * (k % c) + e ≤ 64 := by
    rw [← hec, ← Nat.mul_succ]; exact Nat.mul_le_mul_left _ hm
  rw [va_step e l i hi, va_now e l i hi, ← hk, ← h64]
  exact limbs_lay _ _ e _ _ hq hd hr
end Go.Proofs.YthgnmpjcbicdhaaDoor

