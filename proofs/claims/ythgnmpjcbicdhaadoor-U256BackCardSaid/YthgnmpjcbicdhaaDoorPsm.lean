/- Decimal texts read: the plain law. -/
import Derived.Test.YthgnmpjcbicdhaaDoorRTx
import Derived.Test.YthgnmpjcbicdhaaDoorFmU
import Derived.Lib.ParseIntB
set_option linter.unusedSimpArgs false
set_option linter.unusedVariables false
namespace Go.Proofs.YthgnmpjcbicdhaaDoor
open Go Go.RowKit

/-- The number that decimal digits tell, behind what was told before. -/
def dvS (a : Nat) (c : UInt8) : Nat := a * 10 + (c.toNat - 48)
def dvL (a : Nat) (l : List UInt8) : Nat := l.foldl dvS a
theorem dvL_nil (a : Nat) : dvL a [] = a := rfl
theorem dvL_cons (a : Nat) (c : UInt8) (r : List UInt8) : dvL a (c :: r) = dvL (a * 10 + (c.toNat - 48)) r := by unfold dvL; rw [List.foldl_cons, dvS]
def isD (c : UInt8) : Prop := 48 ≤ c.toNat ∧ c.toNat ≤ 57
def allDg (l : List UInt8) : Prop := ∀ i, i < l.length → isD (l.getD i 0)
theorem dvL_append : ∀ (l m : List UInt8) (a : Nat), dvL a (l ++ m) = dvL (dvL a l) m
  | [], m, a => rfl
  | c :: r, m, a => dvL_append r m _
theorem dvL_eq : ∀ (l : List UInt8) (a : Nat), dvL a l = a * 10 ^ l.length + dvL 0 l
  | [], a => by rw [dvL_nil, dvL_nil]; simp
  | c :: r, a => by
    rw [dvL_cons, dvL_cons, dvL_eq r (a * 10 + (c.toNat - 48)), dvL_eq r (0 * 10 + (c.toNat - 48)), List.length_cons, Nat.pow_succ, Nat.zero_mul, Nat.zero_add, Nat.add_mul, Nat.mul_assoc, Nat.mul_comm 10, Nat.add_assoc]
theorem allDg_tail {c : UInt8} {r : List UInt8} (h : allDg (c :: r)) : allDg r := by
  intro i hi
  have := h (i + 1) (by rw [List.length_cons]; omega)
  simpa using this
theorem allDg_head {c : UInt8} {r : List UInt8} (h : allDg (c :: r)) : isD c := by
  have := h 0 (by rw [List.length_cons]; omega)
  simpa using this
theorem dvL_lt : ∀ (l : List UInt8), allDg l → dvL 0 l < 10 ^ l.length
  | [], _ => by rw [dvL_nil]; simp
  | c :: r, h => by
    have h1 := dvL_lt r (allDg_tail h)
    have h2 := allDg_head h
    unfold isD at h2
    rw [dvL_cons, dvL_eq, List.length_cons, Nat.pow_succ, Nat.zero_mul, Nat.zero_add]
    have h3 : (c.toNat - 48) * 10 ^ r.length ≤ 9 * 10 ^ r.length := Nat.mul_le_mul_right _ (by omega)
    omega
theorem allDg_drop {l : List UInt8} (h : allDg l) (k : Nat) : allDg (l.drop k) := by
  intro i hi
  rw [List.length_drop] at hi
  have := h (k + i) (by omega)
  rwa [List.getD_eq_getElem?_getD, List.getElem?_drop, ← List.getD_eq_getElem?_getD]
theorem allDg_take {l : List UInt8} (h : allDg l) (k : Nat) : allDg (l.take k) := by
  intro i hi
  rw [List.length_take] at hi
  have := h i (by omega)
  rwa [List.getD_eq_getElem?_getD, List.getElem?_take_of_lt (by omega), ← List.getD_eq_getElem?_getD]
theorem pM_ok : ∀ (l : List UInt8) (k acc : Nat), allDg l → k + l.length ≤ 19 → acc < 10 ^ k → Lib.parseUintM (2 ^ 64 - 1) acc l = .ok (dvL acc l)
  | [], k, acc, _, _, _ => rfl
  | c :: r, k, acc, h, hk, ha => by
    rw [List.length_cons] at hk
    have h2 := allDg_head h
    unfold isD at h2
    have h18 : 10 ^ k ≤ 10 ^ 18 := Nat.pow_le_pow_right (by decide) (by omega)
    have hp : (10 : Nat) ^ (k + 1) = 10 ^ k * 10 := Nat.pow_succ _ _
    have e18 : (10 : Nat) ^ 18 = 1000000000000000000 := by decide
    have e64 : (2 : Nat) ^ 64 - 1 = 18446744073709551615 := by decide
    have hacc : acc * 10 + (c.toNat - 48) < 10 ^ (k + 1) := by rw [hp]; omega
    rw [Lib.parseUintM, if_pos h2, if_neg (by omega), if_neg (by rw [e64]; omega)]
    exact pM_ok r (k + 1) _ (allDg_tail h) (by omega) hacc
theorem pU_ok (l : List UInt8) (h : allDg l) (h0 : l ≠ []) (hl : l.length ≤ 19) : Lib.parseUintB 64 l = .ok (dvL 0 l) := by
  rw [Lib.parseUintB, if_neg h0]
  exact pM_ok l 0 0 h (by omega) (by simp)
open Classical in
/-- What is wrong with a text. -/
noncomputable def pE (l : List UInt8) : Int := if l = [] ∨ ¬ allDg l then 12 else if 1 < l.length ∧ l.getD 0 0 = 48 then 13 else if dvL 0 l < T256 then 0 else 11
open Classical in
noncomputable def pV (l : List UInt8) : Nat := if pE l = 0 then dvL 0 l else 0
theorem pE_bad {l : List UInt8} (h : l = [] ∨ ¬ allDg l) : pE l = 12 := by unfold pE; rw [if_pos h]
theorem pE_lead {l : List UInt8} (h0 : l ≠ []) (h : allDg l) (h1 : 1 < l.length) (h2 : l.getD 0 0 = 48) : pE l = 13 := by
  unfold pE
  rw [if_neg (by rintro (e | e); exact h0 e; exact e h), if_pos ⟨h1, h2⟩]
theorem pE_long {l : List UInt8} (h0 : l ≠ []) (h : allDg l) (h1 : ¬ (1 < l.length ∧ l.getD 0 0 = 48)) (h2 : ¬ dvL 0 l < T256) : pE l = 11 := by
  unfold pE
  rw [if_neg (by rintro (e | e); exact h0 e; exact e h), if_neg h1, if_neg h2]
theorem pE_ok {l : List UInt8} (h0 : l ≠ []) (h : allDg l) (h1 : ¬ (1 < l.length ∧ l.getD 0 0 = 48)) (h2 : dvL 0 l < T256) : pE l = 0 := by
  unfold pE
  rw [if_neg (by rintro (e | e); exact h0 e; exact e h), if_neg h1, if_pos h2]
theorem pV_bad {l : List UInt8} (h : pE l ≠ 0) : pV l = 0 := by unfold pV; rw [if_neg h]
theorem pV_ok {l : List UInt8} (h : pE l = 0) : pV l = dvL 0 l := by unfold pV; rw [if_pos h]
/-- A text of more than 78 digits without a zero ahead tells a number that is too large. -/
theorem long_big {l : List UInt8} (h : allDg l) (h1 : 78 < l.length) (h2 : ¬ (1 < l.length ∧ l.getD 0 0 = 48)) : ¬ dvL 0 l < T256 := by
  cases l with
  | nil => simp at h1
  | cons c r =>
    have h3 := allDg_head h
    unfold isD at h3
    have h4 : c.toNat ≠ 48 := by
      intro e
      apply h2
      refine ⟨by omega, ?_⟩
      simp only [List.getD_cons_zero]
      exact UInt8.toNat_inj.1 e
    rw [List.length_cons] at h1
    rw [dvL_cons, dvL_eq, Nat.zero_mul, Nat.zero_add]
    have h5 : 10 ^ 78 ≤ 10 ^ r.length := Nat.pow_le_pow_right (by decide) (by omega)
    have h6 : 1 * 10 ^ r.length ≤ (c.toNat - 48) * 10 ^ r.length := Nat.mul_le_mul_right _ (by omega)
    have h7 : T256 < 10 ^ 78 := by decide
    omega
theorem dvL_ge (l m : List UInt8) : dvL 0 l ≤ dvL 0 (l ++ m) := by
  rw [dvL_append, dvL_eq m]
  have : dvL 0 l * 1 ≤ dvL 0 l * 10 ^ m.length := Nat.mul_le_mul_left _ (Nat.pos_of_ne_zero (by simp))
  omega
theorem take_drop_more (l : List UInt8) (k n : Nat) : l.take (k + n) = l.take k ++ (l.drop k).take n := by rw [List.take_add]
theorem dv_chunk (l : List UInt8) (k n : Nat) (hn : k + n ≤ l.length) : dvL 0 (l.take (k + n)) = dvL 0 (l.take k) * 10 ^ n + dvL 0 ((l.drop k).take n) := by
  rw [take_drop_more, dvL_append, dvL_eq, List.length_take, List.length_drop, Nat.min_eq_left (by omega)]
theorem dv_part (l : List UInt8) (k : Nat) : dvL 0 (l.take k) ≤ dvL 0 l := by
  have := dvL_ge (l.take k) (l.drop k)
  rwa [List.take_append_drop] at this
end Go.Proofs.YthgnmpjcbicdhaaDoor

