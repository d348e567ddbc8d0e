/- One letter of a checked address turned: no program. -/
import Derived.Test.YtkanjdllaikoaaaDoorOnP
set_option linter.unusedSimpArgs false
set_option linter.unusedVariables false
namespace Go.Proofs.YtkanjdllaikoaaaDoor
open Go Go.RowKit

theorem nD_dI (ds : List Nat) : nD (dI ds) = ds := by
  unfold nD dI
  rw [List.map_map]
  conv => rhs; rw [← List.map_id ds]
  exact List.map_congr_left fun d _ => by simp
theorem strNe_self (s : ByteArray) : strNe s s = false := by rw [strNe_iff]; simp
theorem dgt_notGreat (d : Nat) (h : d < 16) : ¬ ((65 : Int) ≤ ((dgt d).toNat : Int) ∧ ((dgt d).toNat : Int) ≤ 70) := by
  have : ∀ d, d < 16 → ¬ ((65 : Int) ≤ ((dgt d).toNat : Int) ∧ ((dgt d).toNat : Int) ≤ 70) := by decide
  exact this d h
/-- The text in small letters. -/
theorem addrP_small (a : List Int) (hb : Bytes a) (hl : a.length = 20) : addrP (lowS (withX (strI (sumL a)))) = (a, 0) := by
  rw [lowS_of (textV_sum a hb), nD_dI]
  have hlt := nibs_lt a hb
  have hn : (dI (nibs a)).length = 40 := by rw [dI_len, nibs_len, hl]
  have hp := prL_nibs a hb
  rw [hl] at hp
  have hg : asks (withX ⟨((nibs a).map dgt).toArray⟩) = false := by
    unfold asks
    rw [withX_hex]
    have : hasGreat (nums ((nibs a).map dgt)) = false := by
      unfold hasGreat nums
      rw [List.any_eq_false]
      intro c hc
      obtain ⟨b, hb2, rfl⟩ := List.mem_map.1 hc
      obtain ⟨d, hd, rfl⟩ := List.mem_map.1 hb2
      have := dgt_notGreat d (hlt d hd)
      simpa using this
    have e : (48 :: 120 :: nums ((nibs a).map dgt)).drop 2 = nums ((nibs a).map dgt) := rfl
    rw [e, this, Bool.and_false]
  unfold addrP
  rw [textV_dgt _ hlt]
  simp only
  rw [if_pos hn, hg, hp]
  simp
/-- The letter turned. -/
def turnC (c : Int) : Int := if 97 ≤ c then c - 32 else c + 32
theorem turnC_val {c : Int} (h : 0 ≤ valOf c) (h65 : 65 ≤ c) : valOf (turnC c) = valOf c ∧ turnC c ≠ c ∧ 0 ≤ turnC c ∧ turnC c < 256 := by
  have key : ∀ n : Nat, n < 103 → 0 ≤ valOf (n : Int) → 65 ≤ (n : Int) → valOf (turnC (n : Int)) = valOf (n : Int) := by decide
  have hc := digit_cases h
  obtain ⟨n, rfl⟩ : ∃ n : Nat, c = (n : Int) := ⟨c.toNat, by omega⟩
  refine ⟨key n (by omega) h h65, ?_⟩
  unfold turnC
  split <;> omega
theorem set_map {f : Int → Int} (r : List Int) (k : Nat) (x : Int) (hk : k < r.length) (h : f x = f (r.getD k 0)) : (r.set k x).map f = r.map f := by
  refine List.ext_getElem (by simp) fun i h1 h2 => ?_
  simp only [List.getElem_map, List.getElem_set]
  split
  · rename_i e
    subst e
    rw [h, List.getD_eq_getElem?_getD, List.getElem?_eq_getElem hk]
    rfl
  · rfl
/-- So many small letters, so many great ones. -/
def smN (l : List Int) : Nat := l.countP fun c => decide (97 ≤ c)
def grN (l : List Int) : Nat := l.countP fun c => !decide (97 ≤ c) && decide (65 ≤ c)
theorem smN_succ (l : List Int) (i : Nat) (hi : i < l.length) : smN (l.take (i + 1)) = smN (l.take i) + (if 97 ≤ l.getD i 0 then 1 else 0) := by
  unfold smN
  rw [take_snocD l i hi, List.countP_append, List.countP_singleton]
  by_cases h : 97 ≤ l.getD i 0 <;> simp [h]
theorem grN_succ (l : List Int) (i : Nat) (hi : i < l.length) : grN (l.take (i + 1)) = grN (l.take i) + (if ¬ 97 ≤ l.getD i 0 ∧ 65 ≤ l.getD i 0 then 1 else 0) := by
  unfold grN
  rw [take_snocD l i hi, List.countP_append, List.countP_singleton]
  by_cases h : 97 ≤ l.getD i 0 <;> by_cases h2 : 65 ≤ l.getD i 0 <;> simp [h, h2]
theorem smN_zero {l : List Int} : smN l = 0 ↔ hasSmall l = false := by
  unfold smN hasSmall
  rw [List.countP_eq_zero, List.any_eq_false]
theorem grN_zero {l : List Int} (h : ∀ c ∈ l, 0 ≤ valOf c) : grN l = 0 ↔ hasGreat l = false := by
  unfold grN hasGreat
  rw [List.countP_eq_zero, List.any_eq_false]
  have key : ∀ c ∈ l, ((!decide (97 ≤ c) && decide (65 ≤ c)) = true ↔ decide (65 ≤ c ∧ c ≤ 70) = true) := by
    intro c hc
    have := digit_cases (h c hc)
    simp only [Bool.and_eq_true, Bool.not_eq_true', decide_eq_false_iff_not, decide_eq_true_eq]
    omega
  exact ⟨fun h1 c hc h2 => h1 c hc ((key c hc).2 h2), fun h1 c hc h2 => h1 c hc ((key c hc).1 h2)⟩
/-- What is read of the address with one letter turned. -/
theorem addrP_turn (a : List Int) (hb : Bytes a) (hl : a.length = 20) (k : Nat) (hk : k < 40) (h65 : 65 ≤ (sumL a).getD k 0) :
    ByteL ((sumL a).set k (turnC ((sumL a).getD k 0))) ∧ (∀ c ∈ (sumL a).set k (turnC ((sumL a).getD k 0)), 0 ≤ valOf c) ∧
    addrP (withX (strI ((sumL a).set k (turnC ((sumL a).getD k 0))))) = if smN ((sumL a).set k (turnC ((sumL a).getD k 0))) = 0 ∨ grN ((sumL a).set k (turnC ((sumL a).getD k 0))) = 0 then (a, 0) else (List.replicate 20 0, 84) := by
  have hsl : (sumL a).length = 40 := by unfold sumL; rw [capL_len, hl]
  have hva : ∀ c ∈ sumL a, 0 ≤ valOf c := by
    intro c hc
    have h1 : valOf c ∈ (sumL a).map valOf := List.mem_map_of_mem hc
    rw [sumL_vals a hb] at h1
    exact dI_nonneg _ _ h1
  obtain ⟨c, hc⟩ : ∃ c, c = (sumL a).getD k 0 := ⟨_, rfl⟩
  have hcm : c ∈ sumL a := by rw [hc, List.getD_eq_getElem?_getD, List.getElem?_eq_getElem (by omega)]; exact List.getElem_mem _
  obtain ⟨t1, t2, t3, t4⟩ := turnC_val (hva c hcm) (hc ▸ h65)
  rw [← hc]
  obtain ⟨r, hr⟩ : ∃ r, r = (sumL a).set k (turnC c) := ⟨_, rfl⟩
  rw [← hr]
  have hrm : ∀ x ∈ r, x ∈ sumL a ∨ x = turnC c := by
    intro x hx
    rw [hr] at hx
    exact List.mem_or_eq_of_mem_set hx
  have hrb : ByteL r := by
    intro x hx
    rcases hrm x hx with h | h
    · exact sumL_byte a x h
    · subst h; exact ⟨t3, t4⟩
  have hrv : ∀ x ∈ r, 0 ≤ valOf x := by
    intro x hx
    rcases hrm x hx with h | h
    · exact hva x h
    · subst h; rw [t1]; exact hva c hcm
  have hmap : r.map valOf = dI (nibs a) := by
    rw [hr, set_map _ k _ (by omega) (by rw [t1, hc]), sumL_vals a hb]
  refine ⟨hrb, hrv, ?_⟩
  have hn : (dI (nibs a)).length = 40 := by rw [dI_len, nibs_len, hl]
  have hp := prL_nibs a hb
  rw [hl] at hp
  have htx : textV (withX (strI r)) = some (dI (nibs a)) := by
    rw [textV_yes (withX_bytes r hrb)]
    exact valsL_of hmap (dI_nonneg _)
  have hne : strNe (withX (strI r)) (withX (strI (sumL a))) = true := by
    rw [strNe_iff, decide_eq_true_eq]
    intro e
    have h1 := congrArg bytesI e
    rw [withX_bytes r hrb, withX_bytes _ (sumL_byte a)] at h1
    have h2 : r = sumL a := by simpa using h1
    have h3 : r.getD k 0 = turnC c := by
      rw [hr, List.getD_eq_getElem?_getD, List.getElem?_set_self (by omega)]
      rfl
    rw [h2, ← hc] at h3
    exact t2 h3.symm
  have has : asks (withX (strI r)) = (hasSmall r && hasGreat r) := by
    unfold asks
    rw [withX_bytes r hrb]
    rfl
  unfold addrP
  rw [htx]
  simp only
  rw [if_pos hn, hp, hne, has]
  have z1 := smN_zero (l := r)
  have z2 := grN_zero hrv
  by_cases h0 : smN r = 0
  · rw [z1.1 h0]; simp [h0]
  · by_cases h1 : grN r = 0
    · rw [z2.1 h1]; simp [h1]
    · have s1 : hasSmall r = true := by cases h : hasSmall r with
        | true => rfl
        | false => exact absurd (z1.2 h) h0
      have s2 : hasGreat r = true := by cases h : hasGreat r with
        | true => rfl
        | false => exact absurd (z2.2 h) h1
      rw [s1, s2]
      simp [h0, h1]
end Go.Proofs.YtkanjdllaikoaaaDoor

