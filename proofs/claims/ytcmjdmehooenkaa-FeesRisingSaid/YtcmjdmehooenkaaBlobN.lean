/- The price of blob gas as a plain recursion: it ends within 1024 rounds, and rises with the excess; no program. -/
import Derived.Test.YtcmjdmehooenkaaOver
set_option linter.unusedVariables false
namespace Go.Proofs.Ytcmjdmehooenkaa
open Go

/-- none: the rounds are used up; some none: more than 256 bits. -/
def bbF : Nat → Nat → Nat → Nat → Nat → Nat → Option (Option Nat)
  | 0, _, f, _, a, all => if a = 0 then some (some (all / f)) else none
  | k + 1, x, f, i, a, all => if a = 0 then some (some (all / f)) else if all + a < T256 ∧ a * x / (f * i) < T256 then bbF k x f (i + 1) (a * x / (f * i)) (all + a) else some none
theorem bb_zero (k x f i all : Nat) : bbF k x f i 0 all = some (some (all / f)) := by cases k <;> simp [bbF]
theorem bb_out {x f i a all : Nat} {R : Option Nat} (ha : a ≠ 0) : bbF 0 x f i a all = some R → False := by simp [bbF, ha]
theorem bb_next {k x f i a all : Nat} (ha : a ≠ 0) (h1 : all + a < T256) (h2 : a * x / (f * i) < T256) : bbF (k + 1) x f i a all = bbF k x f (i + 1) (a * x / (f * i)) (all + a) := by
  rw [bbF, if_neg ha, if_pos ⟨h1, h2⟩]
theorem bb_wide {k x f i a all : Nat} (ha : a ≠ 0) (h : ¬ (all + a < T256 ∧ a * x / (f * i) < T256)) : bbF (k + 1) x f i a all = some none := by
  rw [bbF, if_neg ha, if_neg h]

def chk : Nat → Nat → Nat → Bool
  | 0, _, _ => false
  | k + 1, i, g => if g * 200 / i < T256 then chk k (i + 1) (g * 200 / i) else true
theorem chk_all : chk 1024 1 1 = true := by decide +kernel
theorem bb_great {x f : Nat} (hf : 0 < f) (hx : 200 * f ≤ x) : ∀ (k i g a all : Nat), 0 < i → g ≤ a → chk k i g = true → ∃ r, bbF k x f i a all = some r
  | 0, _, _, _, _, _, _, h => by simp [chk] at h
  | k + 1, i, g, a, all, hi, hg, h => by
    rw [bbF]
    split
    · exact ⟨_, rfl⟩
    split
    · rename_i h0 h1
      have hge : g * 200 / i ≤ a * x / (f * i) := by
        have e : g * 200 * f / (i * f) ≤ a * x / (f * i) := by
          rw [Nat.mul_comm i f]
          refine Nat.div_le_div_right ?_
          calc g * 200 * f = g * (200 * f) := by rw [Nat.mul_assoc]
            _ ≤ a * x := Nat.mul_le_mul hg hx
        rwa [Nat.mul_div_mul_right _ _ hf] at e
      rw [chk, if_pos (by omega)] at h
      exact bb_great hf hx k (i + 1) _ _ _ (by omega) hge h
    · exact ⟨_, rfl⟩
theorem bb_fall {x f : Nat} (hf : 0 < f) (hx : x < 200 * f) : ∀ (k i a all : Nat), 400 ≤ i → a < 2 ^ k → ∃ r, bbF k x f i a all = some r
  | 0, i, a, all, hi, ha => by
    have : a = 0 := by simpa using ha
    subst this; exact ⟨_, bb_zero _ _ _ _ _⟩
  | k + 1, i, a, all, hi, ha => by
    rw [bbF]
    split
    · exact ⟨_, rfl⟩
    split
    · rename_i h0 h1
      refine bb_fall hf hx k (i + 1) _ _ (by omega) ?_
      have h2 : a * x / (f * i) ≤ a / 2 := by
        have e : a * x / (f * i) ≤ a * (200 * f) / (f * 400) := by
          refine Nat.le_trans (Nat.div_le_div_right (Nat.mul_le_mul_left a (Nat.le_of_lt hx))) ?_
          exact Nat.div_le_div_left (Nat.mul_le_mul_left f hi) (by omega)
        rw [show a * (200 * f) = a * (200 * f) by rfl, show f * 400 = 2 * (200 * f) by omega, Nat.mul_div_mul_right _ _ (by omega)] at e
        exact e
      have h3 : (2 : Nat) ^ (k + 1) = 2 * 2 ^ k := by rw [Nat.pow_succ]; omega
      omega
    · exact ⟨_, rfl⟩
theorem bb_small {x f : Nat} (hf : 0 < f) (hx : x < 200 * f) : ∀ (m k i a all : Nat), 0 < i → 400 ≤ i + m → k = 256 + m → a < T256 → ∃ r, bbF k x f i a all = some r
  | 0, k, i, a, all, _, hi, hk, ha => bb_fall hf hx k i a all (by omega) (by rw [hk]; exact ha)
  | m + 1, k, i, a, all, h0, hi, hk, ha => by
    obtain rfl : k = (256 + m) + 1 := by omega
    rw [bbF]
    split
    · exact ⟨_, rfl⟩
    split
    · rename_i h1 h2
      exact bb_small hf hx m _ (i + 1) _ _ (by omega) (by omega) rfl h2.2
    · exact ⟨_, rfl⟩
/-- It ends within 1024 rounds. -/
theorem bb_some (x f : Nat) (hf : 0 < f) (hfT : f < T256) : ∃ R, bbF 1024 x f 1 f 0 = some R := by
  by_cases h : 200 * f ≤ x
  · exact bb_great hf h 1024 1 1 f 0 (by omega) hf chk_all
  · exact bb_small hf (by omega) 768 1024 1 f 0 (by omega) (by omega) rfl hfT

theorem bb_ge {f y : Nat} : ∀ (k i a all r : Nat), bbF k y f i a all = some (some r) → all / f ≤ r
  | 0, i, a, all, r, h => by
    rw [bbF] at h; split at h
    · simp at h; omega
    · simp at h
  | k + 1, i, a, all, r, h => by
    rw [bbF] at h; split at h
    · simp at h; omega
    · split at h
      · exact Nat.le_trans (Nat.div_le_div_right (Nat.le_add_right _ _)) (bb_ge k _ _ _ _ h)
      · simp at h
theorem bb_mono {f x y : Nat} (hxy : x ≤ y) : ∀ (k i a a' all all' r' : Nat), a ≤ a' → all ≤ all' → bbF k y f i a' all' = some (some r') → ∃ r, bbF k x f i a all = some (some r) ∧ r ≤ r'
  | 0, i, a, a', all, all', r', ha, hl, h => by
    rw [bbF] at h; split at h
    · have : a = 0 := by omega
      subst this
      refine ⟨_, bb_zero _ _ _ _ _, ?_⟩
      simp at h; subst h
      exact Nat.div_le_div_right hl
    · simp at h
  | k + 1, i, a, a', all, all', r', ha, hl, h => by
    have hge := bb_ge _ _ _ _ _ h
    by_cases h0 : a = 0
    · subst h0
      exact ⟨_, bb_zero _ _ _ _ _, Nat.le_trans (Nat.div_le_div_right hl) hge⟩
    · rw [bbF, if_neg (by omega)] at h
      split at h
      · rename_i hf
        have hd : a * x / (f * i) ≤ a' * y / (f * i) := Nat.div_le_div_right (Nat.mul_le_mul ha hxy)
        rw [bb_next h0 (by omega) (by omega)]
        exact bb_mono hxy k (i + 1) _ _ _ _ r' hd (by omega) h
      · simp at h
theorem bb_lt {f y : Nat} : ∀ (k i a all r : Nat), all < T256 → bbF k y f i a all = some (some r) → r < T256
  | 0, i, a, all, r, hl, h => by
    rw [bbF] at h; split at h
    · simp at h; have := Nat.div_le_self all f; omega
    · simp at h
  | k + 1, i, a, all, r, hl, h => by
    rw [bbF] at h; split at h
    · simp at h; have := Nat.div_le_self all f; omega
    · split at h
      · rename_i hf; exact bb_lt k _ _ _ _ hf.1 h
      · simp at h
/-- The price, and the error. -/
def bbV (x f : Nat) : Nat := if f = 0 then 0 else match bbF 1024 x f 1 f 0 with
  | some (some r) => r
  | _ => 0
def bbE (x f : Nat) : Int := if f = 0 then 1 else match bbF 1024 x f 1 f 0 with
  | some (some _) => 0
  | _ => 183
theorem bbV_lt (x f : Nat) : bbV x f < T256 := by
  unfold bbV; split
  · exact T256_pos
  · split
    · rename_i h; exact bb_lt _ _ _ _ _ T256_pos h
    · exact T256_pos
theorem bbV_of {x f : Nat} {R : Option Nat} (hf : f ≠ 0) (h : bbF 1024 x f 1 f 0 = some R) : bbV x f = R.getD 0 ∧ bbE x f = if R.isSome then 0 else 183 := by
  unfold bbV bbE
  rw [if_neg hf, if_neg hf, h]
  cases R <;> simp
theorem bb_none {f : Nat} (hf : 0 < f) (hfT : f < T256) : bbV 0 f = 1 ∧ bbE 0 f = 0 := by
  refine bbV_of (R := some 1) (by omega) ?_
  rw [bb_next (by omega) (by omega) (by rw [Nat.mul_zero, Nat.zero_div]; exact T256_pos), Nat.mul_zero, Nat.zero_div, bb_zero, Nat.zero_add, Nat.div_self hf]
theorem bb_rise {f x y : Nat} (hxy : x ≤ y) (hf : 0 < f) (hfT : f < T256) : (bbE x f = 0 ∨ bbE x f = 183) ∧ (bbE y f = 0 → bbE x f = 0 ∧ bbV x f ≤ bbV y f) := by
  obtain ⟨R, hR⟩ := bb_some x f hf hfT
  obtain ⟨S, hS⟩ := bb_some y f hf hfT
  obtain ⟨v1, e1⟩ := bbV_of (by omega) hR
  obtain ⟨v2, e2⟩ := bbV_of (by omega) hS
  refine ⟨by rw [e1]; split <;> simp, fun h => ?_⟩
  cases S with
  | none => rw [e2] at h; simp at h
  | some r' =>
    obtain ⟨r, hr, hle⟩ := bb_mono hxy 1024 1 f f 0 0 r' (Nat.le_refl _) (Nat.le_refl _) hS
    rw [hr] at hR
    have : R = some r := by simpa using hR.symm
    subst this
    rw [e1, v1, v2]
    exact ⟨by simp, hle⟩
end Go.Proofs.Ytcmjdmehooenkaa

