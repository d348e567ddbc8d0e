/- Base fees and excesses as plain numbers; no program. -/
import Derived.Test.YtcmjdmehooenkaaOver
set_option linter.unusedVariables false
namespace Go.Proofs.Ytcmjdmehooenkaa
open Go

/-- The change of the base fee. -/
def stepN (base off target : Nat) : Nat := mdV base off (8 * target)
def nbD (base used target : Nat) : Nat := if stepN base (used - target) target = 0 then 1 else stepN base (used - target) target
def nbV (base limit used : Nat) : Nat :=
  if limit / 2 = 0 then 0 else if limit < used then 0 else if used < limit / 2 then base - stepN base (limit / 2 - used) (limit / 2) else if used = limit / 2 then base
  else if base + nbD base used (limit / 2) < T256 then base + nbD base used (limit / 2) else 0
def nbE (base limit used : Nat) : Int :=
  if limit / 2 = 0 then 1 else if limit < used then 184 else if used < limit / 2 then 0 else if used = limit / 2 then 0
  else if base + nbD base used (limit / 2) < T256 then 0 else 183

theorem div_le_quarter {base off target : Nat} (ht : 0 < target) (ho : off ≤ target + 1) : base * off / (8 * target) ≤ base / 4 := by
  have h1 : base * off ≤ base * (2 * target) := Nat.mul_le_mul_left _ (by omega)
  have h2 : base * off / (4 * (2 * target)) ≤ base * (2 * target) / (4 * (2 * target)) := Nat.div_le_div_right h1
  rw [Nat.mul_div_mul_right _ _ (by omega)] at h2
  rw [show 8 * target = 4 * (2 * target) by omega]; exact h2
theorem stepN_eq {base off target : Nat} (hb : base < T256) (ht : 0 < target) (ho : off ≤ target + 1) : stepN base off target = base * off / (8 * target) ∧ mdE base off (8 * target) = 0 := by
  have := div_le_quarter (base := base) ht ho
  have hd : base / 4 ≤ base := Nat.div_le_self _ _
  unfold stepN mdV mdE
  rw [if_pos (by omega), if_neg (by omega), if_pos (by omega)]; exact ⟨rfl, rfl⟩
theorem stepN_le {base off target : Nat} (hb : base < T256) (ht : 0 < target) (ho : off ≤ target + 1) : stepN base off target ≤ base := by
  rw [(stepN_eq hb ht ho).1]
  have := div_le_quarter (base := base) ht ho
  have hd : base / 4 ≤ base := Nat.div_le_self _ _
  omega
theorem stepN_eighth {base off target : Nat} (hb : base < T256) (ht : 0 < target) (ho : off ≤ target) : stepN base off target ≤ base / 8 := by
  rw [(stepN_eq hb ht (by omega)).1]
  have h1 : base * off / (8 * target) ≤ base * target / (8 * target) := Nat.div_le_div_right (Nat.mul_le_mul_left _ ho)
  rw [show base * target / (8 * target) = base / 8 by rw [Nat.mul_div_mul_right _ _ ht]] at h1
  exact h1
theorem nbV_lt {base limit used : Nat} (hb : base < T256) : nbV base limit used < T256 := by
  unfold nbV
  have := T256_pos
  repeat' split
  all_goals omega

/-- The next excess. -/
def neV (excess used target : Nat) : Nat := if excess + used < target then 0 else if excess + used - target < 18446744073709551616 then excess + used - target else 0
def neE (excess used target : Nat) : Int := if excess + used < target then 0 else if excess + used - target < 18446744073709551616 then 0 else 183
end Go.Proofs.Ytcmjdmehooenkaa

