/- Decimal texts: the plain law. -/
import Derived.Test.YthgnmpjcbicdhaaDoorDv64
import Derived.Test.YthgnmpjcbicdhaaDoorFmU
import Derived.Test.YthgnmpjcbicdhaaDoorNumB
import Derived.Lib.ItoaNum
set_option linter.unusedSimpArgs false
set_option linter.unusedVariables false
namespace Go.Proofs.YthgnmpjcbicdhaaDoor
open Go Go.RowKit

/-- Just k decimal digits. -/
def padK : Nat → Nat → List UInt8
  | 0, _ => []
  | k + 1, r => padK k (r / 10) ++ [UInt8.ofNat (48 + r % 10)]
theorem dd_big (u : Nat) (h : ¬ u < 10) : Lib.decDigits u = Lib.decDigits (u / 10) ++ [UInt8.ofNat (48 + u % 10)] := by
  rw [Lib.decDigits, dif_neg h]
theorem dd_pad : ∀ (k q r : Nat), 0 < q → r < 10 ^ k → Lib.decDigits (q * 10 ^ k + r) = Lib.decDigits q ++ padK k r
  | 0, q, r, hq, hr => by
    have : r = 0 := by simpa using hr
    subst this
    simp [padK]
  | k + 1, q, r, hq, hr => by
    have hp : 0 < 10 ^ k := Nat.pos_of_ne_zero (by simp)
    have e : q * 10 ^ (k + 1) = q * 10 ^ k * 10 := by rw [Nat.pow_succ, Nat.mul_assoc]
    have hge : 10 ≤ q * 10 ^ (k + 1) := by
      rw [e]
      have : 1 ≤ q * 10 ^ k := Nat.mul_pos hq hp
      omega
    rw [dd_big _ (by omega)]
    have e1 : (q * 10 ^ (k + 1) + r) / 10 = q * 10 ^ k + r / 10 := by rw [e]; omega
    have e2 : (q * 10 ^ (k + 1) + r) % 10 = r % 10 := by rw [e]; omega
    have hr2 : r / 10 < 10 ^ k := by rw [Nat.pow_succ] at hr; omega
    rw [e1, e2, dd_pad k q (r / 10) hq hr2, padK, List.append_assoc]
theorem padK_zero : ∀ k : Nat, padK k 0 = List.replicate k 48
  | 0 => rfl
  | k + 1 => by
    rw [padK, Nat.zero_div, padK_zero k, List.replicate_succ']
    rfl
theorem padK_eq : ∀ (k r : Nat), r < 10 ^ (k + 1) → padK (k + 1) r = List.replicate (k + 1 - Lib.nDigits r) 48 ++ Lib.decDigits r
  | k, r, hr => by
    by_cases h : r < 10
    · rw [padK, show r / 10 = 0 by omega, padK_zero, Lib.nDigits_small h, Lib.decDigits_one h, show r % 10 = r by omega]
      rfl
    · cases k with
      | zero => simp at hr; omega
      | succ k =>
        have hr2 : r / 10 < 10 ^ (k + 1) := by rw [Nat.pow_succ] at hr; omega
        rw [padK, padK_eq k (r / 10) hr2, Lib.nDigits_big h, dd_big r h, List.append_assoc]
        congr 2
        omega
theorem nd_le {k r : Nat} (h : r < 10 ^ (k + 1)) : Lib.nDigits r ≤ k + 1 := by
  rcases Nat.lt_or_ge r (10 ^ k) with h1 | h1
  · cases k with
    | zero => have : r = 0 := by simpa using h1
              subst this; rw [Lib.nDigits_small (by decide)]; omega
    | succ k => exact Nat.le_succ_of_le (nd_le h1)
  · rw [Lib.nDigits_unique k r h1 h]; exact Nat.le_refl _
/-- The text of a part: whole, if there is more ahead of it. -/
def partT (x : Nat) : List UInt8 := if x / 10000000000000000000 = 0 then Lib.decDigits (x % 10000000000000000000) else List.replicate (19 - Lib.nDigits (x % 10000000000000000000)) 48 ++ Lib.decDigits (x % 10000000000000000000)
def flatR (ps : List (List UInt8)) : List UInt8 := ps.reverse.flatten
theorem flatR_snoc (ps : List (List UInt8)) (p : List UInt8) : flatR (ps ++ [p]) = p ++ flatR ps := by simp [flatR]
/-- What the parts say of the number. -/
def TInv (x0 x : Nat) (ps : List (List UInt8)) : Prop := (x ≠ 0 ∧ Lib.decDigits x ++ flatR ps = Lib.decDigits x0) ∨ (x = 0 ∧ flatR ps = Lib.decDigits x0)
theorem dvx_small {x : Nat} (h : x / 10000000000000000000 = 0) : x % 10000000000000000000 = x := by omega
theorem tinv_step {x0 x : Nat} {ps : List (List UInt8)} (hx : x ≠ 0) (h : TInv x0 x ps) : TInv x0 (x / 10000000000000000000) (ps ++ [partT x]) := by
  rcases h with ⟨_, h⟩ | ⟨h, _⟩
  · unfold partT
    have hr : x % 10000000000000000000 < 10 ^ 19 := Nat.mod_lt _ (by decide)
    by_cases hq : x / 10000000000000000000 = 0
    · refine .inr ⟨hq, ?_⟩
      rw [flatR_snoc, if_pos hq, ← h, dvx_small hq]
    · refine .inl ⟨hq, ?_⟩
      rw [flatR_snoc, if_neg hq, ← h, ← padK_eq 18 _ hr, ← List.append_assoc, ← dd_pad 19 _ _ (Nat.pos_of_ne_zero hq) hr]
      rw [show (10 : Nat) ^ 19 = 10000000000000000000 from rfl, Nat.div_add_mod']
  · exact absurd h hx
/-- The rests from above. -/
def Rk (x i : Nat) : Nat := x / 2 ^ (64 * i) % 10000000000000000000
theorem dv_chain (X M Y : Nat) (hM : 0 < M) (hY : 0 < Y) : (X / M % Y * M + X % M) / Y = X / Y % M ∧ (X / M % Y * M + X % M) % Y = X % Y := by
  obtain ⟨A, hA⟩ : ∃ A, A = X / M / Y := ⟨_, rfl⟩
  obtain ⟨R, hR⟩ : ∃ R, R = X / M % Y := ⟨_, rfl⟩
  obtain ⟨l, hl⟩ : ∃ l, l = X % M := ⟨_, rfl⟩
  obtain ⟨q, hq⟩ : ∃ q, q = (R * M + l) / Y := ⟨_, rfl⟩
  obtain ⟨v, hv⟩ : ∃ v, v = (R * M + l) % Y := ⟨_, rfl⟩
  have hvY : v < Y := hv ▸ Nat.mod_lt _ hY
  have hRY : R < Y := hR ▸ Nat.mod_lt _ hY
  have hlM : l < M := hl ▸ Nat.mod_lt _ hM
  have e1 : X / M = A * Y + R := by rw [hA, hR, Nat.div_add_mod']
  have e2 : X = (A * Y + R) * M + l := by rw [← e1, hl, Nat.div_add_mod']
  have e3 : R * M + l = q * Y + v := by rw [hq, hv, Nat.div_add_mod']
  have e4 : X = (A * M + q) * Y + v := by
    rw [e2, Nat.add_mul, Nat.add_assoc, e3, Nat.add_mul, Nat.add_assoc, Nat.mul_right_comm]
  have hqM : q < M := by
    rw [hq]
    apply Nat.div_lt_of_lt_mul
    have : (R + 1) * M ≤ Y * M := Nat.mul_le_mul_right _ hRY
    rw [Nat.add_mul, Nat.one_mul] at this
    omega
  obtain ⟨g1, g2⟩ := dv_div X (A * M + q) v Y e4 hvY
  rw [← hR, ← hl, ← hq, ← hv, g1, g2]
  refine ⟨?_, rfl⟩
  rw [Nat.mul_comm, Nat.mul_add_mod, Nat.mod_eq_of_lt hqM]
theorem rk_step (x i : Nat) : (Rk x (i + 1) * 18446744073709551616 + Ln x i) / 10000000000000000000 = Ln (x / 10000000000000000000) i ∧ (Rk x (i + 1) * 18446744073709551616 + Ln x i) % 10000000000000000000 = Rk x i := by
  unfold Rk Ln
  have e : x / 2 ^ (64 * (i + 1)) = x / 2 ^ (64 * i) / 18446744073709551616 := by
    rw [Nat.div_div_eq_div_mul, show 18446744073709551616 = 2 ^ 64 from rfl, ← Nat.pow_add]
    congr 1
  have h := dv_chain (x / 2 ^ (64 * i)) 18446744073709551616 10000000000000000000 (by decide) (by decide)
  rw [e]
  have e2 : x / 10000000000000000000 / 2 ^ (64 * i) = x / 2 ^ (64 * i) / 10000000000000000000 := by rw [Nat.div_div_eq_div_mul, Nat.div_div_eq_div_mul, Nat.mul_comm]
  rw [e2]
  exact h
theorem rk_lt (x i : Nat) : Rk x i < 10000000000000000000 := Nat.mod_lt _ (by decide)
theorem rk_top (x : Nat) (h : x < T256) : Rk x 4 = 0 := by
  unfold Rk
  rw [show 64 * 4 = 256 from rfl, Nat.div_eq_of_lt (by unfold T256 at h; exact h)]
theorem rk_bot (x : Nat) : Rk x 0 = x % 10000000000000000000 := by simp [Rk]
theorem ln_lt (x i : Nat) : Ln x i < 18446744073709551616 := Nat.mod_lt _ (by decide)
theorem dvk_c (x i : Nat) (w : World) : Calls Tryd.prog 22 #[.int .u64 ((Rk x (i + 1) : Nat) : Int), .int .u64 (L x i), .int .u64 10000000000000000000] w fun e w' => e = .returned (.tuple #[.int .u64 (L (x / 10000000000000000000) i), .int .u64 ((Rk x i : Nat) : Int)]) ∧ Below w.heap.size w w' := by
  have h := div64_c (Rk x (i + 1)) (Ln x i) (rk_lt x _) (ln_lt x i) w
  obtain ⟨h1, h2⟩ := rk_step x i
  rw [h1, h2] at h
  exact h
theorem rep48 : ∀ c : Nat, Lib.repeatL [48] c = List.replicate c 48
  | 0 => rfl
  | c + 1 => by rw [Lib.repeatL, rep48 c]; rfl
end Go.Proofs.YthgnmpjcbicdhaaDoor

