/- Digits of 32 bits; no program. -/
import Derived.Test.YthgnmpjcbicdhaaDoorNum
set_option linter.unusedSimpArgs false
set_option linter.unusedVariables false
namespace Go.Proofs.YthgnmpjcbicdhaaDoor
open Go

def H32 : Int := 4294967296
/-- Digit i. -/
def D (n i : Nat) : Int := ((n / 2 ^ (32 * i) % 2 ^ 32 : Nat) : Int)
def Dl (n : Nat) : List Int := [D n 0, D n 1, D n 2, D n 3, D n 4, D n 5, D n 6, D n 7]
theorem D_nonneg (n i : Nat) : 0 ≤ D n i := Int.natCast_nonneg _
theorem D_lt (n i : Nat) : D n i < H32 := by
  unfold D H32
  have := Nat.mod_lt (n / 2 ^ (32 * i)) (show 0 < 2 ^ 32 by decide)
  omega
theorem L_mod (n i : Nat) : L n i % 4294967296 = D n (2 * i) := by
  unfold L D
  have e : 32 * (2 * i) = 64 * i := by omega
  rw [e]
  generalize n / 2 ^ (64 * i) = x
  omega
theorem L_div (n i : Nat) : L n i / 4294967296 = D n (2 * i + 1) := by
  unfold L D
  have e : 32 * (2 * i + 1) = 64 * i + 32 := by omega
  rw [e, Nat.pow_add, ← Nat.div_div_eq_div_mul]
  generalize n / 2 ^ (64 * i) = x
  omega
theorem L_join (n i : Nat) : D n (2 * i) + 4294967296 * D n (2 * i + 1) = L n i := by
  rw [← L_mod, ← L_div]; omega

/-- A row of digits' number, the lowest first. -/
def v32 : List Int → Int
  | [] => 0
  | z :: zs => z + H32 * v32 zs
theorem v32_set : ∀ (zs : List Int) (k : Nat) (v : Int), k < zs.length → v32 (zs.set k v) = v32 zs + (v - zs.getD k 0) * H32 ^ k
  | [], k, v, h => by simp at h
  | z :: zs, 0, v, h => by simp [v32]; omega
  | z :: zs, k + 1, v, h => by
    have ih := v32_set zs k v (by simpa using h)
    simp only [List.set_cons_succ, v32, ih, List.getD_cons_succ, Int.pow_succ]
    grind
/-- All are digits. -/
def digs (zs : List Int) : Prop := ∀ k, 0 ≤ zs.getD k 0 ∧ zs.getD k 0 < H32
theorem digs_set {zs : List Int} (h : digs zs) (i : Nat) (v : Int) (h0 : 0 ≤ v) (h1 : v < H32) : digs (zs.set i v) := by
  intro k
  have hk := h k
  simp only [List.getD_eq_getElem?_getD, List.getElem?_set] at *
  split
  · split
    · exact ⟨h0, h1⟩
    · exact ⟨by simp, by simp [H32]⟩
  · exact hk
theorem digs_Dl (n : Nat) : digs (Dl n) := by
  intro k
  unfold Dl
  match k with
  | 0 | 1 | 2 | 3 | 4 | 5 | 6 | 7 => exact ⟨D_nonneg _ _, D_lt _ _⟩
  | k + 8 => exact ⟨by simp, by simp [H32]⟩
theorem Dl_getD (n k : Nat) (h : k < 8) : (Dl n).getD k 0 = D n k := by
  unfold Dl
  match k, h with
  | 0, _ | 1, _ | 2, _ | 3, _ | 4, _ | 5, _ | 6, _ | 7, _ => rfl
def lowD (a n : Nat) : Int := ((a % 2 ^ (32 * n) : Nat) : Int)
theorem lowD_zero (a : Nat) : lowD a 0 = 0 := by simp [lowD, Nat.mod_one]
theorem lowD_succ (a n : Nat) : lowD a (n + 1) = lowD a n + D a n * H32 ^ n := by
  unfold lowD D H32
  have h : a % 2 ^ (32 * (n + 1)) = a % 2 ^ (32 * n) + 2 ^ (32 * n) * (a / 2 ^ (32 * n) % 2 ^ 32) := by
    rw [Nat.mul_add, Nat.mul_one, Nat.pow_add, Nat.mod_mul]
  rw [h]
  have e : (4294967296 : Int) ^ n = ((2 ^ (32 * n) : Nat) : Int) := by rw [Nat.pow_mul]; simp
  rw [e]
  simp only [Int.natCast_add, Int.natCast_mul]
  rw [Int.mul_comm (((2 ^ (32 * n) : Nat)) : Int)]
theorem lowD_eight (a : Nat) (h : a < T256) : lowD a 8 = a := by
  unfold lowD
  rw [Nat.mod_eq_of_lt (by unfold T256 at h; exact h)]
theorem v32_Dl (a : Nat) (h : a < T256) : v32 (Dl a) = a := by
  rw [← lowD_eight a h]
  simp only [lowD_succ, lowD_zero, Dl, v32]
  grind
theorem H8 : H32 ^ 8 = (T256 : Int) := by rw [T256_eq]; rfl
/-- Eight digits below 2^256. -/
theorem v32_bd (z0 z1 z2 z3 z4 z5 z6 z7 : Int) (h : digs [z0, z1, z2, z3, z4, z5, z6, z7]) : 0 ≤ v32 [z0, z1, z2, z3, z4, z5, z6, z7] ∧ v32 [z0, z1, z2, z3, z4, z5, z6, z7] < T256 := by
  have b0 := h 0; have b1 := h 1; have b2 := h 2; have b3 := h 3; have b4 := h 4; have b5 := h 5; have b6 := h 6; have b7 := h 7
  simp only [List.getD_cons_zero, List.getD_cons_succ, H32] at b0 b1 b2 b3 b4 b5 b6 b7
  simp only [v32, H32, T256_eq]
  clear h
  omega
theorem v32_inj : ∀ (xs ys : List Int), xs.length = ys.length → digs xs → digs ys → v32 xs = v32 ys → xs = ys
  | [], [], _, _, _, _ => rfl
  | x :: xs, y :: ys, hl, hx, hy, h => by
    have x0 := hx 0; have y0 := hy 0
    simp only [List.getD_cons_zero, H32] at x0 y0
    simp only [v32, H32] at h
    have e1 : x = y := by omega
    have e2 : v32 xs = v32 ys := by omega
    rw [e1, v32_inj xs ys (by simpa using hl) (fun k => by have := hx (k + 1); simpa using this) (fun k => by have := hy (k + 1); simpa using this) e2]
theorem Dl_of (n : Nat) (h : n < T256) (zs : List Int) (hl : zs.length = 8) (hd : digs zs) (hv : v32 zs = n) : zs = Dl n :=
  v32_inj _ _ hl hd (digs_Dl n) (by rw [hv, v32_Dl n h])
/-- The digits of a sum that may be too long. -/
theorem v32_split (n : Nat) (zs : List Int) (hl : zs.length = 8) (hd : digs zs) (c : Int) (h : v32 zs + c * H32 ^ 8 = n) : zs = Dl (n % T256) ∧ c = ((n / T256 : Nat) : Int) := by
  match zs, hl with
  | [z0, z1, z2, z3, z4, z5, z6, z7], _ =>
    have gg := v32_bd z0 z1 z2 z3 z4 z5 z6 z7 hd
    rw [H8] at h
    refine ⟨Dl_of _ (mod_lt256 _) _ rfl hd ?_, ?_⟩
    · rw [Int.natCast_emod, ← h, Int.add_mul_emod_self_right, Int.emod_eq_of_lt gg.1 gg.2]
    · rw [Int.natCast_ediv, ← h, Int.add_mul_ediv_right _ _ (by have := T256_pos; omega), Int.ediv_eq_zero_of_lt gg.1 gg.2, Int.zero_add]
theorem getDset_ne {zs : List Int} {i k : Nat} (v : Int) (h : i ≠ k) : (zs.set i v).getD k 0 = zs.getD k 0 := by
  simp [List.getD_eq_getElem?_getD, List.getElem?_set_ne h]
end Go.Proofs.YthgnmpjcbicdhaaDoor

