/- Numbers of 256 bits as four limbs, and plain facts on Nat; no program. -/
import Derived.WalkKit
namespace Go.Proofs.YthgnmpjcbicdhaaDoor
open Go

/-- Limb i of n, as the machine holds it. -/
def L (n i : Nat) : Int := ((n / 2 ^ (64 * i) % 2 ^ 64 : Nat) : Int)
/-- The machine's array of a number. -/
abbrev U (n : Nat) : Value := .agg #[.int .u64 (L n 0), .int .u64 (L n 1), .int .u64 (L n 2), .int .u64 (L n 3)]
def T256 : Nat := 2 ^ 256
def M64 : Int := 18446744073709551616

theorem L0 (n : Nat) : L n 0 = ((n % 18446744073709551616 : Nat) : Int) := by simp [L]
theorem L1 (n : Nat) : L n 1 = ((n / 18446744073709551616 % 18446744073709551616 : Nat) : Int) := by simp [L]
theorem L2 (n : Nat) : L n 2 = ((n / 340282366920938463463374607431768211456 % 18446744073709551616 : Nat) : Int) := by simp [L]
theorem L3 (n : Nat) : L n 3 = ((n / 6277101735386680763835789423207666416102355444464034512896 % 18446744073709551616 : Nat) : Int) := by simp [L]
theorem L_nonneg (n i : Nat) : 0 ≤ L n i := by unfold L; omega
theorem L_lt (n i : Nat) : L n i < M64 := by
  unfold L M64
  have := Nat.mod_lt (n / 2 ^ (64 * i)) (show 0 < 2 ^ 64 by decide)
  omega
theorem T256_eq : T256 = 115792089237316195423570985008687907853269984665640564039457584007913129639936 := rfl
theorem T256_pos : 0 < T256 := by rw [T256_eq]; omega
theorem mod_lt256 (n : Nat) : n % T256 < T256 := Nat.mod_lt _ T256_pos

/-- A number below 2^256 out of its limbs. -/
theorem of_limbs (n : Nat) (h : n < T256) : (n : Int) = L n 0 + L n 1 * 18446744073709551616 + L n 2 * 340282366920938463463374607431768211456 + L n 3 * 6277101735386680763835789423207666416102355444464034512896 := by
  rw [L0, L1, L2, L3]; rw [T256_eq] at h; omega

/-- Limbs of a number given by its limbs. -/
theorem limbs_of (n : Nat) (x0 x1 x2 x3 : Int) (a0 : 0 ≤ x0) (b0 : x0 < 18446744073709551616) (a1 : 0 ≤ x1) (b1 : x1 < 18446744073709551616) (a2 : 0 ≤ x2) (b2 : x2 < 18446744073709551616)
    (a3 : 0 ≤ x3) (b3 : x3 < 18446744073709551616) (h : (n : Int) = x0 + x1 * 18446744073709551616 + x2 * 340282366920938463463374607431768211456 + x3 * 6277101735386680763835789423207666416102355444464034512896) :
    L n 0 = x0 ∧ L n 1 = x1 ∧ L n 2 = x2 ∧ L n 3 = x3 := by
  rw [L0, L1, L2, L3]; refine ⟨?_, ?_, ?_, ?_⟩ <;> omega

theorem U_of (n : Nat) (x0 x1 x2 x3 : Int) (a0 : 0 ≤ x0) (b0 : x0 < 18446744073709551616) (a1 : 0 ≤ x1) (b1 : x1 < 18446744073709551616) (a2 : 0 ≤ x2) (b2 : x2 < 18446744073709551616)
    (a3 : 0 ≤ x3) (b3 : x3 < 18446744073709551616) (h : (n : Int) = x0 + x1 * 18446744073709551616 + x2 * 340282366920938463463374607431768211456 + x3 * 6277101735386680763835789423207666416102355444464034512896) :
    Value.agg #[.int .u64 x0, .int .u64 x1, .int .u64 x2, .int .u64 x3] = U n := by
  obtain ⟨h0, h1, h2, h3⟩ := limbs_of n x0 x1 x2 x3 a0 b0 a1 b1 a2 b2 a3 b3 h
  unfold U
  rw [h0, h1, h2, h3]

/-- Any four limbs are a number's. -/
theorem U_any (x0 x1 x2 x3 : Int) (a0 : 0 ≤ x0) (b0 : x0 < 18446744073709551616) (a1 : 0 ≤ x1) (b1 : x1 < 18446744073709551616) (a2 : 0 ≤ x2) (b2 : x2 < 18446744073709551616)
    (a3 : 0 ≤ x3) (b3 : x3 < 18446744073709551616) : ∃ n, n < T256 ∧ Value.agg #[.int .u64 x0, .int .u64 x1, .int .u64 x2, .int .u64 x3] = U n := by
  refine ⟨(x0 + x1 * 18446744073709551616 + x2 * 340282366920938463463374607431768211456 + x3 * 6277101735386680763835789423207666416102355444464034512896).toNat, ?_, ?_⟩
  · rw [T256_eq]; omega
  · exact U_of _ _ _ _ _ a0 b0 a1 b1 a2 b2 a3 b3 (by omega)

theorem L_inj {a b : Nat} (ha : a < T256) (hb : b < T256) (h0 : L a 0 = L b 0) (h1 : L a 1 = L b 1) (h2 : L a 2 = L b 2) (h3 : L a 3 = L b 3) : a = b := by
  have e := of_limbs a ha
  have f := of_limbs b hb
  rw [h0, h1, h2, h3, ← f] at e
  omega

/-- '==' of two arrays as the walk spells it. -/
theorem U_beq {a b : Nat} (ha : a < T256) (hb : b < T256) : (L a 0 == L b 0 && L a 1 == L b 1 && L a 2 == L b 2 && L a 3 == L b 3) = decide (a = b) := by
  by_cases h : a = b
  · subst h; simp
  · simp only [h, decide_false]
    rw [← Bool.not_eq_true]
    simp only [Bool.and_eq_true, beq_iff_eq]
    rintro ⟨⟨⟨h0, h1⟩, h2⟩, h3⟩
    exact h (L_inj ha hb h0 h1 h2 h3)

/-- The sum's limbs. -/
def sm (x y c : Int) : Int := (x + y + c) % M64
def cr (x y c : Int) : Int := (x + y + c) / M64
theorem cr_01 (x y c : Int) (hx : 0 ≤ x) (hy : 0 ≤ y) (hx' : x < M64) (hy' : y < M64) (hc0 : 0 ≤ c) (hc : c ≤ 1) : 0 ≤ cr x y c ∧ cr x y c ≤ 1 := by
  unfold cr M64 at *; omega
theorem sm_eq (x y c : Int) : sm x y c = x + y + c - cr x y c * 18446744073709551616 ∧ 0 ≤ sm x y c ∧ sm x y c < 18446744073709551616 := by unfold sm cr M64; omega
/-- The difference's. -/
def df (x y c : Int) : Int := (x + M64 - y - c) % M64
def br (x y c : Int) : Int := if x < y + c then 1 else 0
theorem br_01 (x y c : Int) : 0 ≤ br x y c ∧ br x y c ≤ 1 := by unfold br; split <;> omega
theorem df_eq (x y c : Int) (hx : 0 ≤ x) (hy : 0 ≤ y) (hx' : x < M64) (hy' : y < M64) (hc0 : 0 ≤ c) (hc : c ≤ 1) :
    df x y c = x - y - c + br x y c * 18446744073709551616 ∧ 0 ≤ df x y c ∧ df x y c < 18446744073709551616 := by
  unfold df br M64 at *; split <;> omega

/-- Four limbs below 2^64 make a number below 2^256. -/
theorem four_lt {z0 z1 z2 z3 : Int} (g0 : 0 ≤ z0 ∧ z0 < 18446744073709551616) (g1 : 0 ≤ z1 ∧ z1 < 18446744073709551616) (g2 : 0 ≤ z2 ∧ z2 < 18446744073709551616) (g3 : 0 ≤ z3 ∧ z3 < 18446744073709551616) :
    0 ≤ z0 + z1 * 18446744073709551616 + z2 * 340282366920938463463374607431768211456 + z3 * 6277101735386680763835789423207666416102355444464034512896 ∧
    z0 + z1 * 18446744073709551616 + z2 * 340282366920938463463374607431768211456 + z3 * 6277101735386680763835789423207666416102355444464034512896 < T256 := by
  rw [T256_eq]; omega

theorem add_limbs (a b : Nat) (ha : a < T256) (hb : b < T256) :
    Value.tuple #[.agg #[.int .u64 (sm (L a 0) (L b 0) 0), .int .u64 (sm (L a 1) (L b 1) (cr (L a 0) (L b 0) 0)), .int .u64 (sm (L a 2) (L b 2) (cr (L a 1) (L b 1) (cr (L a 0) (L b 0) 0))),
      .int .u64 (sm (L a 3) (L b 3) (cr (L a 2) (L b 2) (cr (L a 1) (L b 1) (cr (L a 0) (L b 0) 0))))], .int .u64 (cr (L a 3) (L b 3) (cr (L a 2) (L b 2) (cr (L a 1) (L b 1) (cr (L a 0) (L b 0) 0))))] =
    .tuple #[U ((a + b) % T256), .int .u64 ((a + b) / T256 : Nat)] := by
  have ea := of_limbs a ha
  have eb := of_limbs b hb
  generalize hk1 : cr (L a 0) (L b 0) 0 = k1
  generalize hk2 : cr (L a 1) (L b 1) k1 = k2
  generalize hk3 : cr (L a 2) (L b 2) k2 = k3
  generalize hk4 : cr (L a 3) (L b 3) k3 = k4
  obtain ⟨e0, g0⟩ := sm_eq (L a 0) (L b 0) 0
  obtain ⟨e1, g1⟩ := sm_eq (L a 1) (L b 1) k1
  obtain ⟨e2, g2⟩ := sm_eq (L a 2) (L b 2) k2
  obtain ⟨e3, g3⟩ := sm_eq (L a 3) (L b 3) k3
  rw [hk1] at e0; rw [hk2] at e1; rw [hk3] at e2; rw [hk4] at e3
  clear hk1 hk2 hk3 hk4
  generalize sm (L a 0) (L b 0) 0 = z0 at *
  generalize sm (L a 1) (L b 1) k1 = z1 at *
  generalize sm (L a 2) (L b 2) k2 = z2 at *
  generalize sm (L a 3) (L b 3) k3 = z3 at *
  have gg := four_lt g0 g1 g2 g3
  have key : ((a + b : Nat) : Int) = (z0 + z1 * 18446744073709551616 + z2 * 340282366920938463463374607431768211456 + z3 * 6277101735386680763835789423207666416102355444464034512896) + k4 * (T256 : Int) := by
    rw [Int.natCast_add, ea, eb, e0, e1, e2, e3, T256_eq]
    omega
  clear ea eb e0 e1 e2 e3
  have r1 : (((a + b) % T256 : Nat) : Int) = z0 + z1 * 18446744073709551616 + z2 * 340282366920938463463374607431768211456 + z3 * 6277101735386680763835789423207666416102355444464034512896 := by
    rw [Int.natCast_emod, key, Int.add_mul_emod_self_right, Int.emod_eq_of_lt gg.1 gg.2]
  have r2 : k4 = (((a + b) / T256 : Nat) : Int) := by
    rw [Int.natCast_ediv, key, Int.add_mul_ediv_right _ _ (by have := T256_pos; omega), Int.ediv_eq_zero_of_lt gg.1 gg.2, Int.zero_add]
  rw [U_of ((a + b) % T256) z0 z1 z2 z3 g0.1 g0.2 g1.1 g1.2 g2.1 g2.2 g3.1 g3.2 r1, r2]

theorem sub_limbs (a b : Nat) (ha : a < T256) (hb : b < T256) :
    Value.tuple #[.agg #[.int .u64 (df (L a 0) (L b 0) 0), .int .u64 (df (L a 1) (L b 1) (br (L a 0) (L b 0) 0)), .int .u64 (df (L a 2) (L b 2) (br (L a 1) (L b 1) (br (L a 0) (L b 0) 0))),
      .int .u64 (df (L a 3) (L b 3) (br (L a 2) (L b 2) (br (L a 1) (L b 1) (br (L a 0) (L b 0) 0))))], .int .u64 (br (L a 3) (L b 3) (br (L a 2) (L b 2) (br (L a 1) (L b 1) (br (L a 0) (L b 0) 0))))] =
    .tuple #[U ((a + T256 - b) % T256), .int .u64 (if a < b then 1 else 0 : Nat)] := by
  have ea := of_limbs a ha
  have eb := of_limbs b hb
  have q1 := br_01 (L a 0) (L b 0) 0
  obtain ⟨e0, g0⟩ := df_eq (L a 0) (L b 0) 0 (L_nonneg _ _) (L_nonneg _ _) (L_lt _ _) (L_lt _ _) (by omega) (by omega)
  generalize br (L a 0) (L b 0) 0 = k1 at *
  have q2 := br_01 (L a 1) (L b 1) k1
  obtain ⟨e1, g1⟩ := df_eq (L a 1) (L b 1) k1 (L_nonneg _ _) (L_nonneg _ _) (L_lt _ _) (L_lt _ _) q1.1 q1.2
  generalize br (L a 1) (L b 1) k1 = k2 at *
  have q3 := br_01 (L a 2) (L b 2) k2
  obtain ⟨e2, g2⟩ := df_eq (L a 2) (L b 2) k2 (L_nonneg _ _) (L_nonneg _ _) (L_lt _ _) (L_lt _ _) q2.1 q2.2
  generalize br (L a 2) (L b 2) k2 = k3 at *
  have q4 := br_01 (L a 3) (L b 3) k3
  obtain ⟨e3, g3⟩ := df_eq (L a 3) (L b 3) k3 (L_nonneg _ _) (L_nonneg _ _) (L_lt _ _) (L_lt _ _) q3.1 q3.2
  generalize br (L a 3) (L b 3) k3 = k4 at *
  generalize df (L a 0) (L b 0) 0 = z0 at *
  generalize df (L a 1) (L b 1) k1 = z1 at *
  generalize df (L a 2) (L b 2) k2 = z2 at *
  generalize df (L a 3) (L b 3) k3 = z3 at *
  have gg := four_lt g0 g1 g2 g3
  have key : (a : Int) - b = (z0 + z1 * 18446744073709551616 + z2 * 340282366920938463463374607431768211456 + z3 * 6277101735386680763835789423207666416102355444464034512896) - k4 * (T256 : Int) := by
    rw [ea, eb, e0, e1, e2, e3, T256_eq]
    omega
  clear ea eb e0 e1 e2 e3 q1 q2 q3
  generalize hZ : z0 + z1 * 18446744073709551616 + z2 * 340282366920938463463374607431768211456 + z3 * 6277101735386680763835789423207666416102355444464034512896 = Z at *
  have r2 : k4 = ((if a < b then 1 else 0 : Nat) : Int) := by
    generalize T256 = T at *
    have : k4 = 0 ∨ k4 = 1 := by omega
    rcases this with rfl | rfl
    · rw [if_neg (by omega)]; rfl
    · rw [if_pos (by omega)]; rfl
  have r1 : (((a + T256 - b) % T256 : Nat) : Int) = Z := by
    have : k4 = 0 ∨ k4 = 1 := by omega
    generalize T256 = T at *
    rcases this with h | h
    · rw [h] at key
      have e : a + T - b = Z.toNat + T := by omega
      rw [e, Nat.add_mod_right, Nat.mod_eq_of_lt (by omega)]; omega
    · rw [h] at key
      have e : a + T - b = Z.toNat := by omega
      rw [e, Nat.mod_eq_of_lt (by omega)]; omega
  subst hZ
  rw [U_of ((a + T256 - b) % T256) z0 z1 z2 z3 g0.1 g0.2 g1.1 g1.2 g2.1 g2.2 g3.1 g3.2 r1, r2]

def cmpI (a b : Nat) : Int := if a < b then -1 else if a = b then 0 else 1
theorem cmpI_lt {a b : Nat} (h : a < b) : cmpI a b = -1 := by unfold cmpI; simp [h]
theorem cmpI_gt {a b : Nat} (h : b < a) : cmpI a b = 1 := by unfold cmpI; rw [if_neg (by omega), if_neg (by omega)]
theorem cmpI_eq {a b : Nat} (h : a = b) : cmpI a b = 0 := by unfold cmpI; simp [h]
/-- The first limb that differs, from the highest one on, decides. -/
theorem lt3 {a b : Nat} (ha : a < T256) (hb : b < T256) (h : L a 3 < L b 3) : a < b := by
  have e := of_limbs a ha
  have f := of_limbs b hb
  have a0 := L_lt a 0; have a1 := L_lt a 1; have a2 := L_lt a 2
  have b0 := L_nonneg b 0; have b1 := L_nonneg b 1; have b2 := L_nonneg b 2
  unfold M64 at *
  omega
theorem lt2 {a b : Nat} (ha : a < T256) (hb : b < T256) (h3 : L a 3 = L b 3) (h : L a 2 < L b 2) : a < b := by
  have e := of_limbs a ha
  have f := of_limbs b hb
  have a0 := L_lt a 0; have a1 := L_lt a 1
  have b0 := L_nonneg b 0; have b1 := L_nonneg b 1
  unfold M64 at *
  omega
theorem lt1 {a b : Nat} (ha : a < T256) (hb : b < T256) (h3 : L a 3 = L b 3) (h2 : L a 2 = L b 2) (h : L a 1 < L b 1) : a < b := by
  have e := of_limbs a ha
  have f := of_limbs b hb
  have a0 := L_lt a 0
  have b0 := L_nonneg b 0
  unfold M64 at *
  omega
theorem lt0 {a b : Nat} (ha : a < T256) (hb : b < T256) (h3 : L a 3 = L b 3) (h2 : L a 2 = L b 2) (h1 : L a 1 = L b 1) (h : L a 0 < L b 0) : a < b := by
  have e := of_limbs a ha
  have f := of_limbs b hb
  omega
theorem cmpI_limbs {a b : Nat} (ha : a < T256) (hb : b < T256) :
    cmpI a b = if L a 3 < L b 3 then -1 else if L b 3 < L a 3 then 1 else if L a 2 < L b 2 then -1 else if L b 2 < L a 2 then 1 else if L a 1 < L b 1 then -1 else if L b 1 < L a 1 then 1 else if L a 0 < L b 0 then -1 else if L b 0 < L a 0 then 1 else 0 := by
  split
  · exact cmpI_lt (lt3 ha hb ‹_›)
  split
  · exact cmpI_gt (lt3 hb ha ‹_›)
  split
  · exact cmpI_lt (lt2 ha hb (by omega) ‹_›)
  split
  · exact cmpI_gt (lt2 hb ha (by omega) ‹_›)
  split
  · exact cmpI_lt (lt1 ha hb (by omega) (by omega) ‹_›)
  split
  · exact cmpI_gt (lt1 hb ha (by omega) (by omega) ‹_›)
  split
  · exact cmpI_lt (lt0 ha hb (by omega) (by omega) (by omega) ‹_›)
  split
  · exact cmpI_gt (lt0 hb ha (by omega) (by omega) (by omega) ‹_›)
  · exact cmpI_eq (L_inj ha hb (by omega) (by omega) (by omega) (by omega))

theorem U_small (v : Nat) (h : v < 18446744073709551616) : Value.agg #[.int .u64 (v : Int), .int .u64 0, .int .u64 0, .int .u64 0] = U v :=
  U_of v v 0 0 0 (by omega) (by omega) (by omega) (by omega) (by omega) (by omega) (by omega) (by omega) (by omega)
theorem U_zero : Value.agg #[.int .u64 0, .int .u64 0, .int .u64 0, .int .u64 0] = U 0 := U_small 0 (by omega)
/-- The number of the lowest limb alone. -/
theorem U_low (a : Nat) : Value.agg #[.int .u64 (L a 0), .int .u64 0, .int .u64 0, .int .u64 0] = U (a % 18446744073709551616) := by
  rw [L0]; exact U_small _ (by omega)
end Go.Proofs.YthgnmpjcbicdhaaDoor

