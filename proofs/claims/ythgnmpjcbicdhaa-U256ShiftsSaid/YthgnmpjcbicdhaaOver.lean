/- u256.DivMod, Reduce, MulDiv, AddMod, MulMod and the document's. -/
import Derived.Test.YthgnmpjcbicdhaaDiv
import Derived.Test.YthgnmpjcbicdhaaLong
import Derived.Test.YthgnmpjcbicdhaaMul
import Derived.Test.YthgnmpjcbicdhaaRMul
import Derived.Test.YthgnmpjcbicdhaaCmp
set_option linter.unusedSimpArgs false
set_option linter.unusedVariables false
namespace Go.Proofs.Ythgnmpjcbicdhaa
open Go Go.RowKit

def eZ (m : Nat) : Int := if m = 0 then 10 else 0
def dmR (x y : Nat) : Nat := if y = 0 then 0 else x % y
def rdV (hi lo m : Nat) : Nat := if m = 0 then 0 else (hi * T256 + lo) % m
def mdV (x y m : Nat) : Nat := if x * y / m < T256 then x * y / m else 0
def mdE (x y m : Nat) : Int := if m = 0 then 10 else if x * y / m < T256 then 0 else 11
theorem hilo256 (n : Nat) : n / T256 * T256 + n % T256 = n := by rw [Nat.mul_comm]; exact Nat.div_add_mod n T256
theorem mul_hi_lt {x y : Nat} (hx : x < T256) (hy : y < T256) : x * y / T256 < T256 :=
  Nat.div_lt_of_lt_mul (Nat.mul_lt_mul'' hx hy)
theorem rdV_lt {hi lo m : Nat} (h : m < T256) : rdV hi lo m < T256 := by
  unfold rdV; split
  · exact T256_pos
  · exact Nat.lt_trans (Nat.mod_lt _ (by omega)) h

set_option maxHeartbeats 2000000 in
set_option maxRecDepth 100000 in
theorem divmod_c (x y : Nat) (hx : x < T256) (hy : y < T256) (w : World) :
    Calls Try.prog 55 #[U x, U y] w fun e w' => e = .returned (.tuple #[U (x / y), U (dmR x y), .int .i64 (eZ y)]) ∧ Bl w w' := by
  have hq := fun w => run_eq_U hy T256_pos w
  rw [← U_zero] at hq
  have hg := guardU
  by_cases h : y = 0
  · subst h
    simp only [eq_self, decide_true] at hq
    rw [show x / 0 = 0 from Nat.div_zero x, show dmR x 0 = 0 from rfl, show eZ 0 = 10 from rfl, ← U_zero]
    rw [← U_zero] at hq
    go_enter Try.func55, Try.ntmps55
    go_wp2_with fail
    refine bodyPost_ret (v := .tuple #[.agg #[.int .u64 0, .int .u64 0, .int .u64 0, .int .u64 0], .agg #[.int .u64 0, .int .u64 0, .int .u64 0, .int .u64 0], .int .i64 10]) (by simp only [results, Try.results55]; go_simp) rfl ⟨rfl, ?_⟩
    exact ((((Bl.refl w).alloc _).alloc _).alloc _).alloc _
  · have hd : decide (y = 0) = false := by simpa using h
    simp only [hd] at hq
    have hv := fun w => divide_c 0 x y T256_pos hx hy (by omega) w
    rw [← U_zero, show 0 * T256 + x = x by omega, show x / y / T256 = 0 from Nat.div_eq_of_lt (Nat.lt_of_le_of_lt (Nat.div_le_self _ _) hx),
      show x / y % T256 = x / y from Nat.mod_eq_of_lt (Nat.lt_of_le_of_lt (Nat.div_le_self _ _) hx)] at hv
    rw [show dmR x y = x % y from if_neg h, show eZ y = 0 from if_neg h]
    generalize x / y = q at *
    generalize x % y = r at *
    clear hd h
    go_enter Try.func55, Try.ntmps55
    go_wp2_with fail
    refine (hv _).mono ?_
    rintro e w1 ⟨rfl, hb1⟩
    have r1_2 : Box w1 (w.heap.size + 1 + 1) #[.int .u64 0, .int .u64 0, .int .u64 0, .int .u64 0] 24 := ((Box.new _ _ _ _ (by simp)).alloc _).call hb1
    have r1_3 : Box w1 (w.heap.size + 1 + 1 + 1) #[.int .u64 0, .int .u64 0, .int .u64 0, .int .u64 0] 24 := (Box.new _ _ _ _ (by simp)).call hb1
    have b1 : Bl w w1 := Bl.trans (((((Bl.refl w).alloc _).alloc _).alloc _).alloc _) hb1
    have z1 : w.heap.size + 1 + 1 + 1 + 1 ≤ w1.heap.size := (by have := hb1.size; (try simp only [World.alloc, World.setCell, World.drew, Array.size_push, Array.size_modify] at this); omega)
    have y1 : w.heap.size ≤ w1.heap.size := b1.size
    clear hb1
    obtain ⟨r1_2_c, r1_2_f, r1_2_l⟩ := r1_2.tell
    obtain ⟨r1_3_c, r1_3_f, r1_3_l⟩ := r1_3.tell
    go_wp2_with fail
    obtain ⟨w2, hw2⟩ : ∃ V : World, V = ((((((((w1.setCell ⟨w.heap.size + 1 + 1, 0, none⟩ (.int .u64 (L (q) 0))).setCell ⟨w.heap.size + 1 + 1, 1, none⟩ (.int .u64 (L (q) 1))).setCell ⟨w.heap.size + 1 + 1, 2, none⟩ (.int .u64 (L (q) 2))).setCell ⟨w.heap.size + 1 + 1, 3, none⟩ (.int .u64 (L (q) 3))).setCell ⟨w.heap.size + 1 + 1 + 1, 0, none⟩ (.int .u64 (L (r) 0))).setCell ⟨w.heap.size + 1 + 1 + 1, 1, none⟩ (.int .u64 (L (r) 1))).setCell ⟨w.heap.size + 1 + 1 + 1, 2, none⟩ (.int .u64 (L (r) 2))).setCell ⟨w.heap.size + 1 + 1 + 1, 3, none⟩ (.int .u64 (L (r) 3))) := ⟨_, rfl⟩
    have r2_0 : Box w2 (w.heap.size + 1 + 1) #[.int .u64 (L (q) 0), .int .u64 (L (q) 1), .int .u64 (L (q) 2), .int .u64 (L (q) 3)] 24 := by rw [hw2]; exact (((((((((r1_2).set _ _).set _ _).set _ _).set _ _).far _ _ (by simp only []; omega)).far _ _ (by simp only []; omega)).far _ _ (by simp only []; omega)).far _ _ (by simp only []; omega)).cells rfl
    have r2_1 : Box w2 (w.heap.size + 1 + 1 + 1) #[.int .u64 (L (r) 0), .int .u64 (L (r) 1), .int .u64 (L (r) 2), .int .u64 (L (r) 3)] 24 := by rw [hw2]; exact (((((((((r1_3).far _ _ (by simp only []; omega)).far _ _ (by simp only []; omega)).far _ _ (by simp only []; omega)).far _ _ (by simp only []; omega)).set _ _).set _ _).set _ _).set _ _).cells rfl
    have b2 : Bl w w2 := by rw [hw2]; exact ((((((((b1).setCell (by simp only []; omega) _).setCell (by simp only []; omega) _).setCell (by simp only []; omega) _).setCell (by simp only []; omega) _).setCell (by simp only []; omega) _).setCell (by simp only []; omega) _).setCell (by simp only []; omega) _).setCell (by simp only []; omega) _
    have z2 : w1.heap.size ≤ w2.heap.size := (by rw [hw2]; simp only [World.alloc, World.setCell, World.drew, Array.size_push, Array.size_modify]; omega)
    have y2 : w.heap.size ≤ w2.heap.size := b2.size
    rw [← hw2]
    clear r1_2 r1_2_c r1_2_f r1_2_l r1_3 r1_3_c r1_3_f r1_3_l hw2 b1
    obtain ⟨r2_0_c, r2_0_f, r2_0_l⟩ := r2_0.tell
    obtain ⟨r2_1_c, r2_1_f, r2_1_l⟩ := r2_1.tell
    go_region
    go_wp2_with fail
    refine bodyPost_ret (v := .tuple #[U q, U r, .int .i64 0]) (by simp only [results, Try.results55]; go_simp) rfl ⟨rfl, ?_⟩
    exact (((((((((b2).setCell (by simp only []; omega) _).setCell (by simp only []; omega) _).setCell (by simp only []; omega) _).setCell (by simp only []; omega) _).setCell (by simp only []; omega) _).setCell (by simp only []; omega) _).setCell (by simp only []; omega) _).setCell (by simp only []; omega) _).drew

set_option maxHeartbeats 2000000 in
set_option maxRecDepth 100000 in
theorem reduce_c (hi lo m : Nat) (hh : hi < T256) (hl : lo < T256) (hm : m < T256) (w : World) :
    Calls Try.prog 60 #[U hi, U lo, U m] w fun e w' => e = .returned (.tuple #[U (rdV hi lo m), .int .i64 (eZ m)]) ∧ Bl w w' := by
  have hq := fun w => run_eq_U hm T256_pos w
  rw [← U_zero] at hq
  have hg := guardU
  by_cases h : m = 0
  · subst h
    simp only [eq_self, decide_true] at hq
    rw [show rdV hi lo 0 = 0 from rfl, show eZ 0 = 10 from rfl, ← U_zero]
    rw [← U_zero] at hq
    go_enter Try.func60, Try.ntmps60
    go_wp2_with fail
    refine bodyPost_ret (v := .tuple #[.agg #[.int .u64 0, .int .u64 0, .int .u64 0, .int .u64 0], .int .i64 10]) (by simp only [results, Try.results60]; go_simp) rfl ⟨rfl, ?_⟩
    exact ((((Bl.refl w).alloc _).alloc _).alloc _).alloc _
  · have hd : decide (m = 0) = false := by simpa using h
    simp only [hd] at hq
    have hv := fun w => divide_c hi lo m hh hl hm (by omega) w
    rw [show rdV hi lo m = (hi * T256 + lo) % m from if_neg h, show eZ m = 0 from if_neg h]
    generalize (hi * T256 + lo) / m / T256 = q at *
    generalize (hi * T256 + lo) / m % T256 = r at *
    generalize (hi * T256 + lo) % m = s at *
    clear hd h
    go_enter Try.func60, Try.ntmps60
    go_wp2_with fail
    refine (hv _).mono ?_
    rintro e w1 ⟨rfl, hb1⟩
    have r1_3 : Box w1 (w.heap.size + 1 + 1 + 1) #[.int .u64 0, .int .u64 0, .int .u64 0, .int .u64 0] 24 := (Box.new _ _ _ _ (by simp)).call hb1
    have b1 : Bl w w1 := Bl.trans (((((Bl.refl w).alloc _).alloc _).alloc _).alloc _) hb1
    have z1 : w.heap.size + 1 + 1 + 1 + 1 ≤ w1.heap.size := (by have := hb1.size; (try simp only [World.alloc, World.setCell, World.drew, Array.size_push, Array.size_modify] at this); omega)
    have y1 : w.heap.size ≤ w1.heap.size := b1.size
    clear hb1
    obtain ⟨r1_3_c, r1_3_f, r1_3_l⟩ := r1_3.tell
    have n1_0 : (w.heap.size = w1.heap.size) = False := (by simp only [eq_iff_iff, iff_false]; omega)
    have m1_0 : (w1.heap.size = w.heap.size) = False := (by simp only [eq_iff_iff, iff_false]; omega)
    have l1_0 : w.heap.size < w1.heap.size := (by omega)
    have n1_1 : (w.heap.size = w1.heap.size + 1) = False := (by simp only [eq_iff_iff, iff_false]; omega)
    have m1_1 : (w1.heap.size + 1 = w.heap.size) = False := (by simp only [eq_iff_iff, iff_false]; omega)
    have l1_1 : w.heap.size < w1.heap.size + 1 := (by omega)
    have n1_2 : (w.heap.size + 1 = w1.heap.size) = False := (by simp only [eq_iff_iff, iff_false]; omega)
    have m1_2 : (w1.heap.size = w.heap.size + 1) = False := (by simp only [eq_iff_iff, iff_false]; omega)
    have l1_2 : w.heap.size + 1 < w1.heap.size := (by omega)
    have n1_3 : (w.heap.size + 1 + 1 = w1.heap.size) = False := (by simp only [eq_iff_iff, iff_false]; omega)
    have m1_3 : (w1.heap.size = w.heap.size + 1 + 1) = False := (by simp only [eq_iff_iff, iff_false]; omega)
    have l1_3 : w.heap.size + 1 + 1 < w1.heap.size := (by omega)
    have n1_4 : (w.heap.size + 1 + 1 + 1 = w1.heap.size) = False := (by simp only [eq_iff_iff, iff_false]; omega)
    have m1_4 : (w1.heap.size = w.heap.size + 1 + 1 + 1) = False := (by simp only [eq_iff_iff, iff_false]; omega)
    have l1_4 : w.heap.size + 1 + 1 + 1 < w1.heap.size := (by omega)
    go_wp2_with fail
    refine bodyPost_ret (v := .tuple #[U s, .int .i64 0]) (by simp only [results, Try.results60]; go_simp) rfl ⟨rfl, ?_⟩
    exact (((((((b1).setCell (by simp only []; omega) _).setCell (by simp only []; omega) _).setCell (by simp only []; omega) _).setCell (by simp only []; omega) _).alloc _).alloc _).alloc _

set_option maxHeartbeats 2000000 in
set_option maxRecDepth 100000 in
theorem muldiv_c (x y m : Nat) (hx : x < T256) (hy : y < T256) (hm : m < T256) (w : World) :
    Calls Try.prog 61 #[U x, U y, U m] w fun e w' => e = .returned (.tuple #[U (mdV x y m), .int .i64 (mdE x y m)]) ∧ Bl w w' := by
  have hq := fun w => run_eq_U hm T256_pos w
  rw [← U_zero] at hq
  have hg := guardU
  by_cases h : m = 0
  · subst h
    simp only [eq_self, decide_true] at hq
    rw [show mdV x y 0 = 0 by simp [mdV], show mdE x y 0 = 10 from rfl, ← U_zero]
    rw [← U_zero] at hq
    go_enter Try.func61, Try.ntmps61
    go_wp2_with fail
    refine bodyPost_ret (v := .tuple #[.agg #[.int .u64 0, .int .u64 0, .int .u64 0, .int .u64 0], .int .i64 10]) (by simp only [results, Try.results61]; go_simp) rfl ⟨rfl, ?_⟩
    exact ((((Bl.refl w).alloc _).alloc _).alloc _).alloc _
  · have hd : decide (m = 0) = false := by simpa using h
    simp only [hd] at hq
    have hu := fun w => mul_c x y hx hy w
    have hv := fun w => divide_c (x * y / T256) (x * y % T256) m (mul_hi_lt hx hy) (mod_lt256 _) hm (by omega) w
    rw [hilo256] at hv
    have hp := fun w => run_eq_U (show x * y / m / T256 < T256 from Nat.lt_of_le_of_lt (Nat.div_le_div_right (Nat.div_le_self _ _)) (mul_hi_lt hx hy)) T256_pos w
    rw [← U_zero] at hp
    have e0 : mdE x y m = if x * y / m < T256 then 0 else 11 := if_neg h
    have e1 : mdV x y m = if x * y / m < T256 then x * y / m else 0 := rfl
    rw [e0, e1]
    clear hd h e0 e1
    by_cases h : x * y / m < T256
    · have hd : decide (x * y / m / T256 = 0) = true := by simp [Nat.div_eq_of_lt h]
      simp only [hd] at hp
      rw [if_pos h, if_pos h]
      rw [Nat.mod_eq_of_lt h] at hv
      clear hd h
      generalize x * y / T256 = p at *
      generalize x * y % T256 = q at *
      generalize x * y / m = s at *
      generalize s / T256 = o at *
      generalize x * y % m = r at *
      go_enter Try.func61, Try.ntmps61
      go_wp2_with fail
      refine (hu _).mono ?_
      rintro e w1 ⟨rfl, hb1⟩
      have r1_2 : Box w1 (w.heap.size + 1 + 1) #[.int .u64 (L (m) 0), .int .u64 (L (m) 1), .int .u64 (L (m) 2), .int .u64 (L (m) 3)] 24 := ((Box.new _ _ _ _ (by simp)).alloc _).call hb1
      have r1_3 : Box w1 (w.heap.size + 1 + 1 + 1) #[.int .u64 0, .int .u64 0, .int .u64 0, .int .u64 0] 24 := (Box.new _ _ _ _ (by simp)).call hb1
      have b1 : Bl w w1 := Bl.trans (((((Bl.refl w).alloc _).alloc _).alloc _).alloc _) hb1
      have z1 : w.heap.size + 1 + 1 + 1 + 1 ≤ w1.heap.size := (by have := hb1.size; (try simp only [World.alloc, World.setCell, World.drew, Array.size_push, Array.size_modify] at this); omega)
      have y1 : w.heap.size ≤ w1.heap.size := b1.size
      clear hb1
      obtain ⟨r1_2_c, r1_2_f, r1_2_l⟩ := r1_2.tell
      obtain ⟨r1_3_c, r1_3_f, r1_3_l⟩ := r1_3.tell
      have n1_0 : (w.heap.size = w1.heap.size) = False := (by simp only [eq_iff_iff, iff_false]; omega)
      have m1_0 : (w1.heap.size = w.heap.size) = False := (by simp only [eq_iff_iff, iff_false]; omega)
      have l1_0 : w.heap.size < w1.heap.size := (by omega)
      have n1_1 : (w.heap.size = w1.heap.size + 1) = False := (by simp only [eq_iff_iff, iff_false]; omega)
      have m1_1 : (w1.heap.size + 1 = w.heap.size) = False := (by simp only [eq_iff_iff, iff_false]; omega)
      have l1_1 : w.heap.size < w1.heap.size + 1 := (by omega)
      have n1_2 : (w.heap.size + 1 = w1.heap.size) = False := (by simp only [eq_iff_iff, iff_false]; omega)
      have m1_2 : (w1.heap.size = w.heap.size + 1) = False := (by simp only [eq_iff_iff, iff_false]; omega)
      have l1_2 : w.heap.size + 1 < w1.heap.size := (by omega)
      have n1_3 : (w.heap.size + 1 + 1 = w1.heap.size) = False := (by simp only [eq_iff_iff, iff_false]; omega)
      have m1_3 : (w1.heap.size = w.heap.size + 1 + 1) = False := (by simp only [eq_iff_iff, iff_false]; omega)
      have l1_3 : w.heap.size + 1 + 1 < w1.heap.size := (by omega)
      have n1_4 : (w.heap.size + 1 + 1 + 1 = w1.heap.size) = False := (by simp only [eq_iff_iff, iff_false]; omega)
      have m1_4 : (w1.heap.size = w.heap.size + 1 + 1 + 1) = False := (by simp only [eq_iff_iff, iff_false]; omega)
      have l1_4 : w.heap.size + 1 + 1 + 1 < w1.heap.size := (by omega)
      go_wp2_with fail
      refine (hv _).mono ?_
      rintro e w2 ⟨rfl, hb2⟩
      have r2_3 : Box w2 (w.heap.size + 1 + 1 + 1) #[.int .u64 0, .int .u64 0, .int .u64 0, .int .u64 0] 24 := (((r1_3).alloc _).alloc _).call hb2
      have b2 : Bl w w2 := Bl.trans (((b1).alloc _).alloc _) hb2
      have z2 : w1.heap.size + 1 + 1 ≤ w2.heap.size := (by have := hb2.size; (try simp only [World.alloc, World.setCell, World.drew, Array.size_push, Array.size_modify] at this); omega)
      have y2 : w.heap.size ≤ w2.heap.size := b2.size
      clear r1_2 r1_2_c r1_2_f r1_2_l r1_3 r1_3_c r1_3_f r1_3_l hb2 b1
      obtain ⟨r2_3_c, r2_3_f, r2_3_l⟩ := r2_3.tell
      have n2_0 : (w.heap.size = w2.heap.size) = False := (by simp only [eq_iff_iff, iff_false]; omega)
      have m2_0 : (w2.heap.size = w.heap.size) = False := (by simp only [eq_iff_iff, iff_false]; omega)
      have l2_0 : w.heap.size < w2.heap.size := (by omega)
      have n2_1 : (w.heap.size = w2.heap.size + 1) = False := (by simp only [eq_iff_iff, iff_false]; omega)
      have m2_1 : (w2.heap.size + 1 = w.heap.size) = False := (by simp only [eq_iff_iff, iff_false]; omega)
      have l2_1 : w.heap.size < w2.heap.size + 1 := (by omega)
      have n2_2 : (w.heap.size + 1 = w2.heap.size) = False := (by simp only [eq_iff_iff, iff_false]; omega)
      have m2_2 : (w2.heap.size = w.heap.size + 1) = False := (by simp only [eq_iff_iff, iff_false]; omega)
      have l2_2 : w.heap.size + 1 < w2.heap.size := (by omega)
      have n2_3 : (w.heap.size + 1 + 1 = w2.heap.size) = False := (by simp only [eq_iff_iff, iff_false]; omega)
      have m2_3 : (w2.heap.size = w.heap.size + 1 + 1) = False := (by simp only [eq_iff_iff, iff_false]; omega)
      have l2_3 : w.heap.size + 1 + 1 < w2.heap.size := (by omega)
      have n2_4 : (w.heap.size + 1 + 1 + 1 = w2.heap.size) = False := (by simp only [eq_iff_iff, iff_false]; omega)
      have m2_4 : (w2.heap.size = w.heap.size + 1 + 1 + 1) = False := (by simp only [eq_iff_iff, iff_false]; omega)
      have l2_4 : w.heap.size + 1 + 1 + 1 < w2.heap.size := (by omega)
      go_wp2_with fail
      refine bodyPost_ret (v := .tuple #[U s, .int .i64 0]) (by simp only [results, Try.results61]; go_simp) rfl ⟨rfl, ?_⟩
      exact (((((((b2).setCell (by simp only []; omega) _).setCell (by simp only []; omega) _).setCell (by simp only []; omega) _).setCell (by simp only []; omega) _).alloc _).alloc _).alloc _
    · have hd : decide (x * y / m / T256 = 0) = false := by
        rw [decide_eq_false_iff_not, Nat.div_eq_zero_iff]; have := T256_pos; omega
      simp only [hd] at hp
      rw [if_neg h, if_neg h, ← U_zero]
      clear hd h
      generalize x * y / T256 = p at *
      generalize x * y % T256 = q at *
      generalize x * y / m = s at *
      generalize s / T256 = o at *
      generalize s % T256 = oo at *
      generalize x * y % m = r at *
      go_enter Try.func61, Try.ntmps61
      go_wp2_with fail
      refine (hu _).mono ?_
      rintro e w1 ⟨rfl, hb1⟩
      have r1_2 : Box w1 (w.heap.size + 1 + 1) #[.int .u64 (L (m) 0), .int .u64 (L (m) 1), .int .u64 (L (m) 2), .int .u64 (L (m) 3)] 24 := ((Box.new _ _ _ _ (by simp)).alloc _).call hb1
      have r1_3 : Box w1 (w.heap.size + 1 + 1 + 1) #[.int .u64 0, .int .u64 0, .int .u64 0, .int .u64 0] 24 := (Box.new _ _ _ _ (by simp)).call hb1
      have b1 : Bl w w1 := Bl.trans (((((Bl.refl w).alloc _).alloc _).alloc _).alloc _) hb1
      have z1 : w.heap.size + 1 + 1 + 1 + 1 ≤ w1.heap.size := (by have := hb1.size; (try simp only [World.alloc, World.setCell, World.drew, Array.size_push, Array.size_modify] at this); omega)
      have y1 : w.heap.size ≤ w1.heap.size := b1.size
      clear hb1
      obtain ⟨r1_2_c, r1_2_f, r1_2_l⟩ := r1_2.tell
      obtain ⟨r1_3_c, r1_3_f, r1_3_l⟩ := r1_3.tell
      have n1_0 : (w.heap.size = w1.heap.size) = False := (by simp only [eq_iff_iff, iff_false]; omega)
      have m1_0 : (w1.heap.size = w.heap.size) = False := (by simp only [eq_iff_iff, iff_false]; omega)
      have l1_0 : w.heap.size < w1.heap.size := (by omega)
      have n1_1 : (w.heap.size = w1.heap.size + 1) = False := (by simp only [eq_iff_iff, iff_false]; omega)
      have m1_1 : (w1.heap.size + 1 = w.heap.size) = False := (by simp only [eq_iff_iff, iff_false]; omega)
      have l1_1 : w.heap.size < w1.heap.size + 1 := (by omega)
      have n1_2 : (w.heap.size + 1 = w1.heap.size) = False := (by simp only [eq_iff_iff, iff_false]; omega)
      have m1_2 : (w1.heap.size = w.heap.size + 1) = False := (by simp only [eq_iff_iff, iff_false]; omega)
      have l1_2 : w.heap.size + 1 < w1.heap.size := (by omega)
      have n1_3 : (w.heap.size + 1 + 1 = w1.heap.size) = False := (by simp only [eq_iff_iff, iff_false]; omega)
      have m1_3 : (w1.heap.size = w.heap.size + 1 + 1) = False := (by simp only [eq_iff_iff, iff_false]; omega)
      have l1_3 : w.heap.size + 1 + 1 < w1.heap.size := (by omega)
      have n1_4 : (w.heap.size + 1 + 1 + 1 = w1.heap.size) = False := (by simp only [eq_iff_iff, iff_false]; omega)
      have m1_4 : (w1.heap.size = w.heap.size + 1 + 1 + 1) = False := (by simp only [eq_iff_iff, iff_false]; omega)
      have l1_4 : w.heap.size + 1 + 1 + 1 < w1.heap.size := (by omega)
      go_wp2_with fail
      refine (hv _).mono ?_
      rintro e w2 ⟨rfl, hb2⟩
      have r2_3 : Box w2 (w.heap.size + 1 + 1 + 1) #[.int .u64 0, .int .u64 0, .int .u64 0, .int .u64 0] 24 := (((r1_3).alloc _).alloc _).call hb2
      have b2 : Bl w w2 := Bl.trans (((b1).alloc _).alloc _) hb2
      have z2 : w1.heap.size + 1 + 1 ≤ w2.heap.size := (by have := hb2.size; (try simp only [World.alloc, World.setCell, World.drew, Array.size_push, Array.size_modify] at this); omega)
      have y2 : w.heap.size ≤ w2.heap.size := b2.size
      clear r1_2 r1_2_c r1_2_f r1_2_l r1_3 r1_3_c r1_3_f r1_3_l hb2 b1
      obtain ⟨r2_3_c, r2_3_f, r2_3_l⟩ := r2_3.tell
      have n2_0 : (w.heap.size = w2.heap.size) = False := (by simp only [eq_iff_iff, iff_false]; omega)
      have m2_0 : (w2.heap.size = w.heap.size) = False := (by simp only [eq_iff_iff, iff_false]; omega)
      have l2_0 : w.heap.size < w2.heap.size := (by omega)
      have n2_1 : (w.heap.size = w2.heap.size + 1) = False := (by simp only [eq_iff_iff, iff_false]; omega)
      have m2_1 : (w2.heap.size + 1 = w.heap.size) = False := (by simp only [eq_iff_iff, iff_false]; omega)
      have l2_1 : w.heap.size < w2.heap.size + 1 := (by omega)
      have n2_2 : (w.heap.size + 1 = w2.heap.size) = False := (by simp only [eq_iff_iff, iff_false]; omega)
      have m2_2 : (w2.heap.size = w.heap.size + 1) = False := (by simp only [eq_iff_iff, iff_false]; omega)
      have l2_2 : w.heap.size + 1 < w2.heap.size := (by omega)
      have n2_3 : (w.heap.size + 1 + 1 = w2.heap.size) = False := (by simp only [eq_iff_iff, iff_false]; omega)
      have m2_3 : (w2.heap.size = w.heap.size + 1 + 1) = False := (by simp only [eq_iff_iff, iff_false]; omega)
      have l2_3 : w.heap.size + 1 + 1 < w2.heap.size := (by omega)
      have n2_4 : (w.heap.size + 1 + 1 + 1 = w2.heap.size) = False := (by simp only [eq_iff_iff, iff_false]; omega)
      have m2_4 : (w2.heap.size = w.heap.size + 1 + 1 + 1) = False := (by simp only [eq_iff_iff, iff_false]; omega)
      have l2_4 : w.heap.size + 1 + 1 + 1 < w2.heap.size := (by omega)
      go_wp2_with fail
      refine bodyPost_ret (v := .tuple #[.agg #[.int .u64 0, .int .u64 0, .int .u64 0, .int .u64 0], .int .i64 11]) (by simp only [results, Try.results61]; go_simp) rfl ⟨rfl, ?_⟩
      exact (((((((b2).setCell (by simp only []; omega) _).setCell (by simp only []; omega) _).setCell (by simp only []; omega) _).setCell (by simp only []; omega) _).alloc _).alloc _).alloc _

set_option maxHeartbeats 2000000 in
set_option maxRecDepth 100000 in
theorem addmod_c (x y m : Nat) (hx : x < T256) (hy : y < T256) (hm : m < T256) (w : World) :
    Calls Try.prog 64 #[U x, U y, U m] w fun e w' => e = .returned (.tuple #[U (rdV ((x + y) / T256) ((x + y) % T256) m), .int .i64 (eZ m)]) ∧ Bl w w' := by
  have hc : (x + y) / T256 < 18446744073709551616 := by rw [T256_eq] at *; omega
  have hu := fun w => add_c x y hx hy w
  have ht := fun w => from_c ((x + y) / T256) hc w
  have hv := fun w => reduce_c ((x + y) / T256) ((x + y) % T256) m (Nat.lt_trans hc (by rw [T256_eq]; omega)) (mod_lt256 _) hm w
  generalize (x + y) / T256 = c at *
  generalize (x + y) % T256 = s at *
  generalize rdV c s m = r at *
  generalize eZ m = k at *
  go_enter Try.func64, Try.ntmps64
  go_wp2_with fail
  refine (hu _).mono ?_
  rintro e w1 ⟨rfl, hb1⟩
  have r1_2 : Box w1 (w.heap.size + 1 + 1) #[.int .u64 (L (m) 0), .int .u64 (L (m) 1), .int .u64 (L (m) 2), .int .u64 (L (m) 3)] 24 := ((Box.new _ _ _ _ (by simp)).alloc _).call hb1
  have r1_3 : Box w1 (w.heap.size + 1 + 1 + 1) #[.int .u64 0, .int .u64 0, .int .u64 0, .int .u64 0] 24 := (Box.new _ _ _ _ (by simp)).call hb1
  have b1 : Bl w w1 := Bl.trans (((((Bl.refl w).alloc _).alloc _).alloc _).alloc _) hb1
  have z1 : w.heap.size + 1 + 1 + 1 + 1 ≤ w1.heap.size := (by have := hb1.size; (try simp only [World.alloc, World.setCell, World.drew, Array.size_push, Array.size_modify] at this); omega)
  have y1 : w.heap.size ≤ w1.heap.size := b1.size
  clear hb1
  obtain ⟨r1_2_c, r1_2_f, r1_2_l⟩ := r1_2.tell
  obtain ⟨r1_3_c, r1_3_f, r1_3_l⟩ := r1_3.tell
  have n1_0 : (w.heap.size = w1.heap.size) = False := (by simp only [eq_iff_iff, iff_false]; omega)
  have m1_0 : (w1.heap.size = w.heap.size) = False := (by simp only [eq_iff_iff, iff_false]; omega)
  have l1_0 : w.heap.size < w1.heap.size := (by omega)
  have n1_1 : (w.heap.size + 1 = w1.heap.size) = False := (by simp only [eq_iff_iff, iff_false]; omega)
  have m1_1 : (w1.heap.size = w.heap.size + 1) = False := (by simp only [eq_iff_iff, iff_false]; omega)
  have l1_1 : w.heap.size + 1 < w1.heap.size := (by omega)
  have n1_2 : (w.heap.size + 1 + 1 = w1.heap.size) = False := (by simp only [eq_iff_iff, iff_false]; omega)
  have m1_2 : (w1.heap.size = w.heap.size + 1 + 1) = False := (by simp only [eq_iff_iff, iff_false]; omega)
  have l1_2 : w.heap.size + 1 + 1 < w1.heap.size := (by omega)
  have n1_3 : (w.heap.size + 1 + 1 + 1 = w1.heap.size) = False := (by simp only [eq_iff_iff, iff_false]; omega)
  have m1_3 : (w1.heap.size = w.heap.size + 1 + 1 + 1) = False := (by simp only [eq_iff_iff, iff_false]; omega)
  have l1_3 : w.heap.size + 1 + 1 + 1 < w1.heap.size := (by omega)
  go_wp2_with fail
  go_region_with (first | (go_at_call 40; refine (ht _).mono ?_; rintro e w2 ⟨rfl, hb2⟩; have r2_2 : Box w2 (w.heap.size + 1 + 1) #[.int .u64 (L (m) 0), .int .u64 (L (m) 1), .int .u64 (L (m) 2), .int .u64 (L (m) 3)] 24 := (((r1_2).alloc _).drew).call hb2; have r2_3 : Box w2 (w.heap.size + 1 + 1 + 1) #[.int .u64 0, .int .u64 0, .int .u64 0, .int .u64 0] 24 := (((r1_3).alloc _).drew).call hb2; have r2_4 : Box w2 (w1.heap.size) #[.int .u64 (L (s) 0), .int .u64 (L (s) 1), .int .u64 (L (s) 2), .int .u64 (L (s) 3)] 24 := ((Box.new _ _ _ _ (by simp)).drew).call hb2; have b2 : Bl w w2 := Bl.trans (((b1).alloc _).drew) hb2; have z2 : w1.heap.size + 1 ≤ w2.heap.size := (by have := hb2.size; (try simp only [World.alloc, World.setCell, World.drew, Array.size_push, Array.size_modify] at this); omega); have y2 : w.heap.size ≤ w2.heap.size := b2.size; clear r1_2 r1_2_c r1_2_f r1_2_l r1_3 r1_3_c r1_3_f r1_3_l hb2 b1; obtain ⟨r2_2_c, r2_2_f, r2_2_l⟩ := r2_2.tell; obtain ⟨r2_3_c, r2_3_f, r2_3_l⟩ := r2_3.tell; obtain ⟨r2_4_c, r2_4_f, r2_4_l⟩ := r2_4.tell; skip) | (go_at_call 60; refine (hv _).mono ?_; rintro e w3 ⟨rfl, hb3⟩; have r3_3 : Box w3 (w.heap.size + 1 + 1 + 1) #[.int .u64 0, .int .u64 0, .int .u64 0, .int .u64 0] 24 := (r2_3).call hb3; have b3 : Bl w w3 := Bl.trans (b2) hb3; have z3 : w2.heap.size ≤ w3.heap.size := (by have := hb3.size; (try simp only [World.alloc, World.setCell, World.drew, Array.size_push, Array.size_modify] at this); omega); have y3 : w.heap.size ≤ w3.heap.size := b3.size; clear r2_2 r2_2_c r2_2_f r2_2_l r2_3 r2_3_c r2_3_f r2_3_l r2_4 r2_4_c r2_4_f r2_4_l hb3 b2; obtain ⟨r3_3_c, r3_3_f, r3_3_l⟩ := r3_3.tell; skip))
  all_goals
    go_wp2_with fail
    refine bodyPost_ret (v := .tuple #[U r, .int .i64 k]) (by simp only [results, Try.results64]; go_simp) rfl ⟨rfl, ?_⟩
    exact ((((b3).setCell (by simp only []; omega) _).setCell (by simp only []; omega) _).setCell (by simp only []; omega) _).setCell (by simp only []; omega) _

set_option maxHeartbeats 2000000 in
set_option maxRecDepth 100000 in
theorem mulmod_c (x y m : Nat) (hx : x < T256) (hy : y < T256) (hm : m < T256) (w : World) :
    Calls Try.prog 66 #[U x, U y, U m] w fun e w' => e = .returned (.tuple #[U (rdV (x * y / T256) (x * y % T256) m), .int .i64 (eZ m)]) ∧ Bl w w' := by
  have hu := fun w => mul_c x y hx hy w
  have hv := fun w => reduce_c (x * y / T256) (x * y % T256) m (mul_hi_lt hx hy) (mod_lt256 _) hm w
  generalize x * y / T256 = c at *
  generalize x * y % T256 = s at *
  generalize rdV c s m = r at *
  generalize eZ m = k at *
  go_enter Try.func66, Try.ntmps66
  go_wp2_with fail
  refine (hu _).mono ?_
  rintro e w1 ⟨rfl, hb1⟩
  have r1_2 : Box w1 (w.heap.size + 1 + 1) #[.int .u64 (L (m) 0), .int .u64 (L (m) 1), .int .u64 (L (m) 2), .int .u64 (L (m) 3)] 24 := ((Box.new _ _ _ _ (by simp)).alloc _).call hb1
  have r1_3 : Box w1 (w.heap.size + 1 + 1 + 1) #[.int .u64 0, .int .u64 0, .int .u64 0, .int .u64 0] 24 := (Box.new _ _ _ _ (by simp)).call hb1
  have b1 : Bl w w1 := Bl.trans (((((Bl.refl w).alloc _).alloc _).alloc _).alloc _) hb1
  have z1 : w.heap.size + 1 + 1 + 1 + 1 ≤ w1.heap.size := (by have := hb1.size; (try simp only [World.alloc, World.setCell, World.drew, Array.size_push, Array.size_modify] at this); omega)
  have y1 : w.heap.size ≤ w1.heap.size := b1.size
  clear hb1
  obtain ⟨r1_2_c, r1_2_f, r1_2_l⟩ := r1_2.tell
  obtain ⟨r1_3_c, r1_3_f, r1_3_l⟩ := r1_3.tell
  have n1_0 : (w.heap.size = w1.heap.size) = False := (by simp only [eq_iff_iff, iff_false]; omega)
  have m1_0 : (w1.heap.size = w.heap.size) = False := (by simp only [eq_iff_iff, iff_false]; omega)
  have l1_0 : w.heap.size < w1.heap.size := (by omega)
  have n1_1 : (w.heap.size = w1.heap.size + 1) = False := (by simp only [eq_iff_iff, iff_false]; omega)
  have m1_1 : (w1.heap.size + 1 = w.heap.size) = False := (by simp only [eq_iff_iff, iff_false]; omega)
  have l1_1 : w.heap.size < w1.heap.size + 1 := (by omega)
  have n1_2 : (w.heap.size + 1 = w1.heap.size) = False := (by simp only [eq_iff_iff, iff_false]; omega)
  have m1_2 : (w1.heap.size = w.heap.size + 1) = False := (by simp only [eq_iff_iff, iff_false]; omega)
  have l1_2 : w.heap.size + 1 < w1.heap.size := (by omega)
  have n1_3 : (w.heap.size + 1 + 1 = w1.heap.size) = False := (by simp only [eq_iff_iff, iff_false]; omega)
  have m1_3 : (w1.heap.size = w.heap.size + 1 + 1) = False := (by simp only [eq_iff_iff, iff_false]; omega)
  have l1_3 : w.heap.size + 1 + 1 < w1.heap.size := (by omega)
  have n1_4 : (w.heap.size + 1 + 1 + 1 = w1.heap.size) = False := (by simp only [eq_iff_iff, iff_false]; omega)
  have m1_4 : (w1.heap.size = w.heap.size + 1 + 1 + 1) = False := (by simp only [eq_iff_iff, iff_false]; omega)
  have l1_4 : w.heap.size + 1 + 1 + 1 < w1.heap.size := (by omega)
  go_wp2_with fail
  refine (hv _).mono ?_
  rintro e w2 ⟨rfl, hb2⟩
  have r2_3 : Box w2 (w.heap.size + 1 + 1 + 1) #[.int .u64 0, .int .u64 0, .int .u64 0, .int .u64 0] 24 := (((r1_3).alloc _).alloc _).call hb2
  have b2 : Bl w w2 := Bl.trans (((b1).alloc _).alloc _) hb2
  have z2 : w1.heap.size + 1 + 1 ≤ w2.heap.size := (by have := hb2.size; (try simp only [World.alloc, World.setCell, World.drew, Array.size_push, Array.size_modify] at this); omega)
  have y2 : w.heap.size ≤ w2.heap.size := b2.size
  clear r1_2 r1_2_c r1_2_f r1_2_l r1_3 r1_3_c r1_3_f r1_3_l hb2 b1
  obtain ⟨r2_3_c, r2_3_f, r2_3_l⟩ := r2_3.tell
  go_wp2_with fail
  refine bodyPost_ret (v := .tuple #[U r, .int .i64 k]) (by simp only [results, Try.results66]; go_simp) rfl ⟨rfl, ?_⟩
  exact ((((b2).setCell (by simp only []; omega) _).setCell (by simp only []; omega) _).setCell (by simp only []; omega) _).setCell (by simp only []; omega) _

set_option maxHeartbeats 2000000 in
set_option maxRecDepth 100000 in
theorem rdivmod_c (x y : Nat) (hx : x < T256) (hy : y < T256) (w : World) :
    Calls Try.prog 56 #[U x, U y] w fun e w' => e = .returned (.tuple #[U (x / y), U (dmR x y), .int .i64 (eZ y)]) ∧ Bl w w' := by
  have hq := fun w => run_eq_U hy T256_pos w
  rw [← U_zero] at hq
  have hg := guardU
  by_cases h : y = 0
  · subst h
    simp only [eq_self, decide_true] at hq
    rw [show x / 0 = 0 from Nat.div_zero x, show dmR x 0 = 0 from rfl, show eZ 0 = 10 from rfl, ← U_zero]
    rw [← U_zero] at hq
    go_enter Try.func56, Try.ntmps56
    go_wp2_with fail
    go_region
    go_wp2_with fail
    refine bodyPost_ret (v := .tuple #[.agg #[.int .u64 0, .int .u64 0, .int .u64 0, .int .u64 0], .agg #[.int .u64 0, .int .u64 0, .int .u64 0, .int .u64 0], .int .i64 10]) (by simp only [results, Try.results56]; go_simp) rfl ⟨rfl, ?_⟩
    exact ((((((Bl.refl w).alloc _).alloc _).alloc _).alloc _).alloc _).drew
  · have hd : decide (y = 0) = false := by simpa using h
    simp only [hd] at hq
    have hv := fun w => long_c 0 x y T256_pos hx hy (by omega) w
    rw [← U_zero, show 0 * T256 + x = x by omega, show x / y / T256 = 0 from Nat.div_eq_of_lt (Nat.lt_of_le_of_lt (Nat.div_le_self _ _) hx),
      show x / y % T256 = x / y from Nat.mod_eq_of_lt (Nat.lt_of_le_of_lt (Nat.div_le_self _ _) hx)] at hv
    rw [show dmR x y = x % y from if_neg h, show eZ y = 0 from if_neg h]
    generalize x / y = q at *
    generalize x % y = r at *
    clear hd h
    go_enter Try.func56, Try.ntmps56
    go_wp2_with fail
    refine (hv _).mono ?_
    rintro e w1 ⟨rfl, hb1⟩
    have r1_2 : Box w1 (w.heap.size + 1 + 1) #[.int .u64 0, .int .u64 0, .int .u64 0, .int .u64 0] 24 := (((Box.new _ _ _ _ (by simp)).alloc _).alloc _).call hb1
    have r1_3 : Box w1 (w.heap.size + 1 + 1 + 1) #[.int .u64 0, .int .u64 0, .int .u64 0, .int .u64 0] 24 := ((Box.new _ _ _ _ (by simp)).alloc _).call hb1
    have b1 : Bl w w1 := Bl.trans ((((((Bl.refl w).alloc _).alloc _).alloc _).alloc _).alloc _) hb1
    have z1 : w.heap.size + 1 + 1 + 1 + 1 + 1 ≤ w1.heap.size := (by have := hb1.size; (try simp only [World.alloc, World.setCell, World.drew, Array.size_push, Array.size_modify] at this); omega)
    have y1 : w.heap.size ≤ w1.heap.size := b1.size
    clear hb1
    obtain ⟨r1_2_c, r1_2_f, r1_2_l⟩ := r1_2.tell
    obtain ⟨r1_3_c, r1_3_f, r1_3_l⟩ := r1_3.tell
    have n1_0 : (w.heap.size = w1.heap.size) = False := (by simp only [eq_iff_iff, iff_false]; omega)
    have m1_0 : (w1.heap.size = w.heap.size) = False := (by simp only [eq_iff_iff, iff_false]; omega)
    have l1_0 : w.heap.size < w1.heap.size := (by omega)
    have n1_1 : (w.heap.size = w1.heap.size + 1) = False := (by simp only [eq_iff_iff, iff_false]; omega)
    have m1_1 : (w1.heap.size + 1 = w.heap.size) = False := (by simp only [eq_iff_iff, iff_false]; omega)
    have l1_1 : w.heap.size < w1.heap.size + 1 := (by omega)
    have n1_2 : (w.heap.size = w1.heap.size + 1 + 1) = False := (by simp only [eq_iff_iff, iff_false]; omega)
    have m1_2 : (w1.heap.size + 1 + 1 = w.heap.size) = False := (by simp only [eq_iff_iff, iff_false]; omega)
    have l1_2 : w.heap.size < w1.heap.size + 1 + 1 := (by omega)
    have n1_3 : (w.heap.size + 1 = w1.heap.size) = False := (by simp only [eq_iff_iff, iff_false]; omega)
    have m1_3 : (w1.heap.size = w.heap.size + 1) = False := (by simp only [eq_iff_iff, iff_false]; omega)
    have l1_3 : w.heap.size + 1 < w1.heap.size := (by omega)
    have n1_4 : (w.heap.size + 1 + 1 = w1.heap.size) = False := (by simp only [eq_iff_iff, iff_false]; omega)
    have m1_4 : (w1.heap.size = w.heap.size + 1 + 1) = False := (by simp only [eq_iff_iff, iff_false]; omega)
    have l1_4 : w.heap.size + 1 + 1 < w1.heap.size := (by omega)
    have n1_5 : (w.heap.size + 1 + 1 + 1 = w1.heap.size) = False := (by simp only [eq_iff_iff, iff_false]; omega)
    have m1_5 : (w1.heap.size = w.heap.size + 1 + 1 + 1) = False := (by simp only [eq_iff_iff, iff_false]; omega)
    have l1_5 : w.heap.size + 1 + 1 + 1 < w1.heap.size := (by omega)
    go_wp2_with fail
    go_region
    go_wp2_with fail
    refine bodyPost_ret (v := .tuple #[U q, U r, .int .i64 0]) (by simp only [results, Try.results56]; go_simp) rfl ⟨rfl, ?_⟩
    exact ((((((((((((b1).setCell (by simp only []; omega) _).setCell (by simp only []; omega) _).setCell (by simp only []; omega) _).setCell (by simp only []; omega) _).setCell (by simp only []; omega) _).setCell (by simp only []; omega) _).setCell (by simp only []; omega) _).setCell (by simp only []; omega) _).alloc _).alloc _).alloc _).drew

set_option maxHeartbeats 2000000 in
set_option maxRecDepth 100000 in
theorem rreduce_c (hi lo m : Nat) (hh : hi < T256) (hl : lo < T256) (hm : m < T256) (w : World) :
    Calls Try.prog 62 #[U hi, U lo, U m] w fun e w' => e = .returned (.tuple #[U (rdV hi lo m), .int .i64 (eZ m)]) ∧ Bl w w' := by
  have hq := fun w => run_eq_U hm T256_pos w
  rw [← U_zero] at hq
  have hg := guardU
  by_cases h : m = 0
  · subst h
    simp only [eq_self, decide_true] at hq
    rw [show rdV hi lo 0 = 0 from rfl, show eZ 0 = 10 from rfl, ← U_zero]
    rw [← U_zero] at hq
    go_enter Try.func62, Try.ntmps62
    go_wp2_with fail
    refine bodyPost_ret (v := .tuple #[.agg #[.int .u64 0, .int .u64 0, .int .u64 0, .int .u64 0], .int .i64 10]) (by simp only [results, Try.results62]; go_simp) rfl ⟨rfl, ?_⟩
    exact (((((Bl.refl w).alloc _).alloc _).alloc _).alloc _).alloc _
  · have hd : decide (m = 0) = false := by simpa using h
    simp only [hd] at hq
    have hv := fun w => long_c hi lo m hh hl hm (by omega) w
    rw [show rdV hi lo m = (hi * T256 + lo) % m from if_neg h, show eZ m = 0 from if_neg h]
    generalize (hi * T256 + lo) / m / T256 = q at *
    generalize (hi * T256 + lo) / m % T256 = r at *
    generalize (hi * T256 + lo) % m = s at *
    clear hd h
    go_enter Try.func62, Try.ntmps62
    go_wp2_with fail
    refine (hv _).mono ?_
    rintro e w1 ⟨rfl, hb1⟩
    have r1_3 : Box w1 (w.heap.size + 1 + 1 + 1) #[.int .u64 0, .int .u64 0, .int .u64 0, .int .u64 0] 24 := ((Box.new _ _ _ _ (by simp)).alloc _).call hb1
    have b1 : Bl w w1 := Bl.trans ((((((Bl.refl w).alloc _).alloc _).alloc _).alloc _).alloc _) hb1
    have z1 : w.heap.size + 1 + 1 + 1 + 1 + 1 ≤ w1.heap.size := (by have := hb1.size; (try simp only [World.alloc, World.setCell, World.drew, Array.size_push, Array.size_modify] at this); omega)
    have y1 : w.heap.size ≤ w1.heap.size := b1.size
    clear hb1
    obtain ⟨r1_3_c, r1_3_f, r1_3_l⟩ := r1_3.tell
    have n1_0 : (w.heap.size = w1.heap.size) = False := (by simp only [eq_iff_iff, iff_false]; omega)
    have m1_0 : (w1.heap.size = w.heap.size) = False := (by simp only [eq_iff_iff, iff_false]; omega)
    have l1_0 : w.heap.size < w1.heap.size := (by omega)
    have n1_1 : (w.heap.size = w1.heap.size + 1) = False := (by simp only [eq_iff_iff, iff_false]; omega)
    have m1_1 : (w1.heap.size + 1 = w.heap.size) = False := (by simp only [eq_iff_iff, iff_false]; omega)
    have l1_1 : w.heap.size < w1.heap.size + 1 := (by omega)
    have n1_2 : (w.heap.size + 1 = w1.heap.size) = False := (by simp only [eq_iff_iff, iff_false]; omega)
    have m1_2 : (w1.heap.size = w.heap.size + 1) = False := (by simp only [eq_iff_iff, iff_false]; omega)
    have l1_2 : w.heap.size + 1 < w1.heap.size := (by omega)
    have n1_3 : (w.heap.size + 1 + 1 = w1.heap.size) = False := (by simp only [eq_iff_iff, iff_false]; omega)
    have m1_3 : (w1.heap.size = w.heap.size + 1 + 1) = False := (by simp only [eq_iff_iff, iff_false]; omega)
    have l1_3 : w.heap.size + 1 + 1 < w1.heap.size := (by omega)
    have n1_4 : (w.heap.size + 1 + 1 + 1 = w1.heap.size) = False := (by simp only [eq_iff_iff, iff_false]; omega)
    have m1_4 : (w1.heap.size = w.heap.size + 1 + 1 + 1) = False := (by simp only [eq_iff_iff, iff_false]; omega)
    have l1_4 : w.heap.size + 1 + 1 + 1 < w1.heap.size := (by omega)
    go_wp2_with fail
    refine bodyPost_ret (v := .tuple #[U s, .int .i64 0]) (by simp only [results, Try.results62]; go_simp) rfl ⟨rfl, ?_⟩
    exact (((((((b1).setCell (by simp only []; omega) _).setCell (by simp only []; omega) _).setCell (by simp only []; omega) _).setCell (by simp only []; omega) _).alloc _).alloc _).alloc _

set_option maxHeartbeats 2000000 in
set_option maxRecDepth 100000 in
theorem rmuldiv_c (x y m : Nat) (hx : x < T256) (hy : y < T256) (hm : m < T256) (w : World) :
    Calls Try.prog 63 #[U x, U y, U m] w fun e w' => e = .returned (.tuple #[U (mdV x y m), .int .i64 (mdE x y m)]) ∧ Bl w w' := by
  have hq := fun w => run_eq_U hm T256_pos w
  rw [← U_zero] at hq
  have hg := guardU
  by_cases h : m = 0
  · subst h
    simp only [eq_self, decide_true] at hq
    rw [show mdV x y 0 = 0 by simp [mdV], show mdE x y 0 = 10 from rfl, ← U_zero]
    rw [← U_zero] at hq
    go_enter Try.func63, Try.ntmps63
    go_wp2_with fail
    refine bodyPost_ret (v := .tuple #[.agg #[.int .u64 0, .int .u64 0, .int .u64 0, .int .u64 0], .int .i64 10]) (by simp only [results, Try.results63]; go_simp) rfl ⟨rfl, ?_⟩
    exact (((((Bl.refl w).alloc _).alloc _).alloc _).alloc _).alloc _
  · have hd : decide (m = 0) = false := by simpa using h
    simp only [hd] at hq
    have hu := fun w => rmul_c x y hx hy w
    have hv := fun w => long_c (x * y / T256) (x * y % T256) m (mul_hi_lt hx hy) (mod_lt256 _) hm (by omega) w
    rw [hilo256] at hv
    have hp := fun w => run_eq_U (show x * y / m / T256 < T256 from Nat.lt_of_le_of_lt (Nat.div_le_div_right (Nat.div_le_self _ _)) (mul_hi_lt hx hy)) T256_pos w
    rw [← U_zero] at hp
    have e0 : mdE x y m = if x * y / m < T256 then 0 else 11 := if_neg h
    have e1 : mdV x y m = if x * y / m < T256 then x * y / m else 0 := rfl
    rw [e0, e1]
    clear hd h e0 e1
    by_cases h : x * y / m < T256
    · have hd : decide (x * y / m / T256 = 0) = true := by simp [Nat.div_eq_of_lt h]
      simp only [hd] at hp
      rw [if_pos h, if_pos h]
      rw [Nat.mod_eq_of_lt h] at hv
      clear hd h
      generalize x * y / T256 = p at *
      generalize x * y % T256 = q at *
      generalize x * y / m = s at *
      generalize s / T256 = o at *
      generalize x * y % m = r at *
      go_enter Try.func63, Try.ntmps63
      go_wp2_with fail
      refine (hu _).mono ?_
      rintro e w1 ⟨rfl, hb1⟩
      have r1_2 : Box w1 (w.heap.size + 1 + 1) #[.int .u64 (L (m) 0), .int .u64 (L (m) 1), .int .u64 (L (m) 2), .int .u64 (L (m) 3)] 24 := (((Box.new _ _ _ _ (by simp)).alloc _).alloc _).call hb1
      have r1_3 : Box w1 (w.heap.size + 1 + 1 + 1) #[.int .u64 0, .int .u64 0, .int .u64 0, .int .u64 0] 24 := ((Box.new _ _ _ _ (by simp)).alloc _).call hb1
      have r1_4 : Box w1 (w.heap.size + 1 + 1 + 1 + 1) #[.int .u64 0, .int .u64 0, .int .u64 0, .int .u64 0] 24 := (Box.new _ _ _ _ (by simp)).call hb1
      have b1 : Bl w w1 := Bl.trans ((((((Bl.refl w).alloc _).alloc _).alloc _).alloc _).alloc _) hb1
      have z1 : w.heap.size + 1 + 1 + 1 + 1 + 1 ≤ w1.heap.size := (by have := hb1.size; (try simp only [World.alloc, World.setCell, World.drew, Array.size_push, Array.size_modify] at this); omega)
      have y1 : w.heap.size ≤ w1.heap.size := b1.size
      clear hb1
      obtain ⟨r1_2_c, r1_2_f, r1_2_l⟩ := r1_2.tell
      obtain ⟨r1_3_c, r1_3_f, r1_3_l⟩ := r1_3.tell
      obtain ⟨r1_4_c, r1_4_f, r1_4_l⟩ := r1_4.tell
      have n1_0 : (w.heap.size = w1.heap.size) = False := (by simp only [eq_iff_iff, iff_false]; omega)
      have m1_0 : (w1.heap.size = w.heap.size) = False := (by simp only [eq_iff_iff, iff_false]; omega)
      have l1_0 : w.heap.size < w1.heap.size := (by omega)
      have n1_1 : (w.heap.size = w1.heap.size + 1) = False := (by simp only [eq_iff_iff, iff_false]; omega)
      have m1_1 : (w1.heap.size + 1 = w.heap.size) = False := (by simp only [eq_iff_iff, iff_false]; omega)
      have l1_1 : w.heap.size < w1.heap.size + 1 := (by omega)
      have n1_2 : (w.heap.size + 1 = w1.heap.size) = False := (by simp only [eq_iff_iff, iff_false]; omega)
      have m1_2 : (w1.heap.size = w.heap.size + 1) = False := (by simp only [eq_iff_iff, iff_false]; omega)
      have l1_2 : w.heap.size + 1 < w1.heap.size := (by omega)
      have n1_3 : (w.heap.size + 1 + 1 = w1.heap.size) = False := (by simp only [eq_iff_iff, iff_false]; omega)
      have m1_3 : (w1.heap.size = w.heap.size + 1 + 1) = False := (by simp only [eq_iff_iff, iff_false]; omega)
      have l1_3 : w.heap.size + 1 + 1 < w1.heap.size := (by omega)
      have n1_4 : (w.heap.size + 1 + 1 + 1 = w1.heap.size) = False := (by simp only [eq_iff_iff, iff_false]; omega)
      have m1_4 : (w1.heap.size = w.heap.size + 1 + 1 + 1) = False := (by simp only [eq_iff_iff, iff_false]; omega)
      have l1_4 : w.heap.size + 1 + 1 + 1 < w1.heap.size := (by omega)
      have n1_5 : (w.heap.size + 1 + 1 + 1 + 1 = w1.heap.size) = False := (by simp only [eq_iff_iff, iff_false]; omega)
      have m1_5 : (w1.heap.size = w.heap.size + 1 + 1 + 1 + 1) = False := (by simp only [eq_iff_iff, iff_false]; omega)
      have l1_5 : w.heap.size + 1 + 1 + 1 + 1 < w1.heap.size := (by omega)
      go_wp2_with fail
      refine (hv _).mono ?_
      rintro e w2 ⟨rfl, hb2⟩
      have r2_3 : Box w2 (w.heap.size + 1 + 1 + 1) #[.int .u64 0, .int .u64 0, .int .u64 0, .int .u64 0] 24 := (((r1_3).alloc _).alloc _).call hb2
      have r2_4 : Box w2 (w.heap.size + 1 + 1 + 1 + 1) #[.int .u64 0, .int .u64 0, .int .u64 0, .int .u64 0] 24 := (((r1_4).alloc _).alloc _).call hb2
      have b2 : Bl w w2 := Bl.trans (((b1).alloc _).alloc _) hb2
      have z2 : w1.heap.size + 1 + 1 ≤ w2.heap.size := (by have := hb2.size; (try simp only [World.alloc, World.setCell, World.drew, Array.size_push, Array.size_modify] at this); omega)
      have y2 : w.heap.size ≤ w2.heap.size := b2.size
      clear r1_2 r1_2_c r1_2_f r1_2_l r1_3 r1_3_c r1_3_f r1_3_l r1_4 r1_4_c r1_4_f r1_4_l hb2 b1
      obtain ⟨r2_3_c, r2_3_f, r2_3_l⟩ := r2_3.tell
      obtain ⟨r2_4_c, r2_4_f, r2_4_l⟩ := r2_4.tell
      have n2_0 : (w.heap.size = w2.heap.size) = False := (by simp only [eq_iff_iff, iff_false]; omega)
      have m2_0 : (w2.heap.size = w.heap.size) = False := (by simp only [eq_iff_iff, iff_false]; omega)
      have l2_0 : w.heap.size < w2.heap.size := (by omega)
      have n2_1 : (w.heap.size = w2.heap.size + 1) = False := (by simp only [eq_iff_iff, iff_false]; omega)
      have m2_1 : (w2.heap.size + 1 = w.heap.size) = False := (by simp only [eq_iff_iff, iff_false]; omega)
      have l2_1 : w.heap.size < w2.heap.size + 1 := (by omega)
      have n2_2 : (w.heap.size + 1 = w2.heap.size) = False := (by simp only [eq_iff_iff, iff_false]; omega)
      have m2_2 : (w2.heap.size = w.heap.size + 1) = False := (by simp only [eq_iff_iff, iff_false]; omega)
      have l2_2 : w.heap.size + 1 < w2.heap.size := (by omega)
      have n2_3 : (w.heap.size + 1 + 1 = w2.heap.size) = False := (by simp only [eq_iff_iff, iff_false]; omega)
      have m2_3 : (w2.heap.size = w.heap.size + 1 + 1) = False := (by simp only [eq_iff_iff, iff_false]; omega)
      have l2_3 : w.heap.size + 1 + 1 < w2.heap.size := (by omega)
      have n2_4 : (w.heap.size + 1 + 1 + 1 = w2.heap.size) = False := (by simp only [eq_iff_iff, iff_false]; omega)
      have m2_4 : (w2.heap.size = w.heap.size + 1 + 1 + 1) = False := (by simp only [eq_iff_iff, iff_false]; omega)
      have l2_4 : w.heap.size + 1 + 1 + 1 < w2.heap.size := (by omega)
      have n2_5 : (w.heap.size + 1 + 1 + 1 + 1 = w2.heap.size) = False := (by simp only [eq_iff_iff, iff_false]; omega)
      have m2_5 : (w2.heap.size = w.heap.size + 1 + 1 + 1 + 1) = False := (by simp only [eq_iff_iff, iff_false]; omega)
      have l2_5 : w.heap.size + 1 + 1 + 1 + 1 < w2.heap.size := (by omega)
      go_wp2_with fail
      refine bodyPost_ret (v := .tuple #[U s, .int .i64 0]) (by simp only [results, Try.results63]; go_simp) rfl ⟨rfl, ?_⟩
      exact (((((((b2).setCell (by simp only []; omega) _).setCell (by simp only []; omega) _).setCell (by simp only []; omega) _).setCell (by simp only []; omega) _).alloc _).alloc _).alloc _
    · have hd : decide (x * y / m / T256 = 0) = false := by
        rw [decide_eq_false_iff_not, Nat.div_eq_zero_iff]; have := T256_pos; omega
      simp only [hd] at hp
      rw [if_neg h, if_neg h, ← U_zero]
      clear hd h
      generalize x * y / T256 = p at *
      generalize x * y % T256 = q at *
      generalize x * y / m = s at *
      generalize s / T256 = o at *
      generalize s % T256 = oo at *
      generalize x * y % m = r at *
      go_enter Try.func63, Try.ntmps63
      go_wp2_with fail
      refine (hu _).mono ?_
      rintro e w1 ⟨rfl, hb1⟩
      have r1_2 : Box w1 (w.heap.size + 1 + 1) #[.int .u64 (L (m) 0), .int .u64 (L (m) 1), .int .u64 (L (m) 2), .int .u64 (L (m) 3)] 24 := (((Box.new _ _ _ _ (by simp)).alloc _).alloc _).call hb1
      have r1_3 : Box w1 (w.heap.size + 1 + 1 + 1) #[.int .u64 0, .int .u64 0, .int .u64 0, .int .u64 0] 24 := ((Box.new _ _ _ _ (by simp)).alloc _).call hb1
      have r1_4 : Box w1 (w.heap.size + 1 + 1 + 1 + 1) #[.int .u64 0, .int .u64 0, .int .u64 0, .int .u64 0] 24 := (Box.new _ _ _ _ (by simp)).call hb1
      have b1 : Bl w w1 := Bl.trans ((((((Bl.refl w).alloc _).alloc _).alloc _).alloc _).alloc _) hb1
      have z1 : w.heap.size + 1 + 1 + 1 + 1 + 1 ≤ w1.heap.size := (by have := hb1.size; (try simp only [World.alloc, World.setCell, World.drew, Array.size_push, Array.size_modify] at this); omega)
      have y1 : w.heap.size ≤ w1.heap.size := b1.size
      clear hb1
      obtain ⟨r1_2_c, r1_2_f, r1_2_l⟩ := r1_2.tell
      obtain ⟨r1_3_c, r1_3_f, r1_3_l⟩ := r1_3.tell
      obtain ⟨r1_4_c, r1_4_f, r1_4_l⟩ := r1_4.tell
      have n1_0 : (w.heap.size = w1.heap.size) = False := (by simp only [eq_iff_iff, iff_false]; omega)
      have m1_0 : (w1.heap.size = w.heap.size) = False := (by simp only [eq_iff_iff, iff_false]; omega)
      have l1_0 : w.heap.size < w1.heap.size := (by omega)
      have n1_1 : (w.heap.size = w1.heap.size + 1) = False := (by simp only [eq_iff_iff, iff_false]; omega)
      have m1_1 : (w1.heap.size + 1 = w.heap.size) = False := (by simp only [eq_iff_iff, iff_false]; omega)
      have l1_1 : w.heap.size < w1.heap.size + 1 := (by omega)
      have n1_2 : (w.heap.size + 1 = w1.heap.size) = False := (by simp only [eq_iff_iff, iff_false]; omega)
      have m1_2 : (w1.heap.size = w.heap.size + 1) = False := (by simp only [eq_iff_iff, iff_false]; omega)
      have l1_2 : w.heap.size + 1 < w1.heap.size := (by omega)
      have n1_3 : (w.heap.size + 1 + 1 = w1.heap.size) = False := (by simp only [eq_iff_iff, iff_false]; omega)
      have m1_3 : (w1.heap.size = w.heap.size + 1 + 1) = False := (by simp only [eq_iff_iff, iff_false]; omega)
      have l1_3 : w.heap.size + 1 + 1 < w1.heap.size := (by omega)
      have n1_4 : (w.heap.size + 1 + 1 + 1 = w1.heap.size) = False := (by simp only [eq_iff_iff, iff_false]; omega)
      have m1_4 : (w1.heap.size = w.heap.size + 1 + 1 + 1) = False := (by simp only [eq_iff_iff, iff_false]; omega)
      have l1_4 : w.heap.size + 1 + 1 + 1 < w1.heap.size := (by omega)
      have n1_5 : (w.heap.size + 1 + 1 + 1 + 1 = w1.heap.size) = False := (by simp only [eq_iff_iff, iff_false]; omega)
      have m1_5 : (w1.heap.size = w.heap.size + 1 + 1 + 1 + 1) = False := (by simp only [eq_iff_iff, iff_false]; omega)
      have l1_5 : w.heap.size + 1 + 1 + 1 + 1 < w1.heap.size := (by omega)
      go_wp2_with fail
      refine (hv _).mono ?_
      rintro e w2 ⟨rfl, hb2⟩
      have r2_3 : Box w2 (w.heap.size + 1 + 1 + 1) #[.int .u64 0, .int .u64 0, .int .u64 0, .int .u64 0] 24 := (((r1_3).alloc _).alloc _).call hb2
      have r2_4 : Box w2 (w.heap.size + 1 + 1 + 1 + 1) #[.int .u64 0, .int .u64 0, .int .u64 0, .int .u64 0] 24 := (((r1_4).alloc _).alloc _).call hb2
      have b2 : Bl w w2 := Bl.trans (((b1).alloc _).alloc _) hb2
      have z2 : w1.heap.size + 1 + 1 ≤ w2.heap.size := (by have := hb2.size; (try simp only [World.alloc, World.setCell, World.drew, Array.size_push, Array.size_modify] at this); omega)
      have y2 : w.heap.size ≤ w2.heap.size := b2.size
      clear r1_2 r1_2_c r1_2_f r1_2_l r1_3 r1_3_c r1_3_f r1_3_l r1_4 r1_4_c r1_4_f r1_4_l hb2 b1
      obtain ⟨r2_3_c, r2_3_f, r2_3_l⟩ := r2_3.tell
      obtain ⟨r2_4_c, r2_4_f, r2_4_l⟩ := r2_4.tell
      have n2_0 : (w.heap.size = w2.heap.size) = False := (by simp only [eq_iff_iff, iff_false]; omega)
      have m2_0 : (w2.heap.size = w.heap.size) = False := (by simp only [eq_iff_iff, iff_false]; omega)
      have l2_0 : w.heap.size < w2.heap.size := (by omega)
      have n2_1 : (w.heap.size = w2.heap.size + 1) = False := (by simp only [eq_iff_iff, iff_false]; omega)
      have m2_1 : (w2.heap.size + 1 = w.heap.size) = False := (by simp only [eq_iff_iff, iff_false]; omega)
      have l2_1 : w.heap.size < w2.heap.size + 1 := (by omega)
      have n2_2 : (w.heap.size + 1 = w2.heap.size) = False := (by simp only [eq_iff_iff, iff_false]; omega)
      have m2_2 : (w2.heap.size = w.heap.size + 1) = False := (by simp only [eq_iff_iff, iff_false]; omega)
      have l2_2 : w.heap.size + 1 < w2.heap.size := (by omega)
      have n2_3 : (w.heap.size + 1 + 1 = w2.heap.size) = False := (by simp only [eq_iff_iff, iff_false]; omega)
      have m2_3 : (w2.heap.size = w.heap.size + 1 + 1) = False := (by simp only [eq_iff_iff, iff_false]; omega)
      have l2_3 : w.heap.size + 1 + 1 < w2.heap.size := (by omega)
      have n2_4 : (w.heap.size + 1 + 1 + 1 = w2.heap.size) = False := (by simp only [eq_iff_iff, iff_false]; omega)
      have m2_4 : (w2.heap.size = w.heap.size + 1 + 1 + 1) = False := (by simp only [eq_iff_iff, iff_false]; omega)
      have l2_4 : w.heap.size + 1 + 1 + 1 < w2.heap.size := (by omega)
      have n2_5 : (w.heap.size + 1 + 1 + 1 + 1 = w2.heap.size) = False := (by simp only [eq_iff_iff, iff_false]; omega)
      have m2_5 : (w2.heap.size = w.heap.size + 1 + 1 + 1 + 1) = False := (by simp only [eq_iff_iff, iff_false]; omega)
      have l2_5 : w.heap.size + 1 + 1 + 1 + 1 < w2.heap.size := (by omega)
      go_wp2_with fail
      refine bodyPost_ret (v := .tuple #[.agg #[.int .u64 0, .int .u64 0, .int .u64 0, .int .u64 0], .int .i64 11]) (by simp only [results, Try.results63]; go_simp) rfl ⟨rfl, ?_⟩
      exact (((((((b2).setCell (by simp only []; omega) _).setCell (by simp only []; omega) _).setCell (by simp only []; omega) _).setCell (by simp only []; omega) _).alloc _).alloc _).alloc _

set_option maxHeartbeats 2000000 in
set_option maxRecDepth 100000 in
theorem raddmod_c (x y m : Nat) (hx : x < T256) (hy : y < T256) (hm : m < T256) (w : World) :
    Calls Try.prog 65 #[U x, U y, U m] w fun e w' => e = .returned (.tuple #[U (rdV ((x + y) / T256) ((x + y) % T256) m), .int .i64 (eZ m)]) ∧ Bl w w' := by
  have hc : (x + y) / T256 < 18446744073709551616 := by rw [T256_eq] at *; omega
  have hu := fun w => radd_c x y hx hy w
  have ht := fun w => rfrom_c ((x + y) / T256) hc w
  have hv := fun w => rreduce_c ((x + y) / T256) ((x + y) % T256) m (Nat.lt_trans hc (by rw [T256_eq]; omega)) (mod_lt256 _) hm w
  generalize (x + y) / T256 = c at *
  generalize (x + y) % T256 = s at *
  generalize rdV c s m = r at *
  generalize eZ m = k at *
  go_enter Try.func65, Try.ntmps65
  go_wp2_with fail
  refine (hu _).mono ?_
  rintro e w1 ⟨rfl, hb1⟩
  have r1_2 : Box w1 (w.heap.size + 1 + 1) #[.int .u64 (L (m) 0), .int .u64 (L (m) 1), .int .u64 (L (m) 2), .int .u64 (L (m) 3)] 24 := ((Box.new _ _ _ _ (by simp)).alloc _).call hb1
  have r1_3 : Box w1 (w.heap.size + 1 + 1 + 1) #[.int .u64 0, .int .u64 0, .int .u64 0, .int .u64 0] 24 := (Box.new _ _ _ _ (by simp)).call hb1
  have b1 : Bl w w1 := Bl.trans (((((Bl.refl w).alloc _).alloc _).alloc _).alloc _) hb1
  have z1 : w.heap.size + 1 + 1 + 1 + 1 ≤ w1.heap.size := (by have := hb1.size; (try simp only [World.alloc, World.setCell, World.drew, Array.size_push, Array.size_modify] at this); omega)
  have y1 : w.heap.size ≤ w1.heap.size := b1.size
  clear hb1
  obtain ⟨r1_2_c, r1_2_f, r1_2_l⟩ := r1_2.tell
  obtain ⟨r1_3_c, r1_3_f, r1_3_l⟩ := r1_3.tell
  have n1_0 : (w.heap.size = w1.heap.size) = False := (by simp only [eq_iff_iff, iff_false]; omega)
  have m1_0 : (w1.heap.size = w.heap.size) = False := (by simp only [eq_iff_iff, iff_false]; omega)
  have l1_0 : w.heap.size < w1.heap.size := (by omega)
  have n1_1 : (w.heap.size + 1 = w1.heap.size) = False := (by simp only [eq_iff_iff, iff_false]; omega)
  have m1_1 : (w1.heap.size = w.heap.size + 1) = False := (by simp only [eq_iff_iff, iff_false]; omega)
  have l1_1 : w.heap.size + 1 < w1.heap.size := (by omega)
  have n1_2 : (w.heap.size + 1 + 1 = w1.heap.size) = False := (by simp only [eq_iff_iff, iff_false]; omega)
  have m1_2 : (w1.heap.size = w.heap.size + 1 + 1) = False := (by simp only [eq_iff_iff, iff_false]; omega)
  have l1_2 : w.heap.size + 1 + 1 < w1.heap.size := (by omega)
  have n1_3 : (w.heap.size + 1 + 1 + 1 = w1.heap.size) = False := (by simp only [eq_iff_iff, iff_false]; omega)
  have m1_3 : (w1.heap.size = w.heap.size + 1 + 1 + 1) = False := (by simp only [eq_iff_iff, iff_false]; omega)
  have l1_3 : w.heap.size + 1 + 1 + 1 < w1.heap.size := (by omega)
  go_wp2_with fail
  go_region_with (first | (go_at_call 59; refine (ht _).mono ?_; rintro e w2 ⟨rfl, hb2⟩; have r2_2 : Box w2 (w.heap.size + 1 + 1) #[.int .u64 (L (m) 0), .int .u64 (L (m) 1), .int .u64 (L (m) 2), .int .u64 (L (m) 3)] 24 := (((r1_2).alloc _).drew).call hb2; have r2_3 : Box w2 (w.heap.size + 1 + 1 + 1) #[.int .u64 0, .int .u64 0, .int .u64 0, .int .u64 0] 24 := (((r1_3).alloc _).drew).call hb2; have r2_4 : Box w2 (w1.heap.size) #[.int .u64 (L (s) 0), .int .u64 (L (s) 1), .int .u64 (L (s) 2), .int .u64 (L (s) 3)] 24 := ((Box.new _ _ _ _ (by simp)).drew).call hb2; have b2 : Bl w w2 := Bl.trans (((b1).alloc _).drew) hb2; have z2 : w1.heap.size + 1 ≤ w2.heap.size := (by have := hb2.size; (try simp only [World.alloc, World.setCell, World.drew, Array.size_push, Array.size_modify] at this); omega); have y2 : w.heap.size ≤ w2.heap.size := b2.size; clear r1_2 r1_2_c r1_2_f r1_2_l r1_3 r1_3_c r1_3_f r1_3_l hb2 b1; obtain ⟨r2_2_c, r2_2_f, r2_2_l⟩ := r2_2.tell; obtain ⟨r2_3_c, r2_3_f, r2_3_l⟩ := r2_3.tell; obtain ⟨r2_4_c, r2_4_f, r2_4_l⟩ := r2_4.tell; skip) | (go_at_call 62; refine (hv _).mono ?_; rintro e w3 ⟨rfl, hb3⟩; have r3_3 : Box w3 (w.heap.size + 1 + 1 + 1) #[.int .u64 0, .int .u64 0, .int .u64 0, .int .u64 0] 24 := (r2_3).call hb3; have b3 : Bl w w3 := Bl.trans (b2) hb3; have z3 : w2.heap.size ≤ w3.heap.size := (by have := hb3.size; (try simp only [World.alloc, World.setCell, World.drew, Array.size_push, Array.size_modify] at this); omega); have y3 : w.heap.size ≤ w3.heap.size := b3.size; clear r2_2 r2_2_c r2_2_f r2_2_l r2_3 r2_3_c r2_3_f r2_3_l r2_4 r2_4_c r2_4_f r2_4_l hb3 b2; obtain ⟨r3_3_c, r3_3_f, r3_3_l⟩ := r3_3.tell; skip))
  all_goals
    go_wp2_with fail
    refine bodyPost_ret (v := .tuple #[U r, .int .i64 k]) (by simp only [results, Try.results65]; go_simp) rfl ⟨rfl, ?_⟩
    exact ((((b3).setCell (by simp only []; omega) _).setCell (by simp only []; omega) _).setCell (by simp only []; omega) _).setCell (by simp only []; omega) _

set_option maxHeartbeats 2000000 in
set_option maxRecDepth 100000 in
theorem rmulmod_c (x y m : Nat) (hx : x < T256) (hy : y < T256) (hm : m < T256) (w : World) :
    Calls Try.prog 67 #[U x, U y, U m] w fun e w' => e = .returned (.tuple #[U (rdV (x * y / T256) (x * y % T256) m), .int .i64 (eZ m)]) ∧ Bl w w' := by
  have hu := fun w => rmul_c x y hx hy w
  have hv := fun w => rreduce_c (x * y / T256) (x * y % T256) m (mul_hi_lt hx hy) (mod_lt256 _) hm w
  generalize x * y / T256 = c at *
  generalize x * y % T256 = s at *
  generalize rdV c s m = r at *
  generalize eZ m = k at *
  go_enter Try.func67, Try.ntmps67
  go_wp2_with fail
  refine (hu _).mono ?_
  rintro e w1 ⟨rfl, hb1⟩
  have r1_2 : Box w1 (w.heap.size + 1 + 1) #[.int .u64 (L (m) 0), .int .u64 (L (m) 1), .int .u64 (L (m) 2), .int .u64 (L (m) 3)] 24 := ((Box.new _ _ _ _ (by simp)).alloc _).call hb1
  have r1_3 : Box w1 (w.heap.size + 1 + 1 + 1) #[.int .u64 0, .int .u64 0, .int .u64 0, .int .u64 0] 24 := (Box.new _ _ _ _ (by simp)).call hb1
  have b1 : Bl w w1 := Bl.trans (((((Bl.refl w).alloc _).alloc _).alloc _).alloc _) hb1
  have z1 : w.heap.size + 1 + 1 + 1 + 1 ≤ w1.heap.size := (by have := hb1.size; (try simp only [World.alloc, World.setCell, World.drew, Array.size_push, Array.size_modify] at this); omega)
  have y1 : w.heap.size ≤ w1.heap.size := b1.size
  clear hb1
  obtain ⟨r1_2_c, r1_2_f, r1_2_l⟩ := r1_2.tell
  obtain ⟨r1_3_c, r1_3_f, r1_3_l⟩ := r1_3.tell
  have n1_0 : (w.heap.size = w1.heap.size) = False := (by simp only [eq_iff_iff, iff_false]; omega)
  have m1_0 : (w1.heap.size = w.heap.size) = False := (by simp only [eq_iff_iff, iff_false]; omega)
  have l1_0 : w.heap.size < w1.heap.size := (by omega)
  have n1_1 : (w.heap.size = w1.heap.size + 1) = False := (by simp only [eq_iff_iff, iff_false]; omega)
  have m1_1 : (w1.heap.size + 1 = w.heap.size) = False := (by simp only [eq_iff_iff, iff_false]; omega)
  have l1_1 : w.heap.size < w1.heap.size + 1 := (by omega)
  have n1_2 : (w.heap.size + 1 = w1.heap.size) = False := (by simp only [eq_iff_iff, iff_false]; omega)
  have m1_2 : (w1.heap.size = w.heap.size + 1) = False := (by simp only [eq_iff_iff, iff_false]; omega)
  have l1_2 : w.heap.size + 1 < w1.heap.size := (by omega)
  have n1_3 : (w.heap.size + 1 + 1 = w1.heap.size) = False := (by simp only [eq_iff_iff, iff_false]; omega)
  have m1_3 : (w1.heap.size = w.heap.size + 1 + 1) = False := (by simp only [eq_iff_iff, iff_false]; omega)
  have l1_3 : w.heap.size + 1 + 1 < w1.heap.size := (by omega)
  have n1_4 : (w.heap.size + 1 + 1 + 1 = w1.heap.size) = False := (by simp only [eq_iff_iff, iff_false]; omega)
  have m1_4 : (w1.heap.size = w.heap.size + 1 + 1 + 1) = False := (by simp only [eq_iff_iff, iff_false]; omega)
  have l1_4 : w.heap.size + 1 + 1 + 1 < w1.heap.size := (by omega)
  go_wp2_with fail
  refine (hv _).mono ?_
  rintro e w2 ⟨rfl, hb2⟩
  have r2_3 : Box w2 (w.heap.size + 1 + 1 + 1) #[.int .u64 0, .int .u64 0, .int .u64 0, .int .u64 0] 24 := (((r1_3).alloc _).alloc _).call hb2
  have b2 : Bl w w2 := Bl.trans (((b1).alloc _).alloc _) hb2
  have z2 : w1.heap.size + 1 + 1 ≤ w2.heap.size := (by have := hb2.size; (try simp only [World.alloc, World.setCell, World.drew, Array.size_push, Array.size_modify] at this); omega)
  have y2 : w.heap.size ≤ w2.heap.size := b2.size
  clear r1_2 r1_2_c r1_2_f r1_2_l r1_3 r1_3_c r1_3_f r1_3_l hb2 b1
  obtain ⟨r2_3_c, r2_3_f, r2_3_l⟩ := r2_3.tell
  go_wp2_with fail
  refine bodyPost_ret (v := .tuple #[U r, .int .i64 k]) (by simp only [results, Try.results67]; go_simp) rfl ⟨rfl, ?_⟩
  exact ((((b2).setCell (by simp only []; omega) _).setCell (by simp only []; omega) _).setCell (by simp only []; omega) _).setCell (by simp only []; omega) _

end Go.Proofs.Ythgnmpjcbicdhaa

