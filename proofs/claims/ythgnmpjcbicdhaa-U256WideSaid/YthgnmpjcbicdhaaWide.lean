/- The statement U256Wide, for every three numbers: no condition. -/
import Derived.Test.YthgnmpjcbicdhaaOver
import Derived.Test.YthgnmpjcbicdhaaRow
set_option linter.unusedSimpArgs false
set_option linter.unusedVariables false
namespace Go.Proofs.Ythgnmpjcbicdhaa
open Go Go.ChangeShapes Go.WideShapes Go.ChangeAt Go.RowKit

/-- '==' of a number and itself. -/
theorem run_eq_self (n : Nat) (w : World) : (Op.equalIn 10000 24 (U n) (U n)).run Try.prog w = .ok true w := by
  obtain ⟨i, hi, _, hs, _⟩ := info_parts info22
  have h := run_equalIn_arr (P := Try.prog) 9998 24 22 4 .u64 .u64 i Try.underlying24 Try.underlying22 hi hs [L n 0, L n 1, L n 2, L n 3] [L n 0, L n 1, L n 2, L n 3] rfl rfl w
  rw [decide_eq_true rfl] at h
  exact h
set_option maxHeartbeats 4000000 in
set_option maxRecDepth 100000 in
theorem walkU256Wide (x y m : Nat) (hx : x < T256) (hy : y < T256) (hm : m < T256) (w : World) :
    Calls Try.prog 10 #[U x, U y, U m] w fun e w' => e = .returned (.bool true) ∧ Bl w w' := by
  have hg := guardU
  have qs := fun n w => run_eq_self n w
  have h1 := fun w => reduce_c x y m hx hy hm w
  have k1 := fun w => rreduce_c x y m hx hy hm w
  have h2 := fun w => muldiv_c x y m hx hy hm w
  have k2 := fun w => rmuldiv_c x y m hx hy hm w
  have h3 := fun w => addmod_c x y m hx hy hm w
  have k3 := fun w => raddmod_c x y m hx hy hm w
  have h4 := fun w => mulmod_c x y m hx hy hm w
  have k4 := fun w => rmulmod_c x y m hx hy hm w
  have n1 := fun w => num_c (eZ m) w
  have n2 := fun w => num_c (mdE x y m) w
  generalize rdV x y m = a1 at *
  generalize mdV x y m = a2 at *
  generalize rdV ((x + y) / T256) ((x + y) % T256) m = a3 at *
  generalize rdV (x * y / T256) (x * y % T256) m = a4 at *
  generalize eZ m = f1 at *
  generalize mdE x y m = f2 at *
  go_enter Try.func10, Try.ntmps10
  go_wp2_with fail
  refine (h1 _).mono ?_
  rintro e w1 ⟨rfl, hb1⟩
  have r1_0 : Box w1 (w.heap.size) #[.int .u64 (L (x) 0), .int .u64 (L (x) 1), .int .u64 (L (x) 2), .int .u64 (L (x) 3)] 24 := (((Box.new _ _ _ _ (by simp)).alloc _).alloc _).call hb1
  have r1_1 : Box w1 (w.heap.size + 1) #[.int .u64 (L (y) 0), .int .u64 (L (y) 1), .int .u64 (L (y) 2), .int .u64 (L (y) 3)] 24 := ((Box.new _ _ _ _ (by simp)).alloc _).call hb1
  have r1_2 : Box w1 (w.heap.size + 1 + 1) #[.int .u64 (L (m) 0), .int .u64 (L (m) 1), .int .u64 (L (m) 2), .int .u64 (L (m) 3)] 24 := (Box.new _ _ _ _ (by simp)).call hb1
  have b1 : Bl w w1 := Bl.trans ((((Bl.refl w).alloc _).alloc _).alloc _) hb1
  have z1 : w.heap.size + 1 + 1 + 1 ≤ w1.heap.size := (by have := hb1.size; (try simp only [World.alloc, World.setCell, World.drew, Array.size_push, Array.size_modify] at this); omega)
  have y1 : w.heap.size ≤ w1.heap.size := b1.size
  clear hb1
  obtain ⟨r1_0_c, r1_0_f, r1_0_l⟩ := r1_0.tell
  obtain ⟨r1_1_c, r1_1_f, r1_1_l⟩ := r1_1.tell
  obtain ⟨r1_2_c, r1_2_f, r1_2_l⟩ := r1_2.tell
  have n1_0 : (w.heap.size = w1.heap.size) = False := (by simp only [eq_iff_iff, iff_false]; omega)
  have m1_0 : (w1.heap.size = w.heap.size) = False := (by simp only [eq_iff_iff, iff_false]; omega)
  have l1_0 : w.heap.size < w1.heap.size := (by omega)
  have n1_1 : (w.heap.size = w1.heap.size + 1) = False := (by simp only [eq_iff_iff, iff_false]; omega)
  have m1_1 : (w1.heap.size + 1 = w.heap.size) = False := (by simp only [eq_iff_iff, iff_false]; omega)
  have l1_1 : w.heap.size < w1.heap.size + 1 := (by omega)
  have n1_2 : (w.heap.size = w1.heap.size + 1 + 1) = False := (by simp only [eq_iff_iff, iff_false]; omega)
  have m1_2 : (w1.heap.size + 1 + 1 = w.heap.size) = False := (by simp only [eq_iff_iff, iff_false]; omega)
  have l1_2 : w.heap.size < w1.heap.size + 1 + 1 := (by omega)
  have n1_3 : (w.heap.size + 1 = w1.heap.size) = False := (by simp only [eq_iff_iff, iff_false]; omega)
  have m1_3 : (w1.heap.size = w.heap.size + 1) = False := (by simp only [eq_iff_iff, iff_false]; omega)
  have l1_3 : w.heap.size + 1 < w1.heap.size := (by omega)
  have n1_4 : (w.heap.size + 1 + 1 = w1.heap.size) = False := (by simp only [eq_iff_iff, iff_false]; omega)
  have m1_4 : (w1.heap.size = w.heap.size + 1 + 1) = False := (by simp only [eq_iff_iff, iff_false]; omega)
  have l1_4 : w.heap.size + 1 + 1 < w1.heap.size := (by omega)
  go_wp2_with fail
  refine (k1 _).mono ?_
  rintro e w2 ⟨rfl, hb2⟩
  have r2_0 : Box w2 (w.heap.size) #[.int .u64 (L (x) 0), .int .u64 (L (x) 1), .int .u64 (L (x) 2), .int .u64 (L (x) 3)] 24 := ((r1_0).alloc _).call hb2
  have r2_1 : Box w2 (w.heap.size + 1) #[.int .u64 (L (y) 0), .int .u64 (L (y) 1), .int .u64 (L (y) 2), .int .u64 (L (y) 3)] 24 := ((r1_1).alloc _).call hb2
  have r2_2 : Box w2 (w.heap.size + 1 + 1) #[.int .u64 (L (m) 0), .int .u64 (L (m) 1), .int .u64 (L (m) 2), .int .u64 (L (m) 3)] 24 := ((r1_2).alloc _).call hb2
  have r2_3 : Box w2 (w1.heap.size) #[.int .u64 (L (a1) 0), .int .u64 (L (a1) 1), .int .u64 (L (a1) 2), .int .u64 (L (a1) 3)] 24 := (Box.new _ _ _ _ (by simp)).call hb2
  have b2 : Bl w w2 := Bl.trans ((b1).alloc _) hb2
  have z2 : w1.heap.size + 1 ≤ w2.heap.size := (by have := hb2.size; (try simp only [World.alloc, World.setCell, World.drew, Array.size_push, Array.size_modify] at this); omega)
  have y2 : w.heap.size ≤ w2.heap.size := b2.size
  clear r1_0 r1_0_c r1_0_f r1_0_l r1_1 r1_1_c r1_1_f r1_1_l r1_2 r1_2_c r1_2_f r1_2_l hb2 b1
  obtain ⟨r2_0_c, r2_0_f, r2_0_l⟩ := r2_0.tell
  obtain ⟨r2_1_c, r2_1_f, r2_1_l⟩ := r2_1.tell
  obtain ⟨r2_2_c, r2_2_f, r2_2_l⟩ := r2_2.tell
  obtain ⟨r2_3_c, r2_3_f, r2_3_l⟩ := r2_3.tell
  have n2_0 : (w.heap.size = w2.heap.size) = False := (by simp only [eq_iff_iff, iff_false]; omega)
  have m2_0 : (w2.heap.size = w.heap.size) = False := (by simp only [eq_iff_iff, iff_false]; omega)
  have l2_0 : w.heap.size < w2.heap.size := (by omega)
  have n2_1 : (w.heap.size = w2.heap.size + 1) = False := (by simp only [eq_iff_iff, iff_false]; omega)
  have m2_1 : (w2.heap.size + 1 = w.heap.size) = False := (by simp only [eq_iff_iff, iff_false]; omega)
  have l2_1 : w.heap.size < w2.heap.size + 1 := (by omega)
  have n2_2 : (w.heap.size = w2.heap.size + 1 + 1) = False := (by simp only [eq_iff_iff, iff_false]; omega)
  have m2_2 : (w2.heap.size + 1 + 1 = w.heap.size) = False := (by simp only [eq_iff_iff, iff_false]; omega)
  have l2_2 : w.heap.size < w2.heap.size + 1 + 1 := (by omega)
  have n2_3 : (w.heap.size + 1 = w2.heap.size) = False := (by simp only [eq_iff_iff, iff_false]; omega)
  have m2_3 : (w2.heap.size = w.heap.size + 1) = False := (by simp only [eq_iff_iff, iff_false]; omega)
  have l2_3 : w.heap.size + 1 < w2.heap.size := (by omega)
  have n2_4 : (w.heap.size + 1 + 1 = w2.heap.size) = False := (by simp only [eq_iff_iff, iff_false]; omega)
  have m2_4 : (w2.heap.size = w.heap.size + 1 + 1) = False := (by simp only [eq_iff_iff, iff_false]; omega)
  have l2_4 : w.heap.size + 1 + 1 < w2.heap.size := (by omega)
  have n2_5 : (w1.heap.size = w2.heap.size) = False := (by simp only [eq_iff_iff, iff_false]; omega)
  have m2_5 : (w2.heap.size = w1.heap.size) = False := (by simp only [eq_iff_iff, iff_false]; omega)
  have l2_5 : w1.heap.size < w2.heap.size := (by omega)
  have n2_6 : (w1.heap.size = w2.heap.size + 1) = False := (by simp only [eq_iff_iff, iff_false]; omega)
  have m2_6 : (w2.heap.size + 1 = w1.heap.size) = False := (by simp only [eq_iff_iff, iff_false]; omega)
  have l2_6 : w1.heap.size < w2.heap.size + 1 := (by omega)
  have n2_7 : (w1.heap.size = w2.heap.size + 1 + 1) = False := (by simp only [eq_iff_iff, iff_false]; omega)
  have m2_7 : (w2.heap.size + 1 + 1 = w1.heap.size) = False := (by simp only [eq_iff_iff, iff_false]; omega)
  have l2_7 : w1.heap.size < w2.heap.size + 1 + 1 := (by omega)
  go_wp2_with fail
  refine (n1 _).mono ?_
  rintro e _ ⟨rfl, rfl⟩
  go_wp2_with fail
  refine (h2 _).mono ?_
  rintro e w3 ⟨rfl, hb3⟩
  have r3_0 : Box w3 (w.heap.size) #[.int .u64 (L (x) 0), .int .u64 (L (x) 1), .int .u64 (L (x) 2), .int .u64 (L (x) 3)] 24 := ((r2_0).alloc _).call hb3
  have r3_1 : Box w3 (w.heap.size + 1) #[.int .u64 (L (y) 0), .int .u64 (L (y) 1), .int .u64 (L (y) 2), .int .u64 (L (y) 3)] 24 := ((r2_1).alloc _).call hb3
  have r3_2 : Box w3 (w.heap.size + 1 + 1) #[.int .u64 (L (m) 0), .int .u64 (L (m) 1), .int .u64 (L (m) 2), .int .u64 (L (m) 3)] 24 := ((r2_2).alloc _).call hb3
  have r3_3 : Box w3 (w1.heap.size) #[.int .u64 (L (a1) 0), .int .u64 (L (a1) 1), .int .u64 (L (a1) 2), .int .u64 (L (a1) 3)] 24 := ((r2_3).alloc _).call hb3
  have r3_4 : Box w3 (w2.heap.size) #[.int .u64 (L (a1) 0), .int .u64 (L (a1) 1), .int .u64 (L (a1) 2), .int .u64 (L (a1) 3)] 24 := (Box.new _ _ _ _ (by simp)).call hb3
  have b3 : Bl w w3 := Bl.trans ((b2).alloc _) hb3
  have z3 : w2.heap.size + 1 ≤ w3.heap.size := (by have := hb3.size; (try simp only [World.alloc, World.setCell, World.drew, Array.size_push, Array.size_modify] at this); omega)
  have y3 : w.heap.size ≤ w3.heap.size := b3.size
  clear r2_0 r2_0_c r2_0_f r2_0_l r2_1 r2_1_c r2_1_f r2_1_l r2_2 r2_2_c r2_2_f r2_2_l r2_3 r2_3_c r2_3_f r2_3_l hb3 b2
  obtain ⟨r3_0_c, r3_0_f, r3_0_l⟩ := r3_0.tell
  obtain ⟨r3_1_c, r3_1_f, r3_1_l⟩ := r3_1.tell
  obtain ⟨r3_2_c, r3_2_f, r3_2_l⟩ := r3_2.tell
  obtain ⟨r3_3_c, r3_3_f, r3_3_l⟩ := r3_3.tell
  obtain ⟨r3_4_c, r3_4_f, r3_4_l⟩ := r3_4.tell
  go_wp2_with fail
  refine (k2 _).mono ?_
  rintro e w4 ⟨rfl, hb4⟩
  have r4_0 : Box w4 (w.heap.size) #[.int .u64 (L (x) 0), .int .u64 (L (x) 1), .int .u64 (L (x) 2), .int .u64 (L (x) 3)] 24 := (((((r3_0).far _ _ (by simp only []; omega)).far _ _ (by simp only []; omega)).far _ _ (by simp only []; omega)).far _ _ (by simp only []; omega)).call hb4
  have r4_1 : Box w4 (w.heap.size + 1) #[.int .u64 (L (y) 0), .int .u64 (L (y) 1), .int .u64 (L (y) 2), .int .u64 (L (y) 3)] 24 := (((((r3_1).far _ _ (by simp only []; omega)).far _ _ (by simp only []; omega)).far _ _ (by simp only []; omega)).far _ _ (by simp only []; omega)).call hb4
  have r4_2 : Box w4 (w.heap.size + 1 + 1) #[.int .u64 (L (m) 0), .int .u64 (L (m) 1), .int .u64 (L (m) 2), .int .u64 (L (m) 3)] 24 := (((((r3_2).far _ _ (by simp only []; omega)).far _ _ (by simp only []; omega)).far _ _ (by simp only []; omega)).far _ _ (by simp only []; omega)).call hb4
  have r4_3 : Box w4 (w1.heap.size) #[.int .u64 (L (a2) 0), .int .u64 (L (a2) 1), .int .u64 (L (a2) 2), .int .u64 (L (a2) 3)] 24 := ((((((r3_3).set _ _).set _ _).set _ _).set _ _).cells rfl).call hb4
  have r4_4 : Box w4 (w2.heap.size) #[.int .u64 (L (a1) 0), .int .u64 (L (a1) 1), .int .u64 (L (a1) 2), .int .u64 (L (a1) 3)] 24 := (((((r3_4).far _ _ (by simp only []; omega)).far _ _ (by simp only []; omega)).far _ _ (by simp only []; omega)).far _ _ (by simp only []; omega)).call hb4
  have b4 : Bl w w4 := Bl.trans (((((b3).setCell (by simp only []; omega) _).setCell (by simp only []; omega) _).setCell (by simp only []; omega) _).setCell (by simp only []; omega) _) hb4
  have z4 : w3.heap.size ≤ w4.heap.size := (by have := hb4.size; (try simp only [World.alloc, World.setCell, World.drew, Array.size_push, Array.size_modify] at this); omega)
  have y4 : w.heap.size ≤ w4.heap.size := b4.size
  clear r3_0 r3_0_c r3_0_f r3_0_l r3_1 r3_1_c r3_1_f r3_1_l r3_2 r3_2_c r3_2_f r3_2_l r3_3 r3_3_c r3_3_f r3_3_l r3_4 r3_4_c r3_4_f r3_4_l hb4 b3
  obtain ⟨r4_0_c, r4_0_f, r4_0_l⟩ := r4_0.tell
  obtain ⟨r4_1_c, r4_1_f, r4_1_l⟩ := r4_1.tell
  obtain ⟨r4_2_c, r4_2_f, r4_2_l⟩ := r4_2.tell
  obtain ⟨r4_3_c, r4_3_f, r4_3_l⟩ := r4_3.tell
  obtain ⟨r4_4_c, r4_4_f, r4_4_l⟩ := r4_4.tell
  go_wp2_with fail
  refine (n2 _).mono ?_
  rintro e _ ⟨rfl, rfl⟩
  go_wp2_with fail
  refine (h3 _).mono ?_
  rintro e w5 ⟨rfl, hb5⟩
  have r5_0 : Box w5 (w.heap.size) #[.int .u64 (L (x) 0), .int .u64 (L (x) 1), .int .u64 (L (x) 2), .int .u64 (L (x) 3)] 24 := (((((r4_0).far _ _ (by simp only []; omega)).far _ _ (by simp only []; omega)).far _ _ (by simp only []; omega)).far _ _ (by simp only []; omega)).call hb5
  have r5_1 : Box w5 (w.heap.size + 1) #[.int .u64 (L (y) 0), .int .u64 (L (y) 1), .int .u64 (L (y) 2), .int .u64 (L (y) 3)] 24 := (((((r4_1).far _ _ (by simp only []; omega)).far _ _ (by simp only []; omega)).far _ _ (by simp only []; omega)).far _ _ (by simp only []; omega)).call hb5
  have r5_2 : Box w5 (w.heap.size + 1 + 1) #[.int .u64 (L (m) 0), .int .u64 (L (m) 1), .int .u64 (L (m) 2), .int .u64 (L (m) 3)] 24 := (((((r4_2).far _ _ (by simp only []; omega)).far _ _ (by simp only []; omega)).far _ _ (by simp only []; omega)).far _ _ (by simp only []; omega)).call hb5
  have r5_3 : Box w5 (w1.heap.size) #[.int .u64 (L (a2) 0), .int .u64 (L (a2) 1), .int .u64 (L (a2) 2), .int .u64 (L (a2) 3)] 24 := (((((r4_3).far _ _ (by simp only []; omega)).far _ _ (by simp only []; omega)).far _ _ (by simp only []; omega)).far _ _ (by simp only []; omega)).call hb5
  have r5_4 : Box w5 (w2.heap.size) #[.int .u64 (L (a2) 0), .int .u64 (L (a2) 1), .int .u64 (L (a2) 2), .int .u64 (L (a2) 3)] 24 := ((((((r4_4).set _ _).set _ _).set _ _).set _ _).cells rfl).call hb5
  have b5 : Bl w w5 := Bl.trans (((((b4).setCell (by simp only []; omega) _).setCell (by simp only []; omega) _).setCell (by simp only []; omega) _).setCell (by simp only []; omega) _) hb5
  have z5 : w4.heap.size ≤ w5.heap.size := (by have := hb5.size; (try simp only [World.alloc, World.setCell, World.drew, Array.size_push, Array.size_modify] at this); omega)
  have y5 : w.heap.size ≤ w5.heap.size := b5.size
  clear r4_0 r4_0_c r4_0_f r4_0_l r4_1 r4_1_c r4_1_f r4_1_l r4_2 r4_2_c r4_2_f r4_2_l r4_3 r4_3_c r4_3_f r4_3_l r4_4 r4_4_c r4_4_f r4_4_l hb5 b4
  obtain ⟨r5_0_c, r5_0_f, r5_0_l⟩ := r5_0.tell
  obtain ⟨r5_1_c, r5_1_f, r5_1_l⟩ := r5_1.tell
  obtain ⟨r5_2_c, r5_2_f, r5_2_l⟩ := r5_2.tell
  obtain ⟨r5_3_c, r5_3_f, r5_3_l⟩ := r5_3.tell
  obtain ⟨r5_4_c, r5_4_f, r5_4_l⟩ := r5_4.tell
  go_wp2_with fail
  refine (k3 _).mono ?_
  rintro e w6 ⟨rfl, hb6⟩
  have r6_0 : Box w6 (w.heap.size) #[.int .u64 (L (x) 0), .int .u64 (L (x) 1), .int .u64 (L (x) 2), .int .u64 (L (x) 3)] 24 := (((((r5_0).far _ _ (by simp only []; omega)).far _ _ (by simp only []; omega)).far _ _ (by simp only []; omega)).far _ _ (by simp only []; omega)).call hb6
  have r6_1 : Box w6 (w.heap.size + 1) #[.int .u64 (L (y) 0), .int .u64 (L (y) 1), .int .u64 (L (y) 2), .int .u64 (L (y) 3)] 24 := (((((r5_1).far _ _ (by simp only []; omega)).far _ _ (by simp only []; omega)).far _ _ (by simp only []; omega)).far _ _ (by simp only []; omega)).call hb6
  have r6_2 : Box w6 (w.heap.size + 1 + 1) #[.int .u64 (L (m) 0), .int .u64 (L (m) 1), .int .u64 (L (m) 2), .int .u64 (L (m) 3)] 24 := (((((r5_2).far _ _ (by simp only []; omega)).far _ _ (by simp only []; omega)).far _ _ (by simp only []; omega)).far _ _ (by simp only []; omega)).call hb6
  have r6_3 : Box w6 (w1.heap.size) #[.int .u64 (L (a3) 0), .int .u64 (L (a3) 1), .int .u64 (L (a3) 2), .int .u64 (L (a3) 3)] 24 := ((((((r5_3).set _ _).set _ _).set _ _).set _ _).cells rfl).call hb6
  have r6_4 : Box w6 (w2.heap.size) #[.int .u64 (L (a2) 0), .int .u64 (L (a2) 1), .int .u64 (L (a2) 2), .int .u64 (L (a2) 3)] 24 := (((((r5_4).far _ _ (by simp only []; omega)).far _ _ (by simp only []; omega)).far _ _ (by simp only []; omega)).far _ _ (by simp only []; omega)).call hb6
  have b6 : Bl w w6 := Bl.trans (((((b5).setCell (by simp only []; omega) _).setCell (by simp only []; omega) _).setCell (by simp only []; omega) _).setCell (by simp only []; omega) _) hb6
  have z6 : w5.heap.size ≤ w6.heap.size := (by have := hb6.size; (try simp only [World.alloc, World.setCell, World.drew, Array.size_push, Array.size_modify] at this); omega)
  have y6 : w.heap.size ≤ w6.heap.size := b6.size
  clear r5_0 r5_0_c r5_0_f r5_0_l r5_1 r5_1_c r5_1_f r5_1_l r5_2 r5_2_c r5_2_f r5_2_l r5_3 r5_3_c r5_3_f r5_3_l r5_4 r5_4_c r5_4_f r5_4_l hb6 b5
  obtain ⟨r6_0_c, r6_0_f, r6_0_l⟩ := r6_0.tell
  obtain ⟨r6_1_c, r6_1_f, r6_1_l⟩ := r6_1.tell
  obtain ⟨r6_2_c, r6_2_f, r6_2_l⟩ := r6_2.tell
  obtain ⟨r6_3_c, r6_3_f, r6_3_l⟩ := r6_3.tell
  obtain ⟨r6_4_c, r6_4_f, r6_4_l⟩ := r6_4.tell
  go_wp2_with fail
  refine (n1 _).mono ?_
  rintro e _ ⟨rfl, rfl⟩
  go_wp2_with fail
  refine (h4 _).mono ?_
  rintro e w7 ⟨rfl, hb7⟩
  have r7_0 : Box w7 (w.heap.size) #[.int .u64 (L (x) 0), .int .u64 (L (x) 1), .int .u64 (L (x) 2), .int .u64 (L (x) 3)] 24 := (((((r6_0).far _ _ (by simp only []; omega)).far _ _ (by simp only []; omega)).far _ _ (by simp only []; omega)).far _ _ (by simp only []; omega)).call hb7
  have r7_1 : Box w7 (w.heap.size + 1) #[.int .u64 (L (y) 0), .int .u64 (L (y) 1), .int .u64 (L (y) 2), .int .u64 (L (y) 3)] 24 := (((((r6_1).far _ _ (by simp only []; omega)).far _ _ (by simp only []; omega)).far _ _ (by simp only []; omega)).far _ _ (by simp only []; omega)).call hb7
  have r7_2 : Box w7 (w.heap.size + 1 + 1) #[.int .u64 (L (m) 0), .int .u64 (L (m) 1), .int .u64 (L (m) 2), .int .u64 (L (m) 3)] 24 := (((((r6_2).far _ _ (by simp only []; omega)).far _ _ (by simp only []; omega)).far _ _ (by simp only []; omega)).far _ _ (by simp only []; omega)).call hb7
  have r7_3 : Box w7 (w1.heap.size) #[.int .u64 (L (a3) 0), .int .u64 (L (a3) 1), .int .u64 (L (a3) 2), .int .u64 (L (a3) 3)] 24 := (((((r6_3).far _ _ (by simp only []; omega)).far _ _ (by simp only []; omega)).far _ _ (by simp only []; omega)).far _ _ (by simp only []; omega)).call hb7
  have r7_4 : Box w7 (w2.heap.size) #[.int .u64 (L (a3) 0), .int .u64 (L (a3) 1), .int .u64 (L (a3) 2), .int .u64 (L (a3) 3)] 24 := ((((((r6_4).set _ _).set _ _).set _ _).set _ _).cells rfl).call hb7
  have b7 : Bl w w7 := Bl.trans (((((b6).setCell (by simp only []; omega) _).setCell (by simp only []; omega) _).setCell (by simp only []; omega) _).setCell (by simp only []; omega) _) hb7
  have z7 : w6.heap.size ≤ w7.heap.size := (by have := hb7.size; (try simp only [World.alloc, World.setCell, World.drew, Array.size_push, Array.size_modify] at this); omega)
  have y7 : w.heap.size ≤ w7.heap.size := b7.size
  clear r6_0 r6_0_c r6_0_f r6_0_l r6_1 r6_1_c r6_1_f r6_1_l r6_2 r6_2_c r6_2_f r6_2_l r6_3 r6_3_c r6_3_f r6_3_l r6_4 r6_4_c r6_4_f r6_4_l hb7 b6
  obtain ⟨r7_0_c, r7_0_f, r7_0_l⟩ := r7_0.tell
  obtain ⟨r7_1_c, r7_1_f, r7_1_l⟩ := r7_1.tell
  obtain ⟨r7_2_c, r7_2_f, r7_2_l⟩ := r7_2.tell
  obtain ⟨r7_3_c, r7_3_f, r7_3_l⟩ := r7_3.tell
  obtain ⟨r7_4_c, r7_4_f, r7_4_l⟩ := r7_4.tell
  go_wp2_with fail
  refine (k4 _).mono ?_
  rintro e w8 ⟨rfl, hb8⟩
  have r8_3 : Box w8 (w1.heap.size) #[.int .u64 (L (a4) 0), .int .u64 (L (a4) 1), .int .u64 (L (a4) 2), .int .u64 (L (a4) 3)] 24 := ((((((r7_3).set _ _).set _ _).set _ _).set _ _).cells rfl).call hb8
  have r8_4 : Box w8 (w2.heap.size) #[.int .u64 (L (a3) 0), .int .u64 (L (a3) 1), .int .u64 (L (a3) 2), .int .u64 (L (a3) 3)] 24 := (((((r7_4).far _ _ (by simp only []; omega)).far _ _ (by simp only []; omega)).far _ _ (by simp only []; omega)).far _ _ (by simp only []; omega)).call hb8
  have b8 : Bl w w8 := Bl.trans (((((b7).setCell (by simp only []; omega) _).setCell (by simp only []; omega) _).setCell (by simp only []; omega) _).setCell (by simp only []; omega) _) hb8
  have z8 : w7.heap.size ≤ w8.heap.size := (by have := hb8.size; (try simp only [World.alloc, World.setCell, World.drew, Array.size_push, Array.size_modify] at this); omega)
  have y8 : w.heap.size ≤ w8.heap.size := b8.size
  clear r7_0 r7_0_c r7_0_f r7_0_l r7_1 r7_1_c r7_1_f r7_1_l r7_2 r7_2_c r7_2_f r7_2_l r7_3 r7_3_c r7_3_f r7_3_l r7_4 r7_4_c r7_4_f r7_4_l hb8 b7
  obtain ⟨r8_3_c, r8_3_f, r8_3_l⟩ := r8_3.tell
  obtain ⟨r8_4_c, r8_4_f, r8_4_l⟩ := r8_4.tell
  go_wp2_with fail
  refine (n1 _).mono ?_
  rintro e _ ⟨rfl, rfl⟩
  go_wp2_with fail
  refine bodyPost_ret (v := .bool true) (by simp only [results, Try.results10]; go_simp) rfl ⟨rfl, ?_⟩
  exact ((((b8).setCell (by simp only []; omega) _).setCell (by simp only []; omega) _).setCell (by simp only []; omega) _).setCell (by simp only []; omega) _

set_option maxHeartbeats 1000000 in
set_option maxRecDepth 100000 in
theorem liftedU256Wide (os : Os) (started : os.Started) (H : Type) (enc : TypeId × Value → H) :
    ReturnsInHanded {} Try.checked os 10 .any (Rows.u256WideSpec.pre6 enc Try.prog Try.f10 Rows.u256WideRow.domain false) (Rows.u256WideSpec.post enc Try.prog Try.f10 false true false false) := by
  refine returnsInHanded_of_change (C := Try.checked) own started (by kernel_rfl) Try.func10
    (ChangeSpec.witness6 (enc := enc) (C := Try.checked) false ⟨#[], #[.agg #[.int .u64 0, .int .u64 0, .int .u64 0, .int .u64 0], .agg #[.int .u64 0, .int .u64 0, .int .u64 0, .int .u64 0], .agg #[.int .u64 0, .int .u64 0, .int .u64 0, .int .u64 0]], []⟩ 8 (by kernel_rfl) (by kernel_rfl) (by kernel_rfl) (by kernel_rfl)) ?_
  intro W base args ds gs before hval0 hW hcnd _
  have hval : ∀ (j : Nat) t v, Try.f10.params[j]? = some t → args[j]? = some v → Value.okWide Try.prog W .any base t v := hval0
  have hW' := hW
  obtain ⟨p, q, hA0, hV, rfl, hfz, hnd⟩ := hW
  have hA : DataW.TrodAll enc Try.prog W 0 (fun _ => true) true Try.f10.params.toList args.toList ds p := hA0
  rw [Try.params10] at hA hval
  obtain ⟨v0, vs0, d0, ds0, p0, q0, hargs, rfl, rfl, h0, r0⟩ := trodAll_cons hA
  obtain ⟨v1, vs1, d1, ds1, p1, q1, rfl, rfl, rfl, h1, r1⟩ := trodAll_cons r0
  obtain ⟨v2, vs2, d2, ds2, p2, q2, rfl, rfl, rfl, h2, r2⟩ := trodAll_cons r1
  obtain ⟨rfl, rfl, rfl⟩ := trodAll_nil r2
  obtain rfl : args = #[v0, v1, v2] := by cases args; simp_all
  obtain ⟨rfl, rfl⟩ := trodVars_none hV
  have lt0 : ∀ x ∈ p0, x.block < W.heap.size := by obtain ⟨m, hm⟩ := h0; exact DataW.trod_lt m _ _ _ hm
  obtain ⟨a0, g0, rfl⟩ := open_U (hval 0 24 v0 rfl rfl) h0
  have lt1 : ∀ x ∈ p1, x.block < W.heap.size := by obtain ⟨m, hm⟩ := h1; exact DataW.trod_lt m _ _ _ hm
  obtain ⟨a1, g1, rfl⟩ := open_U (hval 1 24 v1 rfl rfl) h1
  have lt2 : ∀ x ∈ p2, x.block < W.heap.size := by obtain ⟨m, hm⟩ := h2; exact DataW.trod_lt m _ _ _ hm
  obtain ⟨a2, g2, rfl⟩ := open_U (hval 2 24 v2 rfl rfl) h2
  clear hA0 hval0
  refine (walkU256Wide a0 a1 a2 g0 g1 g2 W).mono fun e W' ⟨he, bel⟩ => ?_
  subst he
  exact ⟨_, rfl, _, _, _, [], _, [], hW', trodAll_mk1 (shut_bool Try.underlying4 _), (trodAll_cons_mk (Below.trod laidOut (by kernel_rfl) (of_decide_eq_true (by kernel_rfl)) h0 bel.out lt0) (trodAll_cons_mk (Below.trod laidOut (by kernel_rfl) (of_decide_eq_true (by kernel_rfl)) h1 bel.out lt1) (trodAll_cons_mk (Below.trod laidOut (by kernel_rfl) (of_decide_eq_true (by kernel_rfl)) h2 bel.out lt2) trodAll_mk0))), rfl, bel.out.frame _, fun h => by cases h⟩

theorem provedU256Wide : Rows.U256WideSaid :=
  OpenClaim.holds_of_wide 10 Try.f10 rfl rfl rfl rfl rfl rfl rfl ⟨rfl, rfl, rfl, rfl, rfl⟩ rfl rfl rfl rfl rfl (by kernel_rfl) Try.func10 (by kernel_rfl)
    (of_decide_eq_true (by kernel_rfl)) (by unfold Func.isWrapper; first | (rw [if_pos (by decide +kernel)]; kernel_rfl) | (rw [if_neg (by decide +kernel)]; exact ⟨rfl, rfl⟩))
    (fun os started H enc _ => liftedU256Wide os started H enc)
end Go.Proofs.Ythgnmpjcbicdhaa
