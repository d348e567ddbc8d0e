/- The statement U256Arith, for every two numbers: no condition. -/
import Derived.Test.YthgnmpjcbicdhaaOver
import Derived.Test.YthgnmpjcbicdhaaRow
import Derived.Test.YthgnmpjcbicdhaaEqs
set_option linter.unusedSimpArgs false
set_option linter.unusedVariables false
namespace Go.Proofs.Ythgnmpjcbicdhaa
open Go Go.ChangeShapes Go.WideShapes Go.ChangeAt Go.RowKit

set_option maxHeartbeats 4000000 in
set_option maxRecDepth 100000 in
theorem walkU256Arith (x y : Nat) (hx : x < T256) (hy : y < T256) (w : World) :
    Calls Try.prog 8 #[U x, U y] w fun e w' => e = .returned (.bool true) ∧ Bl w w' := by
  have hg := guardU
  have qs := fun n w => run_eq_self n w
  have i1 := fun w => add_c x y hx hy w
  have j1 := fun w => radd_c x y hx hy w
  have i2 := fun w => sub_c x y hx hy w
  have j2 := fun w => rsub_c x y hx hy w
  have i3 := fun w => cmp_c x y hx hy w
  have j3 := fun w => rcmp_c x y hx hy w
  have i4 := fun w => mul_c x y hx hy w
  have j4 := fun w => rmul_c x y hx hy w
  have i5 := fun w => divmod_c x y hx hy w
  have j5 := fun w => rdivmod_c x y hx hy w
  have i6 := fun w => small_c x hx w
  have j6 := fun w => rsmall_c x hx w
  have i7 := fun w => from_c (y % 18446744073709551616) (Nat.mod_lt _ (by omega)) w
  have j7 := fun w => rfrom_c (y % 18446744073709551616) (Nat.mod_lt _ (by omega)) w
  rw [← L0] at i7 j7
  have n1 := fun w => num_c (eZ y) w
  have n2 := fun w => num_c (smE x) w
  generalize (x + y) % T256 = s1 at *
  generalize (x + y) / T256 = c1 at *
  generalize (x + T256 - y) % T256 = s2 at *
  generalize (if x < y then 1 else 0 : Nat) = c2 at *
  generalize cmpI x y = c3 at *
  generalize x * y / T256 = h4 at *
  generalize x * y % T256 = l4 at *
  generalize x / y = q5 at *
  generalize dmR x y = r5 at *
  generalize eZ y = f5 at *
  generalize smV x = v6 at *
  generalize smE x = f6 at *
  generalize y % 18446744073709551616 = y0 at *
  go_enter Try.func8, Try.ntmps8
  go_wp2_with fail
  refine (i1 _).mono ?_
  rintro e w1 ⟨rfl, hb1⟩
  have r1_0 : Box w1 (w.heap.size) #[.int .u64 (L (x) 0), .int .u64 (L (x) 1), .int .u64 (L (x) 2), .int .u64 (L (x) 3)] 24 := ((Box.new _ _ _ _ (by simp)).alloc _).call hb1
  have r1_1 : Box w1 (w.heap.size + 1) #[.int .u64 (L (y) 0), .int .u64 (L (y) 1), .int .u64 (L (y) 2), .int .u64 (L (y) 3)] 24 := (Box.new _ _ _ _ (by simp)).call hb1
  have b1 : Bl w w1 := Bl.trans (((Bl.refl w).alloc _).alloc _) hb1
  have z1 : w.heap.size + 1 + 1 ≤ w1.heap.size := (by have := hb1.size; (try simp only [World.alloc, World.setCell, World.drew, Array.size_push, Array.size_modify] at this); omega)
  have y1 : w.heap.size ≤ w1.heap.size := b1.size
  clear hb1
  obtain ⟨r1_0_c, r1_0_f, r1_0_l⟩ := r1_0.tell
  obtain ⟨r1_1_c, r1_1_f, r1_1_l⟩ := r1_1.tell
  have n1_0 : (w.heap.size = w1.heap.size) = False := (by simp only [eq_iff_iff, iff_false]; omega)
  have m1_0 : (w1.heap.size = w.heap.size) = False := (by simp only [eq_iff_iff, iff_false]; omega)
  have l1_0 : w.heap.size < w1.heap.size := (by omega)
  have n1_1 : (w.heap.size = w1.heap.size + 1) = False := (by simp only [eq_iff_iff, iff_false]; omega)
  have m1_1 : (w1.heap.size + 1 = w.heap.size) = False := (by simp only [eq_iff_iff, iff_false]; omega)
  have l1_1 : w.heap.size < w1.heap.size + 1 := (by omega)
  have n1_2 : (w.heap.size = w1.heap.size + 1 + 1) = False := (by simp only [eq_iff_iff, iff_false]; omega)
  have m1_2 : (w1.heap.size + 1 + 1 = w.heap.size) = False := (by simp only [eq_iff_iff, iff_false]; omega)
  have l1_2 : w.heap.size < w1.heap.size + 1 + 1 := (by omega)
  have n1_3 : (w.heap.size + 1 = w1.heap.size) = False := (by simp only [eq_iff_iff, iff_false]; omega)
  have m1_3 : (w1.heap.size = w.heap.size + 1) = False := (by simp only [eq_iff_iff, iff_false]; omega)
  have l1_3 : w.heap.size + 1 < w1.heap.size := (by omega)
  go_wp2_with fail
  refine (j1 _).mono ?_
  rintro e w2 ⟨rfl, hb2⟩
  have r2_0 : Box w2 (w.heap.size) #[.int .u64 (L (x) 0), .int .u64 (L (x) 1), .int .u64 (L (x) 2), .int .u64 (L (x) 3)] 24 := ((r1_0).alloc _).call hb2
  have r2_1 : Box w2 (w.heap.size + 1) #[.int .u64 (L (y) 0), .int .u64 (L (y) 1), .int .u64 (L (y) 2), .int .u64 (L (y) 3)] 24 := ((r1_1).alloc _).call hb2
  have r2_2 : Box w2 (w1.heap.size) #[.int .u64 (L (s1) 0), .int .u64 (L (s1) 1), .int .u64 (L (s1) 2), .int .u64 (L (s1) 3)] 24 := (Box.new _ _ _ _ (by simp)).call hb2
  have b2 : Bl w w2 := Bl.trans ((b1).alloc _) hb2
  have z2 : w1.heap.size + 1 ≤ w2.heap.size := (by have := hb2.size; (try simp only [World.alloc, World.setCell, World.drew, Array.size_push, Array.size_modify] at this); omega)
  have y2 : w.heap.size ≤ w2.heap.size := b2.size
  clear r1_0 r1_0_c r1_0_f r1_0_l r1_1 r1_1_c r1_1_f r1_1_l hb2 b1
  obtain ⟨r2_0_c, r2_0_f, r2_0_l⟩ := r2_0.tell
  obtain ⟨r2_1_c, r2_1_f, r2_1_l⟩ := r2_1.tell
  obtain ⟨r2_2_c, r2_2_f, r2_2_l⟩ := r2_2.tell
  have n2_0 : (w.heap.size = w2.heap.size) = False := (by simp only [eq_iff_iff, iff_false]; omega)
  have m2_0 : (w2.heap.size = w.heap.size) = False := (by simp only [eq_iff_iff, iff_false]; omega)
  have l2_0 : w.heap.size < w2.heap.size := (by omega)
  have n2_1 : (w.heap.size = w2.heap.size + 1) = False := (by simp only [eq_iff_iff, iff_false]; omega)
  have m2_1 : (w2.heap.size + 1 = w.heap.size) = False := (by simp only [eq_iff_iff, iff_false]; omega)
  have l2_1 : w.heap.size < w2.heap.size + 1 := (by omega)
  have n2_2 : (w.heap.size = w2.heap.size + 1 + 1) = False := (by simp only [eq_iff_iff, iff_false]; omega)
  have m2_2 : (w2.heap.size + 1 + 1 = w.heap.size) = False := (by simp only [eq_iff_iff, iff_false]; omega)
  have l2_2 : w.heap.size < w2.heap.size + 1 + 1 := (by omega)
  have n2_3 : (w.heap.size + 1 = w2.heap.size) = False := (by simp only [eq_iff_iff, iff_false]; omega)
  have m2_3 : (w2.heap.size = w.heap.size + 1) = False := (by simp only [eq_iff_iff, iff_false]; omega)
  have l2_3 : w.heap.size + 1 < w2.heap.size := (by omega)
  have n2_4 : (w1.heap.size = w2.heap.size) = False := (by simp only [eq_iff_iff, iff_false]; omega)
  have m2_4 : (w2.heap.size = w1.heap.size) = False := (by simp only [eq_iff_iff, iff_false]; omega)
  have l2_4 : w1.heap.size < w2.heap.size := (by omega)
  have n2_5 : (w1.heap.size = w2.heap.size + 1) = False := (by simp only [eq_iff_iff, iff_false]; omega)
  have m2_5 : (w2.heap.size + 1 = w1.heap.size) = False := (by simp only [eq_iff_iff, iff_false]; omega)
  have l2_5 : w1.heap.size < w2.heap.size + 1 := (by omega)
  have n2_6 : (w1.heap.size = w2.heap.size + 1 + 1) = False := (by simp only [eq_iff_iff, iff_false]; omega)
  have m2_6 : (w2.heap.size + 1 + 1 = w1.heap.size) = False := (by simp only [eq_iff_iff, iff_false]; omega)
  have l2_6 : w1.heap.size < w2.heap.size + 1 + 1 := (by omega)
  go_wp2_with fail
  refine (i2 _).mono ?_
  rintro e w3 ⟨rfl, hb3⟩
  have r3_0 : Box w3 (w.heap.size) #[.int .u64 (L (x) 0), .int .u64 (L (x) 1), .int .u64 (L (x) 2), .int .u64 (L (x) 3)] 24 := ((r2_0).alloc _).call hb3
  have r3_1 : Box w3 (w.heap.size + 1) #[.int .u64 (L (y) 0), .int .u64 (L (y) 1), .int .u64 (L (y) 2), .int .u64 (L (y) 3)] 24 := ((r2_1).alloc _).call hb3
  have r3_2 : Box w3 (w1.heap.size) #[.int .u64 (L (s1) 0), .int .u64 (L (s1) 1), .int .u64 (L (s1) 2), .int .u64 (L (s1) 3)] 24 := ((r2_2).alloc _).call hb3
  have r3_3 : Box w3 (w2.heap.size) #[.int .u64 (L (s1) 0), .int .u64 (L (s1) 1), .int .u64 (L (s1) 2), .int .u64 (L (s1) 3)] 24 := (Box.new _ _ _ _ (by simp)).call hb3
  have b3 : Bl w w3 := Bl.trans ((b2).alloc _) hb3
  have z3 : w2.heap.size + 1 ≤ w3.heap.size := (by have := hb3.size; (try simp only [World.alloc, World.setCell, World.drew, Array.size_push, Array.size_modify] at this); omega)
  have y3 : w.heap.size ≤ w3.heap.size := b3.size
  clear r2_0 r2_0_c r2_0_f r2_0_l r2_1 r2_1_c r2_1_f r2_1_l r2_2 r2_2_c r2_2_f r2_2_l hb3 b2
  obtain ⟨r3_0_c, r3_0_f, r3_0_l⟩ := r3_0.tell
  obtain ⟨r3_1_c, r3_1_f, r3_1_l⟩ := r3_1.tell
  obtain ⟨r3_2_c, r3_2_f, r3_2_l⟩ := r3_2.tell
  obtain ⟨r3_3_c, r3_3_f, r3_3_l⟩ := r3_3.tell
  go_wp2_with fail
  refine (j2 _).mono ?_
  rintro e w4 ⟨rfl, hb4⟩
  have r4_0 : Box w4 (w.heap.size) #[.int .u64 (L (x) 0), .int .u64 (L (x) 1), .int .u64 (L (x) 2), .int .u64 (L (x) 3)] 24 := (((((r3_0).far _ _ (by simp only []; omega)).far _ _ (by simp only []; omega)).far _ _ (by simp only []; omega)).far _ _ (by simp only []; omega)).call hb4
  have r4_1 : Box w4 (w.heap.size + 1) #[.int .u64 (L (y) 0), .int .u64 (L (y) 1), .int .u64 (L (y) 2), .int .u64 (L (y) 3)] 24 := (((((r3_1).far _ _ (by simp only []; omega)).far _ _ (by simp only []; omega)).far _ _ (by simp only []; omega)).far _ _ (by simp only []; omega)).call hb4
  have r4_2 : Box w4 (w1.heap.size) #[.int .u64 (L (s2) 0), .int .u64 (L (s2) 1), .int .u64 (L (s2) 2), .int .u64 (L (s2) 3)] 24 := ((((((r3_2).set _ _).set _ _).set _ _).set _ _).cells rfl).call hb4
  have r4_3 : Box w4 (w2.heap.size) #[.int .u64 (L (s1) 0), .int .u64 (L (s1) 1), .int .u64 (L (s1) 2), .int .u64 (L (s1) 3)] 24 := (((((r3_3).far _ _ (by simp only []; omega)).far _ _ (by simp only []; omega)).far _ _ (by simp only []; omega)).far _ _ (by simp only []; omega)).call hb4
  have b4 : Bl w w4 := Bl.trans (((((b3).setCell (by simp only []; omega) _).setCell (by simp only []; omega) _).setCell (by simp only []; omega) _).setCell (by simp only []; omega) _) hb4
  have z4 : w3.heap.size ≤ w4.heap.size := (by have := hb4.size; (try simp only [World.alloc, World.setCell, World.drew, Array.size_push, Array.size_modify] at this); omega)
  have y4 : w.heap.size ≤ w4.heap.size := b4.size
  clear r3_0 r3_0_c r3_0_f r3_0_l r3_1 r3_1_c r3_1_f r3_1_l r3_2 r3_2_c r3_2_f r3_2_l r3_3 r3_3_c r3_3_f r3_3_l hb4 b3
  obtain ⟨r4_0_c, r4_0_f, r4_0_l⟩ := r4_0.tell
  obtain ⟨r4_1_c, r4_1_f, r4_1_l⟩ := r4_1.tell
  obtain ⟨r4_2_c, r4_2_f, r4_2_l⟩ := r4_2.tell
  obtain ⟨r4_3_c, r4_3_f, r4_3_l⟩ := r4_3.tell
  go_wp2_with fail
  obtain ⟨w5, hw5⟩ : ∃ V : World, V = ((((w4.setCell ⟨w2.heap.size, 0, none⟩ (.int .u64 (L (s2) 0))).setCell ⟨w2.heap.size, 1, none⟩ (.int .u64 (L (s2) 1))).setCell ⟨w2.heap.size, 2, none⟩ (.int .u64 (L (s2) 2))).setCell ⟨w2.heap.size, 3, none⟩ (.int .u64 (L (s2) 3))) := ⟨_, rfl⟩
  have r5_0 : Box w5 (w.heap.size) #[.int .u64 (L (x) 0), .int .u64 (L (x) 1), .int .u64 (L (x) 2), .int .u64 (L (x) 3)] 24 := by rw [hw5]; exact ((((r4_0).far _ _ (by simp only []; omega)).far _ _ (by simp only []; omega)).far _ _ (by simp only []; omega)).far _ _ (by simp only []; omega)
  have r5_1 : Box w5 (w.heap.size + 1) #[.int .u64 (L (y) 0), .int .u64 (L (y) 1), .int .u64 (L (y) 2), .int .u64 (L (y) 3)] 24 := by rw [hw5]; exact ((((r4_1).far _ _ (by simp only []; omega)).far _ _ (by simp only []; omega)).far _ _ (by simp only []; omega)).far _ _ (by simp only []; omega)
  have r5_2 : Box w5 (w1.heap.size) #[.int .u64 (L (s2) 0), .int .u64 (L (s2) 1), .int .u64 (L (s2) 2), .int .u64 (L (s2) 3)] 24 := by rw [hw5]; exact ((((r4_2).far _ _ (by simp only []; omega)).far _ _ (by simp only []; omega)).far _ _ (by simp only []; omega)).far _ _ (by simp only []; omega)
  have r5_3 : Box w5 (w2.heap.size) #[.int .u64 (L (s2) 0), .int .u64 (L (s2) 1), .int .u64 (L (s2) 2), .int .u64 (L (s2) 3)] 24 := by rw [hw5]; exact (((((r4_3).set _ _).set _ _).set _ _).set _ _).cells rfl
  have b5 : Bl w w5 := by rw [hw5]; exact ((((b4).setCell (by simp only []; omega) _).setCell (by simp only []; omega) _).setCell (by simp only []; omega) _).setCell (by simp only []; omega) _
  have z5 : w4.heap.size ≤ w5.heap.size := (by rw [hw5]; simp only [World.alloc, World.setCell, World.drew, Array.size_push, Array.size_modify]; omega)
  have y5 : w.heap.size ≤ w5.heap.size := b5.size
  rw [← hw5]
  clear r4_0 r4_0_c r4_0_f r4_0_l r4_1 r4_1_c r4_1_f r4_1_l r4_2 r4_2_c r4_2_f r4_2_l r4_3 r4_3_c r4_3_f r4_3_l hw5 b4
  obtain ⟨r5_0_c, r5_0_f, r5_0_l⟩ := r5_0.tell
  obtain ⟨r5_1_c, r5_1_f, r5_1_l⟩ := r5_1.tell
  obtain ⟨r5_2_c, r5_2_f, r5_2_l⟩ := r5_2.tell
  obtain ⟨r5_3_c, r5_3_f, r5_3_l⟩ := r5_3.tell
  clear i1 j1 i2 j2
  have hk5 : ∀ V : World, Bl w5 V → (∀ o, V.cell? ⟨w1.heap.size, o, none⟩ = #[.int .u64 (L (s2) 0), .int .u64 (L (s2) 1), .int .u64 (L (s2) 2), .int .u64 (L (s2) 3)][o]?) ∧ (∀ o, V.cell? ⟨w2.heap.size, o, none⟩ = #[.int .u64 (L (s2) 0), .int .u64 (L (s2) 1), .int .u64 (L (s2) 2), .int .u64 (L (s2) 3)][o]?) ∧ (∀ o, V.cell? ⟨w.heap.size, o, none⟩ = #[.int .u64 (L (x) 0), .int .u64 (L (x) 1), .int .u64 (L (x) 2), .int .u64 (L (x) 3)][o]?) ∧ (∀ o, V.cell? ⟨w.heap.size + 1, o, none⟩ = #[.int .u64 (L (y) 0), .int .u64 (L (y) 1), .int .u64 (L (y) 2), .int .u64 (L (y) 3)][o]?) ∧ Bl w5 V := fun V hb => ⟨(r5_2.call hb).cell, (r5_3.call hb).cell, (r5_0.call hb).cell, (r5_1.call hb).cell, hb⟩
  have s5_0 := hk5 _ (Bl.refl w5).drew
  refine wp_region_noPanic ?_
  refine wp_region_held_drew (S := fun V : World => (∀ o, V.cell? ⟨w1.heap.size, o, none⟩ = #[.int .u64 (L (s2) 0), .int .u64 (L (s2) 1), .int .u64 (L (s2) 2), .int .u64 (L (s2) 3)][o]?) ∧ (∀ o, V.cell? ⟨w2.heap.size, o, none⟩ = #[.int .u64 (L (s2) 0), .int .u64 (L (s2) 1), .int .u64 (L (s2) 2), .int .u64 (L (s2) 3)][o]?) ∧ (∀ o, V.cell? ⟨w.heap.size, o, none⟩ = #[.int .u64 (L (x) 0), .int .u64 (L (x) 1), .int .u64 (L (x) 2), .int .u64 (L (x) 3)][o]?) ∧ (∀ o, V.cell? ⟨w.heap.size + 1, o, none⟩ = #[.int .u64 (L (y) 0), .int .u64 (L (y) 1), .int .u64 (L (y) 2), .int .u64 (L (y) 3)][o]?) ∧ Bl w5 V) (by kernel_rfl) ?_ (fun hHeld => ?_)
  · exact s5_0
  refine wpAnyH_take (i := 0) (oi := { dst := some 55 , op := Go.Op.load 24 ( Go.Operand.tmp 5 ) , type := 24 , pos := "u256.go:36" , after := #[ ] , guard := none }) (v := ?_) rfl (by kernel_rfl) (by kernel_rfl) (by kernel_rfl) (fun _ _ _ h => h) (Or.inl ⟨by rfl, ?_⟩) (by assumption) ?_
  rotate_left
  · intro w hSw; (try dsimp only at hSw); go_simp; first | done | with_reducible rfl
  (try simp only [Act.put, List.setIfInBounds_toArray, List.set_cons_zero, List.set_cons_succ])
  refine wpAnyH_take (i := 1) (oi := { dst := some 56 , op := Go.Op.load 24 ( Go.Operand.tmp 7 ) , type := 24 , pos := "u256.go:36" , after := #[ ] , guard := none }) (v := ?_) rfl (by kernel_rfl) (by kernel_rfl) (by kernel_rfl) (fun _ _ _ h => h) (Or.inl ⟨by rfl, ?_⟩) (by assumption) ?_
  rotate_left
  · intro w hSw; (try dsimp only at hSw); go_simp; first | done | with_reducible rfl
  (try simp only [Act.put, List.setIfInBounds_toArray, List.set_cons_zero, List.set_cons_succ])
  refine wpAnyH_take (i := 2) (oi := { dst := some 57 , op := Go.Op.binOp Go.BinOp.neq 24 ( Go.Operand.tmp 55 ) ( Go.Operand.tmp 56 ) 24 , type := 4 , pos := "u256.go:36" , after := #[ { on := 0 , ground := Go.Ground.data } , { on := 1 , ground := Go.Ground.data } ] , guard := none }) (v := ?_) rfl (by kernel_rfl) (by kernel_rfl) (by kernel_rfl) (fun _ _ _ h => h) (Or.inl ⟨by rfl, ?_⟩) (by assumption) ?_
  rotate_left
  · intro w hSw; refine run_neq_U (s2) _ _ _ _ _ _ _ _ ?_ ?_ w <;> rfl
  (try simp only [Act.put, List.setIfInBounds_toArray, List.set_cons_zero, List.set_cons_succ])
  refine wpAnyH_take (i := 3) (oi := { dst := some 58 , op := Go.Op.move ( Go.Operand.tmp 57 ) , type := 4 , pos := "u256.go:36" , after := #[ { on := 2 , ground := Go.Ground.data } ] , guard := none }) (v := ?_) rfl (by kernel_rfl) (by kernel_rfl) (by kernel_rfl) (fun _ _ _ h => h) (Or.inl ⟨by rfl, ?_⟩) (by assumption) ?_
  rotate_left
  · intro w hSw; (try dsimp only at hSw); go_simp; first | done | with_reducible rfl
  (try simp only [Act.put, List.setIfInBounds_toArray, List.set_cons_zero, List.set_cons_succ])
  refine wpAnyH_take (i := 4) (oi := { dst := some 59 , op := Go.Op.move ( Go.Operand.tmp 6 ) , type := 22 , pos := "u256.go:36" , after := #[ { on := 3 , ground := Go.Ground.guard } ] , guard := some ( 3 , false ) }) (v := ?_) rfl (by kernel_rfl) (by kernel_rfl) (by kernel_rfl) (fun _ _ _ h => h) (Or.inl ⟨by rfl, ?_⟩) (by assumption) ?_
  rotate_left
  · intro w hSw; (try dsimp only at hSw); go_simp; first | done | with_reducible rfl
  (try simp only [Act.put, List.setIfInBounds_toArray, List.set_cons_zero, List.set_cons_succ])
  refine wpAnyH_take (i := 5) (oi := { dst := some 60 , op := Go.Op.move ( Go.Operand.tmp 8 ) , type := 22 , pos := "u256.go:36" , after := #[ { on := 3 , ground := Go.Ground.guard } ] , guard := some ( 3 , false ) }) (v := ?_) rfl (by kernel_rfl) (by kernel_rfl) (by kernel_rfl) (fun _ _ _ h => h) (Or.inl ⟨by rfl, ?_⟩) (by assumption) ?_
  rotate_left
  · intro w hSw; (try dsimp only at hSw); go_simp; first | done | with_reducible rfl
  (try simp only [Act.put, List.setIfInBounds_toArray, List.set_cons_zero, List.set_cons_succ])
  refine wpAnyH_take (i := 6) (oi := { dst := some 61 , op := Go.Op.binOp Go.BinOp.neq 22 ( Go.Operand.tmp 59 ) ( Go.Operand.tmp 60 ) 22 , type := 4 , pos := "u256.go:36" , after := #[ { on := 4 , ground := Go.Ground.data } , { on := 5 , ground := Go.Ground.data } , { on := 3 , ground := Go.Ground.guard } ] , guard := some ( 3 , false ) }) (v := ?_) rfl (by kernel_rfl) (by kernel_rfl) (by kernel_rfl) (fun _ _ _ h => h) (Or.inl ⟨by rfl, ?_⟩) (by assumption) ?_
  rotate_left
  · intro w hSw; (try dsimp only at hSw); go_simp; first | done | with_reducible rfl
  (try simp only [Act.put, List.setIfInBounds_toArray, List.set_cons_zero, List.set_cons_succ])
  refine wpAnyH_take (i := 7) (oi := { dst := some 62 , op := Go.Op.pick ( Go.Operand.tmp 58 ) ( Go.Operand.const ( Go.Value.bool true ) ) ( Go.Operand.tmp 61 ) , type := 4 , pos := "u256.go:36" , after := #[ { on := 3 , ground := Go.Ground.data } , { on := 6 , ground := Go.Ground.data } ] , guard := none }) (v := ?_) rfl (by kernel_rfl) (by kernel_rfl) (by kernel_rfl) (fun _ _ _ h => h) (Or.inl ⟨by rfl, ?_⟩) (by assumption) ?_
  rotate_left
  · intro w hSw; (try dsimp only at hSw); go_simp; first | done | with_reducible rfl
  (try simp only [Act.put, List.setIfInBounds_toArray, List.set_cons_zero, List.set_cons_succ])
  refine wpAnyH_take (i := 8) (oi := { dst := some 63 , op := Go.Op.move ( Go.Operand.tmp 62 ) , type := 4 , pos := "u256.go:36" , after := #[ { on := 7 , ground := Go.Ground.data } , { on := 3 , ground := Go.Ground.chain } ] , guard := none }) (v := ?_) rfl (by kernel_rfl) (by kernel_rfl) (by kernel_rfl) (fun _ _ _ h => h) (Or.inl ⟨by rfl, ?_⟩) (by assumption) ?_
  rotate_left
  · intro w hSw; (try dsimp only at hSw); go_simp; first | done | with_reducible rfl
  (try simp only [Act.put, List.setIfInBounds_toArray, List.set_cons_zero, List.set_cons_succ])
  refine wpAnyH_take (i := 9) (oi := { dst := some 64 , op := Go.Op.load 24 ( Go.Operand.tmp 2 ) , type := 24 , pos := "u256.go:36" , after := #[ { on := 8 , ground := Go.Ground.guard } ] , guard := some ( 8 , false ) }) (v := ?_) rfl (by kernel_rfl) (by kernel_rfl) (by kernel_rfl) (fun _ _ _ h => h) (Or.inl ⟨by rfl, ?_⟩) (by assumption) ?_
  rotate_left
  · intro w hSw; (try dsimp only at hSw); go_simp; first | done | with_reducible rfl
  (try simp only [Act.put, List.setIfInBounds_toArray, List.set_cons_zero, List.set_cons_succ])
  refine wpAnyH_take (i := 10) (oi := { dst := some 65 , op := Go.Op.load 24 ( Go.Operand.tmp 3 ) , type := 24 , pos := "u256.go:36" , after := #[ { on := 8 , ground := Go.Ground.guard } ] , guard := some ( 8 , false ) }) (v := ?_) rfl (by kernel_rfl) (by kernel_rfl) (by kernel_rfl) (fun _ _ _ h => h) (Or.inl ⟨by rfl, ?_⟩) (by assumption) ?_
  rotate_left
  · intro w hSw; (try dsimp only at hSw); go_simp; first | done | with_reducible rfl
  (try simp only [Act.put, List.setIfInBounds_toArray, List.set_cons_zero, List.set_cons_succ])
  refine wpAnyH_take (i := 12) (oi := { dst := some 67 , op := Go.Op.load 24 ( Go.Operand.tmp 2 ) , type := 24 , pos := "u256.go:36" , after := #[ { on := 8 , ground := Go.Ground.guard } ] , guard := some ( 8 , false ) }) (v := ?_) rfl (by kernel_rfl) (by kernel_rfl) (by kernel_rfl) (fun _ _ _ h => h) (Or.inl ⟨by rfl, ?_⟩) (by assumption) ?_
  rotate_left
  · intro w hSw; (try dsimp only at hSw); go_simp; first | done | with_reducible rfl
  (try simp only [Act.put, List.setIfInBounds_toArray, List.set_cons_zero, List.set_cons_succ])
  refine wpAnyH_take (i := 13) (oi := { dst := some 68 , op := Go.Op.load 24 ( Go.Operand.tmp 3 ) , type := 24 , pos := "u256.go:36" , after := #[ { on := 8 , ground := Go.Ground.guard } ] , guard := some ( 8 , false ) }) (v := ?_) rfl (by kernel_rfl) (by kernel_rfl) (by kernel_rfl) (fun _ _ _ h => h) (Or.inl ⟨by rfl, ?_⟩) (by assumption) ?_
  rotate_left
  · intro w hSw; (try dsimp only at hSw); go_simp; first | done | with_reducible rfl
  (try simp only [Act.put, List.setIfInBounds_toArray, List.set_cons_zero, List.set_cons_succ])
  refine wpAnyH_ready (rs := [11]) (by kernel_rfl) (by simp) ?_
  refine AllReadyH.cons (o := { dst := some 66 , op := Go.Op.call { callee := Go.Callee.value ( Go.Operand.func 45 ) , args := #[ Go.Operand.tmp 64 , Go.Operand.tmp 65 ] , argTypes := #[ 24 , 24 ] } , type := 3 , pos := "u256.go:36" , after := #[ { on := 9 , ground := Go.Ground.data } , { on := 10 , ground := Go.Ground.data } , { on := 8 , ground := Go.Ground.chain } , { on := 8 , ground := Go.Ground.guard } ] , guard := some ( 8 , false ) }) rfl (fun K hK => ?_) AllReadyH.nil
  go_simp
  refine (i3 _).mono ?_
  rintro e w6 ⟨rfl, hb6⟩
  have g6 := (Bl.refl w5).drew.trans hb6
  have s6 := hk5 _ g6
  go_wp2_with fail
  refine hK.out _ _ ?_ (fun hHeld => ?_)
  · exact s6
  clear hK K
  (try simp only [Act.put, List.setIfInBounds_toArray, List.set_cons_zero, List.set_cons_succ])
  refine wpAnyH_ready (rs := [14]) (by kernel_rfl) (by simp) ?_
  refine AllReadyH.cons (o := { dst := some 69 , op := Go.Op.call { callee := Go.Callee.value ( Go.Operand.func 53 ) , args := #[ Go.Operand.tmp 67 , Go.Operand.tmp 68 ] , argTypes := #[ 24 , 24 ] } , type := 3 , pos := "u256.go:36" , after := #[ { on := 12 , ground := Go.Ground.data } , { on := 13 , ground := Go.Ground.data } , { on := 11 , ground := Go.Ground.chain } , { on := 8 , ground := Go.Ground.guard } ] , guard := some ( 8 , false ) }) rfl (fun K hK => ?_) AllReadyH.nil
  go_simp
  refine (j3 _).mono ?_
  rintro e w7 ⟨rfl, hb7⟩
  have g7 := g6.trans hb7
  have s7 := hk5 _ g7
  go_wp2_with fail
  refine hK.out _ _ ?_ (fun hHeld => ?_)
  · exact s7
  clear hK K
  (try simp only [Act.put, List.setIfInBounds_toArray, List.set_cons_zero, List.set_cons_succ])
  refine wpAnyH_take (i := 15) (oi := { dst := some 70 , op := Go.Op.binOp Go.BinOp.neq 3 ( Go.Operand.tmp 66 ) ( Go.Operand.tmp 69 ) 3 , type := 4 , pos := "u256.go:36" , after := #[ { on := 11 , ground := Go.Ground.data } , { on := 14 , ground := Go.Ground.data } , { on := 8 , ground := Go.Ground.guard } ] , guard := some ( 8 , false ) }) (v := ?_) rfl (by kernel_rfl) (by kernel_rfl) (by kernel_rfl) (fun _ _ _ h => h) (Or.inl ⟨by rfl, ?_⟩) (by assumption) ?_
  rotate_left
  · intro w hSw; (try dsimp only at hSw); go_simp; first | done | with_reducible rfl
  (try simp only [Act.put, List.setIfInBounds_toArray, List.set_cons_zero, List.set_cons_succ])
  refine wpAnyH_take (i := 16) (oi := { dst := some 71 , op := Go.Op.pick ( Go.Operand.tmp 63 ) ( Go.Operand.const ( Go.Value.bool true ) ) ( Go.Operand.tmp 70 ) , type := 4 , pos := "u256.go:36" , after := #[ { on := 8 , ground := Go.Ground.data } , { on := 15 , ground := Go.Ground.data } ] , guard := none }) (v := ?_) rfl (by kernel_rfl) (by kernel_rfl) (by kernel_rfl) (fun _ _ _ h => h) (Or.inl ⟨by rfl, ?_⟩) (by assumption) ?_
  rotate_left
  · intro w hSw; (try dsimp only at hSw); go_simp; first | done | with_reducible rfl
  (try simp only [Act.put, List.setIfInBounds_toArray, List.set_cons_zero, List.set_cons_succ])
  refine wpAnyH_done (by kernel_rfl) ?_ _
  refine NoPanic.normal ?_
  have r7_0 := r5_0.call g7
  have r7_1 := r5_1.call g7
  have b7 := b5.trans g7
  have z7 := g7.size
  have y7 : w.heap.size ≤ w7.heap.size := b7.size
  clear hk5 s5_0 r5_0 r5_0_c r5_0_f r5_0_l r5_1 r5_1_c r5_1_f r5_1_l r5_2 r5_2_c r5_2_f r5_2_l r5_3 r5_3_c r5_3_f r5_3_l b5 hb6 g6 s6 hb7 g7 s7
  obtain ⟨r7_0_c, r7_0_f, r7_0_l⟩ := r7_0.tell
  obtain ⟨r7_1_c, r7_1_f, r7_1_l⟩ := r7_1.tell
  go_wp2_with fail
  refine (i4 _).mono ?_
  rintro e w8 ⟨rfl, hb8⟩
  have r8_0 : Box w8 (w.heap.size) #[.int .u64 (L (x) 0), .int .u64 (L (x) 1), .int .u64 (L (x) 2), .int .u64 (L (x) 3)] 24 := (r7_0).call hb8
  have r8_1 : Box w8 (w.heap.size + 1) #[.int .u64 (L (y) 0), .int .u64 (L (y) 1), .int .u64 (L (y) 2), .int .u64 (L (y) 3)] 24 := (r7_1).call hb8
  have b8 : Bl w w8 := Bl.trans (b7) hb8
  have z8 : w7.heap.size ≤ w8.heap.size := (by have := hb8.size; (try simp only [World.alloc, World.setCell, World.drew, Array.size_push, Array.size_modify] at this); omega)
  have y8 : w.heap.size ≤ w8.heap.size := b8.size
  clear r7_0 r7_0_c r7_0_f r7_0_l r7_1 r7_1_c r7_1_f r7_1_l hb8 b7
  obtain ⟨r8_0_c, r8_0_f, r8_0_l⟩ := r8_0.tell
  obtain ⟨r8_1_c, r8_1_f, r8_1_l⟩ := r8_1.tell
  have n8_0 : (w.heap.size = w8.heap.size) = False := (by simp only [eq_iff_iff, iff_false]; omega)
  have m8_0 : (w8.heap.size = w.heap.size) = False := (by simp only [eq_iff_iff, iff_false]; omega)
  have l8_0 : w.heap.size < w8.heap.size := (by omega)
  have n8_1 : (w.heap.size = w8.heap.size + 1) = False := (by simp only [eq_iff_iff, iff_false]; omega)
  have m8_1 : (w8.heap.size + 1 = w.heap.size) = False := (by simp only [eq_iff_iff, iff_false]; omega)
  have l8_1 : w.heap.size < w8.heap.size + 1 := (by omega)
  have n8_2 : (w.heap.size = w8.heap.size + 1 + 1) = False := (by simp only [eq_iff_iff, iff_false]; omega)
  have m8_2 : (w8.heap.size + 1 + 1 = w.heap.size) = False := (by simp only [eq_iff_iff, iff_false]; omega)
  have l8_2 : w.heap.size < w8.heap.size + 1 + 1 := (by omega)
  have n8_3 : (w.heap.size = w8.heap.size + 1 + 1 + 1) = False := (by simp only [eq_iff_iff, iff_false]; omega)
  have m8_3 : (w8.heap.size + 1 + 1 + 1 = w.heap.size) = False := (by simp only [eq_iff_iff, iff_false]; omega)
  have l8_3 : w.heap.size < w8.heap.size + 1 + 1 + 1 := (by omega)
  have n8_4 : (w.heap.size + 1 = w8.heap.size) = False := (by simp only [eq_iff_iff, iff_false]; omega)
  have m8_4 : (w8.heap.size = w.heap.size + 1) = False := (by simp only [eq_iff_iff, iff_false]; omega)
  have l8_4 : w.heap.size + 1 < w8.heap.size := (by omega)
  go_wp2_with fail
  refine (j4 _).mono ?_
  rintro e w9 ⟨rfl, hb9⟩
  have r9_0 : Box w9 (w.heap.size) #[.int .u64 (L (x) 0), .int .u64 (L (x) 1), .int .u64 (L (x) 2), .int .u64 (L (x) 3)] 24 := (((r8_0).alloc _).alloc _).call hb9
  have r9_1 : Box w9 (w.heap.size + 1) #[.int .u64 (L (y) 0), .int .u64 (L (y) 1), .int .u64 (L (y) 2), .int .u64 (L (y) 3)] 24 := (((r8_1).alloc _).alloc _).call hb9
  have r9_4 : Box w9 (w8.heap.size) #[.int .u64 (L (h4) 0), .int .u64 (L (h4) 1), .int .u64 (L (h4) 2), .int .u64 (L (h4) 3)] 24 := ((Box.new _ _ _ _ (by simp)).alloc _).call hb9
  have r9_5 : Box w9 (w8.heap.size + 1) #[.int .u64 (L (l4) 0), .int .u64 (L (l4) 1), .int .u64 (L (l4) 2), .int .u64 (L (l4) 3)] 24 := (Box.new _ _ _ _ (by simp)).call hb9
  have b9 : Bl w w9 := Bl.trans (((b8).alloc _).alloc _) hb9
  have z9 : w8.heap.size + 1 + 1 ≤ w9.heap.size := (by have := hb9.size; (try simp only [World.alloc, World.setCell, World.drew, Array.size_push, Array.size_modify] at this); omega)
  have y9 : w.heap.size ≤ w9.heap.size := b9.size
  clear r8_0 r8_0_c r8_0_f r8_0_l r8_1 r8_1_c r8_1_f r8_1_l hb9 b8
  obtain ⟨r9_0_c, r9_0_f, r9_0_l⟩ := r9_0.tell
  obtain ⟨r9_1_c, r9_1_f, r9_1_l⟩ := r9_1.tell
  obtain ⟨r9_4_c, r9_4_f, r9_4_l⟩ := r9_4.tell
  obtain ⟨r9_5_c, r9_5_f, r9_5_l⟩ := r9_5.tell
  have n9_0 : (w.heap.size = w9.heap.size) = False := (by simp only [eq_iff_iff, iff_false]; omega)
  have m9_0 : (w9.heap.size = w.heap.size) = False := (by simp only [eq_iff_iff, iff_false]; omega)
  have l9_0 : w.heap.size < w9.heap.size := (by omega)
  have n9_1 : (w.heap.size = w9.heap.size + 1) = False := (by simp only [eq_iff_iff, iff_false]; omega)
  have m9_1 : (w9.heap.size + 1 = w.heap.size) = False := (by simp only [eq_iff_iff, iff_false]; omega)
  have l9_1 : w.heap.size < w9.heap.size + 1 := (by omega)
  have n9_2 : (w.heap.size = w9.heap.size + 1 + 1) = False := (by simp only [eq_iff_iff, iff_false]; omega)
  have m9_2 : (w9.heap.size + 1 + 1 = w.heap.size) = False := (by simp only [eq_iff_iff, iff_false]; omega)
  have l9_2 : w.heap.size < w9.heap.size + 1 + 1 := (by omega)
  have n9_3 : (w.heap.size = w9.heap.size + 1 + 1 + 1) = False := (by simp only [eq_iff_iff, iff_false]; omega)
  have m9_3 : (w9.heap.size + 1 + 1 + 1 = w.heap.size) = False := (by simp only [eq_iff_iff, iff_false]; omega)
  have l9_3 : w.heap.size < w9.heap.size + 1 + 1 + 1 := (by omega)
  have n9_4 : (w.heap.size + 1 = w9.heap.size) = False := (by simp only [eq_iff_iff, iff_false]; omega)
  have m9_4 : (w9.heap.size = w.heap.size + 1) = False := (by simp only [eq_iff_iff, iff_false]; omega)
  have l9_4 : w.heap.size + 1 < w9.heap.size := (by omega)
  have n9_5 : (w8.heap.size = w9.heap.size) = False := (by simp only [eq_iff_iff, iff_false]; omega)
  have m9_5 : (w9.heap.size = w8.heap.size) = False := (by simp only [eq_iff_iff, iff_false]; omega)
  have l9_5 : w8.heap.size < w9.heap.size := (by omega)
  have n9_6 : (w8.heap.size = w9.heap.size + 1) = False := (by simp only [eq_iff_iff, iff_false]; omega)
  have m9_6 : (w9.heap.size + 1 = w8.heap.size) = False := (by simp only [eq_iff_iff, iff_false]; omega)
  have l9_6 : w8.heap.size < w9.heap.size + 1 := (by omega)
  have n9_7 : (w8.heap.size = w9.heap.size + 1 + 1) = False := (by simp only [eq_iff_iff, iff_false]; omega)
  have m9_7 : (w9.heap.size + 1 + 1 = w8.heap.size) = False := (by simp only [eq_iff_iff, iff_false]; omega)
  have l9_7 : w8.heap.size < w9.heap.size + 1 + 1 := (by omega)
  have n9_8 : (w8.heap.size = w9.heap.size + 1 + 1 + 1) = False := (by simp only [eq_iff_iff, iff_false]; omega)
  have m9_8 : (w9.heap.size + 1 + 1 + 1 = w8.heap.size) = False := (by simp only [eq_iff_iff, iff_false]; omega)
  have l9_8 : w8.heap.size < w9.heap.size + 1 + 1 + 1 := (by omega)
  have n9_9 : (w8.heap.size + 1 = w9.heap.size) = False := (by simp only [eq_iff_iff, iff_false]; omega)
  have m9_9 : (w9.heap.size = w8.heap.size + 1) = False := (by simp only [eq_iff_iff, iff_false]; omega)
  have l9_9 : w8.heap.size + 1 < w9.heap.size := (by omega)
  go_wp2_with fail
  refine (i5 _).mono ?_
  rintro e w10 ⟨rfl, hb10⟩
  have r10_0 : Box w10 (w.heap.size) #[.int .u64 (L (x) 0), .int .u64 (L (x) 1), .int .u64 (L (x) 2), .int .u64 (L (x) 3)] 24 := (((r9_0).alloc _).alloc _).call hb10
  have r10_1 : Box w10 (w.heap.size + 1) #[.int .u64 (L (y) 0), .int .u64 (L (y) 1), .int .u64 (L (y) 2), .int .u64 (L (y) 3)] 24 := (((r9_1).alloc _).alloc _).call hb10
  have b10 : Bl w w10 := Bl.trans (((b9).alloc _).alloc _) hb10
  have z10 : w9.heap.size + 1 + 1 ≤ w10.heap.size := (by have := hb10.size; (try simp only [World.alloc, World.setCell, World.drew, Array.size_push, Array.size_modify] at this); omega)
  have y10 : w.heap.size ≤ w10.heap.size := b10.size
  clear r9_0 r9_0_c r9_0_f r9_0_l r9_1 r9_1_c r9_1_f r9_1_l r9_4 r9_4_c r9_4_f r9_4_l r9_5 r9_5_c r9_5_f r9_5_l hb10 b9
  obtain ⟨r10_0_c, r10_0_f, r10_0_l⟩ := r10_0.tell
  obtain ⟨r10_1_c, r10_1_f, r10_1_l⟩ := r10_1.tell
  have n10_0 : (w.heap.size = w10.heap.size) = False := (by simp only [eq_iff_iff, iff_false]; omega)
  have m10_0 : (w10.heap.size = w.heap.size) = False := (by simp only [eq_iff_iff, iff_false]; omega)
  have l10_0 : w.heap.size < w10.heap.size := (by omega)
  have n10_1 : (w.heap.size = w10.heap.size + 1) = False := (by simp only [eq_iff_iff, iff_false]; omega)
  have m10_1 : (w10.heap.size + 1 = w.heap.size) = False := (by simp only [eq_iff_iff, iff_false]; omega)
  have l10_1 : w.heap.size < w10.heap.size + 1 := (by omega)
  have n10_2 : (w.heap.size = w10.heap.size + 1 + 1) = False := (by simp only [eq_iff_iff, iff_false]; omega)
  have m10_2 : (w10.heap.size + 1 + 1 = w.heap.size) = False := (by simp only [eq_iff_iff, iff_false]; omega)
  have l10_2 : w.heap.size < w10.heap.size + 1 + 1 := (by omega)
  have n10_3 : (w.heap.size = w10.heap.size + 1 + 1 + 1) = False := (by simp only [eq_iff_iff, iff_false]; omega)
  have m10_3 : (w10.heap.size + 1 + 1 + 1 = w.heap.size) = False := (by simp only [eq_iff_iff, iff_false]; omega)
  have l10_3 : w.heap.size < w10.heap.size + 1 + 1 + 1 := (by omega)
  have n10_4 : (w.heap.size + 1 = w10.heap.size) = False := (by simp only [eq_iff_iff, iff_false]; omega)
  have m10_4 : (w10.heap.size = w.heap.size + 1) = False := (by simp only [eq_iff_iff, iff_false]; omega)
  have l10_4 : w.heap.size + 1 < w10.heap.size := (by omega)
  go_wp2_with fail
  refine (j5 _).mono ?_
  rintro e w11 ⟨rfl, hb11⟩
  have r11_0 : Box w11 (w.heap.size) #[.int .u64 (L (x) 0), .int .u64 (L (x) 1), .int .u64 (L (x) 2), .int .u64 (L (x) 3)] 24 := (((r10_0).alloc _).alloc _).call hb11
  have r11_1 : Box w11 (w.heap.size + 1) #[.int .u64 (L (y) 0), .int .u64 (L (y) 1), .int .u64 (L (y) 2), .int .u64 (L (y) 3)] 24 := (((r10_1).alloc _).alloc _).call hb11
  have r11_8 : Box w11 (w10.heap.size) #[.int .u64 (L (q5) 0), .int .u64 (L (q5) 1), .int .u64 (L (q5) 2), .int .u64 (L (q5) 3)] 24 := ((Box.new _ _ _ _ (by simp)).alloc _).call hb11
  have r11_9 : Box w11 (w10.heap.size + 1) #[.int .u64 (L (r5) 0), .int .u64 (L (r5) 1), .int .u64 (L (r5) 2), .int .u64 (L (r5) 3)] 24 := (Box.new _ _ _ _ (by simp)).call hb11
  have b11 : Bl w w11 := Bl.trans (((b10).alloc _).alloc _) hb11
  have z11 : w10.heap.size + 1 + 1 ≤ w11.heap.size := (by have := hb11.size; (try simp only [World.alloc, World.setCell, World.drew, Array.size_push, Array.size_modify] at this); omega)
  have y11 : w.heap.size ≤ w11.heap.size := b11.size
  clear r10_0 r10_0_c r10_0_f r10_0_l r10_1 r10_1_c r10_1_f r10_1_l hb11 b10
  obtain ⟨r11_0_c, r11_0_f, r11_0_l⟩ := r11_0.tell
  obtain ⟨r11_1_c, r11_1_f, r11_1_l⟩ := r11_1.tell
  obtain ⟨r11_8_c, r11_8_f, r11_8_l⟩ := r11_8.tell
  obtain ⟨r11_9_c, r11_9_f, r11_9_l⟩ := r11_9.tell
  have n11_0 : (w.heap.size = w11.heap.size) = False := (by simp only [eq_iff_iff, iff_false]; omega)
  have m11_0 : (w11.heap.size = w.heap.size) = False := (by simp only [eq_iff_iff, iff_false]; omega)
  have l11_0 : w.heap.size < w11.heap.size := (by omega)
  have n11_1 : (w.heap.size = w11.heap.size + 1) = False := (by simp only [eq_iff_iff, iff_false]; omega)
  have m11_1 : (w11.heap.size + 1 = w.heap.size) = False := (by simp only [eq_iff_iff, iff_false]; omega)
  have l11_1 : w.heap.size < w11.heap.size + 1 := (by omega)
  have n11_2 : (w.heap.size = w11.heap.size + 1 + 1) = False := (by simp only [eq_iff_iff, iff_false]; omega)
  have m11_2 : (w11.heap.size + 1 + 1 = w.heap.size) = False := (by simp only [eq_iff_iff, iff_false]; omega)
  have l11_2 : w.heap.size < w11.heap.size + 1 + 1 := (by omega)
  have n11_3 : (w.heap.size = w11.heap.size + 1 + 1 + 1) = False := (by simp only [eq_iff_iff, iff_false]; omega)
  have m11_3 : (w11.heap.size + 1 + 1 + 1 = w.heap.size) = False := (by simp only [eq_iff_iff, iff_false]; omega)
  have l11_3 : w.heap.size < w11.heap.size + 1 + 1 + 1 := (by omega)
  have n11_4 : (w.heap.size + 1 = w11.heap.size) = False := (by simp only [eq_iff_iff, iff_false]; omega)
  have m11_4 : (w11.heap.size = w.heap.size + 1) = False := (by simp only [eq_iff_iff, iff_false]; omega)
  have l11_4 : w.heap.size + 1 < w11.heap.size := (by omega)
  have n11_5 : (w10.heap.size = w11.heap.size) = False := (by simp only [eq_iff_iff, iff_false]; omega)
  have m11_5 : (w11.heap.size = w10.heap.size) = False := (by simp only [eq_iff_iff, iff_false]; omega)
  have l11_5 : w10.heap.size < w11.heap.size := (by omega)
  have n11_6 : (w10.heap.size = w11.heap.size + 1) = False := (by simp only [eq_iff_iff, iff_false]; omega)
  have m11_6 : (w11.heap.size + 1 = w10.heap.size) = False := (by simp only [eq_iff_iff, iff_false]; omega)
  have l11_6 : w10.heap.size < w11.heap.size + 1 := (by omega)
  have n11_7 : (w10.heap.size = w11.heap.size + 1 + 1) = False := (by simp only [eq_iff_iff, iff_false]; omega)
  have m11_7 : (w11.heap.size + 1 + 1 = w10.heap.size) = False := (by simp only [eq_iff_iff, iff_false]; omega)
  have l11_7 : w10.heap.size < w11.heap.size + 1 + 1 := (by omega)
  have n11_8 : (w10.heap.size = w11.heap.size + 1 + 1 + 1) = False := (by simp only [eq_iff_iff, iff_false]; omega)
  have m11_8 : (w11.heap.size + 1 + 1 + 1 = w10.heap.size) = False := (by simp only [eq_iff_iff, iff_false]; omega)
  have l11_8 : w10.heap.size < w11.heap.size + 1 + 1 + 1 := (by omega)
  have n11_9 : (w10.heap.size + 1 = w11.heap.size) = False := (by simp only [eq_iff_iff, iff_false]; omega)
  have m11_9 : (w11.heap.size = w10.heap.size + 1) = False := (by simp only [eq_iff_iff, iff_false]; omega)
  have l11_9 : w10.heap.size + 1 < w11.heap.size := (by omega)
  go_wp2_with fail
  refine (n1 _).mono ?_
  rintro e _ ⟨rfl, rfl⟩
  go_wp2_with fail
  refine (i6 _).mono ?_
  rintro e w12 ⟨rfl, hb12⟩
  have r12_0 : Box w12 (w.heap.size) #[.int .u64 (L (x) 0), .int .u64 (L (x) 1), .int .u64 (L (x) 2), .int .u64 (L (x) 3)] 24 := (((r11_0).alloc _).alloc _).call hb12
  have r12_1 : Box w12 (w.heap.size + 1) #[.int .u64 (L (y) 0), .int .u64 (L (y) 1), .int .u64 (L (y) 2), .int .u64 (L (y) 3)] 24 := (((r11_1).alloc _).alloc _).call hb12
  have b12 : Bl w w12 := Bl.trans (((b11).alloc _).alloc _) hb12
  have z12 : w11.heap.size + 1 + 1 ≤ w12.heap.size := (by have := hb12.size; (try simp only [World.alloc, World.setCell, World.drew, Array.size_push, Array.size_modify] at this); omega)
  have y12 : w.heap.size ≤ w12.heap.size := b12.size
  clear r11_0 r11_0_c r11_0_f r11_0_l r11_1 r11_1_c r11_1_f r11_1_l r11_8 r11_8_c r11_8_f r11_8_l r11_9 r11_9_c r11_9_f r11_9_l hb12 b11
  obtain ⟨r12_0_c, r12_0_f, r12_0_l⟩ := r12_0.tell
  obtain ⟨r12_1_c, r12_1_f, r12_1_l⟩ := r12_1.tell
  go_wp2_with fail
  refine (j6 _).mono ?_
  rintro e w13 ⟨rfl, hb13⟩
  have r13_1 : Box w13 (w.heap.size + 1) #[.int .u64 (L (y) 0), .int .u64 (L (y) 1), .int .u64 (L (y) 2), .int .u64 (L (y) 3)] 24 := (r12_1).call hb13
  have b13 : Bl w w13 := Bl.trans (b12) hb13
  have z13 : w12.heap.size ≤ w13.heap.size := (by have := hb13.size; (try simp only [World.alloc, World.setCell, World.drew, Array.size_push, Array.size_modify] at this); omega)
  have y13 : w.heap.size ≤ w13.heap.size := b13.size
  clear r12_0 r12_0_c r12_0_f r12_0_l r12_1 r12_1_c r12_1_f r12_1_l hb13 b12
  obtain ⟨r13_1_c, r13_1_f, r13_1_l⟩ := r13_1.tell
  go_wp2_with fail
  clear i3 j3 i4 j4 i5 j5 n1 i6 j6
  have hk13 : ∀ V : World, Bl w13 V → (∀ o, V.cell? ⟨w.heap.size + 1, o, none⟩ = #[.int .u64 (L (y) 0), .int .u64 (L (y) 1), .int .u64 (L (y) 2), .int .u64 (L (y) 3)][o]?) ∧ Bl w13 V := fun V hb => ⟨(r13_1.call hb).cell, hb⟩
  have s13_0 := hk13 _ (Bl.refl w13).drew
  refine wp_region_noPanic ?_
  refine wp_region_held_drew (S := fun V : World => (∀ o, V.cell? ⟨w.heap.size + 1, o, none⟩ = #[.int .u64 (L (y) 0), .int .u64 (L (y) 1), .int .u64 (L (y) 2), .int .u64 (L (y) 3)][o]?) ∧ Bl w13 V) (by kernel_rfl) ?_ (fun hHeld => ?_)
  · exact s13_0
  refine wpAnyH_take (i := 0) (oi := { dst := some 130 , op := Go.Op.move ( Go.Operand.tmp 19 ) , type := 22 , pos := "u256.go:51" , after := #[ ] , guard := none }) (v := ?_) rfl (by kernel_rfl) (by kernel_rfl) (by kernel_rfl) (fun _ _ _ h => h) (Or.inl ⟨by rfl, ?_⟩) (by assumption) ?_
  rotate_left
  · intro w hSw; (try dsimp only at hSw); go_simp; first | done | with_reducible rfl
  (try simp only [Act.put, List.setIfInBounds_toArray, List.set_cons_zero, List.set_cons_succ])
  refine wpAnyH_take (i := 1) (oi := { dst := some 131 , op := Go.Op.move ( Go.Operand.tmp 21 ) , type := 22 , pos := "u256.go:51" , after := #[ ] , guard := none }) (v := ?_) rfl (by kernel_rfl) (by kernel_rfl) (by kernel_rfl) (fun _ _ _ h => h) (Or.inl ⟨by rfl, ?_⟩) (by assumption) ?_
  rotate_left
  · intro w hSw; (try dsimp only at hSw); go_simp; first | done | with_reducible rfl
  (try simp only [Act.put, List.setIfInBounds_toArray, List.set_cons_zero, List.set_cons_succ])
  refine wpAnyH_take (i := 2) (oi := { dst := some 132 , op := Go.Op.binOp Go.BinOp.eql 22 ( Go.Operand.tmp 130 ) ( Go.Operand.tmp 131 ) 22 , type := 4 , pos := "u256.go:51" , after := #[ { on := 0 , ground := Go.Ground.data } , { on := 1 , ground := Go.Ground.data } ] , guard := none }) (v := ?_) rfl (by kernel_rfl) (by kernel_rfl) (by kernel_rfl) (fun _ _ _ h => h) (Or.inl ⟨by rfl, ?_⟩) (by assumption) ?_
  rotate_left
  · intro w hSw; (try dsimp only at hSw); go_simp; first | done | with_reducible rfl
  (try simp only [Act.put, List.setIfInBounds_toArray, List.set_cons_zero, List.set_cons_succ])
  refine wpAnyH_take (i := 3) (oi := { dst := some 133 , op := Go.Op.move ( Go.Operand.tmp 132 ) , type := 4 , pos := "u256.go:51" , after := #[ { on := 2 , ground := Go.Ground.data } ] , guard := none }) (v := ?_) rfl (by kernel_rfl) (by kernel_rfl) (by kernel_rfl) (fun _ _ _ h => h) (Or.inl ⟨by rfl, ?_⟩) (by assumption) ?_
  rotate_left
  · intro w hSw; (try dsimp only at hSw); go_simp; first | done | with_reducible rfl
  (try simp only [Act.put, List.setIfInBounds_toArray, List.set_cons_zero, List.set_cons_succ])
  refine wpAnyH_take (i := 4) (oi := { dst := some 134 , op := Go.Op.move ( Go.Operand.tmp 20 ) , type := 31 , pos := "u256.go:51" , after := #[ { on := 3 , ground := Go.Ground.guard } ] , guard := some ( 3 , true ) }) (v := ?_) rfl (by kernel_rfl) (by kernel_rfl) (by kernel_rfl) (fun _ _ _ h => h) (Or.inl ⟨by rfl, ?_⟩) (by assumption) ?_
  rotate_left
  · intro w hSw; (try dsimp only at hSw); go_simp; first | done | with_reducible rfl
  (try simp only [Act.put, List.setIfInBounds_toArray, List.set_cons_zero, List.set_cons_succ])
  refine wpAnyH_take (i := 6) (oi := { dst := some 136 , op := Go.Op.move ( Go.Operand.tmp 22 ) , type := 3 , pos := "u256.go:51" , after := #[ { on := 3 , ground := Go.Ground.guard } ] , guard := some ( 3 , true ) }) (v := ?_) rfl (by kernel_rfl) (by kernel_rfl) (by kernel_rfl) (fun _ _ _ h => h) (Or.inl ⟨by rfl, ?_⟩) (by assumption) ?_
  rotate_left
  · intro w hSw; (try dsimp only at hSw); go_simp; first | done | with_reducible rfl
  (try simp only [Act.put, List.setIfInBounds_toArray, List.set_cons_zero, List.set_cons_succ])
  refine wpAnyH_ready (rs := [5]) (by kernel_rfl) (by simp) ?_
  refine AllReadyH.cons (o := { dst := some 135 , op := Go.Op.call { callee := Go.Callee.value ( Go.Operand.func 20 ) , args := #[ Go.Operand.tmp 134 ] , argTypes := #[ 31 ] } , type := 3 , pos := "u256.go:51" , after := #[ { on := 4 , ground := Go.Ground.data } , { on := 3 , ground := Go.Ground.chain } , { on := 3 , ground := Go.Ground.guard } ] , guard := some ( 3 , true ) }) rfl (fun K hK => ?_) AllReadyH.nil
  go_simp
  refine (n2 _).mono ?_
  rintro e _ ⟨rfl, rfl⟩
  go_wp2_with fail
  refine hK.out _ _ ?_ (fun hHeld => ?_)
  · exact s13_0
  clear hK K
  (try simp only [Act.put, List.setIfInBounds_toArray, List.set_cons_zero, List.set_cons_succ])
  refine wpAnyH_take (i := 7) (oi := { dst := some 137 , op := Go.Op.binOp Go.BinOp.eql 3 ( Go.Operand.tmp 135 ) ( Go.Operand.tmp 136 ) 3 , type := 4 , pos := "u256.go:51" , after := #[ { on := 5 , ground := Go.Ground.data } , { on := 6 , ground := Go.Ground.data } , { on := 3 , ground := Go.Ground.guard } ] , guard := some ( 3 , true ) }) (v := ?_) rfl (by kernel_rfl) (by kernel_rfl) (by kernel_rfl) (fun _ _ _ h => h) (Or.inl ⟨by rfl, ?_⟩) (by assumption) ?_
  rotate_left
  · intro w hSw; (try dsimp only at hSw); go_simp; first | done | with_reducible rfl
  (try simp only [Act.put, List.setIfInBounds_toArray, List.set_cons_zero, List.set_cons_succ])
  refine wpAnyH_take (i := 8) (oi := { dst := some 138 , op := Go.Op.pick ( Go.Operand.tmp 133 ) ( Go.Operand.tmp 137 ) ( Go.Operand.const ( Go.Value.bool false ) ) , type := 4 , pos := "u256.go:51" , after := #[ { on := 3 , ground := Go.Ground.data } , { on := 7 , ground := Go.Ground.data } ] , guard := none }) (v := ?_) rfl (by kernel_rfl) (by kernel_rfl) (by kernel_rfl) (fun _ _ _ h => h) (Or.inl ⟨by rfl, ?_⟩) (by assumption) ?_
  rotate_left
  · intro w hSw; (try dsimp only at hSw); go_simp; first | done | with_reducible rfl
  (try simp only [Act.put, List.setIfInBounds_toArray, List.set_cons_zero, List.set_cons_succ])
  refine wpAnyH_take (i := 9) (oi := { dst := some 139 , op := Go.Op.move ( Go.Operand.tmp 138 ) , type := 4 , pos := "u256.go:51" , after := #[ { on := 8 , ground := Go.Ground.data } , { on := 5 , ground := Go.Ground.chain } ] , guard := none }) (v := ?_) rfl (by kernel_rfl) (by kernel_rfl) (by kernel_rfl) (fun _ _ _ h => h) (Or.inl ⟨by rfl, ?_⟩) (by assumption) ?_
  rotate_left
  · intro w hSw; (try dsimp only at hSw); go_simp; first | done | with_reducible rfl
  (try simp only [Act.put, List.setIfInBounds_toArray, List.set_cons_zero, List.set_cons_succ])
  refine wpAnyH_take (i := 10) (oi := { dst := some 140 , op := Go.Op.indexAddr 24 ( Go.Operand.tmp 3 ) ( Go.Operand.const ( Go.Value.int Go.IntKind.i64 0 ) ) , type := 0 , pos := "u256.go:51" , after := #[ { on := 9 , ground := Go.Ground.guard } ] , guard := some ( 9 , true ) }) (v := ?_) rfl (by kernel_rfl) (by kernel_rfl) (by kernel_rfl) (fun _ _ _ h => h) (Or.inl ⟨by rfl, ?_⟩) (by assumption) ?_
  rotate_left
  · intro w hSw; (try dsimp only at hSw); go_simp; first | done | with_reducible rfl
  (try simp only [Act.put, List.setIfInBounds_toArray, List.set_cons_zero, List.set_cons_succ])
  refine wpAnyH_take (i := 11) (oi := { dst := some 141 , op := Go.Op.load 22 ( Go.Operand.tmp 140 ) , type := 22 , pos := "u256.go:51" , after := #[ { on := 10 , ground := Go.Ground.data } , { on := 9 , ground := Go.Ground.guard } ] , guard := some ( 9 , true ) }) (v := ?_) rfl (by kernel_rfl) (by kernel_rfl) (by kernel_rfl) (fun _ _ _ h => h) (Or.inl ⟨by rfl, ?_⟩) (by assumption) ?_
  rotate_left
  · intro w hSw; (try dsimp only at hSw); go_simp; first | done | with_reducible rfl
  (try simp only [Act.put, List.setIfInBounds_toArray, List.set_cons_zero, List.set_cons_succ])
  refine wpAnyH_take (i := 13) (oi := { dst := some 143 , op := Go.Op.indexAddr 24 ( Go.Operand.tmp 3 ) ( Go.Operand.const ( Go.Value.int Go.IntKind.i64 0 ) ) , type := 0 , pos := "u256.go:51" , after := #[ { on := 9 , ground := Go.Ground.guard } ] , guard := some ( 9 , true ) }) (v := ?_) rfl (by kernel_rfl) (by kernel_rfl) (by kernel_rfl) (fun _ _ _ h => h) (Or.inl ⟨by rfl, ?_⟩) (by assumption) ?_
  rotate_left
  · intro w hSw; (try dsimp only at hSw); go_simp; first | done | with_reducible rfl
  (try simp only [Act.put, List.setIfInBounds_toArray, List.set_cons_zero, List.set_cons_succ])
  refine wpAnyH_take (i := 14) (oi := { dst := some 144 , op := Go.Op.load 22 ( Go.Operand.tmp 143 ) , type := 22 , pos := "u256.go:51" , after := #[ { on := 13 , ground := Go.Ground.data } , { on := 9 , ground := Go.Ground.guard } ] , guard := some ( 9 , true ) }) (v := ?_) rfl (by kernel_rfl) (by kernel_rfl) (by kernel_rfl) (fun _ _ _ h => h) (Or.inl ⟨by rfl, ?_⟩) (by assumption) ?_
  rotate_left
  · intro w hSw; (try dsimp only at hSw); go_simp; first | done | with_reducible rfl
  (try simp only [Act.put, List.setIfInBounds_toArray, List.set_cons_zero, List.set_cons_succ])
  refine wpAnyH_ready (rs := [12]) (by kernel_rfl) (by simp) ?_
  refine AllReadyH.cons (o := { dst := some 142 , op := Go.Op.call { callee := Go.Callee.value ( Go.Operand.func 40 ) , args := #[ Go.Operand.tmp 141 ] , argTypes := #[ 22 ] } , type := 24 , pos := "u256.go:51" , after := #[ { on := 11 , ground := Go.Ground.data } , { on := 9 , ground := Go.Ground.chain } , { on := 9 , ground := Go.Ground.guard } ] , guard := some ( 9 , true ) }) rfl (fun K hK => ?_) AllReadyH.nil
  go_simp
  refine (i7 _).mono ?_
  rintro e w14 ⟨rfl, hb14⟩
  have g14 := (Bl.refl w13).drew.trans hb14
  have s14 := hk13 _ g14
  go_wp2_with fail
  refine hK.out _ _ ?_ (fun hHeld => ?_)
  · exact s14
  clear hK K
  (try simp only [Act.put, List.setIfInBounds_toArray, List.set_cons_zero, List.set_cons_succ])
  refine wpAnyH_ready (rs := [15]) (by kernel_rfl) (by simp) ?_
  refine AllReadyH.cons (o := { dst := some 145 , op := Go.Op.call { callee := Go.Callee.value ( Go.Operand.func 59 ) , args := #[ Go.Operand.tmp 144 ] , argTypes := #[ 22 ] } , type := 24 , pos := "u256.go:51" , after := #[ { on := 14 , ground := Go.Ground.data } , { on := 12 , ground := Go.Ground.chain } , { on := 9 , ground := Go.Ground.guard } ] , guard := some ( 9 , true ) }) rfl (fun K hK => ?_) AllReadyH.nil
  go_simp
  refine (j7 _).mono ?_
  rintro e w15 ⟨rfl, hb15⟩
  have g15 := g14.trans hb15
  have s15 := hk13 _ g15
  go_wp2_with fail
  refine hK.out _ _ ?_ (fun hHeld => ?_)
  · exact s15
  clear hK K
  (try simp only [Act.put, List.setIfInBounds_toArray, List.set_cons_zero, List.set_cons_succ])
  refine wpAnyH_take (i := 16) (oi := { dst := some 146 , op := Go.Op.binOp Go.BinOp.eql 24 ( Go.Operand.tmp 142 ) ( Go.Operand.tmp 145 ) 24 , type := 4 , pos := "u256.go:51" , after := #[ { on := 12 , ground := Go.Ground.data } , { on := 15 , ground := Go.Ground.data } , { on := 9 , ground := Go.Ground.guard } ] , guard := some ( 9 , true ) }) (v := ?_) rfl (by kernel_rfl) (by kernel_rfl) (by kernel_rfl) (fun _ _ _ h => h) (Or.inl ⟨by rfl, ?_⟩) (by assumption) ?_
  rotate_left
  · intro w hSw; refine run_eql_U (y0) _ _ _ _ _ _ _ _ ?_ ?_ w <;> rfl
  (try simp only [Act.put, List.setIfInBounds_toArray, List.set_cons_zero, List.set_cons_succ])
  refine wpAnyH_take (i := 17) (oi := { dst := some 147 , op := Go.Op.pick ( Go.Operand.tmp 139 ) ( Go.Operand.tmp 146 ) ( Go.Operand.const ( Go.Value.bool false ) ) , type := 4 , pos := "u256.go:51" , after := #[ { on := 9 , ground := Go.Ground.data } , { on := 16 , ground := Go.Ground.data } ] , guard := none }) (v := ?_) rfl (by kernel_rfl) (by kernel_rfl) (by kernel_rfl) (fun _ _ _ h => h) (Or.inl ⟨by rfl, ?_⟩) (by assumption) ?_
  rotate_left
  · intro w hSw; (try dsimp only at hSw); go_simp; first | done | with_reducible rfl
  (try simp only [Act.put, List.setIfInBounds_toArray, List.set_cons_zero, List.set_cons_succ])
  refine wpAnyH_take (i := 18) (oi := { dst := some 4 , op := Go.Op.assign ( Go.Operand.tmp 147 ) , type := 4 , pos := "u256.go:51" , after := #[ { on := 17 , ground := Go.Ground.data } , { on := 15 , ground := Go.Ground.chain } , { on := 0 , ground := Go.Ground.phase } , { on := 1 , ground := Go.Ground.phase } , { on := 2 , ground := Go.Ground.phase } , { on := 3 , ground := Go.Ground.phase } , { on := 4 , ground := Go.Ground.phase } , { on := 5 , ground := Go.Ground.phase } , { on := 6 , ground := Go.Ground.phase } , { on := 7 , ground := Go.Ground.phase } , { on := 8 , ground := Go.Ground.phase } , { on := 9 , ground := Go.Ground.phase } , { on := 10 , ground := Go.Ground.phase } , { on := 11 , ground := Go.Ground.phase } , { on := 12 , ground := Go.Ground.phase } , { on := 13 , ground := Go.Ground.phase } , { on := 14 , ground := Go.Ground.phase } , { on := 15 , ground := Go.Ground.phase } , { on := 16 , ground := Go.Ground.phase } , { on := 17 , ground := Go.Ground.phase } ] , guard := none }) (v := ?_) rfl (by kernel_rfl) (by kernel_rfl) (by kernel_rfl) (fun _ _ _ h => h) (Or.inl ⟨by rfl, ?_⟩) (by assumption) ?_
  rotate_left
  · intro w hSw; (try dsimp only at hSw); go_simp; first | done | with_reducible rfl
  (try simp only [Act.put, List.setIfInBounds_toArray, List.set_cons_zero, List.set_cons_succ])
  refine wpAnyH_done (by kernel_rfl) ?_ _
  refine NoPanic.normal ?_
  have b15 := b13.trans g15
  have z15 := g15.size
  have y15 : w.heap.size ≤ w15.heap.size := b15.size
  clear hk13 s13_0 r13_1 r13_1_c r13_1_f r13_1_l b13 hb14 g14 s14 hb15 g15 s15
  go_wp2_with fail
  refine bodyPost_ret (v := .bool true) (by simp only [results, Try.results8]; go_simp) rfl ⟨rfl, ?_⟩
  exact b15

set_option maxHeartbeats 1000000 in
set_option maxRecDepth 100000 in
theorem liftedU256Arith (os : Os) (started : os.Started) (H : Type) (enc : TypeId × Value → H) :
    ReturnsInHanded {} Try.checked os 8 .any (Rows.u256ArithSpec.pre6 enc Try.prog Try.f8 Rows.u256ArithRow.domain false) (Rows.u256ArithSpec.post enc Try.prog Try.f8 false true false false) := by
  refine returnsInHanded_of_change (C := Try.checked) own started (by kernel_rfl) Try.func8
    (ChangeSpec.witness6 (enc := enc) (C := Try.checked) false ⟨#[], #[.agg #[.int .u64 0, .int .u64 0, .int .u64 0, .int .u64 0], .agg #[.int .u64 0, .int .u64 0, .int .u64 0, .int .u64 0]], []⟩ 8 (by kernel_rfl) (by kernel_rfl) (by kernel_rfl) (by kernel_rfl)) ?_
  intro W base args ds gs before hval0 hW hcnd _
  have hval : ∀ (j : Nat) t v, Try.f8.params[j]? = some t → args[j]? = some v → Value.okWide Try.prog W .any base t v := hval0
  have hW' := hW
  obtain ⟨p, q, hA0, hV, rfl, hfz, hnd⟩ := hW
  have hA : DataW.TrodAll enc Try.prog W 0 (fun _ => true) true Try.f8.params.toList args.toList ds p := hA0
  rw [Try.params8] at hA hval
  obtain ⟨v0, vs0, d0, ds0, p0, q0, hargs, rfl, rfl, h0, r0⟩ := trodAll_cons hA
  obtain ⟨v1, vs1, d1, ds1, p1, q1, rfl, rfl, rfl, h1, r1⟩ := trodAll_cons r0
  obtain ⟨rfl, rfl, rfl⟩ := trodAll_nil r1
  obtain rfl : args = #[v0, v1] := by cases args; simp_all
  obtain ⟨rfl, rfl⟩ := trodVars_none hV
  have lt0 : ∀ x ∈ p0, x.block < W.heap.size := by obtain ⟨m, hm⟩ := h0; exact DataW.trod_lt m _ _ _ hm
  obtain ⟨a0, g0, rfl⟩ := open_U (hval 0 24 v0 rfl rfl) h0
  have lt1 : ∀ x ∈ p1, x.block < W.heap.size := by obtain ⟨m, hm⟩ := h1; exact DataW.trod_lt m _ _ _ hm
  obtain ⟨a1, g1, rfl⟩ := open_U (hval 1 24 v1 rfl rfl) h1
  clear hA0 hval0
  refine (walkU256Arith a0 a1 g0 g1 W).mono fun e W' ⟨he, bel⟩ => ?_
  subst he
  exact ⟨_, rfl, _, _, _, [], _, [], hW', trodAll_mk1 (shut_bool Try.underlying4 _), (trodAll_cons_mk (Below.trod laidOut (by kernel_rfl) (of_decide_eq_true (by kernel_rfl)) h0 bel.out lt0) (trodAll_cons_mk (Below.trod laidOut (by kernel_rfl) (of_decide_eq_true (by kernel_rfl)) h1 bel.out lt1) trodAll_mk0)), rfl, bel.out.frame _, fun h => by cases h⟩

theorem provedU256Arith : Rows.U256ArithSaid :=
  OpenClaim.holds_of_wide 8 Try.f8 rfl rfl rfl rfl rfl rfl rfl ⟨rfl, rfl, rfl, rfl, rfl⟩ rfl rfl rfl rfl rfl (by kernel_rfl) Try.func8 (by kernel_rfl)
    (of_decide_eq_true (by kernel_rfl)) (by unfold Func.isWrapper; first | (rw [if_pos (by decide +kernel)]; kernel_rfl) | (rw [if_neg (by decide +kernel)]; exact ⟨rfl, rfl⟩))
    (fun os started H enc _ => liftedU256Arith os started H enc)
end Go.Proofs.Ythgnmpjcbicdhaa
