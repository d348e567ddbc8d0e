/- fees.step, and the document's sum and product. -/
import Derived.Test.YtcmjdmehooenkaaOver
import Derived.Test.YtcmjdmehooenkaaRShl
import Derived.Test.YtcmjdmehooenkaaTold
import Derived.Test.YtcmjdmehooenkaaEqNo
set_option linter.unusedSimpArgs false
set_option linter.unusedVariables false
namespace Go.Proofs.Ytcmjdmehooenkaa
open Go Go.RowKit

set_option maxHeartbeats 4000000 in
set_option maxRecDepth 100000 in
theorem step_c (base off target : Nat) (hb : base < T256) (ho : off < 18446744073709551616) (ht : target < 18446744073709551616) (w : World) :
    Calls Try.prog 18 #[U base, .int .u64 off, .int .u64 target] w fun e w' => e = .returned (U (mdV base off (8 * target))) ∧ Bl w w' := by
  go_enter Try.func18, Try.ntmps18
  have l8 : 8 * target < T256 := by rw [T256_eq]; omega
  have hw : 8 * target / T256 = 0 := Nat.div_eq_of_lt l8
  have hm : 8 * target % T256 = 8 * target := Nat.mod_eq_of_lt l8
  have i1 := fun w => from_c 8 (by omega) w
  have i2 := fun w => from_c target ht w
  have i3 := fun w => mul_c 8 target (by rw [T256_eq]; omega) (by rw [T256_eq]; omega) w
  rw [hw, hm] at i3
  have i4 := fun w => from_c off ho w
  have i5 := fun w => muldiv_c base off (8 * target) hb (by rw [T256_eq]; omega) l8 w
  clear hw hm l8
  generalize 8 * target = m at *
  generalize mdV base off m = v at *
  generalize mdE base off m = e at *
  go_wp2_with fail
  refine (i1 _).mono ?_
  rintro e w1 ⟨rfl, hb1⟩
  have r1_0 : Box w1 w.heap.size #[.int .u64 (L base 0), .int .u64 (L base 1), .int .u64 (L base 2), .int .u64 (L base 3)] 24 := ((Box.new _ _ _ _ (by simp)).alloc _).call hb1
  have r1_1 : Box w1 (w.heap.size + 1) #[.int .u64 0, .int .u64 0, .int .u64 0, .int .u64 0] 24 := (Box.new _ _ _ _ (by simp)).call hb1
  have b1 : Bl w w1 := Bl.trans (((Bl.refl w).alloc _).alloc _) hb1
  have z1 : w.heap.size + 1 + 1 ≤ w1.heap.size := (by have := hb1.size; (try simp only [World.alloc, World.setCell, World.drew, Array.size_push, Array.size_modify] at this); omega)
  have y1 : w.heap.size ≤ w1.heap.size := b1.size
  obtain ⟨B1, hB1⟩ : ∃ B, B = w.heap.size + 1 := ⟨_, rfl⟩
  (try rw [← hB1]); rw [← hB1] at r1_1
  obtain ⟨B0, hB0⟩ : ∃ B, B = w.heap.size := ⟨_, rfl⟩
  (try rw [← hB0]); rw [← hB0] at r1_0
  have lo0 : w.heap.size ≤ B0 := by omega
  have lo1 : w.heap.size ≤ B1 := by omega
  have n0_1 : (B0 = B1) = False := (by simp only [eq_iff_iff, iff_false]; omega)
  have n1_0 : (B1 = B0) = False := (by simp only [eq_iff_iff, iff_false]; omega)
  clear hB0
  clear hB1
  obtain ⟨r1_0_c, r1_0_f, r1_0_l⟩ := r1_0.tell
  obtain ⟨r1_1_c, r1_1_f, r1_1_l⟩ := r1_1.tell
  clear hb1
  go_wp2_with fail
  refine (i2 _).mono ?_
  rintro e w2 ⟨rfl, hb2⟩
  have r2_0 : Box w2 B0 #[.int .u64 (L base 0), .int .u64 (L base 1), .int .u64 (L base 2), .int .u64 (L base 3)] 24 := (r1_0).call hb2
  have r2_1 : Box w2 B1 #[.int .u64 0, .int .u64 0, .int .u64 0, .int .u64 0] 24 := (r1_1).call hb2
  have b2 : Bl w w2 := Bl.trans (b1) hb2
  have z2 : w1.heap.size ≤ w2.heap.size := (by have := hb2.size; (try simp only [World.alloc, World.setCell, World.drew, Array.size_push, Array.size_modify] at this); omega)
  have y2 : w.heap.size ≤ w2.heap.size := b2.size
  clear r1_0 r1_0_c r1_0_f r1_0_l r1_1 r1_1_c r1_1_f r1_1_l b1
  obtain ⟨r2_0_c, r2_0_f, r2_0_l⟩ := r2_0.tell
  obtain ⟨r2_1_c, r2_1_f, r2_1_l⟩ := r2_1.tell
  clear hb2
  go_wp2_with fail
  refine (i3 _).mono ?_
  rintro e w3 ⟨rfl, hb3⟩
  have r3_0 : Box w3 B0 #[.int .u64 (L base 0), .int .u64 (L base 1), .int .u64 (L base 2), .int .u64 (L base 3)] 24 := (r2_0).call hb3
  have r3_1 : Box w3 B1 #[.int .u64 0, .int .u64 0, .int .u64 0, .int .u64 0] 24 := (r2_1).call hb3
  have b3 : Bl w w3 := Bl.trans (b2) hb3
  have z3 : w2.heap.size ≤ w3.heap.size := (by have := hb3.size; (try simp only [World.alloc, World.setCell, World.drew, Array.size_push, Array.size_modify] at this); omega)
  have y3 : w.heap.size ≤ w3.heap.size := b3.size
  clear r2_0 r2_0_c r2_0_f r2_0_l r2_1 r2_1_c r2_1_f r2_1_l b2
  obtain ⟨r3_0_c, r3_0_f, r3_0_l⟩ := r3_0.tell
  obtain ⟨r3_1_c, r3_1_f, r3_1_l⟩ := r3_1.tell
  have d3_0 : (B0 = w3.heap.size) = False := (by simp only [eq_iff_iff, iff_false]; omega)
  have e3_0 : (w3.heap.size = B0) = False := (by simp only [eq_iff_iff, iff_false]; omega)
  have m3_0 : B0 < w3.heap.size := (by omega)
  have d3_1 : (B0 = w3.heap.size + 1) = False := (by simp only [eq_iff_iff, iff_false]; omega)
  have e3_1 : (w3.heap.size + 1 = B0) = False := (by simp only [eq_iff_iff, iff_false]; omega)
  have m3_1 : B0 < w3.heap.size + 1 := (by omega)
  have d3_2 : (B0 = w3.heap.size + 1 + 1) = False := (by simp only [eq_iff_iff, iff_false]; omega)
  have e3_2 : (w3.heap.size + 1 + 1 = B0) = False := (by simp only [eq_iff_iff, iff_false]; omega)
  have m3_2 : B0 < w3.heap.size + 1 + 1 := (by omega)
  have d3_3 : (B1 = w3.heap.size) = False := (by simp only [eq_iff_iff, iff_false]; omega)
  have e3_3 : (w3.heap.size = B1) = False := (by simp only [eq_iff_iff, iff_false]; omega)
  have m3_3 : B1 < w3.heap.size := (by omega)
  have d3_4 : (B1 = w3.heap.size + 1) = False := (by simp only [eq_iff_iff, iff_false]; omega)
  have e3_4 : (w3.heap.size + 1 = B1) = False := (by simp only [eq_iff_iff, iff_false]; omega)
  have m3_4 : B1 < w3.heap.size + 1 := (by omega)
  have d3_5 : (B1 = w3.heap.size + 1 + 1) = False := (by simp only [eq_iff_iff, iff_false]; omega)
  have e3_5 : (w3.heap.size + 1 + 1 = B1) = False := (by simp only [eq_iff_iff, iff_false]; omega)
  have m3_5 : B1 < w3.heap.size + 1 + 1 := (by omega)
  clear hb3
  go_wp2_with fail
  obtain ⟨w4, hw4⟩ : ∃ V : World, V = ((w3.alloc (.cells #[.int .u64 (L 0 0), .int .u64 (L 0 1), .int .u64 (L 0 2), .int .u64 (L 0 3)] 24)).alloc (.cells #[.int .u64 (L m 0), .int .u64 (L m 1), .int .u64 (L m 2), .int .u64 (L m 3)] 24)) := ⟨_, rfl⟩
  rw [← hw4]
  have r4_0 : Box w4 B0 #[.int .u64 (L base 0), .int .u64 (L base 1), .int .u64 (L base 2), .int .u64 (L base 3)] 24 := by rw [hw4]; exact ((r3_0).alloc _).alloc _
  have r4_1 : Box w4 B1 #[.int .u64 0, .int .u64 0, .int .u64 0, .int .u64 0] 24 := by rw [hw4]; exact ((r3_1).alloc _).alloc _
  have r4_3 : Box w4 (w3.heap.size + 1) #[.int .u64 (L m 0), .int .u64 (L m 1), .int .u64 (L m 2), .int .u64 (L m 3)] 24 := by rw [hw4]; exact Box.new _ _ _ _ (by simp)
  have b4 : Bl w w4 := by rw [hw4]; exact ((b3).alloc _).alloc _
  have z4 : w3.heap.size + 1 + 1 ≤ w4.heap.size := (by rw [hw4]; simp only [World.alloc, World.setCell, World.drew, Array.size_push, Array.size_modify]; omega)
  have y4 : w.heap.size ≤ w4.heap.size := b4.size
  obtain ⟨B3, hB3⟩ : ∃ B, B = w3.heap.size + 1 := ⟨_, rfl⟩
  (try rw [← hB3]); rw [← hB3] at r4_3
  have lo3 : w.heap.size ≤ B3 := by omega
  have n3_0 : (B3 = B0) = False := (by simp only [eq_iff_iff, iff_false]; have := r3_0_l; omega)
  have n0_3 : (B0 = B3) = False := (by simp only [eq_iff_iff, iff_false]; have := r3_0_l; omega)
  have n3_1 : (B3 = B1) = False := (by simp only [eq_iff_iff, iff_false]; have := r3_1_l; omega)
  have n1_3 : (B1 = B3) = False := (by simp only [eq_iff_iff, iff_false]; have := r3_1_l; omega)
  clear hB3
  clear r3_0 r3_0_c r3_0_f r3_0_l r3_1 r3_1_c r3_1_f r3_1_l b3
  obtain ⟨r4_0_c, r4_0_f, r4_0_l⟩ := r4_0.tell
  obtain ⟨r4_1_c, r4_1_f, r4_1_l⟩ := r4_1.tell
  obtain ⟨r4_3_c, r4_3_f, r4_3_l⟩ := r4_3.tell
  clear hw4
  refine wp_region_told_at (fun l0 D a' w' => ∃ (x19 : Value) (x20 : Value) (x21 : Value) (x22 : Value) (x23 : Value) (x18 : Value) (x24 : Value) (x25 : Value) (x9 : Value) (x10 : Value) (C8 : Nat), a' = ⟨(((((((((((l0).set 19 x19).set 20 x20).set 21 x21).set 22 x22).set 23 x23).set 18 x18).set 24 x24).set 25 x25).set 9 x9).set 10 x10).toArray, []⟩ ∧ Bl w4 w' ∧ (D 0 → x19 = U base) ∧ (D 1 → x20 = .int .u64 off) ∧ (D 2 → x21 = U off) ∧ (D 3 → x22 = U m) ∧ (D 4 → x23 = .tuple #[U v, .int .i64 e]) ∧ (D 5 → x18 = .tuple #[U v, .int .i64 e]) ∧ (D 6 → x24 = U v) ∧ (D 7 → x25 = .int .i64 e) ∧ (D 10 → x10 = .int .i64 e) ∧ Blk D 8 9 w4 w' x9 C8 #[.int .u64 0, .int .u64 0, .int .u64 0, .int .u64 0] #[.int .u64 (L v 0), .int .u64 (L v 1), .int .u64 (L v 2), .int .u64 (L v 3)] 24) (by kernel_rfl) (by kernel_rfl) ?_ ?_ ?_
  · exact fun l0 => ⟨l0.getD 19 undef, l0.getD 20 undef, l0.getD 21 undef, l0.getD 22 undef, l0.getD 23 undef, l0.getD 18 undef, l0.getD 24 undef, l0.getD 25 undef, l0.getD 9 undef, l0.getD 10 undef, 0, (by simp only [set_self]), (Bl.refl w4).drew, fun h => h.elim, fun h => h.elim, fun h => h.elim, fun h => h.elim, fun h => h.elim, fun h => h.elim, fun h => h.elim, fun h => h.elim, fun h => h.elim, Blk.start⟩
  · intro Inv hInv
    refine AllD.cons ?_ (AllD.cons ?_ (AllD.cons ?_ (AllD.cons ?_ (AllD.cons ?_ (AllD.cons ?_ (AllD.cons ?_ (AllD.cons ?_ (AllD.cons ?_ (AllD.cons ?_ (AllD.cons ?_ (AllD.nil)))))))))))
    · refine StepD.plain rfl rfl ?_
      intro D a' w' hn hp hI K hK
      obtain ⟨x19, x20, x21, x22, x23, x18, x24, x25, x9, x10, C8, ha, hbl, f0, f1, f2, f3, f4, f5, f6, f7, f10, g8⟩ := (hInv.out D a' w').1 hI
      subst ha; clear hI
      (try simp only [List.set_cons_zero, List.set_cons_succ])
      have bz := r4_0.call hbl
      obtain ⟨bc, bf, bl_⟩ := bz.tell
      go_simp
      exact hK.out _ _ ((hInv.out _ _ _).2 ⟨_, _, _, _, _, _, _, _, _, _, C8, rfl, hbl, fun _ => (by first | rfl | go_num | (simp; done)), told_next f1 (by decide), told_next f2 (by decide), told_next f3 (by decide), told_next f4 (by decide), told_next f5 (by decide), told_next f6 (by decide), told_next f7 (by decide), told_next f10 (by decide), g8.next (by decide) (by decide) (fun _ _ h => h)⟩)
    · refine StepD.plain rfl rfl ?_
      intro D a' w' hn hp hI K hK
      obtain ⟨x19, x20, x21, x22, x23, x18, x24, x25, x9, x10, C8, ha, hbl, f0, f1, f2, f3, f4, f5, f6, f7, f10, g8⟩ := (hInv.out D a' w').1 hI
      subst ha; clear hI
      (try simp only [List.set_cons_zero, List.set_cons_succ])
      go_simp
      exact hK.out _ _ ((hInv.out _ _ _).2 ⟨_, _, _, _, _, _, _, _, _, _, C8, rfl, hbl, told_next f0 (by decide), fun _ => (by first | rfl | go_num | (simp; done)), told_next f2 (by decide), told_next f3 (by decide), told_next f4 (by decide), told_next f5 (by decide), told_next f6 (by decide), told_next f7 (by decide), told_next f10 (by decide), g8.next (by decide) (by decide) (fun _ _ h => h)⟩)
    · refine StepD.plain rfl rfl ?_
      intro D a' w' hn hp hI K hK
      obtain ⟨x19, x20, x21, x22, x23, x18, x24, x25, x9, x10, C8, ha, hbl, f0, f1, f2, f3, f4, f5, f6, f7, f10, g8⟩ := (hInv.out D a' w').1 hI
      subst ha; clear hI
      (try simp only [List.set_cons_zero, List.set_cons_succ])
      obtain ⟨p2_1, _⟩ := hp
      have p2_1 : D 1 := p2_1 rfl
      have e1 := f1 p2_1; subst e1
      go_simp
      refine (i4 _).mono ?_
      rintro e w2 ⟨rfl, hbc⟩
      go_wp2_with fail
      exact hK.out _ _ ((hInv.out _ _ _).2 ⟨_, _, _, _, _, _, _, _, _, _, C8, rfl, hbl.trans hbc, told_next f0 (by decide), fun _ => rfl, fun _ => (by first | rfl | go_num | (simp; done)), told_next f3 (by decide), told_next f4 (by decide), told_next f5 (by decide), told_next f6 (by decide), told_next f7 (by decide), told_next f10 (by decide), g8.next (by decide) (by decide) (fun _ _ h => h.call hbc)⟩)
    · refine StepD.plain rfl rfl ?_
      intro D a' w' hn hp hI K hK
      obtain ⟨x19, x20, x21, x22, x23, x18, x24, x25, x9, x10, C8, ha, hbl, f0, f1, f2, f3, f4, f5, f6, f7, f10, g8⟩ := (hInv.out D a' w').1 hI
      subst ha; clear hI
      (try simp only [List.set_cons_zero, List.set_cons_succ])
      have bz := r4_3.call hbl
      obtain ⟨bc, bf, bl_⟩ := bz.tell
      go_simp
      exact hK.out _ _ ((hInv.out _ _ _).2 ⟨_, _, _, _, _, _, _, _, _, _, C8, rfl, hbl, told_next f0 (by decide), told_next f1 (by decide), told_next f2 (by decide), fun _ => (by first | rfl | go_num | (simp; done)), told_next f4 (by decide), told_next f5 (by decide), told_next f6 (by decide), told_next f7 (by decide), told_next f10 (by decide), g8.next (by decide) (by decide) (fun _ _ h => h)⟩)
    · refine StepD.plain rfl rfl ?_
      intro D a' w' hn hp hI K hK
      obtain ⟨x19, x20, x21, x22, x23, x18, x24, x25, x9, x10, C8, ha, hbl, f0, f1, f2, f3, f4, f5, f6, f7, f10, g8⟩ := (hInv.out D a' w').1 hI
      subst ha; clear hI
      (try simp only [List.set_cons_zero, List.set_cons_succ])
      obtain ⟨p4_0, p4_2, p4_3, _, _⟩ := hp
      have p4_0 : D 0 := p4_0 rfl
      have p4_2 : D 2 := p4_2 rfl
      have p4_3 : D 3 := p4_3 rfl
      have e0 := f0 p4_0; subst e0
      have e2 := f2 p4_2; subst e2
      have e3 := f3 p4_3; subst e3
      go_simp
      refine (i5 _).mono ?_
      rintro e w2 ⟨rfl, hbc⟩
      go_wp2_with fail
      exact hK.out _ _ ((hInv.out _ _ _).2 ⟨_, _, _, _, _, _, _, _, _, _, C8, rfl, hbl.trans hbc, fun _ => rfl, told_next f1 (by decide), fun _ => rfl, fun _ => rfl, fun _ => (by first | rfl | go_num | (simp; done)), told_next f5 (by decide), told_next f6 (by decide), told_next f7 (by decide), told_next f10 (by decide), g8.next (by decide) (by decide) (fun _ _ h => h.call hbc)⟩)
    · refine StepD.plain rfl rfl ?_
      intro D a' w' hn hp hI K hK
      obtain ⟨x19, x20, x21, x22, x23, x18, x24, x25, x9, x10, C8, ha, hbl, f0, f1, f2, f3, f4, f5, f6, f7, f10, g8⟩ := (hInv.out D a' w').1 hI
      subst ha; clear hI
      (try simp only [List.set_cons_zero, List.set_cons_succ])
      obtain ⟨p5_4, _⟩ := hp
      have p5_4 : D 4 := p5_4 rfl
      have e4 := f4 p5_4; subst e4
      go_simp
      exact hK.out _ _ ((hInv.out _ _ _).2 ⟨_, _, _, _, _, _, _, _, _, _, C8, rfl, hbl, told_next f0 (by decide), told_next f1 (by decide), told_next f2 (by decide), told_next f3 (by decide), fun _ => rfl, fun _ => (by first | rfl | go_num | (simp; done)), told_next f6 (by decide), told_next f7 (by decide), told_next f10 (by decide), g8.next (by decide) (by decide) (fun _ _ h => h)⟩)
    · refine StepD.plain rfl rfl ?_
      intro D a' w' hn hp hI K hK
      obtain ⟨x19, x20, x21, x22, x23, x18, x24, x25, x9, x10, C8, ha, hbl, f0, f1, f2, f3, f4, f5, f6, f7, f10, g8⟩ := (hInv.out D a' w').1 hI
      subst ha; clear hI
      (try simp only [List.set_cons_zero, List.set_cons_succ])
      obtain ⟨p6_5, _⟩ := hp
      have p6_5 : D 5 := p6_5 rfl
      have e5 := f5 p6_5; subst e5
      go_simp
      exact hK.out _ _ ((hInv.out _ _ _).2 ⟨_, _, _, _, _, _, _, _, _, _, C8, rfl, hbl, told_next f0 (by decide), told_next f1 (by decide), told_next f2 (by decide), told_next f3 (by decide), told_next f4 (by decide), fun _ => rfl, fun _ => (by first | rfl | go_num | (simp; done)), told_next f7 (by decide), told_next f10 (by decide), g8.next (by decide) (by decide) (fun _ _ h => h)⟩)
    · refine StepD.plain rfl rfl ?_
      intro D a' w' hn hp hI K hK
      obtain ⟨x19, x20, x21, x22, x23, x18, x24, x25, x9, x10, C8, ha, hbl, f0, f1, f2, f3, f4, f5, f6, f7, f10, g8⟩ := (hInv.out D a' w').1 hI
      subst ha; clear hI
      (try simp only [List.set_cons_zero, List.set_cons_succ])
      obtain ⟨p7_5, _, _⟩ := hp
      have p7_5 : D 5 := p7_5 rfl
      have e5 := f5 p7_5; subst e5
      go_simp
      exact hK.out _ _ ((hInv.out _ _ _).2 ⟨_, _, _, _, _, _, _, _, _, _, C8, rfl, hbl, told_next f0 (by decide), told_next f1 (by decide), told_next f2 (by decide), told_next f3 (by decide), told_next f4 (by decide), fun _ => rfl, told_next f6 (by decide), fun _ => (by first | rfl | go_num | (simp; done)), told_next f10 (by decide), g8.next (by decide) (by decide) (fun _ _ h => h)⟩)
    · refine StepD.plain rfl rfl ?_
      intro D a' w' hn hp hI K hK
      obtain ⟨x19, x20, x21, x22, x23, x18, x24, x25, x9, x10, C8, ha, hbl, f0, f1, f2, f3, f4, f5, f6, f7, f10, g8⟩ := (hInv.out D a' w').1 hI
      subst ha; clear hI
      (try simp only [List.set_cons_zero, List.set_cons_succ])
      go_simp
      exact hK.out _ _ ((hInv.out _ _ _).2 ⟨_, _, _, _, _, _, _, _, _, _, _, rfl, hbl.alloc _, told_next f0 (by decide), told_next f1 (by decide), told_next f2 (by decide), told_next f3 (by decide), told_next f4 (by decide), told_next f5 (by decide), told_next f6 (by decide), told_next f7 (by decide), told_next f10 (by decide), g8.made hn (by decide) hbl.size⟩)
    · refine StepD.plain rfl rfl ?_
      intro D a' w' hn hp hI K hK
      obtain ⟨x19, x20, x21, x22, x23, x18, x24, x25, x9, x10, C8, ha, hbl, f0, f1, f2, f3, f4, f5, f6, f7, f10, g8⟩ := (hInv.out D a' w').1 hI
      subst ha; clear hI
      (try simp only [List.set_cons_zero, List.set_cons_succ])
      obtain ⟨p9_8, p9_6, p9_4, p9_0, p9_1, p9_2, p9_3, _, p9_5, _, _, _, _⟩ := hp
      have p9_0 : D 0 := p9_0 rfl
      have p9_1 : D 1 := p9_1 rfl
      have p9_2 : D 2 := p9_2 rfl
      have p9_3 : D 3 := p9_3 rfl
      have p9_4 : D 4 := p9_4 rfl
      have p9_5 : D 5 := p9_5 rfl
      have p9_6 : D 6 := p9_6 rfl
      have p9_8 : D 8 := p9_8 rfl
      obtain ⟨e9, lw9, ha9, hz9⟩ := g8.2 p9_8
      subst e9
      have bz := hz9 hn
      obtain ⟨bc, bf, bl_⟩ := bz.tell
      clear ha9 hz9
      have e6 := f6 p9_6; subst e6
      go_simp
      have lwb : w4.heap.size ≤ C8 := lw9
      exact hK.out _ _ ((hInv.out _ _ _).2 ⟨_, _, _, _, _, _, _, _, _, _, C8, rfl, ((((hbl).setCell (by simp only []; omega) _).setCell (by simp only []; omega) _).setCell (by simp only []; omega) _).setCell (by simp only []; omega) _, told_next f0 (by decide), told_next f1 (by decide), told_next f2 (by decide), told_next f3 (by decide), told_next f4 (by decide), told_next f5 (by decide), fun _ => rfl, told_next f7 (by decide), told_next f10 (by decide), g8.filled p9_8 hn (fun h => (((((h).set _ _).set _ _).set _ _).set _ _).cells rfl)⟩)
    · refine StepD.plain rfl rfl ?_
      intro D a' w' hn hp hI K hK
      obtain ⟨x19, x20, x21, x22, x23, x18, x24, x25, x9, x10, C8, ha, hbl, f0, f1, f2, f3, f4, f5, f6, f7, f10, g8⟩ := (hInv.out D a' w').1 hI
      subst ha; clear hI
      (try simp only [List.set_cons_zero, List.set_cons_succ])
      obtain ⟨p10_7, p10_9, p10_0, p10_1, p10_2, p10_3, p10_4, p10_5, p10_6, _, p10_8, _, _⟩ := hp
      have p10_0 : D 0 := p10_0 rfl
      have p10_1 : D 1 := p10_1 rfl
      have p10_2 : D 2 := p10_2 rfl
      have p10_3 : D 3 := p10_3 rfl
      have p10_4 : D 4 := p10_4 rfl
      have p10_5 : D 5 := p10_5 rfl
      have p10_6 : D 6 := p10_6 rfl
      have p10_7 : D 7 := p10_7 rfl
      have p10_8 : D 8 := p10_8 rfl
      have p10_9 : D 9 := p10_9 rfl
      have e7 := f7 p10_7; subst e7
      go_simp
      exact hK.out _ _ ((hInv.out _ _ _).2 ⟨_, _, _, _, _, _, _, _, _, _, C8, rfl, hbl, told_next f0 (by decide), told_next f1 (by decide), told_next f2 (by decide), told_next f3 (by decide), told_next f4 (by decide), told_next f5 (by decide), told_next f6 (by decide), fun _ => rfl, fun _ => (by first | rfl | go_num | (simp; done)), g8.next (by decide) (by decide) (fun _ _ h => h)⟩)
  · intro D a' w5 hall hI
    obtain ⟨x19, x20, x21, x22, x23, x18, x24, x25, x9, x10, B4, ha, hb5, f0, f1, f2, f3, f4, f5, f6, f7, f10, g8⟩ := hI
    subst ha
    (try simp only [List.set_cons_zero, List.set_cons_succ])
    have e := f0 (hall 0 (by decide)); subst e
    have e := f1 (hall 1 (by decide)); subst e
    have e := f2 (hall 2 (by decide)); subst e
    have e := f3 (hall 3 (by decide)); subst e
    have e := f4 (hall 4 (by decide)); subst e
    have e := f5 (hall 5 (by decide)); subst e
    have e := f6 (hall 6 (by decide)); subst e
    have e := f7 (hall 7 (by decide)); subst e
    have e := f10 (hall 10 (by decide)); subst e
    obtain ⟨e, lw4, ha4, hz4⟩ := g8.2 (hall 8 (by decide))
    subst e
    have q4 := ha4 (hall 9 (by decide))
    clear ha4 hz4 g8
    clear hall
    (try simp only [Act.put, List.setIfInBounds_toArray, List.set_cons_zero, List.set_cons_succ])
    have lo4 : w.heap.size ≤ B4 := (by have := y4; omega)
    have n4_1 : (B4 = B1) = False := (by simp only [eq_iff_iff, iff_false]; have := r4_1_l; omega)
    have n1_4 : (B1 = B4) = False := (by simp only [eq_iff_iff, iff_false]; have := r4_1_l; omega)
    have r5_1 : Box w5 B1 #[.int .u64 0, .int .u64 0, .int .u64 0, .int .u64 0] 24 := r4_1.call hb5
    have r5_4 : Box w5 B4 #[.int .u64 (L v 0), .int .u64 (L v 1), .int .u64 (L v 2), .int .u64 (L v 3)] 24 := q4
    have b5 : Bl w w5 := Bl.trans b4 hb5
    have z5 : w4.heap.size ≤ w5.heap.size := (by have := hb5.size; omega)
    have y5 : w.heap.size ≤ w5.heap.size := b5.size
    clear r4_0 r4_0_c r4_0_f r4_0_l r4_1 r4_1_c r4_1_f r4_1_l r4_3 r4_3_c r4_3_f r4_3_l b4
    obtain ⟨r5_1_c, r5_1_f, r5_1_l⟩ := r5_1.tell
    obtain ⟨r5_4_c, r5_4_f, r5_4_l⟩ := r5_4.tell
    clear hb5 lw4
    go_wp2_with fail
    refine bodyPost_ret (v := U v) (by simp only [results, Try.results18]; go_simp) rfl ⟨rfl, ?_⟩
    exact ((((b5).setCell (by simp only []; omega) _).setCell (by simp only []; omega) _).setCell (by simp only []; omega) _).setCell (by simp only []; omega) _

set_option maxHeartbeats 4000000 in
set_option maxRecDepth 100000 in
theorem rsum_c (x y : Nat) (hx : x < T256) (hy : y < T256) (w : World) :
    Calls Try.prog 24 #[U x, U y] w fun e w' => e = .returned (.tuple #[U ((x + y) % T256), .bool ((((x + y) / T256 : Nat) : Int) == 0)]) ∧ Bl w w' := by
  go_enter Try.func24, Try.ntmps24
  have i1 := fun w => radd_c x y hx hy w
  generalize (x + y) % T256 = s at *
  generalize (x + y) / T256 = c at *
  go_wp2_with fail
  refine (i1 _).mono ?_
  rintro e w1 ⟨rfl, hb1⟩
  have r1_2 : Box w1 (w.heap.size + 1 + 1) #[.int .u64 0, .int .u64 0, .int .u64 0, .int .u64 0] 24 := (Box.new _ _ _ _ (by simp)).call hb1
  have b1 : Bl w w1 := Bl.trans ((((Bl.refl w).alloc _).alloc _).alloc _) hb1
  have z1 : w.heap.size + 1 + 1 + 1 ≤ w1.heap.size := (by have := hb1.size; (try simp only [World.alloc, World.setCell, World.drew, Array.size_push, Array.size_modify] at this); omega)
  have y1 : w.heap.size ≤ w1.heap.size := b1.size
  obtain ⟨B2, hB2⟩ : ∃ B, B = w.heap.size + 1 + 1 := ⟨_, rfl⟩
  (try rw [← hB2]); rw [← hB2] at r1_2
  have lo2 : w.heap.size ≤ B2 := by omega
  clear hB2
  obtain ⟨r1_2_c, r1_2_f, r1_2_l⟩ := r1_2.tell
  have d1_0 : (B2 = w1.heap.size) = False := (by simp only [eq_iff_iff, iff_false]; omega)
  have e1_0 : (w1.heap.size = B2) = False := (by simp only [eq_iff_iff, iff_false]; omega)
  have m1_0 : B2 < w1.heap.size := (by omega)
  have d1_1 : (B2 = w1.heap.size + 1) = False := (by simp only [eq_iff_iff, iff_false]; omega)
  have e1_1 : (w1.heap.size + 1 = B2) = False := (by simp only [eq_iff_iff, iff_false]; omega)
  have m1_1 : B2 < w1.heap.size + 1 := (by omega)
  clear hb1
  go_wp2_with fail
  refine bodyPost_ret (v := .tuple #[U s, .bool ((c : Int) == 0)]) (by simp only [results, Try.results24]; go_simp) rfl ⟨rfl, ?_⟩
  exact (((((b1).setCell (by simp only []; omega) _).setCell (by simp only []; omega) _).setCell (by simp only []; omega) _).setCell (by simp only []; omega) _).alloc _

set_option maxHeartbeats 4000000 in
set_option maxRecDepth 100000 in
theorem rproduct_c (x y : Nat) (hx : x < T256) (hy : y < T256) (w : World) :
    Calls Try.prog 34 #[U x, U y] w fun e w' => e = .returned (.tuple #[U (x * y % T256), .bool (decide (x * y / T256 = 0))]) ∧ Bl w w' := by
  go_enter Try.func34, Try.ntmps34
  have i1 := fun w => rmul_c x y hx hy w
  have hT := mul_hi_lt hx hy
  generalize x * y % T256 = s at *
  generalize x * y / T256 = c at *
  have hq := fun w => run_eq_U hT T256_pos w
  rw [← U_zero] at hq
  have hg := guardU
  go_wp2_with fail
  refine (i1 _).mono ?_
  rintro e w1 ⟨rfl, hb1⟩
  have r1_2 : Box w1 (w.heap.size + 1 + 1) #[.int .u64 0, .int .u64 0, .int .u64 0, .int .u64 0] 24 := (Box.new _ _ _ _ (by simp)).call hb1
  have b1 : Bl w w1 := Bl.trans ((((Bl.refl w).alloc _).alloc _).alloc _) hb1
  have z1 : w.heap.size + 1 + 1 + 1 ≤ w1.heap.size := (by have := hb1.size; (try simp only [World.alloc, World.setCell, World.drew, Array.size_push, Array.size_modify] at this); omega)
  have y1 : w.heap.size ≤ w1.heap.size := b1.size
  obtain ⟨B2, hB2⟩ : ∃ B, B = w.heap.size + 1 + 1 := ⟨_, rfl⟩
  (try rw [← hB2]); rw [← hB2] at r1_2
  have lo2 : w.heap.size ≤ B2 := by omega
  clear hB2
  obtain ⟨r1_2_c, r1_2_f, r1_2_l⟩ := r1_2.tell
  have d1_0 : (B2 = w1.heap.size) = False := (by simp only [eq_iff_iff, iff_false]; omega)
  have e1_0 : (w1.heap.size = B2) = False := (by simp only [eq_iff_iff, iff_false]; omega)
  have m1_0 : B2 < w1.heap.size := (by omega)
  have d1_1 : (B2 = w1.heap.size + 1) = False := (by simp only [eq_iff_iff, iff_false]; omega)
  have e1_1 : (w1.heap.size + 1 = B2) = False := (by simp only [eq_iff_iff, iff_false]; omega)
  have m1_1 : B2 < w1.heap.size + 1 := (by omega)
  have d1_2 : (B2 = w1.heap.size + 1 + 1) = False := (by simp only [eq_iff_iff, iff_false]; omega)
  have e1_2 : (w1.heap.size + 1 + 1 = B2) = False := (by simp only [eq_iff_iff, iff_false]; omega)
  have m1_2 : B2 < w1.heap.size + 1 + 1 := (by omega)
  clear hb1
  go_wp2_with fail
  obtain ⟨w2, hw2⟩ : ∃ V : World, V = ((w1.alloc (.cells #[.int .u64 (L c 0), .int .u64 (L c 1), .int .u64 (L c 2), .int .u64 (L c 3)] 24)).alloc (.cells #[.int .u64 (L s 0), .int .u64 (L s 1), .int .u64 (L s 2), .int .u64 (L s 3)] 24)) := ⟨_, rfl⟩
  rw [← hw2]
  have r2_2 : Box w2 B2 #[.int .u64 0, .int .u64 0, .int .u64 0, .int .u64 0] 24 := by rw [hw2]; exact ((r1_2).alloc _).alloc _
  have r2_3 : Box w2 w1.heap.size #[.int .u64 (L c 0), .int .u64 (L c 1), .int .u64 (L c 2), .int .u64 (L c 3)] 24 := by rw [hw2]; exact (Box.new _ _ _ _ (by simp)).alloc _
  have r2_4 : Box w2 (w1.heap.size + 1) #[.int .u64 (L s 0), .int .u64 (L s 1), .int .u64 (L s 2), .int .u64 (L s 3)] 24 := by rw [hw2]; exact Box.new _ _ _ _ (by simp)
  have b2 : Bl w w2 := by rw [hw2]; exact ((b1).alloc _).alloc _
  have z2 : w1.heap.size + 1 + 1 ≤ w2.heap.size := (by rw [hw2]; simp only [World.alloc, World.setCell, World.drew, Array.size_push, Array.size_modify]; omega)
  have y2 : w.heap.size ≤ w2.heap.size := b2.size
  obtain ⟨B4, hB4⟩ : ∃ B, B = w1.heap.size + 1 := ⟨_, rfl⟩
  (try rw [← hB4]); rw [← hB4] at r2_4
  obtain ⟨B3, hB3⟩ : ∃ B, B = w1.heap.size := ⟨_, rfl⟩
  (try rw [← hB3]); rw [← hB3] at r2_3
  have lo3 : w.heap.size ≤ B3 := by omega
  have lo4 : w.heap.size ≤ B4 := by omega
  have n3_2 : (B3 = B2) = False := (by simp only [eq_iff_iff, iff_false]; have := r1_2_l; omega)
  have n2_3 : (B2 = B3) = False := (by simp only [eq_iff_iff, iff_false]; have := r1_2_l; omega)
  have n3_4 : (B3 = B4) = False := (by simp only [eq_iff_iff, iff_false]; omega)
  have n4_3 : (B4 = B3) = False := (by simp only [eq_iff_iff, iff_false]; omega)
  have n4_2 : (B4 = B2) = False := (by simp only [eq_iff_iff, iff_false]; have := r1_2_l; omega)
  have n2_4 : (B2 = B4) = False := (by simp only [eq_iff_iff, iff_false]; have := r1_2_l; omega)
  clear hB3
  clear hB4
  clear r1_2 r1_2_c r1_2_f r1_2_l b1
  obtain ⟨r2_2_c, r2_2_f, r2_2_l⟩ := r2_2.tell
  obtain ⟨r2_3_c, r2_3_f, r2_3_l⟩ := r2_3.tell
  obtain ⟨r2_4_c, r2_4_f, r2_4_l⟩ := r2_4.tell
  clear hw2
  refine wp_region_told_at (fun l0 D a' w' => ∃ (x14 : Value) (x15 : Value) (x16 : Value) (x17 : Value) (x5 : Value), a' = ⟨((((((l0).set 14 x14).set 15 x15).set 16 x16).set 17 x17).set 5 x5).toArray, []⟩ ∧ Bl w w' ∧ (D 0 → x14 = U s) ∧ (D 1 → x15 = U c) ∧ (D 2 → x16 = .agg #[.int .u64 0, .int .u64 0, .int .u64 0, .int .u64 0]) ∧ (D 3 → x17 = .bool (decide (c = 0))) ∧ (D 5 → x5 = .bool (decide (c = 0))) ∧ OldB D 4 w' B2 #[.int .u64 0, .int .u64 0, .int .u64 0, .int .u64 0] #[.int .u64 (L s 0), .int .u64 (L s 1), .int .u64 (L s 2), .int .u64 (L s 3)] 24 ∧ w2.heap.size ≤ w'.heap.size ∧ Box w' B3 #[.int .u64 (L c 0), .int .u64 (L c 1), .int .u64 (L c 2), .int .u64 (L c 3)] 24 ∧ Box w' B4 #[.int .u64 (L s 0), .int .u64 (L s 1), .int .u64 (L s 2), .int .u64 (L s 3)] 24) (by kernel_rfl) (by kernel_rfl) ?_ ?_ ?_
  · exact fun l0 => ⟨l0.getD 14 undef, l0.getD 15 undef, l0.getD 16 undef, l0.getD 17 undef, l0.getD 5 undef, (by simp only [set_self]), (b2).drew, fun h => h.elim, fun h => h.elim, fun h => h.elim, fun h => h.elim, fun h => h.elim, OldB.start (r2_2).drew, Nat.le_refl _, (r2_3).drew, (r2_4).drew⟩
  · intro Inv hInv
    refine AllD.cons ?_ (AllD.cons ?_ (AllD.cons ?_ (AllD.cons ?_ (AllD.cons ?_ (AllD.cons ?_ (AllD.nil))))))
    · refine StepD.plain rfl rfl ?_
      intro D a' w' hn hp hI K hK
      obtain ⟨x14, x15, x16, x17, x5, ha, hbl, f0, f1, f2, f3, f5, o2, hsz, k3, k4⟩ := (hInv.out D a' w').1 hI
      subst ha; clear hI
      (try simp only [List.set_cons_zero, List.set_cons_succ])
      have bz := k4
      obtain ⟨bc, bf, bl_⟩ := bz.tell
      go_simp
      exact hK.out _ _ ((hInv.out _ _ _).2 ⟨_, _, _, _, _, rfl, hbl, fun _ => (by first | rfl | go_num | (simp; done)), told_next f1 (by decide), told_next f2 (by decide), told_next f3 (by decide), told_next f5 (by decide), o2.next (by decide) (fun _ h => h), hsz, k3, k4⟩)
    · refine StepD.plain rfl rfl ?_
      intro D a' w' hn hp hI K hK
      obtain ⟨x14, x15, x16, x17, x5, ha, hbl, f0, f1, f2, f3, f5, o2, hsz, k3, k4⟩ := (hInv.out D a' w').1 hI
      subst ha; clear hI
      (try simp only [List.set_cons_zero, List.set_cons_succ])
      have bz := k3
      obtain ⟨bc, bf, bl_⟩ := bz.tell
      go_simp
      exact hK.out _ _ ((hInv.out _ _ _).2 ⟨_, _, _, _, _, rfl, hbl, told_next f0 (by decide), fun _ => (by first | rfl | go_num | (simp; done)), told_next f2 (by decide), told_next f3 (by decide), told_next f5 (by decide), o2.next (by decide) (fun _ h => h), hsz, k3, k4⟩)
    · refine StepD.plain rfl rfl ?_
      intro D a' w' hn hp hI K hK
      obtain ⟨x14, x15, x16, x17, x5, ha, hbl, f0, f1, f2, f3, f5, o2, hsz, k3, k4⟩ := (hInv.out D a' w').1 hI
      subst ha; clear hI
      (try simp only [List.set_cons_zero, List.set_cons_succ])
      go_simp
      exact hK.out _ _ ((hInv.out _ _ _).2 ⟨_, _, _, _, _, rfl, hbl, told_next f0 (by decide), told_next f1 (by decide), fun _ => (by first | rfl | go_num | (simp; done)), told_next f3 (by decide), told_next f5 (by decide), o2.next (by decide) (fun _ h => h), hsz, k3, k4⟩)
    · refine StepD.plain rfl rfl ?_
      intro D a' w' hn hp hI K hK
      obtain ⟨x14, x15, x16, x17, x5, ha, hbl, f0, f1, f2, f3, f5, o2, hsz, k3, k4⟩ := (hInv.out D a' w').1 hI
      subst ha; clear hI
      (try simp only [List.set_cons_zero, List.set_cons_succ])
      obtain ⟨p3_1, p3_2, _, _⟩ := hp
      have p3_1 : D 1 := p3_1 rfl
      have p3_2 : D 2 := p3_2 rfl
      have e1 := f1 p3_1; subst e1
      have e2 := f2 p3_2; subst e2
      go_simp
      exact hK.out _ _ ((hInv.out _ _ _).2 ⟨_, _, _, _, _, rfl, hbl, told_next f0 (by decide), fun _ => rfl, fun _ => rfl, fun _ => (by first | rfl | go_num | (simp; done)), told_next f5 (by decide), o2.next (by decide) (fun _ h => h), hsz, k3, k4⟩)
    · refine StepD.plain rfl rfl ?_
      intro D a' w' hn hp hI K hK
      obtain ⟨x14, x15, x16, x17, x5, ha, hbl, f0, f1, f2, f3, f5, o2, hsz, k3, k4⟩ := (hInv.out D a' w').1 hI
      subst ha; clear hI
      (try simp only [List.set_cons_zero, List.set_cons_succ])
      obtain ⟨p4_0, _, _, _, _, _⟩ := hp
      have p4_0 : D 0 := p4_0 rfl
      have e0 := f0 p4_0; subst e0
      have bz := o2.2 hn
      obtain ⟨bc, bf, bl_⟩ := bz.tell
      go_simp
      exact hK.out _ _ ((hInv.out _ _ _).2 ⟨_, _, _, _, _, rfl, ((((hbl).setCell (by simp only []; omega) _).setCell (by simp only []; omega) _).setCell (by simp only []; omega) _).setCell (by simp only []; omega) _, fun _ => rfl, told_next f1 (by decide), told_next f2 (by decide), told_next f3 (by decide), told_next f5 (by decide), o2.filled hn (fun h => (((((h).set _ _).set _ _).set _ _).set _ _).cells rfl), (by simp [World.setCell]; omega), ((((k3).far _ _ (by simp only []; exact of_eq_false n3_2)).far _ _ (by simp only []; exact of_eq_false n3_2)).far _ _ (by simp only []; exact of_eq_false n3_2)).far _ _ (by simp only []; exact of_eq_false n3_2), ((((k4).far _ _ (by simp only []; exact of_eq_false n4_2)).far _ _ (by simp only []; exact of_eq_false n4_2)).far _ _ (by simp only []; exact of_eq_false n4_2)).far _ _ (by simp only []; exact of_eq_false n4_2)⟩)
    · refine StepD.plain rfl rfl ?_
      intro D a' w' hn hp hI K hK
      obtain ⟨x14, x15, x16, x17, x5, ha, hbl, f0, f1, f2, f3, f5, o2, hsz, k3, k4⟩ := (hInv.out D a' w').1 hI
      subst ha; clear hI
      (try simp only [List.set_cons_zero, List.set_cons_succ])
      obtain ⟨p5_3, p5_4, p5_0, p5_1, p5_2, _, _, _⟩ := hp
      have p5_0 : D 0 := p5_0 rfl
      have p5_1 : D 1 := p5_1 rfl
      have p5_2 : D 2 := p5_2 rfl
      have p5_3 : D 3 := p5_3 rfl
      have p5_4 : D 4 := p5_4 rfl
      have e3 := f3 p5_3; subst e3
      go_simp
      exact hK.out _ _ ((hInv.out _ _ _).2 ⟨_, _, _, _, _, rfl, hbl, told_next f0 (by decide), told_next f1 (by decide), told_next f2 (by decide), fun _ => rfl, fun _ => (by first | rfl | go_num | (simp; done)), o2.next (by decide) (fun _ h => h), hsz, k3, k4⟩)
  · intro D a' w3 hall hI
    obtain ⟨x14, x15, x16, x17, x5, ha, hb3, f0, f1, f2, f3, f5, o2, hsz, k3, k4⟩ := hI
    subst ha
    (try simp only [List.set_cons_zero, List.set_cons_succ])
    have e := f0 (hall 0 (by decide)); subst e
    have e := f1 (hall 1 (by decide)); subst e
    have e := f2 (hall 2 (by decide)); subst e
    have e := f3 (hall 3 (by decide)); subst e
    have e := f5 (hall 5 (by decide)); subst e
    have q2 := o2.1 (hall 4 (by decide))
    clear o2
    have q3 := k3
    clear k3
    have q4 := k4
    clear k4
    clear hall
    (try simp only [Act.put, List.setIfInBounds_toArray, List.set_cons_zero, List.set_cons_succ])
    have r3_2 : Box w3 B2 #[.int .u64 (L s 0), .int .u64 (L s 1), .int .u64 (L s 2), .int .u64 (L s 3)] 24 := q2
    have b3 : Bl w w3 := hb3
    have z3 : w2.heap.size ≤ w3.heap.size := (by skip; omega)
    have y3 : w.heap.size ≤ w3.heap.size := b3.size
    clear r2_2 r2_2_c r2_2_f r2_2_l r2_3 r2_3_c r2_3_f r2_3_l r2_4 r2_4_c r2_4_f r2_4_l b2
    obtain ⟨r3_2_c, r3_2_f, r3_2_l⟩ := r3_2.tell
    clear hb3 
    go_wp2_with fail
    refine bodyPost_ret (v := .tuple #[U s, .bool (decide (c = 0))]) (by simp only [results, Try.results34]; go_simp) rfl ⟨rfl, ?_⟩
    exact b3

end Go.Proofs.Ytcmjdmehooenkaa

