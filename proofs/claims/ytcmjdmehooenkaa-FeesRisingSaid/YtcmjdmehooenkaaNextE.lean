/- fees.NextExcess and the document's. -/
import Derived.Test.YtcmjdmehooenkaaStep
import Derived.Test.YtcmjdmehooenkaaFeesN
set_option linter.unusedSimpArgs false
set_option linter.unusedVariables false
namespace Go.Proofs.Ytcmjdmehooenkaa
open Go Go.RowKit

set_option maxHeartbeats 20000000 in
set_option maxRecDepth 100000 in
theorem nextexcess_c (excess used target : Nat) (he : excess < 18446744073709551616) (hu : used < 18446744073709551616) (ht : target < 18446744073709551616) (w : World) :
    Calls Try.prog 14 #[.int .u64 excess, .int .u64 used, .int .u64 target] w fun e w' => e = .returned (.tuple #[.int .u64 (neV excess used target), .int .i64 (neE excess used target)]) ∧ Bl w w' := by
  go_enter Try.func14, Try.ntmps14
  have f1 := fun w => from_c excess he w
  have f2 := fun w => from_c used hu w
  have f3 := fun w => from_c target ht w
  have h1T : excess < T256 := by rw [T256_eq]; omega
  have h2T : used < T256 := by rw [T256_eq]; omega
  have h3T : target < T256 := by rw [T256_eq]; omega
  have hsT : excess + used < T256 := by rw [T256_eq]; omega
  have a1 := fun w => add_c excess used h1T h2T w
  rw [Nat.mod_eq_of_lt hsT, Nat.div_eq_of_lt hsT] at a1
  have hs65 : excess + used < 36893488147419103232 := by omega
  have hVV : neV excess used target = if excess + used < target then 0 else if excess + used - target < 18446744073709551616 then excess + used - target else 0 := rfl
  have hEE : neE excess used target = if excess + used < target then 0 else if excess + used - target < 18446744073709551616 then 0 else 183 := rfl
  obtain ⟨V, hV⟩ : ∃ V, V = neV excess used target := ⟨_, rfl⟩
  obtain ⟨E, hE⟩ : ∃ E, E = neE excess used target := ⟨_, rfl⟩
  rw [← hV, ← hE]
  rw [← hV] at hVV
  rw [← hE] at hEE
  clear hV hE
  obtain ⟨s, hs⟩ : ∃ s, s = excess + used := ⟨_, rfl⟩
  rw [← hs] at a1 hsT hs65 hVV hEE
  have a2 := fun w => sub_c s target hsT h3T w
  clear hs
  go_wp2_with fail
  refine (f1 _).mono ?_
  rintro e w1 ⟨rfl, hb1⟩
  have b1 : Bl w w1 := Bl.trans (Bl.refl w) hb1
  have z1 : w.heap.size ≤ w1.heap.size := (by have := hb1.size; (try simp only [World.alloc, World.setCell, World.drew, Array.size_push, Array.size_modify] at this); omega)
  have y1 : w.heap.size ≤ w1.heap.size := b1.size
  clear hb1
  go_wp2_with fail
  refine (f2 _).mono ?_
  rintro e w2 ⟨rfl, hb2⟩
  have b2 : Bl w w2 := Bl.trans (b1) hb2
  have z2 : w1.heap.size ≤ w2.heap.size := (by have := hb2.size; (try simp only [World.alloc, World.setCell, World.drew, Array.size_push, Array.size_modify] at this); omega)
  have y2 : w.heap.size ≤ w2.heap.size := b2.size
  clear b1
  clear hb2
  go_wp2_with fail
  refine (a1 _).mono ?_
  rintro e w3 ⟨rfl, hb3⟩
  have b3 : Bl w w3 := Bl.trans (b2) hb3
  have z3 : w2.heap.size ≤ w3.heap.size := (by have := hb3.size; (try simp only [World.alloc, World.setCell, World.drew, Array.size_push, Array.size_modify] at this); omega)
  have y3 : w.heap.size ≤ w3.heap.size := b3.size
  clear b2
  clear hb3
  by_cases h : s < target
  · skip
    rw [if_pos h] at a2
    have V1 := Lib.hid (hVV.trans (if_pos h)); have E1 := Lib.hid (hEE.trans (if_pos h))
    generalize (s + T256 - target) % T256 = d at *
    clear hVV hEE h
    go_wp2_with fail
    obtain ⟨w4, hw4⟩ : ∃ V : World, V = (w3.alloc (.cells #[.int .u64 (L s 0), .int .u64 (L s 1), .int .u64 (L s 2), .int .u64 (L s 3)] 24)) := ⟨_, rfl⟩
    rw [← hw4]
    have r4_0 : Box w4 w3.heap.size #[.int .u64 (L s 0), .int .u64 (L s 1), .int .u64 (L s 2), .int .u64 (L s 3)] 24 := by rw [hw4]; exact Box.new _ _ _ _ (by simp)
    have b4 : Bl w w4 := by rw [hw4]; exact (b3).alloc _
    have z4 : w3.heap.size + 1 ≤ w4.heap.size := (by rw [hw4]; simp only [World.alloc, World.setCell, World.drew, Array.size_push, Array.size_modify]; omega)
    have y4 : w.heap.size ≤ w4.heap.size := b4.size
    obtain ⟨B0, hB0⟩ : ∃ B, B = w3.heap.size := ⟨_, rfl⟩
    (try rw [← hB0]); rw [← hB0] at r4_0
    have lo0 : w.heap.size ≤ B0 := by omega
    clear hB0
    clear b3
    obtain ⟨r4_0_c, r4_0_f, r4_0_l⟩ := r4_0.tell
    clear hw4
    refine wp_region_told_at (fun l0 D a' w' => ∃ (x23 : Value) (x24 : Value) (x25 : Value) (x26 : Value) (x22 : Value) (x27 : Value) (x28 : Value) (x10 : Value) (x11 : Value) (C7 : Nat), a' = ⟨((((((((((l0).set 23 x23).set 24 x24).set 25 x25).set 26 x26).set 22 x22).set 27 x27).set 28 x28).set 10 x10).set 11 x11).toArray, []⟩ ∧ Bl w4 w' ∧ (D 0 → x23 = U s) ∧ (D 1 → x24 = .int .u64 target) ∧ (D 2 → x25 = U target) ∧ (D 3 → x26 = .tuple #[U d, .int .u64 1]) ∧ (D 4 → x22 = .tuple #[U d, .int .u64 1]) ∧ (D 5 → x27 = U d) ∧ (D 6 → x28 = .int .u64 1) ∧ (D 9 → x11 = .int .u64 1) ∧ Blk D 7 8 w4 w' x10 C7 #[.int .u64 0, .int .u64 0, .int .u64 0, .int .u64 0] #[.int .u64 (L d 0), .int .u64 (L d 1), .int .u64 (L d 2), .int .u64 (L d 3)] 24) (by kernel_rfl) (by kernel_rfl) ?_ ?_ ?_
    · exact fun l0 => ⟨l0.getD 23 undef, l0.getD 24 undef, l0.getD 25 undef, l0.getD 26 undef, l0.getD 22 undef, l0.getD 27 undef, l0.getD 28 undef, l0.getD 10 undef, l0.getD 11 undef, 0, (by simp only [set_self]), (Bl.refl w4).drew, fun h => h.elim, fun h => h.elim, fun h => h.elim, fun h => h.elim, fun h => h.elim, fun h => h.elim, fun h => h.elim, fun h => h.elim, Blk.start⟩
    · intro Inv hInv
      refine AllD.cons ?_ (AllD.cons ?_ (AllD.cons ?_ (AllD.cons ?_ (AllD.cons ?_ (AllD.cons ?_ (AllD.cons ?_ (AllD.cons ?_ (AllD.cons ?_ (AllD.cons ?_ (AllD.nil))))))))))
      · refine StepD.plain rfl rfl ?_
        intro D a' w' hn hp hI K hK
        obtain ⟨x23, x24, x25, x26, x22, x27, x28, x10, x11, C7, ha, hbl, zf0, zf1, zf2, zf3, zf4, zf5, zf6, zf9, zg7⟩ := (hInv.out D a' w').1 hI
        subst ha; clear hI
        (try simp only [List.set_cons_zero, List.set_cons_succ])
        have bz := r4_0.call hbl
        obtain ⟨bc, bf, bl_⟩ := bz.tell
        go_simp
        exact hK.out _ _ ((hInv.out _ _ _).2 ⟨_, _, _, _, _, _, _, _, _, C7, rfl, hbl, fun _ => (by first | rfl | go_num | (simp; done)), told_next zf1 (by decide), told_next zf2 (by decide), told_next zf3 (by decide), told_next zf4 (by decide), told_next zf5 (by decide), told_next zf6 (by decide), told_next zf9 (by decide), zg7.next (by decide) (by decide) (fun _ _ h => h)⟩)
      · refine StepD.plain rfl rfl ?_
        intro D a' w' hn hp hI K hK
        obtain ⟨x23, x24, x25, x26, x22, x27, x28, x10, x11, C7, ha, hbl, zf0, zf1, zf2, zf3, zf4, zf5, zf6, zf9, zg7⟩ := (hInv.out D a' w').1 hI
        subst ha; clear hI
        (try simp only [List.set_cons_zero, List.set_cons_succ])
        go_simp
        exact hK.out _ _ ((hInv.out _ _ _).2 ⟨_, _, _, _, _, _, _, _, _, C7, rfl, hbl, told_next zf0 (by decide), fun _ => (by first | rfl | go_num | (simp; done)), told_next zf2 (by decide), told_next zf3 (by decide), told_next zf4 (by decide), told_next zf5 (by decide), told_next zf6 (by decide), told_next zf9 (by decide), zg7.next (by decide) (by decide) (fun _ _ h => h)⟩)
      · refine StepD.plain rfl rfl ?_
        intro D a' w' hn hp hI K hK
        obtain ⟨x23, x24, x25, x26, x22, x27, x28, x10, x11, C7, ha, hbl, zf0, zf1, zf2, zf3, zf4, zf5, zf6, zf9, zg7⟩ := (hInv.out D a' w').1 hI
        subst ha; clear hI
        (try simp only [List.set_cons_zero, List.set_cons_succ])
        obtain ⟨p2_1, _⟩ := hp
        have p2_1 : D 1 := p2_1 rfl
        have e1 := zf1 p2_1; subst e1
        go_simp
        refine (f3 _).mono ?_
        rintro e w2 ⟨rfl, hbc⟩
        go_wp2_with fail
        exact hK.out _ _ ((hInv.out _ _ _).2 ⟨_, _, _, _, _, _, _, _, _, C7, rfl, hbl.trans hbc, told_next zf0 (by decide), fun _ => rfl, fun _ => (by first | rfl | go_num | (simp; done)), told_next zf3 (by decide), told_next zf4 (by decide), told_next zf5 (by decide), told_next zf6 (by decide), told_next zf9 (by decide), zg7.next (by decide) (by decide) (fun _ _ h => h.call hbc)⟩)
      · refine StepD.plain rfl rfl ?_
        intro D a' w' hn hp hI K hK
        obtain ⟨x23, x24, x25, x26, x22, x27, x28, x10, x11, C7, ha, hbl, zf0, zf1, zf2, zf3, zf4, zf5, zf6, zf9, zg7⟩ := (hInv.out D a' w').1 hI
        subst ha; clear hI
        (try simp only [List.set_cons_zero, List.set_cons_succ])
        obtain ⟨p3_0, p3_2, _, _⟩ := hp
        have p3_0 : D 0 := p3_0 rfl
        have p3_2 : D 2 := p3_2 rfl
        have e0 := zf0 p3_0; subst e0
        have e2 := zf2 p3_2; subst e2
        go_simp
        refine (a2 _).mono ?_
        rintro e w2 ⟨rfl, hbc⟩
        go_wp2_with fail
        exact hK.out _ _ ((hInv.out _ _ _).2 ⟨_, _, _, _, _, _, _, _, _, C7, rfl, hbl.trans hbc, fun _ => rfl, told_next zf1 (by decide), fun _ => rfl, fun _ => (by first | rfl | go_num | (simp; done)), told_next zf4 (by decide), told_next zf5 (by decide), told_next zf6 (by decide), told_next zf9 (by decide), zg7.next (by decide) (by decide) (fun _ _ h => h.call hbc)⟩)
      · refine StepD.plain rfl rfl ?_
        intro D a' w' hn hp hI K hK
        obtain ⟨x23, x24, x25, x26, x22, x27, x28, x10, x11, C7, ha, hbl, zf0, zf1, zf2, zf3, zf4, zf5, zf6, zf9, zg7⟩ := (hInv.out D a' w').1 hI
        subst ha; clear hI
        (try simp only [List.set_cons_zero, List.set_cons_succ])
        obtain ⟨p4_3, _⟩ := hp
        have p4_3 : D 3 := p4_3 rfl
        have e3 := zf3 p4_3; subst e3
        go_simp
        exact hK.out _ _ ((hInv.out _ _ _).2 ⟨_, _, _, _, _, _, _, _, _, C7, rfl, hbl, told_next zf0 (by decide), told_next zf1 (by decide), told_next zf2 (by decide), fun _ => rfl, fun _ => (by first | rfl | go_num | (simp; done)), told_next zf5 (by decide), told_next zf6 (by decide), told_next zf9 (by decide), zg7.next (by decide) (by decide) (fun _ _ h => h)⟩)
      · refine StepD.plain rfl rfl ?_
        intro D a' w' hn hp hI K hK
        obtain ⟨x23, x24, x25, x26, x22, x27, x28, x10, x11, C7, ha, hbl, zf0, zf1, zf2, zf3, zf4, zf5, zf6, zf9, zg7⟩ := (hInv.out D a' w').1 hI
        subst ha; clear hI
        (try simp only [List.set_cons_zero, List.set_cons_succ])
        obtain ⟨p5_4, _⟩ := hp
        have p5_4 : D 4 := p5_4 rfl
        have e4 := zf4 p5_4; subst e4
        go_simp
        exact hK.out _ _ ((hInv.out _ _ _).2 ⟨_, _, _, _, _, _, _, _, _, C7, rfl, hbl, told_next zf0 (by decide), told_next zf1 (by decide), told_next zf2 (by decide), told_next zf3 (by decide), fun _ => rfl, fun _ => (by first | rfl | go_num | (simp; done)), told_next zf6 (by decide), told_next zf9 (by decide), zg7.next (by decide) (by decide) (fun _ _ h => h)⟩)
      · refine StepD.plain rfl rfl ?_
        intro D a' w' hn hp hI K hK
        obtain ⟨x23, x24, x25, x26, x22, x27, x28, x10, x11, C7, ha, hbl, zf0, zf1, zf2, zf3, zf4, zf5, zf6, zf9, zg7⟩ := (hInv.out D a' w').1 hI
        subst ha; clear hI
        (try simp only [List.set_cons_zero, List.set_cons_succ])
        obtain ⟨p6_4, _, _⟩ := hp
        have p6_4 : D 4 := p6_4 rfl
        have e4 := zf4 p6_4; subst e4
        go_simp
        exact hK.out _ _ ((hInv.out _ _ _).2 ⟨_, _, _, _, _, _, _, _, _, C7, rfl, hbl, told_next zf0 (by decide), told_next zf1 (by decide), told_next zf2 (by decide), told_next zf3 (by decide), fun _ => rfl, told_next zf5 (by decide), fun _ => (by first | rfl | go_num | (simp; done)), told_next zf9 (by decide), zg7.next (by decide) (by decide) (fun _ _ h => h)⟩)
      · refine StepD.plain rfl rfl ?_
        intro D a' w' hn hp hI K hK
        obtain ⟨x23, x24, x25, x26, x22, x27, x28, x10, x11, C7, ha, hbl, zf0, zf1, zf2, zf3, zf4, zf5, zf6, zf9, zg7⟩ := (hInv.out D a' w').1 hI
        subst ha; clear hI
        (try simp only [List.set_cons_zero, List.set_cons_succ])
        go_simp
        exact hK.out _ _ ((hInv.out _ _ _).2 ⟨_, _, _, _, _, _, _, _, _, _, rfl, hbl.alloc _, told_next zf0 (by decide), told_next zf1 (by decide), told_next zf2 (by decide), told_next zf3 (by decide), told_next zf4 (by decide), told_next zf5 (by decide), told_next zf6 (by decide), told_next zf9 (by decide), zg7.made hn (by decide) hbl.size⟩)
      · refine StepD.plain rfl rfl ?_
        intro D a' w' hn hp hI K hK
        obtain ⟨x23, x24, x25, x26, x22, x27, x28, x10, x11, C7, ha, hbl, zf0, zf1, zf2, zf3, zf4, zf5, zf6, zf9, zg7⟩ := (hInv.out D a' w').1 hI
        subst ha; clear hI
        (try simp only [List.set_cons_zero, List.set_cons_succ])
        obtain ⟨p8_7, p8_5, p8_3, p8_0, p8_1, p8_2, _, p8_4, _, _, _, _⟩ := hp
        have p8_0 : D 0 := p8_0 rfl
        have p8_1 : D 1 := p8_1 rfl
        have p8_2 : D 2 := p8_2 rfl
        have p8_3 : D 3 := p8_3 rfl
        have p8_4 : D 4 := p8_4 rfl
        have p8_5 : D 5 := p8_5 rfl
        have p8_7 : D 7 := p8_7 rfl
        obtain ⟨e10, lw10, ha10, hz10⟩ := zg7.2 p8_7
        subst e10
        have bz := hz10 hn
        obtain ⟨bc, bf, bl_⟩ := bz.tell
        clear ha10 hz10
        have e5 := zf5 p8_5; subst e5
        go_simp
        have lwb : w4.heap.size ≤ C7 := lw10
        exact hK.out _ _ ((hInv.out _ _ _).2 ⟨_, _, _, _, _, _, _, _, _, C7, rfl, ((((hbl).setCell (by simp only []; omega) _).setCell (by simp only []; omega) _).setCell (by simp only []; omega) _).setCell (by simp only []; omega) _, told_next zf0 (by decide), told_next zf1 (by decide), told_next zf2 (by decide), told_next zf3 (by decide), told_next zf4 (by decide), fun _ => rfl, told_next zf6 (by decide), told_next zf9 (by decide), zg7.filled p8_7 hn (fun h => (((((h).set _ _).set _ _).set _ _).set _ _).cells rfl)⟩)
      · refine StepD.plain rfl rfl ?_
        intro D a' w' hn hp hI K hK
        obtain ⟨x23, x24, x25, x26, x22, x27, x28, x10, x11, C7, ha, hbl, zf0, zf1, zf2, zf3, zf4, zf5, zf6, zf9, zg7⟩ := (hInv.out D a' w').1 hI
        subst ha; clear hI
        (try simp only [List.set_cons_zero, List.set_cons_succ])
        obtain ⟨p9_6, p9_8, p9_0, p9_1, p9_2, p9_3, p9_4, p9_5, _, p9_7, _, _⟩ := hp
        have p9_0 : D 0 := p9_0 rfl
        have p9_1 : D 1 := p9_1 rfl
        have p9_2 : D 2 := p9_2 rfl
        have p9_3 : D 3 := p9_3 rfl
        have p9_4 : D 4 := p9_4 rfl
        have p9_5 : D 5 := p9_5 rfl
        have p9_6 : D 6 := p9_6 rfl
        have p9_7 : D 7 := p9_7 rfl
        have p9_8 : D 8 := p9_8 rfl
        have e6 := zf6 p9_6; subst e6
        go_simp
        exact hK.out _ _ ((hInv.out _ _ _).2 ⟨_, _, _, _, _, _, _, _, _, C7, rfl, hbl, told_next zf0 (by decide), told_next zf1 (by decide), told_next zf2 (by decide), told_next zf3 (by decide), told_next zf4 (by decide), told_next zf5 (by decide), fun _ => rfl, fun _ => (by first | rfl | go_num | (simp; done)), zg7.next (by decide) (by decide) (fun _ _ h => h)⟩)
    · intro D a' w5 hall hI
      obtain ⟨x23, x24, x25, x26, x22, x27, x28, x10, x11, B1, ha, hb5, zf0, zf1, zf2, zf3, zf4, zf5, zf6, zf9, zg7⟩ := hI
      subst ha
      (try simp only [List.set_cons_zero, List.set_cons_succ])
      have e := zf0 (hall 0 (by decide)); subst e
      have e := zf1 (hall 1 (by decide)); subst e
      have e := zf2 (hall 2 (by decide)); subst e
      have e := zf3 (hall 3 (by decide)); subst e
      have e := zf4 (hall 4 (by decide)); subst e
      have e := zf5 (hall 5 (by decide)); subst e
      have e := zf6 (hall 6 (by decide)); subst e
      have e := zf9 (hall 9 (by decide)); subst e
      obtain ⟨e, lw1, ha1, hz1⟩ := zg7.2 (hall 7 (by decide))
      subst e
      have q1 := ha1 (hall 8 (by decide))
      clear ha1 hz1 zg7
      clear hall
      (try simp only [Act.put, List.setIfInBounds_toArray, List.set_cons_zero, List.set_cons_succ])
      have lo1 : w.heap.size ≤ B1 := (by have := y4; omega)
      have r5_1 : Box w5 B1 #[.int .u64 (L d 0), .int .u64 (L d 1), .int .u64 (L d 2), .int .u64 (L d 3)] 24 := q1
      have b5 : Bl w w5 := Bl.trans b4 hb5
      have z5 : w4.heap.size ≤ w5.heap.size := (by have := hb5.size; omega)
      have y5 : w.heap.size ≤ w5.heap.size := b5.size
      clear r4_0 r4_0_c r4_0_f r4_0_l b4
      obtain ⟨r5_1_c, r5_1_f, r5_1_l⟩ := r5_1.tell
      clear hb5 lw1
      go_wp2_with fail
      refine bodyPost_ret (v := .tuple #[.int .u64 0, .int .i64 0]) (by simp only [results, Try.results14]; go_simp) rfl ⟨by rw [V1.out, E1.out] <;> rfl, ?_⟩
      exact b5
  · skip
    rw [if_neg h] at a2
    rw [show (s + T256 - target) % T256 = s - target by rw [show s + T256 - target = s - target + T256 by omega, Nat.add_mod_right, Nat.mod_eq_of_lt (by omega)]] at a2
    rw [if_neg h] at hVV hEE
    obtain ⟨d, hd⟩ : ∃ d, d = s - target := ⟨_, rfl⟩
    rw [← hd] at a2 hVV hEE
    have hdT : d < T256 := by omega
    have sm := fun w => small_c d hdT w
    clear hd h
    go_wp2_with fail
    obtain ⟨w6, hw6⟩ : ∃ V : World, V = (w3.alloc (.cells #[.int .u64 (L s 0), .int .u64 (L s 1), .int .u64 (L s 2), .int .u64 (L s 3)] 24)) := ⟨_, rfl⟩
    rw [← hw6]
    have r6_0 : Box w6 w3.heap.size #[.int .u64 (L s 0), .int .u64 (L s 1), .int .u64 (L s 2), .int .u64 (L s 3)] 24 := by rw [hw6]; exact Box.new _ _ _ _ (by simp)
    have b6 : Bl w w6 := by rw [hw6]; exact (b3).alloc _
    have z6 : w3.heap.size + 1 ≤ w6.heap.size := (by rw [hw6]; simp only [World.alloc, World.setCell, World.drew, Array.size_push, Array.size_modify]; omega)
    have y6 : w.heap.size ≤ w6.heap.size := b6.size
    obtain ⟨B0, hB0⟩ : ∃ B, B = w3.heap.size := ⟨_, rfl⟩
    (try rw [← hB0]); rw [← hB0] at r6_0
    have lo0 : w.heap.size ≤ B0 := by omega
    clear hB0
    clear b3
    obtain ⟨r6_0_c, r6_0_f, r6_0_l⟩ := r6_0.tell
    clear hw6
    refine wp_region_told_at (fun l0 D a' w' => ∃ (x23 : Value) (x24 : Value) (x25 : Value) (x26 : Value) (x22 : Value) (x27 : Value) (x28 : Value) (x10 : Value) (x11 : Value) (C7 : Nat), a' = ⟨((((((((((l0).set 23 x23).set 24 x24).set 25 x25).set 26 x26).set 22 x22).set 27 x27).set 28 x28).set 10 x10).set 11 x11).toArray, []⟩ ∧ Bl w6 w' ∧ (D 0 → x23 = U s) ∧ (D 1 → x24 = .int .u64 target) ∧ (D 2 → x25 = U target) ∧ (D 3 → x26 = .tuple #[U d, .int .u64 0]) ∧ (D 4 → x22 = .tuple #[U d, .int .u64 0]) ∧ (D 5 → x27 = U d) ∧ (D 6 → x28 = .int .u64 0) ∧ (D 9 → x11 = .int .u64 0) ∧ Blk D 7 8 w6 w' x10 C7 #[.int .u64 0, .int .u64 0, .int .u64 0, .int .u64 0] #[.int .u64 (L d 0), .int .u64 (L d 1), .int .u64 (L d 2), .int .u64 (L d 3)] 24) (by kernel_rfl) (by kernel_rfl) ?_ ?_ ?_
    · exact fun l0 => ⟨l0.getD 23 undef, l0.getD 24 undef, l0.getD 25 undef, l0.getD 26 undef, l0.getD 22 undef, l0.getD 27 undef, l0.getD 28 undef, l0.getD 10 undef, l0.getD 11 undef, 0, (by simp only [set_self]), (Bl.refl w6).drew, fun h => h.elim, fun h => h.elim, fun h => h.elim, fun h => h.elim, fun h => h.elim, fun h => h.elim, fun h => h.elim, fun h => h.elim, Blk.start⟩
    · intro Inv hInv
      refine AllD.cons ?_ (AllD.cons ?_ (AllD.cons ?_ (AllD.cons ?_ (AllD.cons ?_ (AllD.cons ?_ (AllD.cons ?_ (AllD.cons ?_ (AllD.cons ?_ (AllD.cons ?_ (AllD.nil))))))))))
      · refine StepD.plain rfl rfl ?_
        intro D a' w' hn hp hI K hK
        obtain ⟨x23, x24, x25, x26, x22, x27, x28, x10, x11, C7, ha, hbl, zf0, zf1, zf2, zf3, zf4, zf5, zf6, zf9, zg7⟩ := (hInv.out D a' w').1 hI
        subst ha; clear hI
        (try simp only [List.set_cons_zero, List.set_cons_succ])
        have bz := r6_0.call hbl
        obtain ⟨bc, bf, bl_⟩ := bz.tell
        go_simp
        exact hK.out _ _ ((hInv.out _ _ _).2 ⟨_, _, _, _, _, _, _, _, _, C7, rfl, hbl, fun _ => (by first | rfl | go_num | (simp; done)), told_next zf1 (by decide), told_next zf2 (by decide), told_next zf3 (by decide), told_next zf4 (by decide), told_next zf5 (by decide), told_next zf6 (by decide), told_next zf9 (by decide), zg7.next (by decide) (by decide) (fun _ _ h => h)⟩)
      · refine StepD.plain rfl rfl ?_
        intro D a' w' hn hp hI K hK
        obtain ⟨x23, x24, x25, x26, x22, x27, x28, x10, x11, C7, ha, hbl, zf0, zf1, zf2, zf3, zf4, zf5, zf6, zf9, zg7⟩ := (hInv.out D a' w').1 hI
        subst ha; clear hI
        (try simp only [List.set_cons_zero, List.set_cons_succ])
        go_simp
        exact hK.out _ _ ((hInv.out _ _ _).2 ⟨_, _, _, _, _, _, _, _, _, C7, rfl, hbl, told_next zf0 (by decide), fun _ => (by first | rfl | go_num | (simp; done)), told_next zf2 (by decide), told_next zf3 (by decide), told_next zf4 (by decide), told_next zf5 (by decide), told_next zf6 (by decide), told_next zf9 (by decide), zg7.next (by decide) (by decide) (fun _ _ h => h)⟩)
      · refine StepD.plain rfl rfl ?_
        intro D a' w' hn hp hI K hK
        obtain ⟨x23, x24, x25, x26, x22, x27, x28, x10, x11, C7, ha, hbl, zf0, zf1, zf2, zf3, zf4, zf5, zf6, zf9, zg7⟩ := (hInv.out D a' w').1 hI
        subst ha; clear hI
        (try simp only [List.set_cons_zero, List.set_cons_succ])
        obtain ⟨p2_1, _⟩ := hp
        have p2_1 : D 1 := p2_1 rfl
        have e1 := zf1 p2_1; subst e1
        go_simp
        refine (f3 _).mono ?_
        rintro e w2 ⟨rfl, hbc⟩
        go_wp2_with fail
        exact hK.out _ _ ((hInv.out _ _ _).2 ⟨_, _, _, _, _, _, _, _, _, C7, rfl, hbl.trans hbc, told_next zf0 (by decide), fun _ => rfl, fun _ => (by first | rfl | go_num | (simp; done)), told_next zf3 (by decide), told_next zf4 (by decide), told_next zf5 (by decide), told_next zf6 (by decide), told_next zf9 (by decide), zg7.next (by decide) (by decide) (fun _ _ h => h.call hbc)⟩)
      · refine StepD.plain rfl rfl ?_
        intro D a' w' hn hp hI K hK
        obtain ⟨x23, x24, x25, x26, x22, x27, x28, x10, x11, C7, ha, hbl, zf0, zf1, zf2, zf3, zf4, zf5, zf6, zf9, zg7⟩ := (hInv.out D a' w').1 hI
        subst ha; clear hI
        (try simp only [List.set_cons_zero, List.set_cons_succ])
        obtain ⟨p3_0, p3_2, _, _⟩ := hp
        have p3_0 : D 0 := p3_0 rfl
        have p3_2 : D 2 := p3_2 rfl
        have e0 := zf0 p3_0; subst e0
        have e2 := zf2 p3_2; subst e2
        go_simp
        refine (a2 _).mono ?_
        rintro e w2 ⟨rfl, hbc⟩
        go_wp2_with fail
        exact hK.out _ _ ((hInv.out _ _ _).2 ⟨_, _, _, _, _, _, _, _, _, C7, rfl, hbl.trans hbc, fun _ => rfl, told_next zf1 (by decide), fun _ => rfl, fun _ => (by first | rfl | go_num | (simp; done)), told_next zf4 (by decide), told_next zf5 (by decide), told_next zf6 (by decide), told_next zf9 (by decide), zg7.next (by decide) (by decide) (fun _ _ h => h.call hbc)⟩)
      · refine StepD.plain rfl rfl ?_
        intro D a' w' hn hp hI K hK
        obtain ⟨x23, x24, x25, x26, x22, x27, x28, x10, x11, C7, ha, hbl, zf0, zf1, zf2, zf3, zf4, zf5, zf6, zf9, zg7⟩ := (hInv.out D a' w').1 hI
        subst ha; clear hI
        (try simp only [List.set_cons_zero, List.set_cons_succ])
        obtain ⟨p4_3, _⟩ := hp
        have p4_3 : D 3 := p4_3 rfl
        have e3 := zf3 p4_3; subst e3
        go_simp
        exact hK.out _ _ ((hInv.out _ _ _).2 ⟨_, _, _, _, _, _, _, _, _, C7, rfl, hbl, told_next zf0 (by decide), told_next zf1 (by decide), told_next zf2 (by decide), fun _ => rfl, fun _ => (by first | rfl | go_num | (simp; done)), told_next zf5 (by decide), told_next zf6 (by decide), told_next zf9 (by decide), zg7.next (by decide) (by decide) (fun _ _ h => h)⟩)
      · refine StepD.plain rfl rfl ?_
        intro D a' w' hn hp hI K hK
        obtain ⟨x23, x24, x25, x26, x22, x27, x28, x10, x11, C7, ha, hbl, zf0, zf1, zf2, zf3, zf4, zf5, zf6, zf9, zg7⟩ := (hInv.out D a' w').1 hI
        subst ha; clear hI
        (try simp only [List.set_cons_zero, List.set_cons_succ])
        obtain ⟨p5_4, _⟩ := hp
        have p5_4 : D 4 := p5_4 rfl
        have e4 := zf4 p5_4; subst e4
        go_simp
        exact hK.out _ _ ((hInv.out _ _ _).2 ⟨_, _, _, _, _, _, _, _, _, C7, rfl, hbl, told_next zf0 (by decide), told_next zf1 (by decide), told_next zf2 (by decide), told_next zf3 (by decide), fun _ => rfl, fun _ => (by first | rfl | go_num | (simp; done)), told_next zf6 (by decide), told_next zf9 (by decide), zg7.next (by decide) (by decide) (fun _ _ h => h)⟩)
      · refine StepD.plain rfl rfl ?_
        intro D a' w' hn hp hI K hK
        obtain ⟨x23, x24, x25, x26, x22, x27, x28, x10, x11, C7, ha, hbl, zf0, zf1, zf2, zf3, zf4, zf5, zf6, zf9, zg7⟩ := (hInv.out D a' w').1 hI
        subst ha; clear hI
        (try simp only [List.set_cons_zero, List.set_cons_succ])
        obtain ⟨p6_4, _, _⟩ := hp
        have p6_4 : D 4 := p6_4 rfl
        have e4 := zf4 p6_4; subst e4
        go_simp
        exact hK.out _ _ ((hInv.out _ _ _).2 ⟨_, _, _, _, _, _, _, _, _, C7, rfl, hbl, told_next zf0 (by decide), told_next zf1 (by decide), told_next zf2 (by decide), told_next zf3 (by decide), fun _ => rfl, told_next zf5 (by decide), fun _ => (by first | rfl | go_num | (simp; done)), told_next zf9 (by decide), zg7.next (by decide) (by decide) (fun _ _ h => h)⟩)
      · refine StepD.plain rfl rfl ?_
        intro D a' w' hn hp hI K hK
        obtain ⟨x23, x24, x25, x26, x22, x27, x28, x10, x11, C7, ha, hbl, zf0, zf1, zf2, zf3, zf4, zf5, zf6, zf9, zg7⟩ := (hInv.out D a' w').1 hI
        subst ha; clear hI
        (try simp only [List.set_cons_zero, List.set_cons_succ])
        go_simp
        exact hK.out _ _ ((hInv.out _ _ _).2 ⟨_, _, _, _, _, _, _, _, _, _, rfl, hbl.alloc _, told_next zf0 (by decide), told_next zf1 (by decide), told_next zf2 (by decide), told_next zf3 (by decide), told_next zf4 (by decide), told_next zf5 (by decide), told_next zf6 (by decide), told_next zf9 (by decide), zg7.made hn (by decide) hbl.size⟩)
      · refine StepD.plain rfl rfl ?_
        intro D a' w' hn hp hI K hK
        obtain ⟨x23, x24, x25, x26, x22, x27, x28, x10, x11, C7, ha, hbl, zf0, zf1, zf2, zf3, zf4, zf5, zf6, zf9, zg7⟩ := (hInv.out D a' w').1 hI
        subst ha; clear hI
        (try simp only [List.set_cons_zero, List.set_cons_succ])
        obtain ⟨p8_7, p8_5, p8_3, p8_0, p8_1, p8_2, _, p8_4, _, _, _, _⟩ := hp
        have p8_0 : D 0 := p8_0 rfl
        have p8_1 : D 1 := p8_1 rfl
        have p8_2 : D 2 := p8_2 rfl
        have p8_3 : D 3 := p8_3 rfl
        have p8_4 : D 4 := p8_4 rfl
        have p8_5 : D 5 := p8_5 rfl
        have p8_7 : D 7 := p8_7 rfl
        obtain ⟨e10, lw10, ha10, hz10⟩ := zg7.2 p8_7
        subst e10
        have bz := hz10 hn
        obtain ⟨bc, bf, bl_⟩ := bz.tell
        clear ha10 hz10
        have e5 := zf5 p8_5; subst e5
        go_simp
        have lwb : w6.heap.size ≤ C7 := lw10
        exact hK.out _ _ ((hInv.out _ _ _).2 ⟨_, _, _, _, _, _, _, _, _, C7, rfl, ((((hbl).setCell (by simp only []; omega) _).setCell (by simp only []; omega) _).setCell (by simp only []; omega) _).setCell (by simp only []; omega) _, told_next zf0 (by decide), told_next zf1 (by decide), told_next zf2 (by decide), told_next zf3 (by decide), told_next zf4 (by decide), fun _ => rfl, told_next zf6 (by decide), told_next zf9 (by decide), zg7.filled p8_7 hn (fun h => (((((h).set _ _).set _ _).set _ _).set _ _).cells rfl)⟩)
      · refine StepD.plain rfl rfl ?_
        intro D a' w' hn hp hI K hK
        obtain ⟨x23, x24, x25, x26, x22, x27, x28, x10, x11, C7, ha, hbl, zf0, zf1, zf2, zf3, zf4, zf5, zf6, zf9, zg7⟩ := (hInv.out D a' w').1 hI
        subst ha; clear hI
        (try simp only [List.set_cons_zero, List.set_cons_succ])
        obtain ⟨p9_6, p9_8, p9_0, p9_1, p9_2, p9_3, p9_4, p9_5, _, p9_7, _, _⟩ := hp
        have p9_0 : D 0 := p9_0 rfl
        have p9_1 : D 1 := p9_1 rfl
        have p9_2 : D 2 := p9_2 rfl
        have p9_3 : D 3 := p9_3 rfl
        have p9_4 : D 4 := p9_4 rfl
        have p9_5 : D 5 := p9_5 rfl
        have p9_6 : D 6 := p9_6 rfl
        have p9_7 : D 7 := p9_7 rfl
        have p9_8 : D 8 := p9_8 rfl
        have e6 := zf6 p9_6; subst e6
        go_simp
        exact hK.out _ _ ((hInv.out _ _ _).2 ⟨_, _, _, _, _, _, _, _, _, C7, rfl, hbl, told_next zf0 (by decide), told_next zf1 (by decide), told_next zf2 (by decide), told_next zf3 (by decide), told_next zf4 (by decide), told_next zf5 (by decide), fun _ => rfl, fun _ => (by first | rfl | go_num | (simp; done)), zg7.next (by decide) (by decide) (fun _ _ h => h)⟩)
    · intro D a' w7 hall hI
      obtain ⟨x23, x24, x25, x26, x22, x27, x28, x10, x11, B2, ha, hb7, zf0, zf1, zf2, zf3, zf4, zf5, zf6, zf9, zg7⟩ := hI
      subst ha
      (try simp only [List.set_cons_zero, List.set_cons_succ])
      have e := zf0 (hall 0 (by decide)); subst e
      have e := zf1 (hall 1 (by decide)); subst e
      have e := zf2 (hall 2 (by decide)); subst e
      have e := zf3 (hall 3 (by decide)); subst e
      have e := zf4 (hall 4 (by decide)); subst e
      have e := zf5 (hall 5 (by decide)); subst e
      have e := zf6 (hall 6 (by decide)); subst e
      have e := zf9 (hall 9 (by decide)); subst e
      obtain ⟨e, lw2, ha2, hz2⟩ := zg7.2 (hall 7 (by decide))
      subst e
      have q2 := ha2 (hall 8 (by decide))
      clear ha2 hz2 zg7
      clear hall
      (try simp only [Act.put, List.setIfInBounds_toArray, List.set_cons_zero, List.set_cons_succ])
      have lo2 : w.heap.size ≤ B2 := (by have := y6; omega)
      have r7_2 : Box w7 B2 #[.int .u64 (L d 0), .int .u64 (L d 1), .int .u64 (L d 2), .int .u64 (L d 3)] 24 := q2
      have b7 : Bl w w7 := Bl.trans b6 hb7
      have z7 : w6.heap.size ≤ w7.heap.size := (by have := hb7.size; omega)
      have y7 : w.heap.size ≤ w7.heap.size := b7.size
      clear r6_0 r6_0_c r6_0_f r6_0_l b6
      obtain ⟨r7_2_c, r7_2_f, r7_2_l⟩ := r7_2.tell
      clear hb7 lw2
      by_cases h2 : d < 18446744073709551616
      · skip
        rw [show smV d = (d : Int) from if_pos h2, show smE d = 0 from if_pos h2] at sm
        have V1 := Lib.hid (hVV.trans (if_pos h2)); have E1 := Lib.hid (hEE.trans (if_pos h2))
        clear hVV hEE h2
        go_wp2_with fail
        refine (sm _).mono ?_
        rintro e w8 ⟨rfl, hb8⟩
        have b8 : Bl w w8 := Bl.trans (b7) hb8
        have z8 : w7.heap.size ≤ w8.heap.size := (by have := hb8.size; (try simp only [World.alloc, World.setCell, World.drew, Array.size_push, Array.size_modify] at this); omega)
        have y8 : w.heap.size ≤ w8.heap.size := b8.size
        clear r7_2 r7_2_c r7_2_f r7_2_l b7
        clear hb8
        go_wp2_with fail
        refine bodyPost_ret (v := .tuple #[.int .u64 d, .int .i64 0]) (by simp only [results, Try.results14]; go_simp) rfl ⟨by rw [V1.out, E1.out] <;> rfl, ?_⟩
        exact b8
      · skip
        rw [show smV d = 0 from if_neg h2, show smE d = 11 from if_neg h2] at sm
        have V1 := Lib.hid (hVV.trans (if_neg h2)); have E1 := Lib.hid (hEE.trans (if_neg h2))
        clear hVV hEE h2
        go_wp2_with fail
        refine (sm _).mono ?_
        rintro e w9 ⟨rfl, hb9⟩
        have b9 : Bl w w9 := Bl.trans (b7) hb9
        have z9 : w7.heap.size ≤ w9.heap.size := (by have := hb9.size; (try simp only [World.alloc, World.setCell, World.drew, Array.size_push, Array.size_modify] at this); omega)
        have y9 : w.heap.size ≤ w9.heap.size := b9.size
        clear r7_2 r7_2_c r7_2_f r7_2_l b7
        clear hb9
        go_wp2_with fail
        refine bodyPost_ret (v := .tuple #[.int .u64 0, .int .i64 183]) (by simp only [results, Try.results14]; go_simp) rfl ⟨by rw [V1.out, E1.out] <;> rfl, ?_⟩
        exact b9

set_option maxHeartbeats 20000000 in
set_option maxRecDepth 100000 in
theorem rnextexcess_c (excess used target : Nat) (he : excess < 18446744073709551616) (hu : used < 18446744073709551616) (ht : target < 18446744073709551616) (w : World) :
    Calls Try.prog 15 #[.int .u64 excess, .int .u64 used, .int .u64 target] w fun e w' => e = .returned (.tuple #[.int .u64 (neV excess used target), .int .i64 (neE excess used target)]) ∧ Bl w w' := by
  go_enter Try.func15, Try.ntmps15
  have f1 := fun w => rfrom_c excess he w
  have f2 := fun w => rfrom_c used hu w
  have f3 := fun w => rfrom_c target ht w
  have h1T : excess < T256 := by rw [T256_eq]; omega
  have h2T : used < T256 := by rw [T256_eq]; omega
  have h3T : target < T256 := by rw [T256_eq]; omega
  have hsT : excess + used < T256 := by rw [T256_eq]; omega
  have a1 := fun w => radd_c excess used h1T h2T w
  rw [Nat.mod_eq_of_lt hsT, Nat.div_eq_of_lt hsT] at a1
  have hs65 : excess + used < 36893488147419103232 := by omega
  have hVV : neV excess used target = if excess + used < target then 0 else if excess + used - target < 18446744073709551616 then excess + used - target else 0 := rfl
  have hEE : neE excess used target = if excess + used < target then 0 else if excess + used - target < 18446744073709551616 then 0 else 183 := rfl
  obtain ⟨V, hV⟩ : ∃ V, V = neV excess used target := ⟨_, rfl⟩
  obtain ⟨E, hE⟩ : ∃ E, E = neE excess used target := ⟨_, rfl⟩
  rw [← hV, ← hE]
  rw [← hV] at hVV
  rw [← hE] at hEE
  clear hV hE
  obtain ⟨s, hs⟩ : ∃ s, s = excess + used := ⟨_, rfl⟩
  rw [← hs] at a1 hsT hs65 hVV hEE
  have a2 := fun w => rsub_c s target hsT h3T w
  clear hs
  go_wp2_with fail
  refine (f1 _).mono ?_
  rintro e w1 ⟨rfl, hb1⟩
  have b1 : Bl w w1 := Bl.trans (Bl.refl w) hb1
  have z1 : w.heap.size ≤ w1.heap.size := (by have := hb1.size; (try simp only [World.alloc, World.setCell, World.drew, Array.size_push, Array.size_modify] at this); omega)
  have y1 : w.heap.size ≤ w1.heap.size := b1.size
  clear hb1
  go_wp2_with fail
  refine (f2 _).mono ?_
  rintro e w2 ⟨rfl, hb2⟩
  have b2 : Bl w w2 := Bl.trans (b1) hb2
  have z2 : w1.heap.size ≤ w2.heap.size := (by have := hb2.size; (try simp only [World.alloc, World.setCell, World.drew, Array.size_push, Array.size_modify] at this); omega)
  have y2 : w.heap.size ≤ w2.heap.size := b2.size
  clear b1
  clear hb2
  go_wp2_with fail
  refine (a1 _).mono ?_
  rintro e w3 ⟨rfl, hb3⟩
  have b3 : Bl w w3 := Bl.trans (b2) hb3
  have z3 : w2.heap.size ≤ w3.heap.size := (by have := hb3.size; (try simp only [World.alloc, World.setCell, World.drew, Array.size_push, Array.size_modify] at this); omega)
  have y3 : w.heap.size ≤ w3.heap.size := b3.size
  clear b2
  clear hb3
  by_cases h : s < target
  · skip
    rw [if_pos h] at a2
    have V1 := Lib.hid (hVV.trans (if_pos h)); have E1 := Lib.hid (hEE.trans (if_pos h))
    generalize (s + T256 - target) % T256 = d at *
    clear hVV hEE h
    go_wp2_with fail
    obtain ⟨w4, hw4⟩ : ∃ V : World, V = (w3.alloc (.cells #[.int .u64 (L s 0), .int .u64 (L s 1), .int .u64 (L s 2), .int .u64 (L s 3)] 24)) := ⟨_, rfl⟩
    rw [← hw4]
    have r4_0 : Box w4 w3.heap.size #[.int .u64 (L s 0), .int .u64 (L s 1), .int .u64 (L s 2), .int .u64 (L s 3)] 24 := by rw [hw4]; exact Box.new _ _ _ _ (by simp)
    have b4 : Bl w w4 := by rw [hw4]; exact (b3).alloc _
    have z4 : w3.heap.size + 1 ≤ w4.heap.size := (by rw [hw4]; simp only [World.alloc, World.setCell, World.drew, Array.size_push, Array.size_modify]; omega)
    have y4 : w.heap.size ≤ w4.heap.size := b4.size
    obtain ⟨B0, hB0⟩ : ∃ B, B = w3.heap.size := ⟨_, rfl⟩
    (try rw [← hB0]); rw [← hB0] at r4_0
    have lo0 : w.heap.size ≤ B0 := by omega
    clear hB0
    clear b3
    obtain ⟨r4_0_c, r4_0_f, r4_0_l⟩ := r4_0.tell
    clear hw4
    refine wp_region_told_at (fun l0 D a' w' => ∃ (x23 : Value) (x24 : Value) (x25 : Value) (x26 : Value) (x22 : Value) (x27 : Value) (x28 : Value) (x10 : Value) (x11 : Value) (C7 : Nat), a' = ⟨((((((((((l0).set 23 x23).set 24 x24).set 25 x25).set 26 x26).set 22 x22).set 27 x27).set 28 x28).set 10 x10).set 11 x11).toArray, []⟩ ∧ Bl w4 w' ∧ (D 0 → x23 = U s) ∧ (D 1 → x24 = .int .u64 target) ∧ (D 2 → x25 = U target) ∧ (D 3 → x26 = .tuple #[U d, .int .u64 1]) ∧ (D 4 → x22 = .tuple #[U d, .int .u64 1]) ∧ (D 5 → x27 = U d) ∧ (D 6 → x28 = .int .u64 1) ∧ (D 9 → x11 = .int .u64 1) ∧ Blk D 7 8 w4 w' x10 C7 #[.int .u64 0, .int .u64 0, .int .u64 0, .int .u64 0] #[.int .u64 (L d 0), .int .u64 (L d 1), .int .u64 (L d 2), .int .u64 (L d 3)] 24) (by kernel_rfl) (by kernel_rfl) ?_ ?_ ?_
    · exact fun l0 => ⟨l0.getD 23 undef, l0.getD 24 undef, l0.getD 25 undef, l0.getD 26 undef, l0.getD 22 undef, l0.getD 27 undef, l0.getD 28 undef, l0.getD 10 undef, l0.getD 11 undef, 0, (by simp only [set_self]), (Bl.refl w4).drew, fun h => h.elim, fun h => h.elim, fun h => h.elim, fun h => h.elim, fun h => h.elim, fun h => h.elim, fun h => h.elim, fun h => h.elim, Blk.start⟩
    · intro Inv hInv
      refine AllD.cons ?_ (AllD.cons ?_ (AllD.cons ?_ (AllD.cons ?_ (AllD.cons ?_ (AllD.cons ?_ (AllD.cons ?_ (AllD.cons ?_ (AllD.cons ?_ (AllD.cons ?_ (AllD.nil))))))))))
      · refine StepD.plain rfl rfl ?_
        intro D a' w' hn hp hI K hK
        obtain ⟨x23, x24, x25, x26, x22, x27, x28, x10, x11, C7, ha, hbl, zf0, zf1, zf2, zf3, zf4, zf5, zf6, zf9, zg7⟩ := (hInv.out D a' w').1 hI
        subst ha; clear hI
        (try simp only [List.set_cons_zero, List.set_cons_succ])
        have bz := r4_0.call hbl
        obtain ⟨bc, bf, bl_⟩ := bz.tell
        go_simp
        exact hK.out _ _ ((hInv.out _ _ _).2 ⟨_, _, _, _, _, _, _, _, _, C7, rfl, hbl, fun _ => (by first | rfl | go_num | (simp; done)), told_next zf1 (by decide), told_next zf2 (by decide), told_next zf3 (by decide), told_next zf4 (by decide), told_next zf5 (by decide), told_next zf6 (by decide), told_next zf9 (by decide), zg7.next (by decide) (by decide) (fun _ _ h => h)⟩)
      · refine StepD.plain rfl rfl ?_
        intro D a' w' hn hp hI K hK
        obtain ⟨x23, x24, x25, x26, x22, x27, x28, x10, x11, C7, ha, hbl, zf0, zf1, zf2, zf3, zf4, zf5, zf6, zf9, zg7⟩ := (hInv.out D a' w').1 hI
        subst ha; clear hI
        (try simp only [List.set_cons_zero, List.set_cons_succ])
        go_simp
        exact hK.out _ _ ((hInv.out _ _ _).2 ⟨_, _, _, _, _, _, _, _, _, C7, rfl, hbl, told_next zf0 (by decide), fun _ => (by first | rfl | go_num | (simp; done)), told_next zf2 (by decide), told_next zf3 (by decide), told_next zf4 (by decide), told_next zf5 (by decide), told_next zf6 (by decide), told_next zf9 (by decide), zg7.next (by decide) (by decide) (fun _ _ h => h)⟩)
      · refine StepD.plain rfl rfl ?_
        intro D a' w' hn hp hI K hK
        obtain ⟨x23, x24, x25, x26, x22, x27, x28, x10, x11, C7, ha, hbl, zf0, zf1, zf2, zf3, zf4, zf5, zf6, zf9, zg7⟩ := (hInv.out D a' w').1 hI
        subst ha; clear hI
        (try simp only [List.set_cons_zero, List.set_cons_succ])
        obtain ⟨p2_1, _⟩ := hp
        have p2_1 : D 1 := p2_1 rfl
        have e1 := zf1 p2_1; subst e1
        go_simp
        refine (f3 _).mono ?_
        rintro e w2 ⟨rfl, hbc⟩
        go_wp2_with fail
        exact hK.out _ _ ((hInv.out _ _ _).2 ⟨_, _, _, _, _, _, _, _, _, C7, rfl, hbl.trans hbc, told_next zf0 (by decide), fun _ => rfl, fun _ => (by first | rfl | go_num | (simp; done)), told_next zf3 (by decide), told_next zf4 (by decide), told_next zf5 (by decide), told_next zf6 (by decide), told_next zf9 (by decide), zg7.next (by decide) (by decide) (fun _ _ h => h.call hbc)⟩)
      · refine StepD.plain rfl rfl ?_
        intro D a' w' hn hp hI K hK
        obtain ⟨x23, x24, x25, x26, x22, x27, x28, x10, x11, C7, ha, hbl, zf0, zf1, zf2, zf3, zf4, zf5, zf6, zf9, zg7⟩ := (hInv.out D a' w').1 hI
        subst ha; clear hI
        (try simp only [List.set_cons_zero, List.set_cons_succ])
        obtain ⟨p3_0, p3_2, _, _⟩ := hp
        have p3_0 : D 0 := p3_0 rfl
        have p3_2 : D 2 := p3_2 rfl
        have e0 := zf0 p3_0; subst e0
        have e2 := zf2 p3_2; subst e2
        go_simp
        refine (a2 _).mono ?_
        rintro e w2 ⟨rfl, hbc⟩
        go_wp2_with fail
        exact hK.out _ _ ((hInv.out _ _ _).2 ⟨_, _, _, _, _, _, _, _, _, C7, rfl, hbl.trans hbc, fun _ => rfl, told_next zf1 (by decide), fun _ => rfl, fun _ => (by first | rfl | go_num | (simp; done)), told_next zf4 (by decide), told_next zf5 (by decide), told_next zf6 (by decide), told_next zf9 (by decide), zg7.next (by decide) (by decide) (fun _ _ h => h.call hbc)⟩)
      · refine StepD.plain rfl rfl ?_
        intro D a' w' hn hp hI K hK
        obtain ⟨x23, x24, x25, x26, x22, x27, x28, x10, x11, C7, ha, hbl, zf0, zf1, zf2, zf3, zf4, zf5, zf6, zf9, zg7⟩ := (hInv.out D a' w').1 hI
        subst ha; clear hI
        (try simp only [List.set_cons_zero, List.set_cons_succ])
        obtain ⟨p4_3, _⟩ := hp
        have p4_3 : D 3 := p4_3 rfl
        have e3 := zf3 p4_3; subst e3
        go_simp
        exact hK.out _ _ ((hInv.out _ _ _).2 ⟨_, _, _, _, _, _, _, _, _, C7, rfl, hbl, told_next zf0 (by decide), told_next zf1 (by decide), told_next zf2 (by decide), fun _ => rfl, fun _ => (by first | rfl | go_num | (simp; done)), told_next zf5 (by decide), told_next zf6 (by decide), told_next zf9 (by decide), zg7.next (by decide) (by decide) (fun _ _ h => h)⟩)
      · refine StepD.plain rfl rfl ?_
        intro D a' w' hn hp hI K hK
        obtain ⟨x23, x24, x25, x26, x22, x27, x28, x10, x11, C7, ha, hbl, zf0, zf1, zf2, zf3, zf4, zf5, zf6, zf9, zg7⟩ := (hInv.out D a' w').1 hI
        subst ha; clear hI
        (try simp only [List.set_cons_zero, List.set_cons_succ])
        obtain ⟨p5_4, _⟩ := hp
        have p5_4 : D 4 := p5_4 rfl
        have e4 := zf4 p5_4; subst e4
        go_simp
        exact hK.out _ _ ((hInv.out _ _ _).2 ⟨_, _, _, _, _, _, _, _, _, C7, rfl, hbl, told_next zf0 (by decide), told_next zf1 (by decide), told_next zf2 (by decide), told_next zf3 (by decide), fun _ => rfl, fun _ => (by first | rfl | go_num | (simp; done)), told_next zf6 (by decide), told_next zf9 (by decide), zg7.next (by decide) (by decide) (fun _ _ h => h)⟩)
      · refine StepD.plain rfl rfl ?_
        intro D a' w' hn hp hI K hK
        obtain ⟨x23, x24, x25, x26, x22, x27, x28, x10, x11, C7, ha, hbl, zf0, zf1, zf2, zf3, zf4, zf5, zf6, zf9, zg7⟩ := (hInv.out D a' w').1 hI
        subst ha; clear hI
        (try simp only [List.set_cons_zero, List.set_cons_succ])
        obtain ⟨p6_4, _, _⟩ := hp
        have p6_4 : D 4 := p6_4 rfl
        have e4 := zf4 p6_4; subst e4
        go_simp
        exact hK.out _ _ ((hInv.out _ _ _).2 ⟨_, _, _, _, _, _, _, _, _, C7, rfl, hbl, told_next zf0 (by decide), told_next zf1 (by decide), told_next zf2 (by decide), told_next zf3 (by decide), fun _ => rfl, told_next zf5 (by decide), fun _ => (by first | rfl | go_num | (simp; done)), told_next zf9 (by decide), zg7.next (by decide) (by decide) (fun _ _ h => h)⟩)
      · refine StepD.plain rfl rfl ?_
        intro D a' w' hn hp hI K hK
        obtain ⟨x23, x24, x25, x26, x22, x27, x28, x10, x11, C7, ha, hbl, zf0, zf1, zf2, zf3, zf4, zf5, zf6, zf9, zg7⟩ := (hInv.out D a' w').1 hI
        subst ha; clear hI
        (try simp only [List.set_cons_zero, List.set_cons_succ])
        go_simp
        exact hK.out _ _ ((hInv.out _ _ _).2 ⟨_, _, _, _, _, _, _, _, _, _, rfl, hbl.alloc _, told_next zf0 (by decide), told_next zf1 (by decide), told_next zf2 (by decide), told_next zf3 (by decide), told_next zf4 (by decide), told_next zf5 (by decide), told_next zf6 (by decide), told_next zf9 (by decide), zg7.made hn (by decide) hbl.size⟩)
      · refine StepD.plain rfl rfl ?_
        intro D a' w' hn hp hI K hK
        obtain ⟨x23, x24, x25, x26, x22, x27, x28, x10, x11, C7, ha, hbl, zf0, zf1, zf2, zf3, zf4, zf5, zf6, zf9, zg7⟩ := (hInv.out D a' w').1 hI
        subst ha; clear hI
        (try simp only [List.set_cons_zero, List.set_cons_succ])
        obtain ⟨p8_7, p8_5, p8_3, p8_0, p8_1, p8_2, _, p8_4, _, _, _, _⟩ := hp
        have p8_0 : D 0 := p8_0 rfl
        have p8_1 : D 1 := p8_1 rfl
        have p8_2 : D 2 := p8_2 rfl
        have p8_3 : D 3 := p8_3 rfl
        have p8_4 : D 4 := p8_4 rfl
        have p8_5 : D 5 := p8_5 rfl
        have p8_7 : D 7 := p8_7 rfl
        obtain ⟨e10, lw10, ha10, hz10⟩ := zg7.2 p8_7
        subst e10
        have bz := hz10 hn
        obtain ⟨bc, bf, bl_⟩ := bz.tell
        clear ha10 hz10
        have e5 := zf5 p8_5; subst e5
        go_simp
        have lwb : w4.heap.size ≤ C7 := lw10
        exact hK.out _ _ ((hInv.out _ _ _).2 ⟨_, _, _, _, _, _, _, _, _, C7, rfl, ((((hbl).setCell (by simp only []; omega) _).setCell (by simp only []; omega) _).setCell (by simp only []; omega) _).setCell (by simp only []; omega) _, told_next zf0 (by decide), told_next zf1 (by decide), told_next zf2 (by decide), told_next zf3 (by decide), told_next zf4 (by decide), fun _ => rfl, told_next zf6 (by decide), told_next zf9 (by decide), zg7.filled p8_7 hn (fun h => (((((h).set _ _).set _ _).set _ _).set _ _).cells rfl)⟩)
      · refine StepD.plain rfl rfl ?_
        intro D a' w' hn hp hI K hK
        obtain ⟨x23, x24, x25, x26, x22, x27, x28, x10, x11, C7, ha, hbl, zf0, zf1, zf2, zf3, zf4, zf5, zf6, zf9, zg7⟩ := (hInv.out D a' w').1 hI
        subst ha; clear hI
        (try simp only [List.set_cons_zero, List.set_cons_succ])
        obtain ⟨p9_6, p9_8, p9_0, p9_1, p9_2, p9_3, p9_4, p9_5, _, p9_7, _, _⟩ := hp
        have p9_0 : D 0 := p9_0 rfl
        have p9_1 : D 1 := p9_1 rfl
        have p9_2 : D 2 := p9_2 rfl
        have p9_3 : D 3 := p9_3 rfl
        have p9_4 : D 4 := p9_4 rfl
        have p9_5 : D 5 := p9_5 rfl
        have p9_6 : D 6 := p9_6 rfl
        have p9_7 : D 7 := p9_7 rfl
        have p9_8 : D 8 := p9_8 rfl
        have e6 := zf6 p9_6; subst e6
        go_simp
        exact hK.out _ _ ((hInv.out _ _ _).2 ⟨_, _, _, _, _, _, _, _, _, C7, rfl, hbl, told_next zf0 (by decide), told_next zf1 (by decide), told_next zf2 (by decide), told_next zf3 (by decide), told_next zf4 (by decide), told_next zf5 (by decide), fun _ => rfl, fun _ => (by first | rfl | go_num | (simp; done)), zg7.next (by decide) (by decide) (fun _ _ h => h)⟩)
    · intro D a' w5 hall hI
      obtain ⟨x23, x24, x25, x26, x22, x27, x28, x10, x11, B1, ha, hb5, zf0, zf1, zf2, zf3, zf4, zf5, zf6, zf9, zg7⟩ := hI
      subst ha
      (try simp only [List.set_cons_zero, List.set_cons_succ])
      have e := zf0 (hall 0 (by decide)); subst e
      have e := zf1 (hall 1 (by decide)); subst e
      have e := zf2 (hall 2 (by decide)); subst e
      have e := zf3 (hall 3 (by decide)); subst e
      have e := zf4 (hall 4 (by decide)); subst e
      have e := zf5 (hall 5 (by decide)); subst e
      have e := zf6 (hall 6 (by decide)); subst e
      have e := zf9 (hall 9 (by decide)); subst e
      obtain ⟨e, lw1, ha1, hz1⟩ := zg7.2 (hall 7 (by decide))
      subst e
      have q1 := ha1 (hall 8 (by decide))
      clear ha1 hz1 zg7
      clear hall
      (try simp only [Act.put, List.setIfInBounds_toArray, List.set_cons_zero, List.set_cons_succ])
      have lo1 : w.heap.size ≤ B1 := (by have := y4; omega)
      have r5_1 : Box w5 B1 #[.int .u64 (L d 0), .int .u64 (L d 1), .int .u64 (L d 2), .int .u64 (L d 3)] 24 := q1
      have b5 : Bl w w5 := Bl.trans b4 hb5
      have z5 : w4.heap.size ≤ w5.heap.size := (by have := hb5.size; omega)
      have y5 : w.heap.size ≤ w5.heap.size := b5.size
      clear r4_0 r4_0_c r4_0_f r4_0_l b4
      obtain ⟨r5_1_c, r5_1_f, r5_1_l⟩ := r5_1.tell
      clear hb5 lw1
      go_wp2_with fail
      refine bodyPost_ret (v := .tuple #[.int .u64 0, .int .i64 0]) (by simp only [results, Try.results15]; go_simp) rfl ⟨by rw [V1.out, E1.out] <;> rfl, ?_⟩
      exact b5
  · skip
    rw [if_neg h] at a2
    rw [show (s + T256 - target) % T256 = s - target by rw [show s + T256 - target = s - target + T256 by omega, Nat.add_mod_right, Nat.mod_eq_of_lt (by omega)]] at a2
    rw [if_neg h] at hVV hEE
    obtain ⟨d, hd⟩ : ∃ d, d = s - target := ⟨_, rfl⟩
    rw [← hd] at a2 hVV hEE
    have hdT : d < T256 := by omega
    have sm := fun w => rsmall_c d hdT w
    clear hd h
    go_wp2_with fail
    obtain ⟨w6, hw6⟩ : ∃ V : World, V = (w3.alloc (.cells #[.int .u64 (L s 0), .int .u64 (L s 1), .int .u64 (L s 2), .int .u64 (L s 3)] 24)) := ⟨_, rfl⟩
    rw [← hw6]
    have r6_0 : Box w6 w3.heap.size #[.int .u64 (L s 0), .int .u64 (L s 1), .int .u64 (L s 2), .int .u64 (L s 3)] 24 := by rw [hw6]; exact Box.new _ _ _ _ (by simp)
    have b6 : Bl w w6 := by rw [hw6]; exact (b3).alloc _
    have z6 : w3.heap.size + 1 ≤ w6.heap.size := (by rw [hw6]; simp only [World.alloc, World.setCell, World.drew, Array.size_push, Array.size_modify]; omega)
    have y6 : w.heap.size ≤ w6.heap.size := b6.size
    obtain ⟨B0, hB0⟩ : ∃ B, B = w3.heap.size := ⟨_, rfl⟩
    (try rw [← hB0]); rw [← hB0] at r6_0
    have lo0 : w.heap.size ≤ B0 := by omega
    clear hB0
    clear b3
    obtain ⟨r6_0_c, r6_0_f, r6_0_l⟩ := r6_0.tell
    clear hw6
    refine wp_region_told_at (fun l0 D a' w' => ∃ (x23 : Value) (x24 : Value) (x25 : Value) (x26 : Value) (x22 : Value) (x27 : Value) (x28 : Value) (x10 : Value) (x11 : Value) (C7 : Nat), a' = ⟨((((((((((l0).set 23 x23).set 24 x24).set 25 x25).set 26 x26).set 22 x22).set 27 x27).set 28 x28).set 10 x10).set 11 x11).toArray, []⟩ ∧ Bl w6 w' ∧ (D 0 → x23 = U s) ∧ (D 1 → x24 = .int .u64 target) ∧ (D 2 → x25 = U target) ∧ (D 3 → x26 = .tuple #[U d, .int .u64 0]) ∧ (D 4 → x22 = .tuple #[U d, .int .u64 0]) ∧ (D 5 → x27 = U d) ∧ (D 6 → x28 = .int .u64 0) ∧ (D 9 → x11 = .int .u64 0) ∧ Blk D 7 8 w6 w' x10 C7 #[.int .u64 0, .int .u64 0, .int .u64 0, .int .u64 0] #[.int .u64 (L d 0), .int .u64 (L d 1), .int .u64 (L d 2), .int .u64 (L d 3)] 24) (by kernel_rfl) (by kernel_rfl) ?_ ?_ ?_
    · exact fun l0 => ⟨l0.getD 23 undef, l0.getD 24 undef, l0.getD 25 undef, l0.getD 26 undef, l0.getD 22 undef, l0.getD 27 undef, l0.getD 28 undef, l0.getD 10 undef, l0.getD 11 undef, 0, (by simp only [set_self]), (Bl.refl w6).drew, fun h => h.elim, fun h => h.elim, fun h => h.elim, fun h => h.elim, fun h => h.elim, fun h => h.elim, fun h => h.elim, fun h => h.elim, Blk.start⟩
    · intro Inv hInv
      refine AllD.cons ?_ (AllD.cons ?_ (AllD.cons ?_ (AllD.cons ?_ (AllD.cons ?_ (AllD.cons ?_ (AllD.cons ?_ (AllD.cons ?_ (AllD.cons ?_ (AllD.cons ?_ (AllD.nil))))))))))
      · refine StepD.plain rfl rfl ?_
        intro D a' w' hn hp hI K hK
        obtain ⟨x23, x24, x25, x26, x22, x27, x28, x10, x11, C7, ha, hbl, zf0, zf1, zf2, zf3, zf4, zf5, zf6, zf9, zg7⟩ := (hInv.out D a' w').1 hI
        subst ha; clear hI
        (try simp only [List.set_cons_zero, List.set_cons_succ])
        have bz := r6_0.call hbl
        obtain ⟨bc, bf, bl_⟩ := bz.tell
        go_simp
        exact hK.out _ _ ((hInv.out _ _ _).2 ⟨_, _, _, _, _, _, _, _, _, C7, rfl, hbl, fun _ => (by first | rfl | go_num | (simp; done)), told_next zf1 (by decide), told_next zf2 (by decide), told_next zf3 (by decide), told_next zf4 (by decide), told_next zf5 (by decide), told_next zf6 (by decide), told_next zf9 (by decide), zg7.next (by decide) (by decide) (fun _ _ h => h)⟩)
      · refine StepD.plain rfl rfl ?_
        intro D a' w' hn hp hI K hK
        obtain ⟨x23, x24, x25, x26, x22, x27, x28, x10, x11, C7, ha, hbl, zf0, zf1, zf2, zf3, zf4, zf5, zf6, zf9, zg7⟩ := (hInv.out D a' w').1 hI
        subst ha; clear hI
        (try simp only [List.set_cons_zero, List.set_cons_succ])
        go_simp
        exact hK.out _ _ ((hInv.out _ _ _).2 ⟨_, _, _, _, _, _, _, _, _, C7, rfl, hbl, told_next zf0 (by decide), fun _ => (by first | rfl | go_num | (simp; done)), told_next zf2 (by decide), told_next zf3 (by decide), told_next zf4 (by decide), told_next zf5 (by decide), told_next zf6 (by decide), told_next zf9 (by decide), zg7.next (by decide) (by decide) (fun _ _ h => h)⟩)
      · refine StepD.plain rfl rfl ?_
        intro D a' w' hn hp hI K hK
        obtain ⟨x23, x24, x25, x26, x22, x27, x28, x10, x11, C7, ha, hbl, zf0, zf1, zf2, zf3, zf4, zf5, zf6, zf9, zg7⟩ := (hInv.out D a' w').1 hI
        subst ha; clear hI
        (try simp only [List.set_cons_zero, List.set_cons_succ])
        obtain ⟨p2_1, _⟩ := hp
        have p2_1 : D 1 := p2_1 rfl
        have e1 := zf1 p2_1; subst e1
        go_simp
        refine (f3 _).mono ?_
        rintro e w2 ⟨rfl, hbc⟩
        go_wp2_with fail
        exact hK.out _ _ ((hInv.out _ _ _).2 ⟨_, _, _, _, _, _, _, _, _, C7, rfl, hbl.trans hbc, told_next zf0 (by decide), fun _ => rfl, fun _ => (by first | rfl | go_num | (simp; done)), told_next zf3 (by decide), told_next zf4 (by decide), told_next zf5 (by decide), told_next zf6 (by decide), told_next zf9 (by decide), zg7.next (by decide) (by decide) (fun _ _ h => h.call hbc)⟩)
      · refine StepD.plain rfl rfl ?_
        intro D a' w' hn hp hI K hK
        obtain ⟨x23, x24, x25, x26, x22, x27, x28, x10, x11, C7, ha, hbl, zf0, zf1, zf2, zf3, zf4, zf5, zf6, zf9, zg7⟩ := (hInv.out D a' w').1 hI
        subst ha; clear hI
        (try simp only [List.set_cons_zero, List.set_cons_succ])
        obtain ⟨p3_0, p3_2, _, _⟩ := hp
        have p3_0 : D 0 := p3_0 rfl
        have p3_2 : D 2 := p3_2 rfl
        have e0 := zf0 p3_0; subst e0
        have e2 := zf2 p3_2; subst e2
        go_simp
        refine (a2 _).mono ?_
        rintro e w2 ⟨rfl, hbc⟩
        go_wp2_with fail
        exact hK.out _ _ ((hInv.out _ _ _).2 ⟨_, _, _, _, _, _, _, _, _, C7, rfl, hbl.trans hbc, fun _ => rfl, told_next zf1 (by decide), fun _ => rfl, fun _ => (by first | rfl | go_num | (simp; done)), told_next zf4 (by decide), told_next zf5 (by decide), told_next zf6 (by decide), told_next zf9 (by decide), zg7.next (by decide) (by decide) (fun _ _ h => h.call hbc)⟩)
      · refine StepD.plain rfl rfl ?_
        intro D a' w' hn hp hI K hK
        obtain ⟨x23, x24, x25, x26, x22, x27, x28, x10, x11, C7, ha, hbl, zf0, zf1, zf2, zf3, zf4, zf5, zf6, zf9, zg7⟩ := (hInv.out D a' w').1 hI
        subst ha; clear hI
        (try simp only [List.set_cons_zero, List.set_cons_succ])
        obtain ⟨p4_3, _⟩ := hp
        have p4_3 : D 3 := p4_3 rfl
        have e3 := zf3 p4_3; subst e3
        go_simp
        exact hK.out _ _ ((hInv.out _ _ _).2 ⟨_, _, _, _, _, _, _, _, _, C7, rfl, hbl, told_next zf0 (by decide), told_next zf1 (by decide), told_next zf2 (by decide), fun _ => rfl, fun _ => (by first | rfl | go_num | (simp; done)), told_next zf5 (by decide), told_next zf6 (by decide), told_next zf9 (by decide), zg7.next (by decide) (by decide) (fun _ _ h => h)⟩)
      · refine StepD.plain rfl rfl ?_
        intro D a' w' hn hp hI K hK
        obtain ⟨x23, x24, x25, x26, x22, x27, x28, x10, x11, C7, ha, hbl, zf0, zf1, zf2, zf3, zf4, zf5, zf6, zf9, zg7⟩ := (hInv.out D a' w').1 hI
        subst ha; clear hI
        (try simp only [List.set_cons_zero, List.set_cons_succ])
        obtain ⟨p5_4, _⟩ := hp
        have p5_4 : D 4 := p5_4 rfl
        have e4 := zf4 p5_4; subst e4
        go_simp
        exact hK.out _ _ ((hInv.out _ _ _).2 ⟨_, _, _, _, _, _, _, _, _, C7, rfl, hbl, told_next zf0 (by decide), told_next zf1 (by decide), told_next zf2 (by decide), told_next zf3 (by decide), fun _ => rfl, fun _ => (by first | rfl | go_num | (simp; done)), told_next zf6 (by decide), told_next zf9 (by decide), zg7.next (by decide) (by decide) (fun _ _ h => h)⟩)
      · refine StepD.plain rfl rfl ?_
        intro D a' w' hn hp hI K hK
        obtain ⟨x23, x24, x25, x26, x22, x27, x28, x10, x11, C7, ha, hbl, zf0, zf1, zf2, zf3, zf4, zf5, zf6, zf9, zg7⟩ := (hInv.out D a' w').1 hI
        subst ha; clear hI
        (try simp only [List.set_cons_zero, List.set_cons_succ])
        obtain ⟨p6_4, _, _⟩ := hp
        have p6_4 : D 4 := p6_4 rfl
        have e4 := zf4 p6_4; subst e4
        go_simp
        exact hK.out _ _ ((hInv.out _ _ _).2 ⟨_, _, _, _, _, _, _, _, _, C7, rfl, hbl, told_next zf0 (by decide), told_next zf1 (by decide), told_next zf2 (by decide), told_next zf3 (by decide), fun _ => rfl, told_next zf5 (by decide), fun _ => (by first | rfl | go_num | (simp; done)), told_next zf9 (by decide), zg7.next (by decide) (by decide) (fun _ _ h => h)⟩)
      · refine StepD.plain rfl rfl ?_
        intro D a' w' hn hp hI K hK
        obtain ⟨x23, x24, x25, x26, x22, x27, x28, x10, x11, C7, ha, hbl, zf0, zf1, zf2, zf3, zf4, zf5, zf6, zf9, zg7⟩ := (hInv.out D a' w').1 hI
        subst ha; clear hI
        (try simp only [List.set_cons_zero, List.set_cons_succ])
        go_simp
        exact hK.out _ _ ((hInv.out _ _ _).2 ⟨_, _, _, _, _, _, _, _, _, _, rfl, hbl.alloc _, told_next zf0 (by decide), told_next zf1 (by decide), told_next zf2 (by decide), told_next zf3 (by decide), told_next zf4 (by decide), told_next zf5 (by decide), told_next zf6 (by decide), told_next zf9 (by decide), zg7.made hn (by decide) hbl.size⟩)
      · refine StepD.plain rfl rfl ?_
        intro D a' w' hn hp hI K hK
        obtain ⟨x23, x24, x25, x26, x22, x27, x28, x10, x11, C7, ha, hbl, zf0, zf1, zf2, zf3, zf4, zf5, zf6, zf9, zg7⟩ := (hInv.out D a' w').1 hI
        subst ha; clear hI
        (try simp only [List.set_cons_zero, List.set_cons_succ])
        obtain ⟨p8_7, p8_5, p8_3, p8_0, p8_1, p8_2, _, p8_4, _, _, _, _⟩ := hp
        have p8_0 : D 0 := p8_0 rfl
        have p8_1 : D 1 := p8_1 rfl
        have p8_2 : D 2 := p8_2 rfl
        have p8_3 : D 3 := p8_3 rfl
        have p8_4 : D 4 := p8_4 rfl
        have p8_5 : D 5 := p8_5 rfl
        have p8_7 : D 7 := p8_7 rfl
        obtain ⟨e10, lw10, ha10, hz10⟩ := zg7.2 p8_7
        subst e10
        have bz := hz10 hn
        obtain ⟨bc, bf, bl_⟩ := bz.tell
        clear ha10 hz10
        have e5 := zf5 p8_5; subst e5
        go_simp
        have lwb : w6.heap.size ≤ C7 := lw10
        exact hK.out _ _ ((hInv.out _ _ _).2 ⟨_, _, _, _, _, _, _, _, _, C7, rfl, ((((hbl).setCell (by simp only []; omega) _).setCell (by simp only []; omega) _).setCell (by simp only []; omega) _).setCell (by simp only []; omega) _, told_next zf0 (by decide), told_next zf1 (by decide), told_next zf2 (by decide), told_next zf3 (by decide), told_next zf4 (by decide), fun _ => rfl, told_next zf6 (by decide), told_next zf9 (by decide), zg7.filled p8_7 hn (fun h => (((((h).set _ _).set _ _).set _ _).set _ _).cells rfl)⟩)
      · refine StepD.plain rfl rfl ?_
        intro D a' w' hn hp hI K hK
        obtain ⟨x23, x24, x25, x26, x22, x27, x28, x10, x11, C7, ha, hbl, zf0, zf1, zf2, zf3, zf4, zf5, zf6, zf9, zg7⟩ := (hInv.out D a' w').1 hI
        subst ha; clear hI
        (try simp only [List.set_cons_zero, List.set_cons_succ])
        obtain ⟨p9_6, p9_8, p9_0, p9_1, p9_2, p9_3, p9_4, p9_5, _, p9_7, _, _⟩ := hp
        have p9_0 : D 0 := p9_0 rfl
        have p9_1 : D 1 := p9_1 rfl
        have p9_2 : D 2 := p9_2 rfl
        have p9_3 : D 3 := p9_3 rfl
        have p9_4 : D 4 := p9_4 rfl
        have p9_5 : D 5 := p9_5 rfl
        have p9_6 : D 6 := p9_6 rfl
        have p9_7 : D 7 := p9_7 rfl
        have p9_8 : D 8 := p9_8 rfl
        have e6 := zf6 p9_6; subst e6
        go_simp
        exact hK.out _ _ ((hInv.out _ _ _).2 ⟨_, _, _, _, _, _, _, _, _, C7, rfl, hbl, told_next zf0 (by decide), told_next zf1 (by decide), told_next zf2 (by decide), told_next zf3 (by decide), told_next zf4 (by decide), told_next zf5 (by decide), fun _ => rfl, fun _ => (by first | rfl | go_num | (simp; done)), zg7.next (by decide) (by decide) (fun _ _ h => h)⟩)
    · intro D a' w7 hall hI
      obtain ⟨x23, x24, x25, x26, x22, x27, x28, x10, x11, B2, ha, hb7, zf0, zf1, zf2, zf3, zf4, zf5, zf6, zf9, zg7⟩ := hI
      subst ha
      (try simp only [List.set_cons_zero, List.set_cons_succ])
      have e := zf0 (hall 0 (by decide)); subst e
      have e := zf1 (hall 1 (by decide)); subst e
      have e := zf2 (hall 2 (by decide)); subst e
      have e := zf3 (hall 3 (by decide)); subst e
      have e := zf4 (hall 4 (by decide)); subst e
      have e := zf5 (hall 5 (by decide)); subst e
      have e := zf6 (hall 6 (by decide)); subst e
      have e := zf9 (hall 9 (by decide)); subst e
      obtain ⟨e, lw2, ha2, hz2⟩ := zg7.2 (hall 7 (by decide))
      subst e
      have q2 := ha2 (hall 8 (by decide))
      clear ha2 hz2 zg7
      clear hall
      (try simp only [Act.put, List.setIfInBounds_toArray, List.set_cons_zero, List.set_cons_succ])
      have lo2 : w.heap.size ≤ B2 := (by have := y6; omega)
      have r7_2 : Box w7 B2 #[.int .u64 (L d 0), .int .u64 (L d 1), .int .u64 (L d 2), .int .u64 (L d 3)] 24 := q2
      have b7 : Bl w w7 := Bl.trans b6 hb7
      have z7 : w6.heap.size ≤ w7.heap.size := (by have := hb7.size; omega)
      have y7 : w.heap.size ≤ w7.heap.size := b7.size
      clear r6_0 r6_0_c r6_0_f r6_0_l b6
      obtain ⟨r7_2_c, r7_2_f, r7_2_l⟩ := r7_2.tell
      clear hb7 lw2
      by_cases h2 : d < 18446744073709551616
      · skip
        rw [show smV d = (d : Int) from if_pos h2, show smE d = 0 from if_pos h2] at sm
        have V1 := Lib.hid (hVV.trans (if_pos h2)); have E1 := Lib.hid (hEE.trans (if_pos h2))
        clear hVV hEE h2
        go_wp2_with fail
        refine (sm _).mono ?_
        rintro e w8 ⟨rfl, hb8⟩
        have b8 : Bl w w8 := Bl.trans (b7) hb8
        have z8 : w7.heap.size ≤ w8.heap.size := (by have := hb8.size; (try simp only [World.alloc, World.setCell, World.drew, Array.size_push, Array.size_modify] at this); omega)
        have y8 : w.heap.size ≤ w8.heap.size := b8.size
        clear r7_2 r7_2_c r7_2_f r7_2_l b7
        clear hb8
        go_wp2_with fail
        refine bodyPost_ret (v := .tuple #[.int .u64 d, .int .i64 0]) (by simp only [results, Try.results15]; go_simp) rfl ⟨by rw [V1.out, E1.out] <;> rfl, ?_⟩
        exact b8
      · skip
        rw [show smV d = 0 from if_neg h2, show smE d = 11 from if_neg h2] at sm
        have V1 := Lib.hid (hVV.trans (if_neg h2)); have E1 := Lib.hid (hEE.trans (if_neg h2))
        clear hVV hEE h2
        go_wp2_with fail
        refine (sm _).mono ?_
        rintro e w9 ⟨rfl, hb9⟩
        have b9 : Bl w w9 := Bl.trans (b7) hb9
        have z9 : w7.heap.size ≤ w9.heap.size := (by have := hb9.size; (try simp only [World.alloc, World.setCell, World.drew, Array.size_push, Array.size_modify] at this); omega)
        have y9 : w.heap.size ≤ w9.heap.size := b9.size
        clear r7_2 r7_2_c r7_2_f r7_2_l b7
        clear hb9
        go_wp2_with fail
        refine bodyPost_ret (v := .tuple #[.int .u64 0, .int .i64 183]) (by simp only [results, Try.results15]; go_simp) rfl ⟨by rw [V1.out, E1.out] <;> rfl, ?_⟩
        exact b9

end Go.Proofs.Ytcmjdmehooenkaa

