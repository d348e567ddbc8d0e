/- The document's NextBase. -/
import Derived.Test.YtcmjdmehooenkaaStep
import Derived.Test.YtcmjdmehooenkaaFeesN
set_option linter.unusedSimpArgs false
set_option linter.unusedVariables false
namespace Go.Proofs.Ytcmjdmehooenkaa
open Go Go.RowKit

set_option maxHeartbeats 40000000 in
set_option maxRecDepth 100000 in
theorem rnextbase_c (base limit used : Nat) (hb : base < T256) (hl : limit < 18446744073709551616) (hu : used < 18446744073709551616) (w : World) :
    Calls Try.prog 8 #[U base, .int .u64 limit, .int .u64 used] w fun e w' => e = .returned (.tuple #[U (nbV base limit used), .int .i64 (nbE base limit used)]) ∧ Bl w w' := by
  go_enter Try.func8, Try.ntmps8
  obtain ⟨tg, htg⟩ : ∃ tg, tg = limit / 2 := ⟨_, rfl⟩
  have ht2 : (limit : Int) / 2 = (tg : Int) := by omega
  have htb : tg < 9223372036854775808 := by omega
  have hg := guardU
  unfold nbV nbE
  rw [← htg]
  have hl2 : (limit < 2) = (tg = 0) := by simp only [eq_iff_iff]; omega
  have HTG := Lib.hid htg
  have g1 := fun w => rfrom_c tg (by omega) w
  have g2 := fun w => rshl_c tg (by rw [T256_eq]; omega) 3 w
  rw [show shlZ tg 3 = 8 * tg by rw [shlZ_pos tg 3 (by omega) (by omega), show (3 : Int).toNat = 3 from rfl, Nat.mod_eq_of_lt (by rw [T256_eq]; omega)]; omega] at g2
  obtain ⟨g, hgg⟩ : ∃ g, g = 8 * tg := ⟨_, rfl⟩
  rw [← hgg] at g2
  have hgT : g < T256 := by rw [T256_eq]; omega
  clear htg
  by_cases h0 : tg = 0
  · skip
    rw [if_pos h0, if_pos h0]
    have c8 : decide (limit < 2) = true := by simp; omega
    have c9 : decide ((limit : Int) < 2) = true := by simp; omega
    go_wp2_with fail
    refine bodyPost_ret (v := .tuple #[.agg #[.int .u64 0, .int .u64 0, .int .u64 0, .int .u64 0], .int .i64 1]) (by simp only [results, Try.results8]; go_simp) rfl ⟨rfl, ?_⟩
    exact ((Bl.refl w).alloc _).alloc _
  · skip
    have c8 : decide (limit < 2) = false := by simp; omega
    have c9 : decide ((limit : Int) < 2) = false := by simp; omega
    by_cases h1 : limit < used
    · skip
      rw [if_neg h0, if_pos h1, if_neg h0, if_pos h1]
      have c0 : decide (limit < used) = true := by simp; omega
      go_wp2_with fail
      refine bodyPost_ret (v := .tuple #[.agg #[.int .u64 0, .int .u64 0, .int .u64 0, .int .u64 0], .int .i64 184]) (by simp only [results, Try.results8]; go_simp) rfl ⟨rfl, ?_⟩
      exact ((Bl.refl w).alloc _).alloc _
    · skip
      by_cases h2 : used < tg
      · skip
        rw [if_neg h0, if_neg h1, if_pos h2, if_neg h0, if_neg h1, if_pos h2]
        have c0 : decide (limit < used) = false := by simp; omega
        have c1 : decide (used < tg) = true := by simp; omega
        have c2 : (used == tg) = false := by simp; omega
        have c3 : ((used : Int) == (tg : Int)) = false := by simp; omega
        obtain ⟨of, hof⟩ : ∃ of, of = tg - used := ⟨_, rfl⟩
        have e1 : (tg : Int) - used = (of : Int) := by omega
        have hle := stepN_le (off := of) hb (show 0 < tg by omega) (by omega)
        have hmde := (stepN_eq (off := of) hb (show 0 < tg by omega) (by omega)).2
        have s0 := fun w => rfrom_c of (by omega) w
        have s1 := fun w => rmuldiv_c base of g hb (by rw [T256_eq]; omega) hgT w
        rw [hgg, hmde, show mdV base of (8 * tg) = stepN base of tg from rfl, ← hgg] at s1
        rw [← hof]
        obtain ⟨d, hd⟩ : ∃ d, d = stepN base of tg := ⟨_, rfl⟩
        rw [← hd] at s1 hle ⊢
        have s2 := fun w => rsub_c base d hb (by omega) w
        rw [show (base + T256 - d) % T256 = base - d by rw [show base + T256 - d = base - d + T256 by omega, Nat.add_mod_right, Nat.mod_eq_of_lt (by omega)], if_neg (by omega : ¬ base < d)] at s2
        have e2 : IntKind.u64.wrap (of : Int) = (of : Int) := by unfold IntKind.wrap; simp [IntKind.bits, IntKind.signed]; omega
        obtain ⟨r, hr⟩ : ∃ r, r = base - d := ⟨_, rfl⟩
        rw [← hr] at s2 ⊢
        clear hof hd hle hr hmde hgg
        go_wp2_with fail
        refine (g1 _).mono ?_
        rintro e w1 ⟨rfl, hb1⟩
        have r1_0 : Box w1 w.heap.size #[.int .u64 (L base 0), .int .u64 (L base 1), .int .u64 (L base 2), .int .u64 (L base 3)] 24 := ((Box.new _ _ _ _ (by simp)).alloc _).call hb1
        have r1_1 : Box w1 (w.heap.size + 1) #[.int .u64 0, .int .u64 0, .int .u64 0, .int .u64 0] 24 := (Box.new _ _ _ _ (by simp)).call hb1
        have b1 : Bl w w1 := Bl.trans (((Bl.refl w).alloc _).alloc _) hb1
        have z1 : w.heap.size + 1 + 1 ≤ w1.heap.size := (by have := hb1.size; (try simp only [World.alloc, World.setCell, World.drew, Array.size_push, Array.size_modify] at this); omega)
        have y1 : w.heap.size ≤ w1.heap.size := b1.size
        obtain ⟨B1, hB1⟩ : ∃ B, B = w.heap.size + 1 := ⟨_, rfl⟩
        (try rw [← hB1]); rw [← hB1] at r1_1
        obtain ⟨B0, hB0⟩ : ∃ B, B = w.heap.size := ⟨_, rfl⟩
        (try rw [← hB0]); rw [← hB0] at r1_0
        have lo0 : w.heap.size ≤ B0 := by omega
        have lo1 : w.heap.size ≤ B1 := by omega
        have n0_1 : (B0 = B1) = False := (by simp only [eq_iff_iff, iff_false]; omega)
        have n1_0 : (B1 = B0) = False := (by simp only [eq_iff_iff, iff_false]; omega)
        clear hB0
        clear hB1
        obtain ⟨r1_0_c, r1_0_f, r1_0_l⟩ := r1_0.tell
        obtain ⟨r1_1_c, r1_1_f, r1_1_l⟩ := r1_1.tell
        clear hb1
        go_wp2_with fail
        refine (g2 _).mono ?_
        rintro e w2 ⟨rfl, hb2⟩
        have r2_0 : Box w2 B0 #[.int .u64 (L base 0), .int .u64 (L base 1), .int .u64 (L base 2), .int .u64 (L base 3)] 24 := (r1_0).call hb2
        have r2_1 : Box w2 B1 #[.int .u64 0, .int .u64 0, .int .u64 0, .int .u64 0] 24 := (r1_1).call hb2
        have b2 : Bl w w2 := Bl.trans (b1) hb2
        have z2 : w1.heap.size ≤ w2.heap.size := (by have := hb2.size; (try simp only [World.alloc, World.setCell, World.drew, Array.size_push, Array.size_modify] at this); omega)
        have y2 : w.heap.size ≤ w2.heap.size := b2.size
        clear r1_0 r1_0_c r1_0_f r1_0_l r1_1 r1_1_c r1_1_f r1_1_l b1
        obtain ⟨r2_0_c, r2_0_f, r2_0_l⟩ := r2_0.tell
        obtain ⟨r2_1_c, r2_1_f, r2_1_l⟩ := r2_1.tell
        have d2_0 : (B0 = w2.heap.size) = False := (by simp only [eq_iff_iff, iff_false]; omega)
        have e2_0 : (w2.heap.size = B0) = False := (by simp only [eq_iff_iff, iff_false]; omega)
        have m2_0 : B0 < w2.heap.size := (by omega)
        have d2_1 : (B0 = w2.heap.size + 1) = False := (by simp only [eq_iff_iff, iff_false]; omega)
        have e2_1 : (w2.heap.size + 1 = B0) = False := (by simp only [eq_iff_iff, iff_false]; omega)
        have m2_1 : B0 < w2.heap.size + 1 := (by omega)
        have d2_2 : (B1 = w2.heap.size) = False := (by simp only [eq_iff_iff, iff_false]; omega)
        have e2_2 : (w2.heap.size = B1) = False := (by simp only [eq_iff_iff, iff_false]; omega)
        have m2_2 : B1 < w2.heap.size := (by omega)
        have d2_3 : (B1 = w2.heap.size + 1) = False := (by simp only [eq_iff_iff, iff_false]; omega)
        have e2_3 : (w2.heap.size + 1 = B1) = False := (by simp only [eq_iff_iff, iff_false]; omega)
        have m2_3 : B1 < w2.heap.size + 1 := (by omega)
        clear hb2
        go_wp2_with fail
        obtain ⟨w3, hw3⟩ : ∃ V : World, V = (w2.alloc (.cells #[.int .u64 (L g 0), .int .u64 (L g 1), .int .u64 (L g 2), .int .u64 (L g 3)] 24)) := ⟨_, rfl⟩
        rw [← hw3]
        have r3_0 : Box w3 B0 #[.int .u64 (L base 0), .int .u64 (L base 1), .int .u64 (L base 2), .int .u64 (L base 3)] 24 := by rw [hw3]; exact (r2_0).alloc _
        have r3_1 : Box w3 B1 #[.int .u64 0, .int .u64 0, .int .u64 0, .int .u64 0] 24 := by rw [hw3]; exact (r2_1).alloc _
        have r3_2 : Box w3 w2.heap.size #[.int .u64 (L g 0), .int .u64 (L g 1), .int .u64 (L g 2), .int .u64 (L g 3)] 24 := by rw [hw3]; exact Box.new _ _ _ _ (by simp)
        have b3 : Bl w w3 := by rw [hw3]; exact (b2).alloc _
        have z3 : w2.heap.size + 1 ≤ w3.heap.size := (by rw [hw3]; simp only [World.alloc, World.setCell, World.drew, Array.size_push, Array.size_modify]; omega)
        have y3 : w.heap.size ≤ w3.heap.size := b3.size
        obtain ⟨B2, hB2⟩ : ∃ B, B = w2.heap.size := ⟨_, rfl⟩
        (try rw [← hB2]); rw [← hB2] at r3_2
        have lo2 : w.heap.size ≤ B2 := by omega
        have n2_0 : (B2 = B0) = False := (by simp only [eq_iff_iff, iff_false]; have := r2_0_l; omega)
        have n0_2 : (B0 = B2) = False := (by simp only [eq_iff_iff, iff_false]; have := r2_0_l; omega)
        have n2_1 : (B2 = B1) = False := (by simp only [eq_iff_iff, iff_false]; have := r2_1_l; omega)
        have n1_2 : (B1 = B2) = False := (by simp only [eq_iff_iff, iff_false]; have := r2_1_l; omega)
        clear hB2
        clear r2_0 r2_0_c r2_0_f r2_0_l r2_1 r2_1_c r2_1_f r2_1_l b2
        obtain ⟨r3_0_c, r3_0_f, r3_0_l⟩ := r3_0.tell
        obtain ⟨r3_1_c, r3_1_f, r3_1_l⟩ := r3_1.tell
        obtain ⟨r3_2_c, r3_2_f, r3_2_l⟩ := r3_2.tell
        clear hw3
        refine wp_region_told_at (fun l0 D a' w' => ∃ (x38 : Value) (x39 : Value) (x40 : Value) (x41 : Value) (x42 : Value) (x43 : Value) (x44 : Value) (x37 : Value) (x45 : Value) (x46 : Value) (x10 : Value) (x11 : Value) (C10 : Nat), a' = ⟨(((((((((((((l0).set 38 x38).set 39 x39).set 40 x40).set 41 x41).set 42 x42).set 43 x43).set 44 x44).set 37 x37).set 45 x45).set 46 x46).set 10 x10).set 11 x11).toArray, []⟩ ∧ Bl w3 w' ∧ (D 0 → x38 = U base) ∧ (D 1 → x39 = .int .u64 tg) ∧ (D 2 → x40 = .int .u64 used) ∧ (D 3 → x41 = .int .u64 of) ∧ (D 4 → x42 = U of) ∧ (D 5 → x43 = U g) ∧ (D 6 → x44 = .tuple #[U d, .int .i64 0]) ∧ (D 7 → x37 = .tuple #[U d, .int .i64 0]) ∧ (D 8 → x45 = U d) ∧ (D 9 → x46 = .int .i64 0) ∧ (D 12 → x11 = .int .i64 0) ∧ Blk D 10 11 w3 w' x10 C10 #[.int .u64 0, .int .u64 0, .int .u64 0, .int .u64 0] #[.int .u64 (L d 0), .int .u64 (L d 1), .int .u64 (L d 2), .int .u64 (L d 3)] 24) (by kernel_rfl) (by kernel_rfl) ?_ ?_ ?_
        · exact fun l0 => ⟨l0.getD 38 undef, l0.getD 39 undef, l0.getD 40 undef, l0.getD 41 undef, l0.getD 42 undef, l0.getD 43 undef, l0.getD 44 undef, l0.getD 37 undef, l0.getD 45 undef, l0.getD 46 undef, l0.getD 10 undef, l0.getD 11 undef, 0, (by simp only [set_self]), (Bl.refl w3).drew, fun h => h.elim, fun h => h.elim, fun h => h.elim, fun h => h.elim, fun h => h.elim, fun h => h.elim, fun h => h.elim, fun h => h.elim, fun h => h.elim, fun h => h.elim, fun h => h.elim, Blk.start⟩
        · intro Inv hInv
          refine AllD.cons ?_ (AllD.cons ?_ (AllD.cons ?_ (AllD.cons ?_ (AllD.cons ?_ (AllD.cons ?_ (AllD.cons ?_ (AllD.cons ?_ (AllD.cons ?_ (AllD.cons ?_ (AllD.cons ?_ (AllD.cons ?_ (AllD.cons ?_ (AllD.nil)))))))))))))
          · refine StepD.plain rfl rfl ?_
            intro D a' w' hn hp hI K hK
            obtain ⟨x38, x39, x40, x41, x42, x43, x44, x37, x45, x46, x10, x11, C10, ha, hbl, f0, f1, f2, f3, f4, f5, f6, f7, f8, f9, f12, g10⟩ := (hInv.out D a' w').1 hI
            subst ha; clear hI
            (try simp only [List.set_cons_zero, List.set_cons_succ])
            have bz := r3_0.call hbl
            obtain ⟨bc, bf, bl_⟩ := bz.tell
            go_simp
            exact hK.out _ _ ((hInv.out _ _ _).2 ⟨_, _, _, _, _, _, _, _, _, _, _, _, C10, rfl, hbl, fun _ => (by first | rfl | go_num | (simp; done)), told_next f1 (by decide), told_next f2 (by decide), told_next f3 (by decide), told_next f4 (by decide), told_next f5 (by decide), told_next f6 (by decide), told_next f7 (by decide), told_next f8 (by decide), told_next f9 (by decide), told_next f12 (by decide), g10.next (by decide) (by decide) (fun _ _ h => h)⟩)
          · refine StepD.plain rfl rfl ?_
            intro D a' w' hn hp hI K hK
            obtain ⟨x38, x39, x40, x41, x42, x43, x44, x37, x45, x46, x10, x11, C10, ha, hbl, f0, f1, f2, f3, f4, f5, f6, f7, f8, f9, f12, g10⟩ := (hInv.out D a' w').1 hI
            subst ha; clear hI
            (try simp only [List.set_cons_zero, List.set_cons_succ])
            go_simp
            exact hK.out _ _ ((hInv.out _ _ _).2 ⟨_, _, _, _, _, _, _, _, _, _, _, _, C10, rfl, hbl, told_next f0 (by decide), fun _ => (by first | rfl | go_num | (simp; done)), told_next f2 (by decide), told_next f3 (by decide), told_next f4 (by decide), told_next f5 (by decide), told_next f6 (by decide), told_next f7 (by decide), told_next f8 (by decide), told_next f9 (by decide), told_next f12 (by decide), g10.next (by decide) (by decide) (fun _ _ h => h)⟩)
          · refine StepD.plain rfl rfl ?_
            intro D a' w' hn hp hI K hK
            obtain ⟨x38, x39, x40, x41, x42, x43, x44, x37, x45, x46, x10, x11, C10, ha, hbl, f0, f1, f2, f3, f4, f5, f6, f7, f8, f9, f12, g10⟩ := (hInv.out D a' w').1 hI
            subst ha; clear hI
            (try simp only [List.set_cons_zero, List.set_cons_succ])
            go_simp
            exact hK.out _ _ ((hInv.out _ _ _).2 ⟨_, _, _, _, _, _, _, _, _, _, _, _, C10, rfl, hbl, told_next f0 (by decide), told_next f1 (by decide), fun _ => (by first | rfl | go_num | (simp; done)), told_next f3 (by decide), told_next f4 (by decide), told_next f5 (by decide), told_next f6 (by decide), told_next f7 (by decide), told_next f8 (by decide), told_next f9 (by decide), told_next f12 (by decide), g10.next (by decide) (by decide) (fun _ _ h => h)⟩)
          · refine StepD.plain rfl rfl ?_
            intro D a' w' hn hp hI K hK
            obtain ⟨x38, x39, x40, x41, x42, x43, x44, x37, x45, x46, x10, x11, C10, ha, hbl, f0, f1, f2, f3, f4, f5, f6, f7, f8, f9, f12, g10⟩ := (hInv.out D a' w').1 hI
            subst ha; clear hI
            (try simp only [List.set_cons_zero, List.set_cons_succ])
            obtain ⟨p3_1, p3_2, _⟩ := hp
            have p3_1 : D 1 := p3_1 rfl
            have p3_2 : D 2 := p3_2 rfl
            have e1 := f1 p3_1; subst e1
            have e2 := f2 p3_2; subst e2
            go_simp
            exact hK.out _ _ ((hInv.out _ _ _).2 ⟨_, _, _, _, _, _, _, _, _, _, _, _, C10, rfl, hbl, told_next f0 (by decide), fun _ => rfl, fun _ => rfl, fun _ => (by first | rfl | go_num | (simp; done)), told_next f4 (by decide), told_next f5 (by decide), told_next f6 (by decide), told_next f7 (by decide), told_next f8 (by decide), told_next f9 (by decide), told_next f12 (by decide), g10.next (by decide) (by decide) (fun _ _ h => h)⟩)
          · refine StepD.plain rfl rfl ?_
            intro D a' w' hn hp hI K hK
            obtain ⟨x38, x39, x40, x41, x42, x43, x44, x37, x45, x46, x10, x11, C10, ha, hbl, f0, f1, f2, f3, f4, f5, f6, f7, f8, f9, f12, g10⟩ := (hInv.out D a' w').1 hI
            subst ha; clear hI
            (try simp only [List.set_cons_zero, List.set_cons_succ])
            obtain ⟨p4_3, _⟩ := hp
            have p4_3 : D 3 := p4_3 rfl
            have e3 := f3 p4_3; subst e3
            go_simp
            refine (s0 _).mono ?_
            rintro e w2 ⟨rfl, hbc⟩
            go_wp2_with fail
            exact hK.out _ _ ((hInv.out _ _ _).2 ⟨_, _, _, _, _, _, _, _, _, _, _, _, C10, rfl, hbl.trans hbc, told_next f0 (by decide), told_next f1 (by decide), told_next f2 (by decide), fun _ => rfl, fun _ => (by first | rfl | go_num | (simp; done)), told_next f5 (by decide), told_next f6 (by decide), told_next f7 (by decide), told_next f8 (by decide), told_next f9 (by decide), told_next f12 (by decide), g10.next (by decide) (by decide) (fun _ _ h => h.call hbc)⟩)
          · refine StepD.plain rfl rfl ?_
            intro D a' w' hn hp hI K hK
            obtain ⟨x38, x39, x40, x41, x42, x43, x44, x37, x45, x46, x10, x11, C10, ha, hbl, f0, f1, f2, f3, f4, f5, f6, f7, f8, f9, f12, g10⟩ := (hInv.out D a' w').1 hI
            subst ha; clear hI
            (try simp only [List.set_cons_zero, List.set_cons_succ])
            have bz := r3_2.call hbl
            obtain ⟨bc, bf, bl_⟩ := bz.tell
            go_simp
            exact hK.out _ _ ((hInv.out _ _ _).2 ⟨_, _, _, _, _, _, _, _, _, _, _, _, C10, rfl, hbl, told_next f0 (by decide), told_next f1 (by decide), told_next f2 (by decide), told_next f3 (by decide), told_next f4 (by decide), fun _ => (by first | rfl | go_num | (simp; done)), told_next f6 (by decide), told_next f7 (by decide), told_next f8 (by decide), told_next f9 (by decide), told_next f12 (by decide), g10.next (by decide) (by decide) (fun _ _ h => h)⟩)
          · refine StepD.plain rfl rfl ?_
            intro D a' w' hn hp hI K hK
            obtain ⟨x38, x39, x40, x41, x42, x43, x44, x37, x45, x46, x10, x11, C10, ha, hbl, f0, f1, f2, f3, f4, f5, f6, f7, f8, f9, f12, g10⟩ := (hInv.out D a' w').1 hI
            subst ha; clear hI
            (try simp only [List.set_cons_zero, List.set_cons_succ])
            obtain ⟨p6_0, p6_4, p6_5, _, _⟩ := hp
            have p6_0 : D 0 := p6_0 rfl
            have p6_4 : D 4 := p6_4 rfl
            have p6_5 : D 5 := p6_5 rfl
            have e0 := f0 p6_0; subst e0
            have e4 := f4 p6_4; subst e4
            have e5 := f5 p6_5; subst e5
            go_simp
            refine (s1 _).mono ?_
            rintro e w2 ⟨rfl, hbc⟩
            go_wp2_with fail
            exact hK.out _ _ ((hInv.out _ _ _).2 ⟨_, _, _, _, _, _, _, _, _, _, _, _, C10, rfl, hbl.trans hbc, fun _ => rfl, told_next f1 (by decide), told_next f2 (by decide), told_next f3 (by decide), fun _ => rfl, fun _ => rfl, fun _ => (by first | rfl | go_num | (simp; done)), told_next f7 (by decide), told_next f8 (by decide), told_next f9 (by decide), told_next f12 (by decide), g10.next (by decide) (by decide) (fun _ _ h => h.call hbc)⟩)
          · refine StepD.plain rfl rfl ?_
            intro D a' w' hn hp hI K hK
            obtain ⟨x38, x39, x40, x41, x42, x43, x44, x37, x45, x46, x10, x11, C10, ha, hbl, f0, f1, f2, f3, f4, f5, f6, f7, f8, f9, f12, g10⟩ := (hInv.out D a' w').1 hI
            subst ha; clear hI
            (try simp only [List.set_cons_zero, List.set_cons_succ])
            obtain ⟨p7_6, _⟩ := hp
            have p7_6 : D 6 := p7_6 rfl
            have e6 := f6 p7_6; subst e6
            go_simp
            exact hK.out _ _ ((hInv.out _ _ _).2 ⟨_, _, _, _, _, _, _, _, _, _, _, _, C10, rfl, hbl, told_next f0 (by decide), told_next f1 (by decide), told_next f2 (by decide), told_next f3 (by decide), told_next f4 (by decide), told_next f5 (by decide), fun _ => rfl, fun _ => (by first | rfl | go_num | (simp; done)), told_next f8 (by decide), told_next f9 (by decide), told_next f12 (by decide), g10.next (by decide) (by decide) (fun _ _ h => h)⟩)
          · refine StepD.plain rfl rfl ?_
            intro D a' w' hn hp hI K hK
            obtain ⟨x38, x39, x40, x41, x42, x43, x44, x37, x45, x46, x10, x11, C10, ha, hbl, f0, f1, f2, f3, f4, f5, f6, f7, f8, f9, f12, g10⟩ := (hInv.out D a' w').1 hI
            subst ha; clear hI
            (try simp only [List.set_cons_zero, List.set_cons_succ])
            obtain ⟨p8_7, _⟩ := hp
            have p8_7 : D 7 := p8_7 rfl
            have e7 := f7 p8_7; subst e7
            go_simp
            exact hK.out _ _ ((hInv.out _ _ _).2 ⟨_, _, _, _, _, _, _, _, _, _, _, _, C10, rfl, hbl, told_next f0 (by decide), told_next f1 (by decide), told_next f2 (by decide), told_next f3 (by decide), told_next f4 (by decide), told_next f5 (by decide), told_next f6 (by decide), fun _ => rfl, fun _ => (by first | rfl | go_num | (simp; done)), told_next f9 (by decide), told_next f12 (by decide), g10.next (by decide) (by decide) (fun _ _ h => h)⟩)
          · refine StepD.plain rfl rfl ?_
            intro D a' w' hn hp hI K hK
            obtain ⟨x38, x39, x40, x41, x42, x43, x44, x37, x45, x46, x10, x11, C10, ha, hbl, f0, f1, f2, f3, f4, f5, f6, f7, f8, f9, f12, g10⟩ := (hInv.out D a' w').1 hI
            subst ha; clear hI
            (try simp only [List.set_cons_zero, List.set_cons_succ])
            obtain ⟨p9_7, _, _⟩ := hp
            have p9_7 : D 7 := p9_7 rfl
            have e7 := f7 p9_7; subst e7
            go_simp
            exact hK.out _ _ ((hInv.out _ _ _).2 ⟨_, _, _, _, _, _, _, _, _, _, _, _, C10, rfl, hbl, told_next f0 (by decide), told_next f1 (by decide), told_next f2 (by decide), told_next f3 (by decide), told_next f4 (by decide), told_next f5 (by decide), told_next f6 (by decide), fun _ => rfl, told_next f8 (by decide), fun _ => (by first | rfl | go_num | (simp; done)), told_next f12 (by decide), g10.next (by decide) (by decide) (fun _ _ h => h)⟩)
          · refine StepD.plain rfl rfl ?_
            intro D a' w' hn hp hI K hK
            obtain ⟨x38, x39, x40, x41, x42, x43, x44, x37, x45, x46, x10, x11, C10, ha, hbl, f0, f1, f2, f3, f4, f5, f6, f7, f8, f9, f12, g10⟩ := (hInv.out D a' w').1 hI
            subst ha; clear hI
            (try simp only [List.set_cons_zero, List.set_cons_succ])
            go_simp
            exact hK.out _ _ ((hInv.out _ _ _).2 ⟨_, _, _, _, _, _, _, _, _, _, _, _, _, rfl, hbl.alloc _, told_next f0 (by decide), told_next f1 (by decide), told_next f2 (by decide), told_next f3 (by decide), told_next f4 (by decide), told_next f5 (by decide), told_next f6 (by decide), told_next f7 (by decide), told_next f8 (by decide), told_next f9 (by decide), told_next f12 (by decide), g10.made hn (by decide) hbl.size⟩)
          · refine StepD.plain rfl rfl ?_
            intro D a' w' hn hp hI K hK
            obtain ⟨x38, x39, x40, x41, x42, x43, x44, x37, x45, x46, x10, x11, C10, ha, hbl, f0, f1, f2, f3, f4, f5, f6, f7, f8, f9, f12, g10⟩ := (hInv.out D a' w').1 hI
            subst ha; clear hI
            (try simp only [List.set_cons_zero, List.set_cons_succ])
            obtain ⟨p11_10, p11_8, p11_6, p11_0, p11_1, p11_2, p11_3, p11_4, p11_5, _, p11_7, _, _, _, _⟩ := hp
            have p11_0 : D 0 := p11_0 rfl
            have p11_1 : D 1 := p11_1 rfl
            have p11_2 : D 2 := p11_2 rfl
            have p11_3 : D 3 := p11_3 rfl
            have p11_4 : D 4 := p11_4 rfl
            have p11_5 : D 5 := p11_5 rfl
            have p11_6 : D 6 := p11_6 rfl
            have p11_7 : D 7 := p11_7 rfl
            have p11_8 : D 8 := p11_8 rfl
            have p11_10 : D 10 := p11_10 rfl
            obtain ⟨e10, lw10, ha10, hz10⟩ := g10.2 p11_10
            subst e10
            have bz := hz10 hn
            obtain ⟨bc, bf, bl_⟩ := bz.tell
            clear ha10 hz10
            have e8 := f8 p11_8; subst e8
            go_simp
            have lwb : w3.heap.size ≤ C10 := lw10
            exact hK.out _ _ ((hInv.out _ _ _).2 ⟨_, _, _, _, _, _, _, _, _, _, _, _, C10, rfl, ((((hbl).setCell (by simp only []; omega) _).setCell (by simp only []; omega) _).setCell (by simp only []; omega) _).setCell (by simp only []; omega) _, told_next f0 (by decide), told_next f1 (by decide), told_next f2 (by decide), told_next f3 (by decide), told_next f4 (by decide), told_next f5 (by decide), told_next f6 (by decide), told_next f7 (by decide), fun _ => rfl, told_next f9 (by decide), told_next f12 (by decide), g10.filled p11_10 hn (fun h => (((((h).set _ _).set _ _).set _ _).set _ _).cells rfl)⟩)
          · refine StepD.plain rfl rfl ?_
            intro D a' w' hn hp hI K hK
            obtain ⟨x38, x39, x40, x41, x42, x43, x44, x37, x45, x46, x10, x11, C10, ha, hbl, f0, f1, f2, f3, f4, f5, f6, f7, f8, f9, f12, g10⟩ := (hInv.out D a' w').1 hI
            subst ha; clear hI
            (try simp only [List.set_cons_zero, List.set_cons_succ])
            obtain ⟨p12_9, p12_11, p12_0, p12_1, p12_2, p12_3, p12_4, p12_5, p12_6, p12_7, p12_8, _, p12_10, _, _⟩ := hp
            have p12_0 : D 0 := p12_0 rfl
            have p12_1 : D 1 := p12_1 rfl
            have p12_2 : D 2 := p12_2 rfl
            have p12_3 : D 3 := p12_3 rfl
            have p12_4 : D 4 := p12_4 rfl
            have p12_5 : D 5 := p12_5 rfl
            have p12_6 : D 6 := p12_6 rfl
            have p12_7 : D 7 := p12_7 rfl
            have p12_8 : D 8 := p12_8 rfl
            have p12_9 : D 9 := p12_9 rfl
            have p12_10 : D 10 := p12_10 rfl
            have p12_11 : D 11 := p12_11 rfl
            have e9 := f9 p12_9; subst e9
            go_simp
            exact hK.out _ _ ((hInv.out _ _ _).2 ⟨_, _, _, _, _, _, _, _, _, _, _, _, C10, rfl, hbl, told_next f0 (by decide), told_next f1 (by decide), told_next f2 (by decide), told_next f3 (by decide), told_next f4 (by decide), told_next f5 (by decide), told_next f6 (by decide), told_next f7 (by decide), told_next f8 (by decide), fun _ => rfl, fun _ => (by first | rfl | go_num | (simp; done)), g10.next (by decide) (by decide) (fun _ _ h => h)⟩)
        · intro D a' w4 hall hI
          obtain ⟨x38, x39, x40, x41, x42, x43, x44, x37, x45, x46, x10, x11, B3, ha, hb4, f0, f1, f2, f3, f4, f5, f6, f7, f8, f9, f12, g10⟩ := hI
          subst ha
          (try simp only [List.set_cons_zero, List.set_cons_succ])
          have e := f0 (hall 0 (by decide)); subst e
          have e := f1 (hall 1 (by decide)); subst e
          have e := f2 (hall 2 (by decide)); subst e
          have e := f3 (hall 3 (by decide)); subst e
          have e := f4 (hall 4 (by decide)); subst e
          have e := f5 (hall 5 (by decide)); subst e
          have e := f6 (hall 6 (by decide)); subst e
          have e := f7 (hall 7 (by decide)); subst e
          have e := f8 (hall 8 (by decide)); subst e
          have e := f9 (hall 9 (by decide)); subst e
          have e := f12 (hall 12 (by decide)); subst e
          obtain ⟨e, lw3, ha3, hz3⟩ := g10.2 (hall 10 (by decide))
          subst e
          have q3 := ha3 (hall 11 (by decide))
          clear ha3 hz3 g10
          clear hall
          (try simp only [Act.put, List.setIfInBounds_toArray, List.set_cons_zero, List.set_cons_succ])
          have lo3 : w.heap.size ≤ B3 := (by have := y3; omega)
          have n3_0 : (B3 = B0) = False := (by simp only [eq_iff_iff, iff_false]; have := r3_0_l; omega)
          have n0_3 : (B0 = B3) = False := (by simp only [eq_iff_iff, iff_false]; have := r3_0_l; omega)
          have n3_1 : (B3 = B1) = False := (by simp only [eq_iff_iff, iff_false]; have := r3_1_l; omega)
          have n1_3 : (B1 = B3) = False := (by simp only [eq_iff_iff, iff_false]; have := r3_1_l; omega)
          have n3_2 : (B3 = B2) = False := (by simp only [eq_iff_iff, iff_false]; have := r3_2_l; omega)
          have n2_3 : (B2 = B3) = False := (by simp only [eq_iff_iff, iff_false]; have := r3_2_l; omega)
          have r4_0 : Box w4 B0 #[.int .u64 (L base 0), .int .u64 (L base 1), .int .u64 (L base 2), .int .u64 (L base 3)] 24 := r3_0.call hb4
          have r4_1 : Box w4 B1 #[.int .u64 0, .int .u64 0, .int .u64 0, .int .u64 0] 24 := r3_1.call hb4
          have r4_2 : Box w4 B2 #[.int .u64 (L g 0), .int .u64 (L g 1), .int .u64 (L g 2), .int .u64 (L g 3)] 24 := r3_2.call hb4
          have r4_3 : Box w4 B3 #[.int .u64 (L d 0), .int .u64 (L d 1), .int .u64 (L d 2), .int .u64 (L d 3)] 24 := q3
          have b4 : Bl w w4 := Bl.trans b3 hb4
          have z4 : w3.heap.size ≤ w4.heap.size := (by have := hb4.size; omega)
          have y4 : w.heap.size ≤ w4.heap.size := b4.size
          clear r3_0 r3_0_c r3_0_f r3_0_l r3_1 r3_1_c r3_1_f r3_1_l r3_2 r3_2_c r3_2_f r3_2_l b3
          obtain ⟨r4_0_c, r4_0_f, r4_0_l⟩ := r4_0.tell
          obtain ⟨r4_1_c, r4_1_f, r4_1_l⟩ := r4_1.tell
          obtain ⟨r4_2_c, r4_2_f, r4_2_l⟩ := r4_2.tell
          obtain ⟨r4_3_c, r4_3_f, r4_3_l⟩ := r4_3.tell
          clear hb4 lw3
          go_wp2_with fail
          refine (s2 _).mono ?_
          rintro e w5 ⟨rfl, hb5⟩
          have r5_0 : Box w5 B0 #[.int .u64 (L base 0), .int .u64 (L base 1), .int .u64 (L base 2), .int .u64 (L base 3)] 24 := (r4_0).call hb5
          have r5_1 : Box w5 B1 #[.int .u64 0, .int .u64 0, .int .u64 0, .int .u64 0] 24 := (r4_1).call hb5
          have r5_2 : Box w5 B2 #[.int .u64 (L g 0), .int .u64 (L g 1), .int .u64 (L g 2), .int .u64 (L g 3)] 24 := (r4_2).call hb5
          have b5 : Bl w w5 := Bl.trans (b4) hb5
          have z5 : w4.heap.size ≤ w5.heap.size := (by have := hb5.size; (try simp only [World.alloc, World.setCell, World.drew, Array.size_push, Array.size_modify] at this); omega)
          have y5 : w.heap.size ≤ w5.heap.size := b5.size
          clear r4_0 r4_0_c r4_0_f r4_0_l r4_1 r4_1_c r4_1_f r4_1_l r4_2 r4_2_c r4_2_f r4_2_l r4_3 r4_3_c r4_3_f r4_3_l b4
          obtain ⟨r5_0_c, r5_0_f, r5_0_l⟩ := r5_0.tell
          obtain ⟨r5_1_c, r5_1_f, r5_1_l⟩ := r5_1.tell
          obtain ⟨r5_2_c, r5_2_f, r5_2_l⟩ := r5_2.tell
          have d5_0 : (B0 = w5.heap.size) = False := (by simp only [eq_iff_iff, iff_false]; omega)
          have e5_0 : (w5.heap.size = B0) = False := (by simp only [eq_iff_iff, iff_false]; omega)
          have m5_0 : B0 < w5.heap.size := (by omega)
          have d5_1 : (B0 = w5.heap.size + 1) = False := (by simp only [eq_iff_iff, iff_false]; omega)
          have e5_1 : (w5.heap.size + 1 = B0) = False := (by simp only [eq_iff_iff, iff_false]; omega)
          have m5_1 : B0 < w5.heap.size + 1 := (by omega)
          have d5_2 : (B1 = w5.heap.size) = False := (by simp only [eq_iff_iff, iff_false]; omega)
          have e5_2 : (w5.heap.size = B1) = False := (by simp only [eq_iff_iff, iff_false]; omega)
          have m5_2 : B1 < w5.heap.size := (by omega)
          have d5_3 : (B1 = w5.heap.size + 1) = False := (by simp only [eq_iff_iff, iff_false]; omega)
          have e5_3 : (w5.heap.size + 1 = B1) = False := (by simp only [eq_iff_iff, iff_false]; omega)
          have m5_3 : B1 < w5.heap.size + 1 := (by omega)
          have d5_4 : (B2 = w5.heap.size) = False := (by simp only [eq_iff_iff, iff_false]; omega)
          have e5_4 : (w5.heap.size = B2) = False := (by simp only [eq_iff_iff, iff_false]; omega)
          have m5_4 : B2 < w5.heap.size := (by omega)
          have d5_5 : (B2 = w5.heap.size + 1) = False := (by simp only [eq_iff_iff, iff_false]; omega)
          have e5_5 : (w5.heap.size + 1 = B2) = False := (by simp only [eq_iff_iff, iff_false]; omega)
          have m5_5 : B2 < w5.heap.size + 1 := (by omega)
          clear hb5
          go_wp2_with fail
          refine bodyPost_ret (v := .tuple #[U r, .int .i64 0]) (by simp only [results, Try.results8]; go_simp) rfl ⟨rfl, ?_⟩
          exact (((((b5).setCell (by simp only []; omega) _).setCell (by simp only []; omega) _).setCell (by simp only []; omega) _).setCell (by simp only []; omega) _).alloc _
      · skip
        by_cases h3 : used = tg
        · skip
          rw [if_neg h0, if_neg h1, if_neg h2, if_pos h3, if_neg h0, if_neg h1, if_neg h2, if_pos h3]
          have c0 : decide (limit < used) = false := by simp; omega
          have c2 : (used == tg) = true := by simp; omega
          have c3 : ((used : Int) == (tg : Int)) = true := by simp; omega
          go_wp2_with fail
          refine (g1 _).mono ?_
          rintro e w6 ⟨rfl, hb6⟩
          have r6_0 : Box w6 w.heap.size #[.int .u64 (L base 0), .int .u64 (L base 1), .int .u64 (L base 2), .int .u64 (L base 3)] 24 := ((Box.new _ _ _ _ (by simp)).alloc _).call hb6
          have r6_1 : Box w6 (w.heap.size + 1) #[.int .u64 0, .int .u64 0, .int .u64 0, .int .u64 0] 24 := (Box.new _ _ _ _ (by simp)).call hb6
          have b6 : Bl w w6 := Bl.trans (((Bl.refl w).alloc _).alloc _) hb6
          have z6 : w.heap.size + 1 + 1 ≤ w6.heap.size := (by have := hb6.size; (try simp only [World.alloc, World.setCell, World.drew, Array.size_push, Array.size_modify] at this); omega)
          have y6 : w.heap.size ≤ w6.heap.size := b6.size
          obtain ⟨B1, hB1⟩ : ∃ B, B = w.heap.size + 1 := ⟨_, rfl⟩
          (try rw [← hB1]); rw [← hB1] at r6_1
          obtain ⟨B0, hB0⟩ : ∃ B, B = w.heap.size := ⟨_, rfl⟩
          (try rw [← hB0]); rw [← hB0] at r6_0
          have lo0 : w.heap.size ≤ B0 := by omega
          have lo1 : w.heap.size ≤ B1 := by omega
          have n0_1 : (B0 = B1) = False := (by simp only [eq_iff_iff, iff_false]; omega)
          have n1_0 : (B1 = B0) = False := (by simp only [eq_iff_iff, iff_false]; omega)
          clear hB0
          clear hB1
          obtain ⟨r6_0_c, r6_0_f, r6_0_l⟩ := r6_0.tell
          obtain ⟨r6_1_c, r6_1_f, r6_1_l⟩ := r6_1.tell
          clear hb6
          go_wp2_with fail
          refine (g2 _).mono ?_
          rintro e w7 ⟨rfl, hb7⟩
          have r7_0 : Box w7 B0 #[.int .u64 (L base 0), .int .u64 (L base 1), .int .u64 (L base 2), .int .u64 (L base 3)] 24 := (r6_0).call hb7
          have r7_1 : Box w7 B1 #[.int .u64 0, .int .u64 0, .int .u64 0, .int .u64 0] 24 := (r6_1).call hb7
          have b7 : Bl w w7 := Bl.trans (b6) hb7
          have z7 : w6.heap.size ≤ w7.heap.size := (by have := hb7.size; (try simp only [World.alloc, World.setCell, World.drew, Array.size_push, Array.size_modify] at this); omega)
          have y7 : w.heap.size ≤ w7.heap.size := b7.size
          clear r6_0 r6_0_c r6_0_f r6_0_l r6_1 r6_1_c r6_1_f r6_1_l b6
          obtain ⟨r7_0_c, r7_0_f, r7_0_l⟩ := r7_0.tell
          obtain ⟨r7_1_c, r7_1_f, r7_1_l⟩ := r7_1.tell
          have d7_0 : (B0 = w7.heap.size) = False := (by simp only [eq_iff_iff, iff_false]; omega)
          have e7_0 : (w7.heap.size = B0) = False := (by simp only [eq_iff_iff, iff_false]; omega)
          have m7_0 : B0 < w7.heap.size := (by omega)
          have d7_1 : (B0 = w7.heap.size + 1) = False := (by simp only [eq_iff_iff, iff_false]; omega)
          have e7_1 : (w7.heap.size + 1 = B0) = False := (by simp only [eq_iff_iff, iff_false]; omega)
          have m7_1 : B0 < w7.heap.size + 1 := (by omega)
          have d7_2 : (B1 = w7.heap.size) = False := (by simp only [eq_iff_iff, iff_false]; omega)
          have e7_2 : (w7.heap.size = B1) = False := (by simp only [eq_iff_iff, iff_false]; omega)
          have m7_2 : B1 < w7.heap.size := (by omega)
          have d7_3 : (B1 = w7.heap.size + 1) = False := (by simp only [eq_iff_iff, iff_false]; omega)
          have e7_3 : (w7.heap.size + 1 = B1) = False := (by simp only [eq_iff_iff, iff_false]; omega)
          have m7_3 : B1 < w7.heap.size + 1 := (by omega)
          clear hb7
          go_wp2_with fail
          refine bodyPost_ret (v := .tuple #[U base, .int .i64 0]) (by simp only [results, Try.results8]; go_simp) rfl ⟨rfl, ?_⟩
          exact (((((b7).setCell (by simp only []; omega) _).setCell (by simp only []; omega) _).setCell (by simp only []; omega) _).setCell (by simp only []; omega) _).alloc _
        · skip
          rw [if_neg h0, if_neg h1, if_neg h2, if_neg h3, if_neg h0, if_neg h1, if_neg h2, if_neg h3]
          have c0 : decide (limit < used) = false := by simp; omega
          have c1 : decide (used < tg) = false := by simp; omega
          have c2 : (used == tg) = false := by simp; omega
          have c3 : ((used : Int) == (tg : Int)) = false := by simp; omega
          unfold nbD
          obtain ⟨of, hof⟩ : ∃ of, of = used - tg := ⟨_, rfl⟩
          have e1 : (used : Int) - tg = (of : Int) := by omega
          have htt := HTG.out
          have hle := stepN_le (off := of) hb (show 0 < tg by omega) (by omega)
          have hmde := (stepN_eq (off := of) hb (show 0 < tg by omega) (by omega)).2
          clear htt
          have s0 := fun w => rfrom_c of (by omega) w
          have s1 := fun w => rmuldiv_c base of g hb (by rw [T256_eq]; omega) hgT w
          rw [hgg, hmde, show mdV base of (8 * tg) = stepN base of tg from rfl, ← hgg] at s1
          rw [← hof]
          obtain ⟨d, hd⟩ : ∃ d, d = stepN base of tg := ⟨_, rfl⟩
          rw [← hd] at s1 hle ⊢
          have e2 : IntKind.u64.wrap (of : Int) = (of : Int) := by unfold IntKind.wrap; simp [IntKind.bits, IntKind.signed]; omega
          have hdT : d < T256 := by omega
          have hq := fun w => run_eq_U hdT T256_pos w
          rw [← U_zero] at hq
          clear hof hd hmde hgg
          by_cases h4 : d = 0
          · skip
            have g4 : decide (d = 0) = true := by simpa using h4
            rw [if_pos h4]
            simp only [g4] at hq
            obtain ⟨cy, hcy⟩ : ∃ c, c = (base + 1) / T256 := ⟨_, rfl⟩
            have s2 := fun w => rsum_c base 1 hb (by rw [T256_eq]; omega) w
            rw [← hcy] at s2
            clear h4 g4
            by_cases h5 : base + 1 < T256
            · skip
              rw [if_pos h5, if_pos h5]
              rw [Nat.mod_eq_of_lt h5] at s2
              obtain rfl : cy = 0 := by rw [hcy]; exact Nat.div_eq_of_lt h5
              rw [show (((0 : Nat) : Int) == 0) = true from rfl] at s2
              obtain ⟨r, hr⟩ : ∃ r, r = base + 1 := ⟨_, rfl⟩
              rw [← hr] at s2 ⊢
              clear hr hcy h5 hle
              go_wp2_with fail
              refine (g1 _).mono ?_
              rintro e w8 ⟨rfl, hb8⟩
              have r8_0 : Box w8 w.heap.size #[.int .u64 (L base 0), .int .u64 (L base 1), .int .u64 (L base 2), .int .u64 (L base 3)] 24 := ((Box.new _ _ _ _ (by simp)).alloc _).call hb8
              have r8_1 : Box w8 (w.heap.size + 1) #[.int .u64 0, .int .u64 0, .int .u64 0, .int .u64 0] 24 := (Box.new _ _ _ _ (by simp)).call hb8
              have b8 : Bl w w8 := Bl.trans (((Bl.refl w).alloc _).alloc _) hb8
              have z8 : w.heap.size + 1 + 1 ≤ w8.heap.size := (by have := hb8.size; (try simp only [World.alloc, World.setCell, World.drew, Array.size_push, Array.size_modify] at this); omega)
              have y8 : w.heap.size ≤ w8.heap.size := b8.size
              obtain ⟨B1, hB1⟩ : ∃ B, B = w.heap.size + 1 := ⟨_, rfl⟩
              (try rw [← hB1]); rw [← hB1] at r8_1
              obtain ⟨B0, hB0⟩ : ∃ B, B = w.heap.size := ⟨_, rfl⟩
              (try rw [← hB0]); rw [← hB0] at r8_0
              have lo0 : w.heap.size ≤ B0 := by omega
              have lo1 : w.heap.size ≤ B1 := by omega
              have n0_1 : (B0 = B1) = False := (by simp only [eq_iff_iff, iff_false]; omega)
              have n1_0 : (B1 = B0) = False := (by simp only [eq_iff_iff, iff_false]; omega)
              clear hB0
              clear hB1
              obtain ⟨r8_0_c, r8_0_f, r8_0_l⟩ := r8_0.tell
              obtain ⟨r8_1_c, r8_1_f, r8_1_l⟩ := r8_1.tell
              clear hb8
              go_wp2_with fail
              refine (g2 _).mono ?_
              rintro e w9 ⟨rfl, hb9⟩
              have r9_0 : Box w9 B0 #[.int .u64 (L base 0), .int .u64 (L base 1), .int .u64 (L base 2), .int .u64 (L base 3)] 24 := (r8_0).call hb9
              have r9_1 : Box w9 B1 #[.int .u64 0, .int .u64 0, .int .u64 0, .int .u64 0] 24 := (r8_1).call hb9
              have b9 : Bl w w9 := Bl.trans (b8) hb9
              have z9 : w8.heap.size ≤ w9.heap.size := (by have := hb9.size; (try simp only [World.alloc, World.setCell, World.drew, Array.size_push, Array.size_modify] at this); omega)
              have y9 : w.heap.size ≤ w9.heap.size := b9.size
              clear r8_0 r8_0_c r8_0_f r8_0_l r8_1 r8_1_c r8_1_f r8_1_l b8
              obtain ⟨r9_0_c, r9_0_f, r9_0_l⟩ := r9_0.tell
              obtain ⟨r9_1_c, r9_1_f, r9_1_l⟩ := r9_1.tell
              have d9_0 : (B0 = w9.heap.size) = False := (by simp only [eq_iff_iff, iff_false]; omega)
              have e9_0 : (w9.heap.size = B0) = False := (by simp only [eq_iff_iff, iff_false]; omega)
              have m9_0 : B0 < w9.heap.size := (by omega)
              have d9_1 : (B0 = w9.heap.size + 1) = False := (by simp only [eq_iff_iff, iff_false]; omega)
              have e9_1 : (w9.heap.size + 1 = B0) = False := (by simp only [eq_iff_iff, iff_false]; omega)
              have m9_1 : B0 < w9.heap.size + 1 := (by omega)
              have d9_2 : (B1 = w9.heap.size) = False := (by simp only [eq_iff_iff, iff_false]; omega)
              have e9_2 : (w9.heap.size = B1) = False := (by simp only [eq_iff_iff, iff_false]; omega)
              have m9_2 : B1 < w9.heap.size := (by omega)
              have d9_3 : (B1 = w9.heap.size + 1) = False := (by simp only [eq_iff_iff, iff_false]; omega)
              have e9_3 : (w9.heap.size + 1 = B1) = False := (by simp only [eq_iff_iff, iff_false]; omega)
              have m9_3 : B1 < w9.heap.size + 1 := (by omega)
              clear hb9
              go_wp2_with fail
              obtain ⟨w10, hw10⟩ : ∃ V : World, V = (w9.alloc (.cells #[.int .u64 (L g 0), .int .u64 (L g 1), .int .u64 (L g 2), .int .u64 (L g 3)] 24)) := ⟨_, rfl⟩
              rw [← hw10]
              have r10_0 : Box w10 B0 #[.int .u64 (L base 0), .int .u64 (L base 1), .int .u64 (L base 2), .int .u64 (L base 3)] 24 := by rw [hw10]; exact (r9_0).alloc _
              have r10_1 : Box w10 B1 #[.int .u64 0, .int .u64 0, .int .u64 0, .int .u64 0] 24 := by rw [hw10]; exact (r9_1).alloc _
              have r10_6 : Box w10 w9.heap.size #[.int .u64 (L g 0), .int .u64 (L g 1), .int .u64 (L g 2), .int .u64 (L g 3)] 24 := by rw [hw10]; exact Box.new _ _ _ _ (by simp)
              have b10 : Bl w w10 := by rw [hw10]; exact (b9).alloc _
              have z10 : w9.heap.size + 1 ≤ w10.heap.size := (by rw [hw10]; simp only [World.alloc, World.setCell, World.drew, Array.size_push, Array.size_modify]; omega)
              have y10 : w.heap.size ≤ w10.heap.size := b10.size
              obtain ⟨B6, hB6⟩ : ∃ B, B = w9.heap.size := ⟨_, rfl⟩
              (try rw [← hB6]); rw [← hB6] at r10_6
              have lo6 : w.heap.size ≤ B6 := by omega
              have n6_0 : (B6 = B0) = False := (by simp only [eq_iff_iff, iff_false]; have := r9_0_l; omega)
              have n0_6 : (B0 = B6) = False := (by simp only [eq_iff_iff, iff_false]; have := r9_0_l; omega)
              have n6_1 : (B6 = B1) = False := (by simp only [eq_iff_iff, iff_false]; have := r9_1_l; omega)
              have n1_6 : (B1 = B6) = False := (by simp only [eq_iff_iff, iff_false]; have := r9_1_l; omega)
              clear hB6
              clear r9_0 r9_0_c r9_0_f r9_0_l r9_1 r9_1_c r9_1_f r9_1_l b9
              obtain ⟨r10_0_c, r10_0_f, r10_0_l⟩ := r10_0.tell
              obtain ⟨r10_1_c, r10_1_f, r10_1_l⟩ := r10_1.tell
              obtain ⟨r10_6_c, r10_6_f, r10_6_l⟩ := r10_6.tell
              clear hw10
              refine wp_region_told_at (fun l0 D a' w' => ∃ (x55 : Value) (x56 : Value) (x57 : Value) (x58 : Value) (x59 : Value) (x60 : Value) (x61 : Value) (x54 : Value) (x62 : Value) (x63 : Value) (x14 : Value) (x15 : Value) (C10 : Nat), a' = ⟨(((((((((((((l0).set 55 x55).set 56 x56).set 57 x57).set 58 x58).set 59 x59).set 60 x60).set 61 x61).set 54 x54).set 62 x62).set 63 x63).set 14 x14).set 15 x15).toArray, []⟩ ∧ Bl w10 w' ∧ (D 0 → x55 = U base) ∧ (D 1 → x56 = .int .u64 used) ∧ (D 2 → x57 = .int .u64 tg) ∧ (D 3 → x58 = .int .u64 of) ∧ (D 4 → x59 = U of) ∧ (D 5 → x60 = U g) ∧ (D 6 → x61 = .tuple #[U d, .int .i64 0]) ∧ (D 7 → x54 = .tuple #[U d, .int .i64 0]) ∧ (D 8 → x62 = U d) ∧ (D 9 → x63 = .int .i64 0) ∧ (D 12 → x15 = .int .i64 0) ∧ Blk D 10 11 w10 w' x14 C10 #[.int .u64 0, .int .u64 0, .int .u64 0, .int .u64 0] #[.int .u64 (L d 0), .int .u64 (L d 1), .int .u64 (L d 2), .int .u64 (L d 3)] 24) (by kernel_rfl) (by kernel_rfl) ?_ ?_ ?_
              · exact fun l0 => ⟨l0.getD 55 undef, l0.getD 56 undef, l0.getD 57 undef, l0.getD 58 undef, l0.getD 59 undef, l0.getD 60 undef, l0.getD 61 undef, l0.getD 54 undef, l0.getD 62 undef, l0.getD 63 undef, l0.getD 14 undef, l0.getD 15 undef, 0, (by simp only [set_self]), (Bl.refl w10).drew, fun h => h.elim, fun h => h.elim, fun h => h.elim, fun h => h.elim, fun h => h.elim, fun h => h.elim, fun h => h.elim, fun h => h.elim, fun h => h.elim, fun h => h.elim, fun h => h.elim, Blk.start⟩
              · intro Inv hInv
                refine AllD.cons ?_ (AllD.cons ?_ (AllD.cons ?_ (AllD.cons ?_ (AllD.cons ?_ (AllD.cons ?_ (AllD.cons ?_ (AllD.cons ?_ (AllD.cons ?_ (AllD.cons ?_ (AllD.cons ?_ (AllD.cons ?_ (AllD.cons ?_ (AllD.nil)))))))))))))
                · refine StepD.plain rfl rfl ?_
                  intro D a' w' hn hp hI K hK
                  obtain ⟨x55, x56, x57, x58, x59, x60, x61, x54, x62, x63, x14, x15, C10, ha, hbl, f0, f1, f2, f3, f4, f5, f6, f7, f8, f9, f12, g10⟩ := (hInv.out D a' w').1 hI
                  subst ha; clear hI
                  (try simp only [List.set_cons_zero, List.set_cons_succ])
                  have bz := r10_0.call hbl
                  obtain ⟨bc, bf, bl_⟩ := bz.tell
                  go_simp
                  exact hK.out _ _ ((hInv.out _ _ _).2 ⟨_, _, _, _, _, _, _, _, _, _, _, _, C10, rfl, hbl, fun _ => (by first | rfl | go_num | (simp; done)), told_next f1 (by decide), told_next f2 (by decide), told_next f3 (by decide), told_next f4 (by decide), told_next f5 (by decide), told_next f6 (by decide), told_next f7 (by decide), told_next f8 (by decide), told_next f9 (by decide), told_next f12 (by decide), g10.next (by decide) (by decide) (fun _ _ h => h)⟩)
                · refine StepD.plain rfl rfl ?_
                  intro D a' w' hn hp hI K hK
                  obtain ⟨x55, x56, x57, x58, x59, x60, x61, x54, x62, x63, x14, x15, C10, ha, hbl, f0, f1, f2, f3, f4, f5, f6, f7, f8, f9, f12, g10⟩ := (hInv.out D a' w').1 hI
                  subst ha; clear hI
                  (try simp only [List.set_cons_zero, List.set_cons_succ])
                  go_simp
                  exact hK.out _ _ ((hInv.out _ _ _).2 ⟨_, _, _, _, _, _, _, _, _, _, _, _, C10, rfl, hbl, told_next f0 (by decide), fun _ => (by first | rfl | go_num | (simp; done)), told_next f2 (by decide), told_next f3 (by decide), told_next f4 (by decide), told_next f5 (by decide), told_next f6 (by decide), told_next f7 (by decide), told_next f8 (by decide), told_next f9 (by decide), told_next f12 (by decide), g10.next (by decide) (by decide) (fun _ _ h => h)⟩)
                · refine StepD.plain rfl rfl ?_
                  intro D a' w' hn hp hI K hK
                  obtain ⟨x55, x56, x57, x58, x59, x60, x61, x54, x62, x63, x14, x15, C10, ha, hbl, f0, f1, f2, f3, f4, f5, f6, f7, f8, f9, f12, g10⟩ := (hInv.out D a' w').1 hI
                  subst ha; clear hI
                  (try simp only [List.set_cons_zero, List.set_cons_succ])
                  go_simp
                  exact hK.out _ _ ((hInv.out _ _ _).2 ⟨_, _, _, _, _, _, _, _, _, _, _, _, C10, rfl, hbl, told_next f0 (by decide), told_next f1 (by decide), fun _ => (by first | rfl | go_num | (simp; done)), told_next f3 (by decide), told_next f4 (by decide), told_next f5 (by decide), told_next f6 (by decide), told_next f7 (by decide), told_next f8 (by decide), told_next f9 (by decide), told_next f12 (by decide), g10.next (by decide) (by decide) (fun _ _ h => h)⟩)
                · refine StepD.plain rfl rfl ?_
                  intro D a' w' hn hp hI K hK
                  obtain ⟨x55, x56, x57, x58, x59, x60, x61, x54, x62, x63, x14, x15, C10, ha, hbl, f0, f1, f2, f3, f4, f5, f6, f7, f8, f9, f12, g10⟩ := (hInv.out D a' w').1 hI
                  subst ha; clear hI
                  (try simp only [List.set_cons_zero, List.set_cons_succ])
                  obtain ⟨p3_1, p3_2, _⟩ := hp
                  have p3_1 : D 1 := p3_1 rfl
                  have p3_2 : D 2 := p3_2 rfl
                  have e1 := f1 p3_1; subst e1
                  have e2 := f2 p3_2; subst e2
                  go_simp
                  exact hK.out _ _ ((hInv.out _ _ _).2 ⟨_, _, _, _, _, _, _, _, _, _, _, _, C10, rfl, hbl, told_next f0 (by decide), fun _ => rfl, fun _ => rfl, fun _ => (by first | rfl | go_num | (simp; done)), told_next f4 (by decide), told_next f5 (by decide), told_next f6 (by decide), told_next f7 (by decide), told_next f8 (by decide), told_next f9 (by decide), told_next f12 (by decide), g10.next (by decide) (by decide) (fun _ _ h => h)⟩)
                · refine StepD.plain rfl rfl ?_
                  intro D a' w' hn hp hI K hK
                  obtain ⟨x55, x56, x57, x58, x59, x60, x61, x54, x62, x63, x14, x15, C10, ha, hbl, f0, f1, f2, f3, f4, f5, f6, f7, f8, f9, f12, g10⟩ := (hInv.out D a' w').1 hI
                  subst ha; clear hI
                  (try simp only [List.set_cons_zero, List.set_cons_succ])
                  obtain ⟨p4_3, _⟩ := hp
                  have p4_3 : D 3 := p4_3 rfl
                  have e3 := f3 p4_3; subst e3
                  go_simp
                  refine (s0 _).mono ?_
                  rintro e w2 ⟨rfl, hbc⟩
                  go_wp2_with fail
                  exact hK.out _ _ ((hInv.out _ _ _).2 ⟨_, _, _, _, _, _, _, _, _, _, _, _, C10, rfl, hbl.trans hbc, told_next f0 (by decide), told_next f1 (by decide), told_next f2 (by decide), fun _ => rfl, fun _ => (by first | rfl | go_num | (simp; done)), told_next f5 (by decide), told_next f6 (by decide), told_next f7 (by decide), told_next f8 (by decide), told_next f9 (by decide), told_next f12 (by decide), g10.next (by decide) (by decide) (fun _ _ h => h.call hbc)⟩)
                · refine StepD.plain rfl rfl ?_
                  intro D a' w' hn hp hI K hK
                  obtain ⟨x55, x56, x57, x58, x59, x60, x61, x54, x62, x63, x14, x15, C10, ha, hbl, f0, f1, f2, f3, f4, f5, f6, f7, f8, f9, f12, g10⟩ := (hInv.out D a' w').1 hI
                  subst ha; clear hI
                  (try simp only [List.set_cons_zero, List.set_cons_succ])
                  have bz := r10_6.call hbl
                  obtain ⟨bc, bf, bl_⟩ := bz.tell
                  go_simp
                  exact hK.out _ _ ((hInv.out _ _ _).2 ⟨_, _, _, _, _, _, _, _, _, _, _, _, C10, rfl, hbl, told_next f0 (by decide), told_next f1 (by decide), told_next f2 (by decide), told_next f3 (by decide), told_next f4 (by decide), fun _ => (by first | rfl | go_num | (simp; done)), told_next f6 (by decide), told_next f7 (by decide), told_next f8 (by decide), told_next f9 (by decide), told_next f12 (by decide), g10.next (by decide) (by decide) (fun _ _ h => h)⟩)
                · refine StepD.plain rfl rfl ?_
                  intro D a' w' hn hp hI K hK
                  obtain ⟨x55, x56, x57, x58, x59, x60, x61, x54, x62, x63, x14, x15, C10, ha, hbl, f0, f1, f2, f3, f4, f5, f6, f7, f8, f9, f12, g10⟩ := (hInv.out D a' w').1 hI
                  subst ha; clear hI
                  (try simp only [List.set_cons_zero, List.set_cons_succ])
                  obtain ⟨p6_0, p6_4, p6_5, _, _⟩ := hp
                  have p6_0 : D 0 := p6_0 rfl
                  have p6_4 : D 4 := p6_4 rfl
                  have p6_5 : D 5 := p6_5 rfl
                  have e0 := f0 p6_0; subst e0
                  have e4 := f4 p6_4; subst e4
                  have e5 := f5 p6_5; subst e5
                  go_simp
                  refine (s1 _).mono ?_
                  rintro e w2 ⟨rfl, hbc⟩
                  go_wp2_with fail
                  exact hK.out _ _ ((hInv.out _ _ _).2 ⟨_, _, _, _, _, _, _, _, _, _, _, _, C10, rfl, hbl.trans hbc, fun _ => rfl, told_next f1 (by decide), told_next f2 (by decide), told_next f3 (by decide), fun _ => rfl, fun _ => rfl, fun _ => (by first | rfl | go_num | (simp; done)), told_next f7 (by decide), told_next f8 (by decide), told_next f9 (by decide), told_next f12 (by decide), g10.next (by decide) (by decide) (fun _ _ h => h.call hbc)⟩)
                · refine StepD.plain rfl rfl ?_
                  intro D a' w' hn hp hI K hK
                  obtain ⟨x55, x56, x57, x58, x59, x60, x61, x54, x62, x63, x14, x15, C10, ha, hbl, f0, f1, f2, f3, f4, f5, f6, f7, f8, f9, f12, g10⟩ := (hInv.out D a' w').1 hI
                  subst ha; clear hI
                  (try simp only [List.set_cons_zero, List.set_cons_succ])
                  obtain ⟨p7_6, _⟩ := hp
                  have p7_6 : D 6 := p7_6 rfl
                  have e6 := f6 p7_6; subst e6
                  go_simp
                  exact hK.out _ _ ((hInv.out _ _ _).2 ⟨_, _, _, _, _, _, _, _, _, _, _, _, C10, rfl, hbl, told_next f0 (by decide), told_next f1 (by decide), told_next f2 (by decide), told_next f3 (by decide), told_next f4 (by decide), told_next f5 (by decide), fun _ => rfl, fun _ => (by first | rfl | go_num | (simp; done)), told_next f8 (by decide), told_next f9 (by decide), told_next f12 (by decide), g10.next (by decide) (by decide) (fun _ _ h => h)⟩)
                · refine StepD.plain rfl rfl ?_
                  intro D a' w' hn hp hI K hK
                  obtain ⟨x55, x56, x57, x58, x59, x60, x61, x54, x62, x63, x14, x15, C10, ha, hbl, f0, f1, f2, f3, f4, f5, f6, f7, f8, f9, f12, g10⟩ := (hInv.out D a' w').1 hI
                  subst ha; clear hI
                  (try simp only [List.set_cons_zero, List.set_cons_succ])
                  obtain ⟨p8_7, _⟩ := hp
                  have p8_7 : D 7 := p8_7 rfl
                  have e7 := f7 p8_7; subst e7
                  go_simp
                  exact hK.out _ _ ((hInv.out _ _ _).2 ⟨_, _, _, _, _, _, _, _, _, _, _, _, C10, rfl, hbl, told_next f0 (by decide), told_next f1 (by decide), told_next f2 (by decide), told_next f3 (by decide), told_next f4 (by decide), told_next f5 (by decide), told_next f6 (by decide), fun _ => rfl, fun _ => (by first | rfl | go_num | (simp; done)), told_next f9 (by decide), told_next f12 (by decide), g10.next (by decide) (by decide) (fun _ _ h => h)⟩)
                · refine StepD.plain rfl rfl ?_
                  intro D a' w' hn hp hI K hK
                  obtain ⟨x55, x56, x57, x58, x59, x60, x61, x54, x62, x63, x14, x15, C10, ha, hbl, f0, f1, f2, f3, f4, f5, f6, f7, f8, f9, f12, g10⟩ := (hInv.out D a' w').1 hI
                  subst ha; clear hI
                  (try simp only [List.set_cons_zero, List.set_cons_succ])
                  obtain ⟨p9_7, _, _⟩ := hp
                  have p9_7 : D 7 := p9_7 rfl
                  have e7 := f7 p9_7; subst e7
                  go_simp
                  exact hK.out _ _ ((hInv.out _ _ _).2 ⟨_, _, _, _, _, _, _, _, _, _, _, _, C10, rfl, hbl, told_next f0 (by decide), told_next f1 (by decide), told_next f2 (by decide), told_next f3 (by decide), told_next f4 (by decide), told_next f5 (by decide), told_next f6 (by decide), fun _ => rfl, told_next f8 (by decide), fun _ => (by first | rfl | go_num | (simp; done)), told_next f12 (by decide), g10.next (by decide) (by decide) (fun _ _ h => h)⟩)
                · refine StepD.plain rfl rfl ?_
                  intro D a' w' hn hp hI K hK
                  obtain ⟨x55, x56, x57, x58, x59, x60, x61, x54, x62, x63, x14, x15, C10, ha, hbl, f0, f1, f2, f3, f4, f5, f6, f7, f8, f9, f12, g10⟩ := (hInv.out D a' w').1 hI
                  subst ha; clear hI
                  (try simp only [List.set_cons_zero, List.set_cons_succ])
                  go_simp
                  exact hK.out _ _ ((hInv.out _ _ _).2 ⟨_, _, _, _, _, _, _, _, _, _, _, _, _, rfl, hbl.alloc _, told_next f0 (by decide), told_next f1 (by decide), told_next f2 (by decide), told_next f3 (by decide), told_next f4 (by decide), told_next f5 (by decide), told_next f6 (by decide), told_next f7 (by decide), told_next f8 (by decide), told_next f9 (by decide), told_next f12 (by decide), g10.made hn (by decide) hbl.size⟩)
                · refine StepD.plain rfl rfl ?_
                  intro D a' w' hn hp hI K hK
                  obtain ⟨x55, x56, x57, x58, x59, x60, x61, x54, x62, x63, x14, x15, C10, ha, hbl, f0, f1, f2, f3, f4, f5, f6, f7, f8, f9, f12, g10⟩ := (hInv.out D a' w').1 hI
                  subst ha; clear hI
                  (try simp only [List.set_cons_zero, List.set_cons_succ])
                  obtain ⟨p11_10, p11_8, p11_6, p11_0, p11_1, p11_2, p11_3, p11_4, p11_5, _, p11_7, _, _, _, _⟩ := hp
                  have p11_0 : D 0 := p11_0 rfl
                  have p11_1 : D 1 := p11_1 rfl
                  have p11_2 : D 2 := p11_2 rfl
                  have p11_3 : D 3 := p11_3 rfl
                  have p11_4 : D 4 := p11_4 rfl
                  have p11_5 : D 5 := p11_5 rfl
                  have p11_6 : D 6 := p11_6 rfl
                  have p11_7 : D 7 := p11_7 rfl
                  have p11_8 : D 8 := p11_8 rfl
                  have p11_10 : D 10 := p11_10 rfl
                  obtain ⟨e14, lw14, ha14, hz14⟩ := g10.2 p11_10
                  subst e14
                  have bz := hz14 hn
                  obtain ⟨bc, bf, bl_⟩ := bz.tell
                  clear ha14 hz14
                  have e8 := f8 p11_8; subst e8
                  go_simp
                  have lwb : w10.heap.size ≤ C10 := lw14
                  exact hK.out _ _ ((hInv.out _ _ _).2 ⟨_, _, _, _, _, _, _, _, _, _, _, _, C10, rfl, ((((hbl).setCell (by simp only []; omega) _).setCell (by simp only []; omega) _).setCell (by simp only []; omega) _).setCell (by simp only []; omega) _, told_next f0 (by decide), told_next f1 (by decide), told_next f2 (by decide), told_next f3 (by decide), told_next f4 (by decide), told_next f5 (by decide), told_next f6 (by decide), told_next f7 (by decide), fun _ => rfl, told_next f9 (by decide), told_next f12 (by decide), g10.filled p11_10 hn (fun h => (((((h).set _ _).set _ _).set _ _).set _ _).cells rfl)⟩)
                · refine StepD.plain rfl rfl ?_
                  intro D a' w' hn hp hI K hK
                  obtain ⟨x55, x56, x57, x58, x59, x60, x61, x54, x62, x63, x14, x15, C10, ha, hbl, f0, f1, f2, f3, f4, f5, f6, f7, f8, f9, f12, g10⟩ := (hInv.out D a' w').1 hI
                  subst ha; clear hI
                  (try simp only [List.set_cons_zero, List.set_cons_succ])
                  obtain ⟨p12_9, p12_11, p12_0, p12_1, p12_2, p12_3, p12_4, p12_5, p12_6, p12_7, p12_8, _, p12_10, _, _⟩ := hp
                  have p12_0 : D 0 := p12_0 rfl
                  have p12_1 : D 1 := p12_1 rfl
                  have p12_2 : D 2 := p12_2 rfl
                  have p12_3 : D 3 := p12_3 rfl
                  have p12_4 : D 4 := p12_4 rfl
                  have p12_5 : D 5 := p12_5 rfl
                  have p12_6 : D 6 := p12_6 rfl
                  have p12_7 : D 7 := p12_7 rfl
                  have p12_8 : D 8 := p12_8 rfl
                  have p12_9 : D 9 := p12_9 rfl
                  have p12_10 : D 10 := p12_10 rfl
                  have p12_11 : D 11 := p12_11 rfl
                  have e9 := f9 p12_9; subst e9
                  go_simp
                  exact hK.out _ _ ((hInv.out _ _ _).2 ⟨_, _, _, _, _, _, _, _, _, _, _, _, C10, rfl, hbl, told_next f0 (by decide), told_next f1 (by decide), told_next f2 (by decide), told_next f3 (by decide), told_next f4 (by decide), told_next f5 (by decide), told_next f6 (by decide), told_next f7 (by decide), told_next f8 (by decide), fun _ => rfl, fun _ => (by first | rfl | go_num | (simp; done)), g10.next (by decide) (by decide) (fun _ _ h => h)⟩)
              · intro D a' w11 hall hI
                obtain ⟨x55, x56, x57, x58, x59, x60, x61, x54, x62, x63, x14, x15, B7, ha, hb11, f0, f1, f2, f3, f4, f5, f6, f7, f8, f9, f12, g10⟩ := hI
                subst ha
                (try simp only [List.set_cons_zero, List.set_cons_succ])
                have e := f0 (hall 0 (by decide)); subst e
                have e := f1 (hall 1 (by decide)); subst e
                have e := f2 (hall 2 (by decide)); subst e
                have e := f3 (hall 3 (by decide)); subst e
                have e := f4 (hall 4 (by decide)); subst e
                have e := f5 (hall 5 (by decide)); subst e
                have e := f6 (hall 6 (by decide)); subst e
                have e := f7 (hall 7 (by decide)); subst e
                have e := f8 (hall 8 (by decide)); subst e
                have e := f9 (hall 9 (by decide)); subst e
                have e := f12 (hall 12 (by decide)); subst e
                obtain ⟨e, lw7, ha7, hz7⟩ := g10.2 (hall 10 (by decide))
                subst e
                have q7 := ha7 (hall 11 (by decide))
                clear ha7 hz7 g10
                clear hall
                (try simp only [Act.put, List.setIfInBounds_toArray, List.set_cons_zero, List.set_cons_succ])
                have lo7 : w.heap.size ≤ B7 := (by have := y10; omega)
                have n7_0 : (B7 = B0) = False := (by simp only [eq_iff_iff, iff_false]; have := r10_0_l; omega)
                have n0_7 : (B0 = B7) = False := (by simp only [eq_iff_iff, iff_false]; have := r10_0_l; omega)
                have n7_1 : (B7 = B1) = False := (by simp only [eq_iff_iff, iff_false]; have := r10_1_l; omega)
                have n1_7 : (B1 = B7) = False := (by simp only [eq_iff_iff, iff_false]; have := r10_1_l; omega)
                have r11_0 : Box w11 B0 #[.int .u64 (L base 0), .int .u64 (L base 1), .int .u64 (L base 2), .int .u64 (L base 3)] 24 := r10_0.call hb11
                have r11_1 : Box w11 B1 #[.int .u64 0, .int .u64 0, .int .u64 0, .int .u64 0] 24 := r10_1.call hb11
                have r11_7 : Box w11 B7 #[.int .u64 (L d 0), .int .u64 (L d 1), .int .u64 (L d 2), .int .u64 (L d 3)] 24 := q7
                have b11 : Bl w w11 := Bl.trans b10 hb11
                have z11 : w10.heap.size ≤ w11.heap.size := (by have := hb11.size; omega)
                have y11 : w.heap.size ≤ w11.heap.size := b11.size
                clear r10_0 r10_0_c r10_0_f r10_0_l r10_1 r10_1_c r10_1_f r10_1_l r10_6 r10_6_c r10_6_f r10_6_l b10
                obtain ⟨r11_0_c, r11_0_f, r11_0_l⟩ := r11_0.tell
                obtain ⟨r11_1_c, r11_1_f, r11_1_l⟩ := r11_1.tell
                obtain ⟨r11_7_c, r11_7_f, r11_7_l⟩ := r11_7.tell
                clear hb11 lw7
                go_wp2_with fail
                refine (s2 _).mono ?_
                rintro e w12 ⟨rfl, hb12⟩
                have r12_1 : Box w12 B1 #[.int .u64 0, .int .u64 0, .int .u64 0, .int .u64 0] 24 := (((((r11_1).far _ _ (by simp only []; first | omega | exact of_eq_false (by assumption))).far _ _ (by simp only []; first | omega | exact of_eq_false (by assumption))).far _ _ (by simp only []; first | omega | exact of_eq_false (by assumption))).far _ _ (by simp only []; first | omega | exact of_eq_false (by assumption))).call hb12
                have b12 : Bl w w12 := Bl.trans (((((b11).setCell (by simp only []; omega) _).setCell (by simp only []; omega) _).setCell (by simp only []; omega) _).setCell (by simp only []; omega) _) hb12
                have z12 : w11.heap.size ≤ w12.heap.size := (by have := hb12.size; (try simp only [World.alloc, World.setCell, World.drew, Array.size_push, Array.size_modify] at this); omega)
                have y12 : w.heap.size ≤ w12.heap.size := b12.size
                clear r11_0 r11_0_c r11_0_f r11_0_l r11_1 r11_1_c r11_1_f r11_1_l r11_7 r11_7_c r11_7_f r11_7_l b11
                obtain ⟨r12_1_c, r12_1_f, r12_1_l⟩ := r12_1.tell
                have d12_0 : (B1 = w12.heap.size) = False := (by simp only [eq_iff_iff, iff_false]; omega)
                have e12_0 : (w12.heap.size = B1) = False := (by simp only [eq_iff_iff, iff_false]; omega)
                have m12_0 : B1 < w12.heap.size := (by omega)
                have d12_1 : (B1 = w12.heap.size + 1) = False := (by simp only [eq_iff_iff, iff_false]; omega)
                have e12_1 : (w12.heap.size + 1 = B1) = False := (by simp only [eq_iff_iff, iff_false]; omega)
                have m12_1 : B1 < w12.heap.size + 1 := (by omega)
                clear hb12
                go_wp2_with fail
                refine bodyPost_ret (v := .tuple #[U r, .int .i64 0]) (by simp only [results, Try.results8]; go_simp) rfl ⟨rfl, ?_⟩
                exact (((((b12).setCell (by simp only []; omega) _).setCell (by simp only []; omega) _).setCell (by simp only []; omega) _).setCell (by simp only []; omega) _).alloc _
            · skip
              rw [if_neg h5, if_neg h5]
              obtain rfl : cy = 1 := by rw [hcy]; rw [T256_eq] at *; omega
              rw [show (((1 : Nat) : Int) == 0) = false from rfl] at s2
              generalize (base + 1) % T256 = r at *
              clear hcy h5 hle
              go_wp2_with fail
              refine (g1 _).mono ?_
              rintro e w13 ⟨rfl, hb13⟩
              have r13_0 : Box w13 w.heap.size #[.int .u64 (L base 0), .int .u64 (L base 1), .int .u64 (L base 2), .int .u64 (L base 3)] 24 := ((Box.new _ _ _ _ (by simp)).alloc _).call hb13
              have r13_1 : Box w13 (w.heap.size + 1) #[.int .u64 0, .int .u64 0, .int .u64 0, .int .u64 0] 24 := (Box.new _ _ _ _ (by simp)).call hb13
              have b13 : Bl w w13 := Bl.trans (((Bl.refl w).alloc _).alloc _) hb13
              have z13 : w.heap.size + 1 + 1 ≤ w13.heap.size := (by have := hb13.size; (try simp only [World.alloc, World.setCell, World.drew, Array.size_push, Array.size_modify] at this); omega)
              have y13 : w.heap.size ≤ w13.heap.size := b13.size
              obtain ⟨B1, hB1⟩ : ∃ B, B = w.heap.size + 1 := ⟨_, rfl⟩
              (try rw [← hB1]); rw [← hB1] at r13_1
              obtain ⟨B0, hB0⟩ : ∃ B, B = w.heap.size := ⟨_, rfl⟩
              (try rw [← hB0]); rw [← hB0] at r13_0
              have lo0 : w.heap.size ≤ B0 := by omega
              have lo1 : w.heap.size ≤ B1 := by omega
              have n0_1 : (B0 = B1) = False := (by simp only [eq_iff_iff, iff_false]; omega)
              have n1_0 : (B1 = B0) = False := (by simp only [eq_iff_iff, iff_false]; omega)
              clear hB0
              clear hB1
              obtain ⟨r13_0_c, r13_0_f, r13_0_l⟩ := r13_0.tell
              obtain ⟨r13_1_c, r13_1_f, r13_1_l⟩ := r13_1.tell
              clear hb13
              go_wp2_with fail
              refine (g2 _).mono ?_
              rintro e w14 ⟨rfl, hb14⟩
              have r14_0 : Box w14 B0 #[.int .u64 (L base 0), .int .u64 (L base 1), .int .u64 (L base 2), .int .u64 (L base 3)] 24 := (r13_0).call hb14
              have r14_1 : Box w14 B1 #[.int .u64 0, .int .u64 0, .int .u64 0, .int .u64 0] 24 := (r13_1).call hb14
              have b14 : Bl w w14 := Bl.trans (b13) hb14
              have z14 : w13.heap.size ≤ w14.heap.size := (by have := hb14.size; (try simp only [World.alloc, World.setCell, World.drew, Array.size_push, Array.size_modify] at this); omega)
              have y14 : w.heap.size ≤ w14.heap.size := b14.size
              clear r13_0 r13_0_c r13_0_f r13_0_l r13_1 r13_1_c r13_1_f r13_1_l b13
              obtain ⟨r14_0_c, r14_0_f, r14_0_l⟩ := r14_0.tell
              obtain ⟨r14_1_c, r14_1_f, r14_1_l⟩ := r14_1.tell
              have d14_0 : (B0 = w14.heap.size) = False := (by simp only [eq_iff_iff, iff_false]; omega)
              have e14_0 : (w14.heap.size = B0) = False := (by simp only [eq_iff_iff, iff_false]; omega)
              have m14_0 : B0 < w14.heap.size := (by omega)
              have d14_1 : (B0 = w14.heap.size + 1) = False := (by simp only [eq_iff_iff, iff_false]; omega)
              have e14_1 : (w14.heap.size + 1 = B0) = False := (by simp only [eq_iff_iff, iff_false]; omega)
              have m14_1 : B0 < w14.heap.size + 1 := (by omega)
              have d14_2 : (B1 = w14.heap.size) = False := (by simp only [eq_iff_iff, iff_false]; omega)
              have e14_2 : (w14.heap.size = B1) = False := (by simp only [eq_iff_iff, iff_false]; omega)
              have m14_2 : B1 < w14.heap.size := (by omega)
              have d14_3 : (B1 = w14.heap.size + 1) = False := (by simp only [eq_iff_iff, iff_false]; omega)
              have e14_3 : (w14.heap.size + 1 = B1) = False := (by simp only [eq_iff_iff, iff_false]; omega)
              have m14_3 : B1 < w14.heap.size + 1 := (by omega)
              clear hb14
              go_wp2_with fail
              obtain ⟨w15, hw15⟩ : ∃ V : World, V = (w14.alloc (.cells #[.int .u64 (L g 0), .int .u64 (L g 1), .int .u64 (L g 2), .int .u64 (L g 3)] 24)) := ⟨_, rfl⟩
              rw [← hw15]
              have r15_0 : Box w15 B0 #[.int .u64 (L base 0), .int .u64 (L base 1), .int .u64 (L base 2), .int .u64 (L base 3)] 24 := by rw [hw15]; exact (r14_0).alloc _
              have r15_1 : Box w15 B1 #[.int .u64 0, .int .u64 0, .int .u64 0, .int .u64 0] 24 := by rw [hw15]; exact (r14_1).alloc _
              have r15_9 : Box w15 w14.heap.size #[.int .u64 (L g 0), .int .u64 (L g 1), .int .u64 (L g 2), .int .u64 (L g 3)] 24 := by rw [hw15]; exact Box.new _ _ _ _ (by simp)
              have b15 : Bl w w15 := by rw [hw15]; exact (b14).alloc _
              have z15 : w14.heap.size + 1 ≤ w15.heap.size := (by rw [hw15]; simp only [World.alloc, World.setCell, World.drew, Array.size_push, Array.size_modify]; omega)
              have y15 : w.heap.size ≤ w15.heap.size := b15.size
              obtain ⟨B9, hB9⟩ : ∃ B, B = w14.heap.size := ⟨_, rfl⟩
              (try rw [← hB9]); rw [← hB9] at r15_9
              have lo9 : w.heap.size ≤ B9 := by omega
              have n9_0 : (B9 = B0) = False := (by simp only [eq_iff_iff, iff_false]; have := r14_0_l; omega)
              have n0_9 : (B0 = B9) = False := (by simp only [eq_iff_iff, iff_false]; have := r14_0_l; omega)
              have n9_1 : (B9 = B1) = False := (by simp only [eq_iff_iff, iff_false]; have := r14_1_l; omega)
              have n1_9 : (B1 = B9) = False := (by simp only [eq_iff_iff, iff_false]; have := r14_1_l; omega)
              clear hB9
              clear r14_0 r14_0_c r14_0_f r14_0_l r14_1 r14_1_c r14_1_f r14_1_l b14
              obtain ⟨r15_0_c, r15_0_f, r15_0_l⟩ := r15_0.tell
              obtain ⟨r15_1_c, r15_1_f, r15_1_l⟩ := r15_1.tell
              obtain ⟨r15_9_c, r15_9_f, r15_9_l⟩ := r15_9.tell
              clear hw15
              refine wp_region_told_at (fun l0 D a' w' => ∃ (x55 : Value) (x56 : Value) (x57 : Value) (x58 : Value) (x59 : Value) (x60 : Value) (x61 : Value) (x54 : Value) (x62 : Value) (x63 : Value) (x14 : Value) (x15 : Value) (C10 : Nat), a' = ⟨(((((((((((((l0).set 55 x55).set 56 x56).set 57 x57).set 58 x58).set 59 x59).set 60 x60).set 61 x61).set 54 x54).set 62 x62).set 63 x63).set 14 x14).set 15 x15).toArray, []⟩ ∧ Bl w15 w' ∧ (D 0 → x55 = U base) ∧ (D 1 → x56 = .int .u64 used) ∧ (D 2 → x57 = .int .u64 tg) ∧ (D 3 → x58 = .int .u64 of) ∧ (D 4 → x59 = U of) ∧ (D 5 → x60 = U g) ∧ (D 6 → x61 = .tuple #[U d, .int .i64 0]) ∧ (D 7 → x54 = .tuple #[U d, .int .i64 0]) ∧ (D 8 → x62 = U d) ∧ (D 9 → x63 = .int .i64 0) ∧ (D 12 → x15 = .int .i64 0) ∧ Blk D 10 11 w15 w' x14 C10 #[.int .u64 0, .int .u64 0, .int .u64 0, .int .u64 0] #[.int .u64 (L d 0), .int .u64 (L d 1), .int .u64 (L d 2), .int .u64 (L d 3)] 24) (by kernel_rfl) (by kernel_rfl) ?_ ?_ ?_
              · exact fun l0 => ⟨l0.getD 55 undef, l0.getD 56 undef, l0.getD 57 undef, l0.getD 58 undef, l0.getD 59 undef, l0.getD 60 undef, l0.getD 61 undef, l0.getD 54 undef, l0.getD 62 undef, l0.getD 63 undef, l0.getD 14 undef, l0.getD 15 undef, 0, (by simp only [set_self]), (Bl.refl w15).drew, fun h => h.elim, fun h => h.elim, fun h => h.elim, fun h => h.elim, fun h => h.elim, fun h => h.elim, fun h => h.elim, fun h => h.elim, fun h => h.elim, fun h => h.elim, fun h => h.elim, Blk.start⟩
              · intro Inv hInv
                refine AllD.cons ?_ (AllD.cons ?_ (AllD.cons ?_ (AllD.cons ?_ (AllD.cons ?_ (AllD.cons ?_ (AllD.cons ?_ (AllD.cons ?_ (AllD.cons ?_ (AllD.cons ?_ (AllD.cons ?_ (AllD.cons ?_ (AllD.cons ?_ (AllD.nil)))))))))))))
                · refine StepD.plain rfl rfl ?_
                  intro D a' w' hn hp hI K hK
                  obtain ⟨x55, x56, x57, x58, x59, x60, x61, x54, x62, x63, x14, x15, C10, ha, hbl, f0, f1, f2, f3, f4, f5, f6, f7, f8, f9, f12, g10⟩ := (hInv.out D a' w').1 hI
                  subst ha; clear hI
                  (try simp only [List.set_cons_zero, List.set_cons_succ])
                  have bz := r15_0.call hbl
                  obtain ⟨bc, bf, bl_⟩ := bz.tell
                  go_simp
                  exact hK.out _ _ ((hInv.out _ _ _).2 ⟨_, _, _, _, _, _, _, _, _, _, _, _, C10, rfl, hbl, fun _ => (by first | rfl | go_num | (simp; done)), told_next f1 (by decide), told_next f2 (by decide), told_next f3 (by decide), told_next f4 (by decide), told_next f5 (by decide), told_next f6 (by decide), told_next f7 (by decide), told_next f8 (by decide), told_next f9 (by decide), told_next f12 (by decide), g10.next (by decide) (by decide) (fun _ _ h => h)⟩)
                · refine StepD.plain rfl rfl ?_
                  intro D a' w' hn hp hI K hK
                  obtain ⟨x55, x56, x57, x58, x59, x60, x61, x54, x62, x63, x14, x15, C10, ha, hbl, f0, f1, f2, f3, f4, f5, f6, f7, f8, f9, f12, g10⟩ := (hInv.out D a' w').1 hI
                  subst ha; clear hI
                  (try simp only [List.set_cons_zero, List.set_cons_succ])
                  go_simp
                  exact hK.out _ _ ((hInv.out _ _ _).2 ⟨_, _, _, _, _, _, _, _, _, _, _, _, C10, rfl, hbl, told_next f0 (by decide), fun _ => (by first | rfl | go_num | (simp; done)), told_next f2 (by decide), told_next f3 (by decide), told_next f4 (by decide), told_next f5 (by decide), told_next f6 (by decide), told_next f7 (by decide), told_next f8 (by decide), told_next f9 (by decide), told_next f12 (by decide), g10.next (by decide) (by decide) (fun _ _ h => h)⟩)
                · refine StepD.plain rfl rfl ?_
                  intro D a' w' hn hp hI K hK
                  obtain ⟨x55, x56, x57, x58, x59, x60, x61, x54, x62, x63, x14, x15, C10, ha, hbl, f0, f1, f2, f3, f4, f5, f6, f7, f8, f9, f12, g10⟩ := (hInv.out D a' w').1 hI
                  subst ha; clear hI
                  (try simp only [List.set_cons_zero, List.set_cons_succ])
                  go_simp
                  exact hK.out _ _ ((hInv.out _ _ _).2 ⟨_, _, _, _, _, _, _, _, _, _, _, _, C10, rfl, hbl, told_next f0 (by decide), told_next f1 (by decide), fun _ => (by first | rfl | go_num | (simp; done)), told_next f3 (by decide), told_next f4 (by decide), told_next f5 (by decide), told_next f6 (by decide), told_next f7 (by decide), told_next f8 (by decide), told_next f9 (by decide), told_next f12 (by decide), g10.next (by decide) (by decide) (fun _ _ h => h)⟩)
                · refine StepD.plain rfl rfl ?_
                  intro D a' w' hn hp hI K hK
                  obtain ⟨x55, x56, x57, x58, x59, x60, x61, x54, x62, x63, x14, x15, C10, ha, hbl, f0, f1, f2, f3, f4, f5, f6, f7, f8, f9, f12, g10⟩ := (hInv.out D a' w').1 hI
                  subst ha; clear hI
                  (try simp only [List.set_cons_zero, List.set_cons_succ])
                  obtain ⟨p3_1, p3_2, _⟩ := hp
                  have p3_1 : D 1 := p3_1 rfl
                  have p3_2 : D 2 := p3_2 rfl
                  have e1 := f1 p3_1; subst e1
                  have e2 := f2 p3_2; subst e2
                  go_simp
                  exact hK.out _ _ ((hInv.out _ _ _).2 ⟨_, _, _, _, _, _, _, _, _, _, _, _, C10, rfl, hbl, told_next f0 (by decide), fun _ => rfl, fun _ => rfl, fun _ => (by first | rfl | go_num | (simp; done)), told_next f4 (by decide), told_next f5 (by decide), told_next f6 (by decide), told_next f7 (by decide), told_next f8 (by decide), told_next f9 (by decide), told_next f12 (by decide), g10.next (by decide) (by decide) (fun _ _ h => h)⟩)
                · refine StepD.plain rfl rfl ?_
                  intro D a' w' hn hp hI K hK
                  obtain ⟨x55, x56, x57, x58, x59, x60, x61, x54, x62, x63, x14, x15, C10, ha, hbl, f0, f1, f2, f3, f4, f5, f6, f7, f8, f9, f12, g10⟩ := (hInv.out D a' w').1 hI
                  subst ha; clear hI
                  (try simp only [List.set_cons_zero, List.set_cons_succ])
                  obtain ⟨p4_3, _⟩ := hp
                  have p4_3 : D 3 := p4_3 rfl
                  have e3 := f3 p4_3; subst e3
                  go_simp
                  refine (s0 _).mono ?_
                  rintro e w2 ⟨rfl, hbc⟩
                  go_wp2_with fail
                  exact hK.out _ _ ((hInv.out _ _ _).2 ⟨_, _, _, _, _, _, _, _, _, _, _, _, C10, rfl, hbl.trans hbc, told_next f0 (by decide), told_next f1 (by decide), told_next f2 (by decide), fun _ => rfl, fun _ => (by first | rfl | go_num | (simp; done)), told_next f5 (by decide), told_next f6 (by decide), told_next f7 (by decide), told_next f8 (by decide), told_next f9 (by decide), told_next f12 (by decide), g10.next (by decide) (by decide) (fun _ _ h => h.call hbc)⟩)
                · refine StepD.plain rfl rfl ?_
                  intro D a' w' hn hp hI K hK
                  obtain ⟨x55, x56, x57, x58, x59, x60, x61, x54, x62, x63, x14, x15, C10, ha, hbl, f0, f1, f2, f3, f4, f5, f6, f7, f8, f9, f12, g10⟩ := (hInv.out D a' w').1 hI
                  subst ha; clear hI
                  (try simp only [List.set_cons_zero, List.set_cons_succ])
                  have bz := r15_9.call hbl
                  obtain ⟨bc, bf, bl_⟩ := bz.tell
                  go_simp
                  exact hK.out _ _ ((hInv.out _ _ _).2 ⟨_, _, _, _, _, _, _, _, _, _, _, _, C10, rfl, hbl, told_next f0 (by decide), told_next f1 (by decide), told_next f2 (by decide), told_next f3 (by decide), told_next f4 (by decide), fun _ => (by first | rfl | go_num | (simp; done)), told_next f6 (by decide), told_next f7 (by decide), told_next f8 (by decide), told_next f9 (by decide), told_next f12 (by decide), g10.next (by decide) (by decide) (fun _ _ h => h)⟩)
                · refine StepD.plain rfl rfl ?_
                  intro D a' w' hn hp hI K hK
                  obtain ⟨x55, x56, x57, x58, x59, x60, x61, x54, x62, x63, x14, x15, C10, ha, hbl, f0, f1, f2, f3, f4, f5, f6, f7, f8, f9, f12, g10⟩ := (hInv.out D a' w').1 hI
                  subst ha; clear hI
                  (try simp only [List.set_cons_zero, List.set_cons_succ])
                  obtain ⟨p6_0, p6_4, p6_5, _, _⟩ := hp
                  have p6_0 : D 0 := p6_0 rfl
                  have p6_4 : D 4 := p6_4 rfl
                  have p6_5 : D 5 := p6_5 rfl
                  have e0 := f0 p6_0; subst e0
                  have e4 := f4 p6_4; subst e4
                  have e5 := f5 p6_5; subst e5
                  go_simp
                  refine (s1 _).mono ?_
                  rintro e w2 ⟨rfl, hbc⟩
                  go_wp2_with fail
                  exact hK.out _ _ ((hInv.out _ _ _).2 ⟨_, _, _, _, _, _, _, _, _, _, _, _, C10, rfl, hbl.trans hbc, fun _ => rfl, told_next f1 (by decide), told_next f2 (by decide), told_next f3 (by decide), fun _ => rfl, fun _ => rfl, fun _ => (by first | rfl | go_num | (simp; done)), told_next f7 (by decide), told_next f8 (by decide), told_next f9 (by decide), told_next f12 (by decide), g10.next (by decide) (by decide) (fun _ _ h => h.call hbc)⟩)
                · refine StepD.plain rfl rfl ?_
                  intro D a' w' hn hp hI K hK
                  obtain ⟨x55, x56, x57, x58, x59, x60, x61, x54, x62, x63, x14, x15, C10, ha, hbl, f0, f1, f2, f3, f4, f5, f6, f7, f8, f9, f12, g10⟩ := (hInv.out D a' w').1 hI
                  subst ha; clear hI
                  (try simp only [List.set_cons_zero, List.set_cons_succ])
                  obtain ⟨p7_6, _⟩ := hp
                  have p7_6 : D 6 := p7_6 rfl
                  have e6 := f6 p7_6; subst e6
                  go_simp
                  exact hK.out _ _ ((hInv.out _ _ _).2 ⟨_, _, _, _, _, _, _, _, _, _, _, _, C10, rfl, hbl, told_next f0 (by decide), told_next f1 (by decide), told_next f2 (by decide), told_next f3 (by decide), told_next f4 (by decide), told_next f5 (by decide), fun _ => rfl, fun _ => (by first | rfl | go_num | (simp; done)), told_next f8 (by decide), told_next f9 (by decide), told_next f12 (by decide), g10.next (by decide) (by decide) (fun _ _ h => h)⟩)
                · refine StepD.plain rfl rfl ?_
                  intro D a' w' hn hp hI K hK
                  obtain ⟨x55, x56, x57, x58, x59, x60, x61, x54, x62, x63, x14, x15, C10, ha, hbl, f0, f1, f2, f3, f4, f5, f6, f7, f8, f9, f12, g10⟩ := (hInv.out D a' w').1 hI
                  subst ha; clear hI
                  (try simp only [List.set_cons_zero, List.set_cons_succ])
                  obtain ⟨p8_7, _⟩ := hp
                  have p8_7 : D 7 := p8_7 rfl
                  have e7 := f7 p8_7; subst e7
                  go_simp
                  exact hK.out _ _ ((hInv.out _ _ _).2 ⟨_, _, _, _, _, _, _, _, _, _, _, _, C10, rfl, hbl, told_next f0 (by decide), told_next f1 (by decide), told_next f2 (by decide), told_next f3 (by decide), told_next f4 (by decide), told_next f5 (by decide), told_next f6 (by decide), fun _ => rfl, fun _ => (by first | rfl | go_num | (simp; done)), told_next f9 (by decide), told_next f12 (by decide), g10.next (by decide) (by decide) (fun _ _ h => h)⟩)
                · refine StepD.plain rfl rfl ?_
                  intro D a' w' hn hp hI K hK
                  obtain ⟨x55, x56, x57, x58, x59, x60, x61, x54, x62, x63, x14, x15, C10, ha, hbl, f0, f1, f2, f3, f4, f5, f6, f7, f8, f9, f12, g10⟩ := (hInv.out D a' w').1 hI
                  subst ha; clear hI
                  (try simp only [List.set_cons_zero, List.set_cons_succ])
                  obtain ⟨p9_7, _, _⟩ := hp
                  have p9_7 : D 7 := p9_7 rfl
                  have e7 := f7 p9_7; subst e7
                  go_simp
                  exact hK.out _ _ ((hInv.out _ _ _).2 ⟨_, _, _, _, _, _, _, _, _, _, _, _, C10, rfl, hbl, told_next f0 (by decide), told_next f1 (by decide), told_next f2 (by decide), told_next f3 (by decide), told_next f4 (by decide), told_next f5 (by decide), told_next f6 (by decide), fun _ => rfl, told_next f8 (by decide), fun _ => (by first | rfl | go_num | (simp; done)), told_next f12 (by decide), g10.next (by decide) (by decide) (fun _ _ h => h)⟩)
                · refine StepD.plain rfl rfl ?_
                  intro D a' w' hn hp hI K hK
                  obtain ⟨x55, x56, x57, x58, x59, x60, x61, x54, x62, x63, x14, x15, C10, ha, hbl, f0, f1, f2, f3, f4, f5, f6, f7, f8, f9, f12, g10⟩ := (hInv.out D a' w').1 hI
                  subst ha; clear hI
                  (try simp only [List.set_cons_zero, List.set_cons_succ])
                  go_simp
                  exact hK.out _ _ ((hInv.out _ _ _).2 ⟨_, _, _, _, _, _, _, _, _, _, _, _, _, rfl, hbl.alloc _, told_next f0 (by decide), told_next f1 (by decide), told_next f2 (by decide), told_next f3 (by decide), told_next f4 (by decide), told_next f5 (by decide), told_next f6 (by decide), told_next f7 (by decide), told_next f8 (by decide), told_next f9 (by decide), told_next f12 (by decide), g10.made hn (by decide) hbl.size⟩)
                · refine StepD.plain rfl rfl ?_
                  intro D a' w' hn hp hI K hK
                  obtain ⟨x55, x56, x57, x58, x59, x60, x61, x54, x62, x63, x14, x15, C10, ha, hbl, f0, f1, f2, f3, f4, f5, f6, f7, f8, f9, f12, g10⟩ := (hInv.out D a' w').1 hI
                  subst ha; clear hI
                  (try simp only [List.set_cons_zero, List.set_cons_succ])
                  obtain ⟨p11_10, p11_8, p11_6, p11_0, p11_1, p11_2, p11_3, p11_4, p11_5, _, p11_7, _, _, _, _⟩ := hp
                  have p11_0 : D 0 := p11_0 rfl
                  have p11_1 : D 1 := p11_1 rfl
                  have p11_2 : D 2 := p11_2 rfl
                  have p11_3 : D 3 := p11_3 rfl
                  have p11_4 : D 4 := p11_4 rfl
                  have p11_5 : D 5 := p11_5 rfl
                  have p11_6 : D 6 := p11_6 rfl
                  have p11_7 : D 7 := p11_7 rfl
                  have p11_8 : D 8 := p11_8 rfl
                  have p11_10 : D 10 := p11_10 rfl
                  obtain ⟨e14, lw14, ha14, hz14⟩ := g10.2 p11_10
                  subst e14
                  have bz := hz14 hn
                  obtain ⟨bc, bf, bl_⟩ := bz.tell
                  clear ha14 hz14
                  have e8 := f8 p11_8; subst e8
                  go_simp
                  have lwb : w15.heap.size ≤ C10 := lw14
                  exact hK.out _ _ ((hInv.out _ _ _).2 ⟨_, _, _, _, _, _, _, _, _, _, _, _, C10, rfl, ((((hbl).setCell (by simp only []; omega) _).setCell (by simp only []; omega) _).setCell (by simp only []; omega) _).setCell (by simp only []; omega) _, told_next f0 (by decide), told_next f1 (by decide), told_next f2 (by decide), told_next f3 (by decide), told_next f4 (by decide), told_next f5 (by decide), told_next f6 (by decide), told_next f7 (by decide), fun _ => rfl, told_next f9 (by decide), told_next f12 (by decide), g10.filled p11_10 hn (fun h => (((((h).set _ _).set _ _).set _ _).set _ _).cells rfl)⟩)
                · refine StepD.plain rfl rfl ?_
                  intro D a' w' hn hp hI K hK
                  obtain ⟨x55, x56, x57, x58, x59, x60, x61, x54, x62, x63, x14, x15, C10, ha, hbl, f0, f1, f2, f3, f4, f5, f6, f7, f8, f9, f12, g10⟩ := (hInv.out D a' w').1 hI
                  subst ha; clear hI
                  (try simp only [List.set_cons_zero, List.set_cons_succ])
                  obtain ⟨p12_9, p12_11, p12_0, p12_1, p12_2, p12_3, p12_4, p12_5, p12_6, p12_7, p12_8, _, p12_10, _, _⟩ := hp
                  have p12_0 : D 0 := p12_0 rfl
                  have p12_1 : D 1 := p12_1 rfl
                  have p12_2 : D 2 := p12_2 rfl
                  have p12_3 : D 3 := p12_3 rfl
                  have p12_4 : D 4 := p12_4 rfl
                  have p12_5 : D 5 := p12_5 rfl
                  have p12_6 : D 6 := p12_6 rfl
                  have p12_7 : D 7 := p12_7 rfl
                  have p12_8 : D 8 := p12_8 rfl
                  have p12_9 : D 9 := p12_9 rfl
                  have p12_10 : D 10 := p12_10 rfl
                  have p12_11 : D 11 := p12_11 rfl
                  have e9 := f9 p12_9; subst e9
                  go_simp
                  exact hK.out _ _ ((hInv.out _ _ _).2 ⟨_, _, _, _, _, _, _, _, _, _, _, _, C10, rfl, hbl, told_next f0 (by decide), told_next f1 (by decide), told_next f2 (by decide), told_next f3 (by decide), told_next f4 (by decide), told_next f5 (by decide), told_next f6 (by decide), told_next f7 (by decide), told_next f8 (by decide), fun _ => rfl, fun _ => (by first | rfl | go_num | (simp; done)), g10.next (by decide) (by decide) (fun _ _ h => h)⟩)
              · intro D a' w16 hall hI
                obtain ⟨x55, x56, x57, x58, x59, x60, x61, x54, x62, x63, x14, x15, B10, ha, hb16, f0, f1, f2, f3, f4, f5, f6, f7, f8, f9, f12, g10⟩ := hI
                subst ha
                (try simp only [List.set_cons_zero, List.set_cons_succ])
                have e := f0 (hall 0 (by decide)); subst e
                have e := f1 (hall 1 (by decide)); subst e
                have e := f2 (hall 2 (by decide)); subst e
                have e := f3 (hall 3 (by decide)); subst e
                have e := f4 (hall 4 (by decide)); subst e
                have e := f5 (hall 5 (by decide)); subst e
                have e := f6 (hall 6 (by decide)); subst e
                have e := f7 (hall 7 (by decide)); subst e
                have e := f8 (hall 8 (by decide)); subst e
                have e := f9 (hall 9 (by decide)); subst e
                have e := f12 (hall 12 (by decide)); subst e
                obtain ⟨e, lw10, ha10, hz10⟩ := g10.2 (hall 10 (by decide))
                subst e
                have q10 := ha10 (hall 11 (by decide))
                clear ha10 hz10 g10
                clear hall
                (try simp only [Act.put, List.setIfInBounds_toArray, List.set_cons_zero, List.set_cons_succ])
                have lo10 : w.heap.size ≤ B10 := (by have := y15; omega)
                have n10_0 : (B10 = B0) = False := (by simp only [eq_iff_iff, iff_false]; have := r15_0_l; omega)
                have n0_10 : (B0 = B10) = False := (by simp only [eq_iff_iff, iff_false]; have := r15_0_l; omega)
                have n10_1 : (B10 = B1) = False := (by simp only [eq_iff_iff, iff_false]; have := r15_1_l; omega)
                have n1_10 : (B1 = B10) = False := (by simp only [eq_iff_iff, iff_false]; have := r15_1_l; omega)
                have r16_0 : Box w16 B0 #[.int .u64 (L base 0), .int .u64 (L base 1), .int .u64 (L base 2), .int .u64 (L base 3)] 24 := r15_0.call hb16
                have r16_1 : Box w16 B1 #[.int .u64 0, .int .u64 0, .int .u64 0, .int .u64 0] 24 := r15_1.call hb16
                have r16_10 : Box w16 B10 #[.int .u64 (L d 0), .int .u64 (L d 1), .int .u64 (L d 2), .int .u64 (L d 3)] 24 := q10
                have b16 : Bl w w16 := Bl.trans b15 hb16
                have z16 : w15.heap.size ≤ w16.heap.size := (by have := hb16.size; omega)
                have y16 : w.heap.size ≤ w16.heap.size := b16.size
                clear r15_0 r15_0_c r15_0_f r15_0_l r15_1 r15_1_c r15_1_f r15_1_l r15_9 r15_9_c r15_9_f r15_9_l b15
                obtain ⟨r16_0_c, r16_0_f, r16_0_l⟩ := r16_0.tell
                obtain ⟨r16_1_c, r16_1_f, r16_1_l⟩ := r16_1.tell
                obtain ⟨r16_10_c, r16_10_f, r16_10_l⟩ := r16_10.tell
                clear hb16 lw10
                go_wp2_with fail
                refine (s2 _).mono ?_
                rintro e w17 ⟨rfl, hb17⟩
                have r17_1 : Box w17 B1 #[.int .u64 0, .int .u64 0, .int .u64 0, .int .u64 0] 24 := (((((r16_1).far _ _ (by simp only []; first | omega | exact of_eq_false (by assumption))).far _ _ (by simp only []; first | omega | exact of_eq_false (by assumption))).far _ _ (by simp only []; first | omega | exact of_eq_false (by assumption))).far _ _ (by simp only []; first | omega | exact of_eq_false (by assumption))).call hb17
                have b17 : Bl w w17 := Bl.trans (((((b16).setCell (by simp only []; omega) _).setCell (by simp only []; omega) _).setCell (by simp only []; omega) _).setCell (by simp only []; omega) _) hb17
                have z17 : w16.heap.size ≤ w17.heap.size := (by have := hb17.size; (try simp only [World.alloc, World.setCell, World.drew, Array.size_push, Array.size_modify] at this); omega)
                have y17 : w.heap.size ≤ w17.heap.size := b17.size
                clear r16_0 r16_0_c r16_0_f r16_0_l r16_1 r16_1_c r16_1_f r16_1_l r16_10 r16_10_c r16_10_f r16_10_l b16
                obtain ⟨r17_1_c, r17_1_f, r17_1_l⟩ := r17_1.tell
                have d17_0 : (B1 = w17.heap.size) = False := (by simp only [eq_iff_iff, iff_false]; omega)
                have e17_0 : (w17.heap.size = B1) = False := (by simp only [eq_iff_iff, iff_false]; omega)
                have m17_0 : B1 < w17.heap.size := (by omega)
                have d17_1 : (B1 = w17.heap.size + 1) = False := (by simp only [eq_iff_iff, iff_false]; omega)
                have e17_1 : (w17.heap.size + 1 = B1) = False := (by simp only [eq_iff_iff, iff_false]; omega)
                have m17_1 : B1 < w17.heap.size + 1 := (by omega)
                clear hb17
                go_wp2_with fail
                refine bodyPost_ret (v := .tuple #[.agg #[.int .u64 0, .int .u64 0, .int .u64 0, .int .u64 0], .int .i64 183]) (by simp only [results, Try.results8]; go_simp) rfl ⟨rfl, ?_⟩
                exact (((((b17).setCell (by simp only []; omega) _).setCell (by simp only []; omega) _).setCell (by simp only []; omega) _).setCell (by simp only []; omega) _).alloc _
          · skip
            have g4 : decide (d = 0) = false := by simpa using h4
            rw [if_neg h4]
            simp only [g4] at hq
            obtain ⟨cy, hcy⟩ : ∃ c, c = (base + d) / T256 := ⟨_, rfl⟩
            have s2 := fun w => rsum_c base d hb hdT w
            rw [← hcy] at s2
            clear h4 g4
            by_cases h5 : base + d < T256
            · skip
              rw [if_pos h5, if_pos h5]
              rw [Nat.mod_eq_of_lt h5] at s2
              obtain rfl : cy = 0 := by rw [hcy]; exact Nat.div_eq_of_lt h5
              rw [show (((0 : Nat) : Int) == 0) = true from rfl] at s2
              obtain ⟨r, hr⟩ : ∃ r, r = base + d := ⟨_, rfl⟩
              rw [← hr] at s2 ⊢
              clear hr hcy h5 hle
              go_wp2_with fail
              refine (g1 _).mono ?_
              rintro e w18 ⟨rfl, hb18⟩
              have r18_0 : Box w18 w.heap.size #[.int .u64 (L base 0), .int .u64 (L base 1), .int .u64 (L base 2), .int .u64 (L base 3)] 24 := ((Box.new _ _ _ _ (by simp)).alloc _).call hb18
              have r18_1 : Box w18 (w.heap.size + 1) #[.int .u64 0, .int .u64 0, .int .u64 0, .int .u64 0] 24 := (Box.new _ _ _ _ (by simp)).call hb18
              have b18 : Bl w w18 := Bl.trans (((Bl.refl w).alloc _).alloc _) hb18
              have z18 : w.heap.size + 1 + 1 ≤ w18.heap.size := (by have := hb18.size; (try simp only [World.alloc, World.setCell, World.drew, Array.size_push, Array.size_modify] at this); omega)
              have y18 : w.heap.size ≤ w18.heap.size := b18.size
              obtain ⟨B1, hB1⟩ : ∃ B, B = w.heap.size + 1 := ⟨_, rfl⟩
              (try rw [← hB1]); rw [← hB1] at r18_1
              obtain ⟨B0, hB0⟩ : ∃ B, B = w.heap.size := ⟨_, rfl⟩
              (try rw [← hB0]); rw [← hB0] at r18_0
              have lo0 : w.heap.size ≤ B0 := by omega
              have lo1 : w.heap.size ≤ B1 := by omega
              have n0_1 : (B0 = B1) = False := (by simp only [eq_iff_iff, iff_false]; omega)
              have n1_0 : (B1 = B0) = False := (by simp only [eq_iff_iff, iff_false]; omega)
              clear hB0
              clear hB1
              obtain ⟨r18_0_c, r18_0_f, r18_0_l⟩ := r18_0.tell
              obtain ⟨r18_1_c, r18_1_f, r18_1_l⟩ := r18_1.tell
              clear hb18
              go_wp2_with fail
              refine (g2 _).mono ?_
              rintro e w19 ⟨rfl, hb19⟩
              have r19_0 : Box w19 B0 #[.int .u64 (L base 0), .int .u64 (L base 1), .int .u64 (L base 2), .int .u64 (L base 3)] 24 := (r18_0).call hb19
              have r19_1 : Box w19 B1 #[.int .u64 0, .int .u64 0, .int .u64 0, .int .u64 0] 24 := (r18_1).call hb19
              have b19 : Bl w w19 := Bl.trans (b18) hb19
              have z19 : w18.heap.size ≤ w19.heap.size := (by have := hb19.size; (try simp only [World.alloc, World.setCell, World.drew, Array.size_push, Array.size_modify] at this); omega)
              have y19 : w.heap.size ≤ w19.heap.size := b19.size
              clear r18_0 r18_0_c r18_0_f r18_0_l r18_1 r18_1_c r18_1_f r18_1_l b18
              obtain ⟨r19_0_c, r19_0_f, r19_0_l⟩ := r19_0.tell
              obtain ⟨r19_1_c, r19_1_f, r19_1_l⟩ := r19_1.tell
              have d19_0 : (B0 = w19.heap.size) = False := (by simp only [eq_iff_iff, iff_false]; omega)
              have e19_0 : (w19.heap.size = B0) = False := (by simp only [eq_iff_iff, iff_false]; omega)
              have m19_0 : B0 < w19.heap.size := (by omega)
              have d19_1 : (B0 = w19.heap.size + 1) = False := (by simp only [eq_iff_iff, iff_false]; omega)
              have e19_1 : (w19.heap.size + 1 = B0) = False := (by simp only [eq_iff_iff, iff_false]; omega)
              have m19_1 : B0 < w19.heap.size + 1 := (by omega)
              have d19_2 : (B1 = w19.heap.size) = False := (by simp only [eq_iff_iff, iff_false]; omega)
              have e19_2 : (w19.heap.size = B1) = False := (by simp only [eq_iff_iff, iff_false]; omega)
              have m19_2 : B1 < w19.heap.size := (by omega)
              have d19_3 : (B1 = w19.heap.size + 1) = False := (by simp only [eq_iff_iff, iff_false]; omega)
              have e19_3 : (w19.heap.size + 1 = B1) = False := (by simp only [eq_iff_iff, iff_false]; omega)
              have m19_3 : B1 < w19.heap.size + 1 := (by omega)
              clear hb19
              go_wp2_with fail
              obtain ⟨w20, hw20⟩ : ∃ V : World, V = (w19.alloc (.cells #[.int .u64 (L g 0), .int .u64 (L g 1), .int .u64 (L g 2), .int .u64 (L g 3)] 24)) := ⟨_, rfl⟩
              rw [← hw20]
              have r20_0 : Box w20 B0 #[.int .u64 (L base 0), .int .u64 (L base 1), .int .u64 (L base 2), .int .u64 (L base 3)] 24 := by rw [hw20]; exact (r19_0).alloc _
              have r20_1 : Box w20 B1 #[.int .u64 0, .int .u64 0, .int .u64 0, .int .u64 0] 24 := by rw [hw20]; exact (r19_1).alloc _
              have r20_12 : Box w20 w19.heap.size #[.int .u64 (L g 0), .int .u64 (L g 1), .int .u64 (L g 2), .int .u64 (L g 3)] 24 := by rw [hw20]; exact Box.new _ _ _ _ (by simp)
              have b20 : Bl w w20 := by rw [hw20]; exact (b19).alloc _
              have z20 : w19.heap.size + 1 ≤ w20.heap.size := (by rw [hw20]; simp only [World.alloc, World.setCell, World.drew, Array.size_push, Array.size_modify]; omega)
              have y20 : w.heap.size ≤ w20.heap.size := b20.size
              obtain ⟨B12, hB12⟩ : ∃ B, B = w19.heap.size := ⟨_, rfl⟩
              (try rw [← hB12]); rw [← hB12] at r20_12
              have lo12 : w.heap.size ≤ B12 := by omega
              have n12_0 : (B12 = B0) = False := (by simp only [eq_iff_iff, iff_false]; have := r19_0_l; omega)
              have n0_12 : (B0 = B12) = False := (by simp only [eq_iff_iff, iff_false]; have := r19_0_l; omega)
              have n12_1 : (B12 = B1) = False := (by simp only [eq_iff_iff, iff_false]; have := r19_1_l; omega)
              have n1_12 : (B1 = B12) = False := (by simp only [eq_iff_iff, iff_false]; have := r19_1_l; omega)
              clear hB12
              clear r19_0 r19_0_c r19_0_f r19_0_l r19_1 r19_1_c r19_1_f r19_1_l b19
              obtain ⟨r20_0_c, r20_0_f, r20_0_l⟩ := r20_0.tell
              obtain ⟨r20_1_c, r20_1_f, r20_1_l⟩ := r20_1.tell
              obtain ⟨r20_12_c, r20_12_f, r20_12_l⟩ := r20_12.tell
              clear hw20
              refine wp_region_told_at (fun l0 D a' w' => ∃ (x55 : Value) (x56 : Value) (x57 : Value) (x58 : Value) (x59 : Value) (x60 : Value) (x61 : Value) (x54 : Value) (x62 : Value) (x63 : Value) (x14 : Value) (x15 : Value) (C10 : Nat), a' = ⟨(((((((((((((l0).set 55 x55).set 56 x56).set 57 x57).set 58 x58).set 59 x59).set 60 x60).set 61 x61).set 54 x54).set 62 x62).set 63 x63).set 14 x14).set 15 x15).toArray, []⟩ ∧ Bl w20 w' ∧ (D 0 → x55 = U base) ∧ (D 1 → x56 = .int .u64 used) ∧ (D 2 → x57 = .int .u64 tg) ∧ (D 3 → x58 = .int .u64 of) ∧ (D 4 → x59 = U of) ∧ (D 5 → x60 = U g) ∧ (D 6 → x61 = .tuple #[U d, .int .i64 0]) ∧ (D 7 → x54 = .tuple #[U d, .int .i64 0]) ∧ (D 8 → x62 = U d) ∧ (D 9 → x63 = .int .i64 0) ∧ (D 12 → x15 = .int .i64 0) ∧ Blk D 10 11 w20 w' x14 C10 #[.int .u64 0, .int .u64 0, .int .u64 0, .int .u64 0] #[.int .u64 (L d 0), .int .u64 (L d 1), .int .u64 (L d 2), .int .u64 (L d 3)] 24) (by kernel_rfl) (by kernel_rfl) ?_ ?_ ?_
              · exact fun l0 => ⟨l0.getD 55 undef, l0.getD 56 undef, l0.getD 57 undef, l0.getD 58 undef, l0.getD 59 undef, l0.getD 60 undef, l0.getD 61 undef, l0.getD 54 undef, l0.getD 62 undef, l0.getD 63 undef, l0.getD 14 undef, l0.getD 15 undef, 0, (by simp only [set_self]), (Bl.refl w20).drew, fun h => h.elim, fun h => h.elim, fun h => h.elim, fun h => h.elim, fun h => h.elim, fun h => h.elim, fun h => h.elim, fun h => h.elim, fun h => h.elim, fun h => h.elim, fun h => h.elim, Blk.start⟩
              · intro Inv hInv
                refine AllD.cons ?_ (AllD.cons ?_ (AllD.cons ?_ (AllD.cons ?_ (AllD.cons ?_ (AllD.cons ?_ (AllD.cons ?_ (AllD.cons ?_ (AllD.cons ?_ (AllD.cons ?_ (AllD.cons ?_ (AllD.cons ?_ (AllD.cons ?_ (AllD.nil)))))))))))))
                · refine StepD.plain rfl rfl ?_
                  intro D a' w' hn hp hI K hK
                  obtain ⟨x55, x56, x57, x58, x59, x60, x61, x54, x62, x63, x14, x15, C10, ha, hbl, f0, f1, f2, f3, f4, f5, f6, f7, f8, f9, f12, g10⟩ := (hInv.out D a' w').1 hI
                  subst ha; clear hI
                  (try simp only [List.set_cons_zero, List.set_cons_succ])
                  have bz := r20_0.call hbl
                  obtain ⟨bc, bf, bl_⟩ := bz.tell
                  go_simp
                  exact hK.out _ _ ((hInv.out _ _ _).2 ⟨_, _, _, _, _, _, _, _, _, _, _, _, C10, rfl, hbl, fun _ => (by first | rfl | go_num | (simp; done)), told_next f1 (by decide), told_next f2 (by decide), told_next f3 (by decide), told_next f4 (by decide), told_next f5 (by decide), told_next f6 (by decide), told_next f7 (by decide), told_next f8 (by decide), told_next f9 (by decide), told_next f12 (by decide), g10.next (by decide) (by decide) (fun _ _ h => h)⟩)
                · refine StepD.plain rfl rfl ?_
                  intro D a' w' hn hp hI K hK
                  obtain ⟨x55, x56, x57, x58, x59, x60, x61, x54, x62, x63, x14, x15, C10, ha, hbl, f0, f1, f2, f3, f4, f5, f6, f7, f8, f9, f12, g10⟩ := (hInv.out D a' w').1 hI
                  subst ha; clear hI
                  (try simp only [List.set_cons_zero, List.set_cons_succ])
                  go_simp
                  exact hK.out _ _ ((hInv.out _ _ _).2 ⟨_, _, _, _, _, _, _, _, _, _, _, _, C10, rfl, hbl, told_next f0 (by decide), fun _ => (by first | rfl | go_num | (simp; done)), told_next f2 (by decide), told_next f3 (by decide), told_next f4 (by decide), told_next f5 (by decide), told_next f6 (by decide), told_next f7 (by decide), told_next f8 (by decide), told_next f9 (by decide), told_next f12 (by decide), g10.next (by decide) (by decide) (fun _ _ h => h)⟩)
                · refine StepD.plain rfl rfl ?_
                  intro D a' w' hn hp hI K hK
                  obtain ⟨x55, x56, x57, x58, x59, x60, x61, x54, x62, x63, x14, x15, C10, ha, hbl, f0, f1, f2, f3, f4, f5, f6, f7, f8, f9, f12, g10⟩ := (hInv.out D a' w').1 hI
                  subst ha; clear hI
                  (try simp only [List.set_cons_zero, List.set_cons_succ])
                  go_simp
                  exact hK.out _ _ ((hInv.out _ _ _).2 ⟨_, _, _, _, _, _, _, _, _, _, _, _, C10, rfl, hbl, told_next f0 (by decide), told_next f1 (by decide), fun _ => (by first | rfl | go_num | (simp; done)), told_next f3 (by decide), told_next f4 (by decide), told_next f5 (by decide), told_next f6 (by decide), told_next f7 (by decide), told_next f8 (by decide), told_next f9 (by decide), told_next f12 (by decide), g10.next (by decide) (by decide) (fun _ _ h => h)⟩)
                · refine StepD.plain rfl rfl ?_
                  intro D a' w' hn hp hI K hK
                  obtain ⟨x55, x56, x57, x58, x59, x60, x61, x54, x62, x63, x14, x15, C10, ha, hbl, f0, f1, f2, f3, f4, f5, f6, f7, f8, f9, f12, g10⟩ := (hInv.out D a' w').1 hI
                  subst ha; clear hI
                  (try simp only [List.set_cons_zero, List.set_cons_succ])
                  obtain ⟨p3_1, p3_2, _⟩ := hp
                  have p3_1 : D 1 := p3_1 rfl
                  have p3_2 : D 2 := p3_2 rfl
                  have e1 := f1 p3_1; subst e1
                  have e2 := f2 p3_2; subst e2
                  go_simp
                  exact hK.out _ _ ((hInv.out _ _ _).2 ⟨_, _, _, _, _, _, _, _, _, _, _, _, C10, rfl, hbl, told_next f0 (by decide), fun _ => rfl, fun _ => rfl, fun _ => (by first | rfl | go_num | (simp; done)), told_next f4 (by decide), told_next f5 (by decide), told_next f6 (by decide), told_next f7 (by decide), told_next f8 (by decide), told_next f9 (by decide), told_next f12 (by decide), g10.next (by decide) (by decide) (fun _ _ h => h)⟩)
                · refine StepD.plain rfl rfl ?_
                  intro D a' w' hn hp hI K hK
                  obtain ⟨x55, x56, x57, x58, x59, x60, x61, x54, x62, x63, x14, x15, C10, ha, hbl, f0, f1, f2, f3, f4, f5, f6, f7, f8, f9, f12, g10⟩ := (hInv.out D a' w').1 hI
                  subst ha; clear hI
                  (try simp only [List.set_cons_zero, List.set_cons_succ])
                  obtain ⟨p4_3, _⟩ := hp
                  have p4_3 : D 3 := p4_3 rfl
                  have e3 := f3 p4_3; subst e3
                  go_simp
                  refine (s0 _).mono ?_
                  rintro e w2 ⟨rfl, hbc⟩
                  go_wp2_with fail
                  exact hK.out _ _ ((hInv.out _ _ _).2 ⟨_, _, _, _, _, _, _, _, _, _, _, _, C10, rfl, hbl.trans hbc, told_next f0 (by decide), told_next f1 (by decide), told_next f2 (by decide), fun _ => rfl, fun _ => (by first | rfl | go_num | (simp; done)), told_next f5 (by decide), told_next f6 (by decide), told_next f7 (by decide), told_next f8 (by decide), told_next f9 (by decide), told_next f12 (by decide), g10.next (by decide) (by decide) (fun _ _ h => h.call hbc)⟩)
                · refine StepD.plain rfl rfl ?_
                  intro D a' w' hn hp hI K hK
                  obtain ⟨x55, x56, x57, x58, x59, x60, x61, x54, x62, x63, x14, x15, C10, ha, hbl, f0, f1, f2, f3, f4, f5, f6, f7, f8, f9, f12, g10⟩ := (hInv.out D a' w').1 hI
                  subst ha; clear hI
                  (try simp only [List.set_cons_zero, List.set_cons_succ])
                  have bz := r20_12.call hbl
                  obtain ⟨bc, bf, bl_⟩ := bz.tell
                  go_simp
                  exact hK.out _ _ ((hInv.out _ _ _).2 ⟨_, _, _, _, _, _, _, _, _, _, _, _, C10, rfl, hbl, told_next f0 (by decide), told_next f1 (by decide), told_next f2 (by decide), told_next f3 (by decide), told_next f4 (by decide), fun _ => (by first | rfl | go_num | (simp; done)), told_next f6 (by decide), told_next f7 (by decide), told_next f8 (by decide), told_next f9 (by decide), told_next f12 (by decide), g10.next (by decide) (by decide) (fun _ _ h => h)⟩)
                · refine StepD.plain rfl rfl ?_
                  intro D a' w' hn hp hI K hK
                  obtain ⟨x55, x56, x57, x58, x59, x60, x61, x54, x62, x63, x14, x15, C10, ha, hbl, f0, f1, f2, f3, f4, f5, f6, f7, f8, f9, f12, g10⟩ := (hInv.out D a' w').1 hI
                  subst ha; clear hI
                  (try simp only [List.set_cons_zero, List.set_cons_succ])
                  obtain ⟨p6_0, p6_4, p6_5, _, _⟩ := hp
                  have p6_0 : D 0 := p6_0 rfl
                  have p6_4 : D 4 := p6_4 rfl
                  have p6_5 : D 5 := p6_5 rfl
                  have e0 := f0 p6_0; subst e0
                  have e4 := f4 p6_4; subst e4
                  have e5 := f5 p6_5; subst e5
                  go_simp
                  refine (s1 _).mono ?_
                  rintro e w2 ⟨rfl, hbc⟩
                  go_wp2_with fail
                  exact hK.out _ _ ((hInv.out _ _ _).2 ⟨_, _, _, _, _, _, _, _, _, _, _, _, C10, rfl, hbl.trans hbc, fun _ => rfl, told_next f1 (by decide), told_next f2 (by decide), told_next f3 (by decide), fun _ => rfl, fun _ => rfl, fun _ => (by first | rfl | go_num | (simp; done)), told_next f7 (by decide), told_next f8 (by decide), told_next f9 (by decide), told_next f12 (by decide), g10.next (by decide) (by decide) (fun _ _ h => h.call hbc)⟩)
                · refine StepD.plain rfl rfl ?_
                  intro D a' w' hn hp hI K hK
                  obtain ⟨x55, x56, x57, x58, x59, x60, x61, x54, x62, x63, x14, x15, C10, ha, hbl, f0, f1, f2, f3, f4, f5, f6, f7, f8, f9, f12, g10⟩ := (hInv.out D a' w').1 hI
                  subst ha; clear hI
                  (try simp only [List.set_cons_zero, List.set_cons_succ])
                  obtain ⟨p7_6, _⟩ := hp
                  have p7_6 : D 6 := p7_6 rfl
                  have e6 := f6 p7_6; subst e6
                  go_simp
                  exact hK.out _ _ ((hInv.out _ _ _).2 ⟨_, _, _, _, _, _, _, _, _, _, _, _, C10, rfl, hbl, told_next f0 (by decide), told_next f1 (by decide), told_next f2 (by decide), told_next f3 (by decide), told_next f4 (by decide), told_next f5 (by decide), fun _ => rfl, fun _ => (by first | rfl | go_num | (simp; done)), told_next f8 (by decide), told_next f9 (by decide), told_next f12 (by decide), g10.next (by decide) (by decide) (fun _ _ h => h)⟩)
                · refine StepD.plain rfl rfl ?_
                  intro D a' w' hn hp hI K hK
                  obtain ⟨x55, x56, x57, x58, x59, x60, x61, x54, x62, x63, x14, x15, C10, ha, hbl, f0, f1, f2, f3, f4, f5, f6, f7, f8, f9, f12, g10⟩ := (hInv.out D a' w').1 hI
                  subst ha; clear hI
                  (try simp only [List.set_cons_zero, List.set_cons_succ])
                  obtain ⟨p8_7, _⟩ := hp
                  have p8_7 : D 7 := p8_7 rfl
                  have e7 := f7 p8_7; subst e7
                  go_simp
                  exact hK.out _ _ ((hInv.out _ _ _).2 ⟨_, _, _, _, _, _, _, _, _, _, _, _, C10, rfl, hbl, told_next f0 (by decide), told_next f1 (by decide), told_next f2 (by decide), told_next f3 (by decide), told_next f4 (by decide), told_next f5 (by decide), told_next f6 (by decide), fun _ => rfl, fun _ => (by first | rfl | go_num | (simp; done)), told_next f9 (by decide), told_next f12 (by decide), g10.next (by decide) (by decide) (fun _ _ h => h)⟩)
                · refine StepD.plain rfl rfl ?_
                  intro D a' w' hn hp hI K hK
                  obtain ⟨x55, x56, x57, x58, x59, x60, x61, x54, x62, x63, x14, x15, C10, ha, hbl, f0, f1, f2, f3, f4, f5, f6, f7, f8, f9, f12, g10⟩ := (hInv.out D a' w').1 hI
                  subst ha; clear hI
                  (try simp only [List.set_cons_zero, List.set_cons_succ])
                  obtain ⟨p9_7, _, _⟩ := hp
                  have p9_7 : D 7 := p9_7 rfl
                  have e7 := f7 p9_7; subst e7
                  go_simp
                  exact hK.out _ _ ((hInv.out _ _ _).2 ⟨_, _, _, _, _, _, _, _, _, _, _, _, C10, rfl, hbl, told_next f0 (by decide), told_next f1 (by decide), told_next f2 (by decide), told_next f3 (by decide), told_next f4 (by decide), told_next f5 (by decide), told_next f6 (by decide), fun _ => rfl, told_next f8 (by decide), fun _ => (by first | rfl | go_num | (simp; done)), told_next f12 (by decide), g10.next (by decide) (by decide) (fun _ _ h => h)⟩)
                · refine StepD.plain rfl rfl ?_
                  intro D a' w' hn hp hI K hK
                  obtain ⟨x55, x56, x57, x58, x59, x60, x61, x54, x62, x63, x14, x15, C10, ha, hbl, f0, f1, f2, f3, f4, f5, f6, f7, f8, f9, f12, g10⟩ := (hInv.out D a' w').1 hI
                  subst ha; clear hI
                  (try simp only [List.set_cons_zero, List.set_cons_succ])
                  go_simp
                  exact hK.out _ _ ((hInv.out _ _ _).2 ⟨_, _, _, _, _, _, _, _, _, _, _, _, _, rfl, hbl.alloc _, told_next f0 (by decide), told_next f1 (by decide), told_next f2 (by decide), told_next f3 (by decide), told_next f4 (by decide), told_next f5 (by decide), told_next f6 (by decide), told_next f7 (by decide), told_next f8 (by decide), told_next f9 (by decide), told_next f12 (by decide), g10.made hn (by decide) hbl.size⟩)
                · refine StepD.plain rfl rfl ?_
                  intro D a' w' hn hp hI K hK
                  obtain ⟨x55, x56, x57, x58, x59, x60, x61, x54, x62, x63, x14, x15, C10, ha, hbl, f0, f1, f2, f3, f4, f5, f6, f7, f8, f9, f12, g10⟩ := (hInv.out D a' w').1 hI
                  subst ha; clear hI
                  (try simp only [List.set_cons_zero, List.set_cons_succ])
                  obtain ⟨p11_10, p11_8, p11_6, p11_0, p11_1, p11_2, p11_3, p11_4, p11_5, _, p11_7, _, _, _, _⟩ := hp
                  have p11_0 : D 0 := p11_0 rfl
                  have p11_1 : D 1 := p11_1 rfl
                  have p11_2 : D 2 := p11_2 rfl
                  have p11_3 : D 3 := p11_3 rfl
                  have p11_4 : D 4 := p11_4 rfl
                  have p11_5 : D 5 := p11_5 rfl
                  have p11_6 : D 6 := p11_6 rfl
                  have p11_7 : D 7 := p11_7 rfl
                  have p11_8 : D 8 := p11_8 rfl
                  have p11_10 : D 10 := p11_10 rfl
                  obtain ⟨e14, lw14, ha14, hz14⟩ := g10.2 p11_10
                  subst e14
                  have bz := hz14 hn
                  obtain ⟨bc, bf, bl_⟩ := bz.tell
                  clear ha14 hz14
                  have e8 := f8 p11_8; subst e8
                  go_simp
                  have lwb : w20.heap.size ≤ C10 := lw14
                  exact hK.out _ _ ((hInv.out _ _ _).2 ⟨_, _, _, _, _, _, _, _, _, _, _, _, C10, rfl, ((((hbl).setCell (by simp only []; omega) _).setCell (by simp only []; omega) _).setCell (by simp only []; omega) _).setCell (by simp only []; omega) _, told_next f0 (by decide), told_next f1 (by decide), told_next f2 (by decide), told_next f3 (by decide), told_next f4 (by decide), told_next f5 (by decide), told_next f6 (by decide), told_next f7 (by decide), fun _ => rfl, told_next f9 (by decide), told_next f12 (by decide), g10.filled p11_10 hn (fun h => (((((h).set _ _).set _ _).set _ _).set _ _).cells rfl)⟩)
                · refine StepD.plain rfl rfl ?_
                  intro D a' w' hn hp hI K hK
                  obtain ⟨x55, x56, x57, x58, x59, x60, x61, x54, x62, x63, x14, x15, C10, ha, hbl, f0, f1, f2, f3, f4, f5, f6, f7, f8, f9, f12, g10⟩ := (hInv.out D a' w').1 hI
                  subst ha; clear hI
                  (try simp only [List.set_cons_zero, List.set_cons_succ])
                  obtain ⟨p12_9, p12_11, p12_0, p12_1, p12_2, p12_3, p12_4, p12_5, p12_6, p12_7, p12_8, _, p12_10, _, _⟩ := hp
                  have p12_0 : D 0 := p12_0 rfl
                  have p12_1 : D 1 := p12_1 rfl
                  have p12_2 : D 2 := p12_2 rfl
                  have p12_3 : D 3 := p12_3 rfl
                  have p12_4 : D 4 := p12_4 rfl
                  have p12_5 : D 5 := p12_5 rfl
                  have p12_6 : D 6 := p12_6 rfl
                  have p12_7 : D 7 := p12_7 rfl
                  have p12_8 : D 8 := p12_8 rfl
                  have p12_9 : D 9 := p12_9 rfl
                  have p12_10 : D 10 := p12_10 rfl
                  have p12_11 : D 11 := p12_11 rfl
                  have e9 := f9 p12_9; subst e9
                  go_simp
                  exact hK.out _ _ ((hInv.out _ _ _).2 ⟨_, _, _, _, _, _, _, _, _, _, _, _, C10, rfl, hbl, told_next f0 (by decide), told_next f1 (by decide), told_next f2 (by decide), told_next f3 (by decide), told_next f4 (by decide), told_next f5 (by decide), told_next f6 (by decide), told_next f7 (by decide), told_next f8 (by decide), fun _ => rfl, fun _ => (by first | rfl | go_num | (simp; done)), g10.next (by decide) (by decide) (fun _ _ h => h)⟩)
              · intro D a' w21 hall hI
                obtain ⟨x55, x56, x57, x58, x59, x60, x61, x54, x62, x63, x14, x15, B13, ha, hb21, f0, f1, f2, f3, f4, f5, f6, f7, f8, f9, f12, g10⟩ := hI
                subst ha
                (try simp only [List.set_cons_zero, List.set_cons_succ])
                have e := f0 (hall 0 (by decide)); subst e
                have e := f1 (hall 1 (by decide)); subst e
                have e := f2 (hall 2 (by decide)); subst e
                have e := f3 (hall 3 (by decide)); subst e
                have e := f4 (hall 4 (by decide)); subst e
                have e := f5 (hall 5 (by decide)); subst e
                have e := f6 (hall 6 (by decide)); subst e
                have e := f7 (hall 7 (by decide)); subst e
                have e := f8 (hall 8 (by decide)); subst e
                have e := f9 (hall 9 (by decide)); subst e
                have e := f12 (hall 12 (by decide)); subst e
                obtain ⟨e, lw13, ha13, hz13⟩ := g10.2 (hall 10 (by decide))
                subst e
                have q13 := ha13 (hall 11 (by decide))
                clear ha13 hz13 g10
                clear hall
                (try simp only [Act.put, List.setIfInBounds_toArray, List.set_cons_zero, List.set_cons_succ])
                have lo13 : w.heap.size ≤ B13 := (by have := y20; omega)
                have n13_0 : (B13 = B0) = False := (by simp only [eq_iff_iff, iff_false]; have := r20_0_l; omega)
                have n0_13 : (B0 = B13) = False := (by simp only [eq_iff_iff, iff_false]; have := r20_0_l; omega)
                have n13_1 : (B13 = B1) = False := (by simp only [eq_iff_iff, iff_false]; have := r20_1_l; omega)
                have n1_13 : (B1 = B13) = False := (by simp only [eq_iff_iff, iff_false]; have := r20_1_l; omega)
                have r21_0 : Box w21 B0 #[.int .u64 (L base 0), .int .u64 (L base 1), .int .u64 (L base 2), .int .u64 (L base 3)] 24 := r20_0.call hb21
                have r21_1 : Box w21 B1 #[.int .u64 0, .int .u64 0, .int .u64 0, .int .u64 0] 24 := r20_1.call hb21
                have r21_13 : Box w21 B13 #[.int .u64 (L d 0), .int .u64 (L d 1), .int .u64 (L d 2), .int .u64 (L d 3)] 24 := q13
                have b21 : Bl w w21 := Bl.trans b20 hb21
                have z21 : w20.heap.size ≤ w21.heap.size := (by have := hb21.size; omega)
                have y21 : w.heap.size ≤ w21.heap.size := b21.size
                clear r20_0 r20_0_c r20_0_f r20_0_l r20_1 r20_1_c r20_1_f r20_1_l r20_12 r20_12_c r20_12_f r20_12_l b20
                obtain ⟨r21_0_c, r21_0_f, r21_0_l⟩ := r21_0.tell
                obtain ⟨r21_1_c, r21_1_f, r21_1_l⟩ := r21_1.tell
                obtain ⟨r21_13_c, r21_13_f, r21_13_l⟩ := r21_13.tell
                clear hb21 lw13
                go_wp2_with fail
                refine (s2 _).mono ?_
                rintro e w22 ⟨rfl, hb22⟩
                have r22_1 : Box w22 B1 #[.int .u64 0, .int .u64 0, .int .u64 0, .int .u64 0] 24 := (r21_1).call hb22
                have b22 : Bl w w22 := Bl.trans (b21) hb22
                have z22 : w21.heap.size ≤ w22.heap.size := (by have := hb22.size; (try simp only [World.alloc, World.setCell, World.drew, Array.size_push, Array.size_modify] at this); omega)
                have y22 : w.heap.size ≤ w22.heap.size := b22.size
                clear r21_0 r21_0_c r21_0_f r21_0_l r21_1 r21_1_c r21_1_f r21_1_l r21_13 r21_13_c r21_13_f r21_13_l b21
                obtain ⟨r22_1_c, r22_1_f, r22_1_l⟩ := r22_1.tell
                have d22_0 : (B1 = w22.heap.size) = False := (by simp only [eq_iff_iff, iff_false]; omega)
                have e22_0 : (w22.heap.size = B1) = False := (by simp only [eq_iff_iff, iff_false]; omega)
                have m22_0 : B1 < w22.heap.size := (by omega)
                have d22_1 : (B1 = w22.heap.size + 1) = False := (by simp only [eq_iff_iff, iff_false]; omega)
                have e22_1 : (w22.heap.size + 1 = B1) = False := (by simp only [eq_iff_iff, iff_false]; omega)
                have m22_1 : B1 < w22.heap.size + 1 := (by omega)
                clear hb22
                go_wp2_with fail
                refine bodyPost_ret (v := .tuple #[U r, .int .i64 0]) (by simp only [results, Try.results8]; go_simp) rfl ⟨rfl, ?_⟩
                exact (((((b22).setCell (by simp only []; omega) _).setCell (by simp only []; omega) _).setCell (by simp only []; omega) _).setCell (by simp only []; omega) _).alloc _
            · skip
              rw [if_neg h5, if_neg h5]
              obtain rfl : cy = 1 := by rw [hcy]; rw [T256_eq] at *; omega
              rw [show (((1 : Nat) : Int) == 0) = false from rfl] at s2
              generalize (base + d) % T256 = r at *
              clear hcy h5 hle
              go_wp2_with fail
              refine (g1 _).mono ?_
              rintro e w23 ⟨rfl, hb23⟩
              have r23_0 : Box w23 w.heap.size #[.int .u64 (L base 0), .int .u64 (L base 1), .int .u64 (L base 2), .int .u64 (L base 3)] 24 := ((Box.new _ _ _ _ (by simp)).alloc _).call hb23
              have r23_1 : Box w23 (w.heap.size + 1) #[.int .u64 0, .int .u64 0, .int .u64 0, .int .u64 0] 24 := (Box.new _ _ _ _ (by simp)).call hb23
              have b23 : Bl w w23 := Bl.trans (((Bl.refl w).alloc _).alloc _) hb23
              have z23 : w.heap.size + 1 + 1 ≤ w23.heap.size := (by have := hb23.size; (try simp only [World.alloc, World.setCell, World.drew, Array.size_push, Array.size_modify] at this); omega)
              have y23 : w.heap.size ≤ w23.heap.size := b23.size
              obtain ⟨B1, hB1⟩ : ∃ B, B = w.heap.size + 1 := ⟨_, rfl⟩
              (try rw [← hB1]); rw [← hB1] at r23_1
              obtain ⟨B0, hB0⟩ : ∃ B, B = w.heap.size := ⟨_, rfl⟩
              (try rw [← hB0]); rw [← hB0] at r23_0
              have lo0 : w.heap.size ≤ B0 := by omega
              have lo1 : w.heap.size ≤ B1 := by omega
              have n0_1 : (B0 = B1) = False := (by simp only [eq_iff_iff, iff_false]; omega)
              have n1_0 : (B1 = B0) = False := (by simp only [eq_iff_iff, iff_false]; omega)
              clear hB0
              clear hB1
              obtain ⟨r23_0_c, r23_0_f, r23_0_l⟩ := r23_0.tell
              obtain ⟨r23_1_c, r23_1_f, r23_1_l⟩ := r23_1.tell
              clear hb23
              go_wp2_with fail
              refine (g2 _).mono ?_
              rintro e w24 ⟨rfl, hb24⟩
              have r24_0 : Box w24 B0 #[.int .u64 (L base 0), .int .u64 (L base 1), .int .u64 (L base 2), .int .u64 (L base 3)] 24 := (r23_0).call hb24
              have r24_1 : Box w24 B1 #[.int .u64 0, .int .u64 0, .int .u64 0, .int .u64 0] 24 := (r23_1).call hb24
              have b24 : Bl w w24 := Bl.trans (b23) hb24
              have z24 : w23.heap.size ≤ w24.heap.size := (by have := hb24.size; (try simp only [World.alloc, World.setCell, World.drew, Array.size_push, Array.size_modify] at this); omega)
              have y24 : w.heap.size ≤ w24.heap.size := b24.size
              clear r23_0 r23_0_c r23_0_f r23_0_l r23_1 r23_1_c r23_1_f r23_1_l b23
              obtain ⟨r24_0_c, r24_0_f, r24_0_l⟩ := r24_0.tell
              obtain ⟨r24_1_c, r24_1_f, r24_1_l⟩ := r24_1.tell
              have d24_0 : (B0 = w24.heap.size) = False := (by simp only [eq_iff_iff, iff_false]; omega)
              have e24_0 : (w24.heap.size = B0) = False := (by simp only [eq_iff_iff, iff_false]; omega)
              have m24_0 : B0 < w24.heap.size := (by omega)
              have d24_1 : (B0 = w24.heap.size + 1) = False := (by simp only [eq_iff_iff, iff_false]; omega)
              have e24_1 : (w24.heap.size + 1 = B0) = False := (by simp only [eq_iff_iff, iff_false]; omega)
              have m24_1 : B0 < w24.heap.size + 1 := (by omega)
              have d24_2 : (B1 = w24.heap.size) = False := (by simp only [eq_iff_iff, iff_false]; omega)
              have e24_2 : (w24.heap.size = B1) = False := (by simp only [eq_iff_iff, iff_false]; omega)
              have m24_2 : B1 < w24.heap.size := (by omega)
              have d24_3 : (B1 = w24.heap.size + 1) = False := (by simp only [eq_iff_iff, iff_false]; omega)
              have e24_3 : (w24.heap.size + 1 = B1) = False := (by simp only [eq_iff_iff, iff_false]; omega)
              have m24_3 : B1 < w24.heap.size + 1 := (by omega)
              clear hb24
              go_wp2_with fail
              obtain ⟨w25, hw25⟩ : ∃ V : World, V = (w24.alloc (.cells #[.int .u64 (L g 0), .int .u64 (L g 1), .int .u64 (L g 2), .int .u64 (L g 3)] 24)) := ⟨_, rfl⟩
              rw [← hw25]
              have r25_0 : Box w25 B0 #[.int .u64 (L base 0), .int .u64 (L base 1), .int .u64 (L base 2), .int .u64 (L base 3)] 24 := by rw [hw25]; exact (r24_0).alloc _
              have r25_1 : Box w25 B1 #[.int .u64 0, .int .u64 0, .int .u64 0, .int .u64 0] 24 := by rw [hw25]; exact (r24_1).alloc _
              have r25_15 : Box w25 w24.heap.size #[.int .u64 (L g 0), .int .u64 (L g 1), .int .u64 (L g 2), .int .u64 (L g 3)] 24 := by rw [hw25]; exact Box.new _ _ _ _ (by simp)
              have b25 : Bl w w25 := by rw [hw25]; exact (b24).alloc _
              have z25 : w24.heap.size + 1 ≤ w25.heap.size := (by rw [hw25]; simp only [World.alloc, World.setCell, World.drew, Array.size_push, Array.size_modify]; omega)
              have y25 : w.heap.size ≤ w25.heap.size := b25.size
              obtain ⟨B15, hB15⟩ : ∃ B, B = w24.heap.size := ⟨_, rfl⟩
              (try rw [← hB15]); rw [← hB15] at r25_15
              have lo15 : w.heap.size ≤ B15 := by omega
              have n15_0 : (B15 = B0) = False := (by simp only [eq_iff_iff, iff_false]; have := r24_0_l; omega)
              have n0_15 : (B0 = B15) = False := (by simp only [eq_iff_iff, iff_false]; have := r24_0_l; omega)
              have n15_1 : (B15 = B1) = False := (by simp only [eq_iff_iff, iff_false]; have := r24_1_l; omega)
              have n1_15 : (B1 = B15) = False := (by simp only [eq_iff_iff, iff_false]; have := r24_1_l; omega)
              clear hB15
              clear r24_0 r24_0_c r24_0_f r24_0_l r24_1 r24_1_c r24_1_f r24_1_l b24
              obtain ⟨r25_0_c, r25_0_f, r25_0_l⟩ := r25_0.tell
              obtain ⟨r25_1_c, r25_1_f, r25_1_l⟩ := r25_1.tell
              obtain ⟨r25_15_c, r25_15_f, r25_15_l⟩ := r25_15.tell
              clear hw25
              refine wp_region_told_at (fun l0 D a' w' => ∃ (x55 : Value) (x56 : Value) (x57 : Value) (x58 : Value) (x59 : Value) (x60 : Value) (x61 : Value) (x54 : Value) (x62 : Value) (x63 : Value) (x14 : Value) (x15 : Value) (C10 : Nat), a' = ⟨(((((((((((((l0).set 55 x55).set 56 x56).set 57 x57).set 58 x58).set 59 x59).set 60 x60).set 61 x61).set 54 x54).set 62 x62).set 63 x63).set 14 x14).set 15 x15).toArray, []⟩ ∧ Bl w25 w' ∧ (D 0 → x55 = U base) ∧ (D 1 → x56 = .int .u64 used) ∧ (D 2 → x57 = .int .u64 tg) ∧ (D 3 → x58 = .int .u64 of) ∧ (D 4 → x59 = U of) ∧ (D 5 → x60 = U g) ∧ (D 6 → x61 = .tuple #[U d, .int .i64 0]) ∧ (D 7 → x54 = .tuple #[U d, .int .i64 0]) ∧ (D 8 → x62 = U d) ∧ (D 9 → x63 = .int .i64 0) ∧ (D 12 → x15 = .int .i64 0) ∧ Blk D 10 11 w25 w' x14 C10 #[.int .u64 0, .int .u64 0, .int .u64 0, .int .u64 0] #[.int .u64 (L d 0), .int .u64 (L d 1), .int .u64 (L d 2), .int .u64 (L d 3)] 24) (by kernel_rfl) (by kernel_rfl) ?_ ?_ ?_
              · exact fun l0 => ⟨l0.getD 55 undef, l0.getD 56 undef, l0.getD 57 undef, l0.getD 58 undef, l0.getD 59 undef, l0.getD 60 undef, l0.getD 61 undef, l0.getD 54 undef, l0.getD 62 undef, l0.getD 63 undef, l0.getD 14 undef, l0.getD 15 undef, 0, (by simp only [set_self]), (Bl.refl w25).drew, fun h => h.elim, fun h => h.elim, fun h => h.elim, fun h => h.elim, fun h => h.elim, fun h => h.elim, fun h => h.elim, fun h => h.elim, fun h => h.elim, fun h => h.elim, fun h => h.elim, Blk.start⟩
              · intro Inv hInv
                refine AllD.cons ?_ (AllD.cons ?_ (AllD.cons ?_ (AllD.cons ?_ (AllD.cons ?_ (AllD.cons ?_ (AllD.cons ?_ (AllD.cons ?_ (AllD.cons ?_ (AllD.cons ?_ (AllD.cons ?_ (AllD.cons ?_ (AllD.cons ?_ (AllD.nil)))))))))))))
                · refine StepD.plain rfl rfl ?_
                  intro D a' w' hn hp hI K hK
                  obtain ⟨x55, x56, x57, x58, x59, x60, x61, x54, x62, x63, x14, x15, C10, ha, hbl, f0, f1, f2, f3, f4, f5, f6, f7, f8, f9, f12, g10⟩ := (hInv.out D a' w').1 hI
                  subst ha; clear hI
                  (try simp only [List.set_cons_zero, List.set_cons_succ])
                  have bz := r25_0.call hbl
                  obtain ⟨bc, bf, bl_⟩ := bz.tell
                  go_simp
                  exact hK.out _ _ ((hInv.out _ _ _).2 ⟨_, _, _, _, _, _, _, _, _, _, _, _, C10, rfl, hbl, fun _ => (by first | rfl | go_num | (simp; done)), told_next f1 (by decide), told_next f2 (by decide), told_next f3 (by decide), told_next f4 (by decide), told_next f5 (by decide), told_next f6 (by decide), told_next f7 (by decide), told_next f8 (by decide), told_next f9 (by decide), told_next f12 (by decide), g10.next (by decide) (by decide) (fun _ _ h => h)⟩)
                · refine StepD.plain rfl rfl ?_
                  intro D a' w' hn hp hI K hK
                  obtain ⟨x55, x56, x57, x58, x59, x60, x61, x54, x62, x63, x14, x15, C10, ha, hbl, f0, f1, f2, f3, f4, f5, f6, f7, f8, f9, f12, g10⟩ := (hInv.out D a' w').1 hI
                  subst ha; clear hI
                  (try simp only [List.set_cons_zero, List.set_cons_succ])
                  go_simp
                  exact hK.out _ _ ((hInv.out _ _ _).2 ⟨_, _, _, _, _, _, _, _, _, _, _, _, C10, rfl, hbl, told_next f0 (by decide), fun _ => (by first | rfl | go_num | (simp; done)), told_next f2 (by decide), told_next f3 (by decide), told_next f4 (by decide), told_next f5 (by decide), told_next f6 (by decide), told_next f7 (by decide), told_next f8 (by decide), told_next f9 (by decide), told_next f12 (by decide), g10.next (by decide) (by decide) (fun _ _ h => h)⟩)
                · refine StepD.plain rfl rfl ?_
                  intro D a' w' hn hp hI K hK
                  obtain ⟨x55, x56, x57, x58, x59, x60, x61, x54, x62, x63, x14, x15, C10, ha, hbl, f0, f1, f2, f3, f4, f5, f6, f7, f8, f9, f12, g10⟩ := (hInv.out D a' w').1 hI
                  subst ha; clear hI
                  (try simp only [List.set_cons_zero, List.set_cons_succ])
                  go_simp
                  exact hK.out _ _ ((hInv.out _ _ _).2 ⟨_, _, _, _, _, _, _, _, _, _, _, _, C10, rfl, hbl, told_next f0 (by decide), told_next f1 (by decide), fun _ => (by first | rfl | go_num | (simp; done)), told_next f3 (by decide), told_next f4 (by decide), told_next f5 (by decide), told_next f6 (by decide), told_next f7 (by decide), told_next f8 (by decide), told_next f9 (by decide), told_next f12 (by decide), g10.next (by decide) (by decide) (fun _ _ h => h)⟩)
                · refine StepD.plain rfl rfl ?_
                  intro D a' w' hn hp hI K hK
                  obtain ⟨x55, x56, x57, x58, x59, x60, x61, x54, x62, x63, x14, x15, C10, ha, hbl, f0, f1, f2, f3, f4, f5, f6, f7, f8, f9, f12, g10⟩ := (hInv.out D a' w').1 hI
                  subst ha; clear hI
                  (try simp only [List.set_cons_zero, List.set_cons_succ])
                  obtain ⟨p3_1, p3_2, _⟩ := hp
                  have p3_1 : D 1 := p3_1 rfl
                  have p3_2 : D 2 := p3_2 rfl
                  have e1 := f1 p3_1; subst e1
                  have e2 := f2 p3_2; subst e2
                  go_simp
                  exact hK.out _ _ ((hInv.out _ _ _).2 ⟨_, _, _, _, _, _, _, _, _, _, _, _, C10, rfl, hbl, told_next f0 (by decide), fun _ => rfl, fun _ => rfl, fun _ => (by first | rfl | go_num | (simp; done)), told_next f4 (by decide), told_next f5 (by decide), told_next f6 (by decide), told_next f7 (by decide), told_next f8 (by decide), told_next f9 (by decide), told_next f12 (by decide), g10.next (by decide) (by decide) (fun _ _ h => h)⟩)
                · refine StepD.plain rfl rfl ?_
                  intro D a' w' hn hp hI K hK
                  obtain ⟨x55, x56, x57, x58, x59, x60, x61, x54, x62, x63, x14, x15, C10, ha, hbl, f0, f1, f2, f3, f4, f5, f6, f7, f8, f9, f12, g10⟩ := (hInv.out D a' w').1 hI
                  subst ha; clear hI
                  (try simp only [List.set_cons_zero, List.set_cons_succ])
                  obtain ⟨p4_3, _⟩ := hp
                  have p4_3 : D 3 := p4_3 rfl
                  have e3 := f3 p4_3; subst e3
                  go_simp
                  refine (s0 _).mono ?_
                  rintro e w2 ⟨rfl, hbc⟩
                  go_wp2_with fail
                  exact hK.out _ _ ((hInv.out _ _ _).2 ⟨_, _, _, _, _, _, _, _, _, _, _, _, C10, rfl, hbl.trans hbc, told_next f0 (by decide), told_next f1 (by decide), told_next f2 (by decide), fun _ => rfl, fun _ => (by first | rfl | go_num | (simp; done)), told_next f5 (by decide), told_next f6 (by decide), told_next f7 (by decide), told_next f8 (by decide), told_next f9 (by decide), told_next f12 (by decide), g10.next (by decide) (by decide) (fun _ _ h => h.call hbc)⟩)
                · refine StepD.plain rfl rfl ?_
                  intro D a' w' hn hp hI K hK
                  obtain ⟨x55, x56, x57, x58, x59, x60, x61, x54, x62, x63, x14, x15, C10, ha, hbl, f0, f1, f2, f3, f4, f5, f6, f7, f8, f9, f12, g10⟩ := (hInv.out D a' w').1 hI
                  subst ha; clear hI
                  (try simp only [List.set_cons_zero, List.set_cons_succ])
                  have bz := r25_15.call hbl
                  obtain ⟨bc, bf, bl_⟩ := bz.tell
                  go_simp
                  exact hK.out _ _ ((hInv.out _ _ _).2 ⟨_, _, _, _, _, _, _, _, _, _, _, _, C10, rfl, hbl, told_next f0 (by decide), told_next f1 (by decide), told_next f2 (by decide), told_next f3 (by decide), told_next f4 (by decide), fun _ => (by first | rfl | go_num | (simp; done)), told_next f6 (by decide), told_next f7 (by decide), told_next f8 (by decide), told_next f9 (by decide), told_next f12 (by decide), g10.next (by decide) (by decide) (fun _ _ h => h)⟩)
                · refine StepD.plain rfl rfl ?_
                  intro D a' w' hn hp hI K hK
                  obtain ⟨x55, x56, x57, x58, x59, x60, x61, x54, x62, x63, x14, x15, C10, ha, hbl, f0, f1, f2, f3, f4, f5, f6, f7, f8, f9, f12, g10⟩ := (hInv.out D a' w').1 hI
                  subst ha; clear hI
                  (try simp only [List.set_cons_zero, List.set_cons_succ])
                  obtain ⟨p6_0, p6_4, p6_5, _, _⟩ := hp
                  have p6_0 : D 0 := p6_0 rfl
                  have p6_4 : D 4 := p6_4 rfl
                  have p6_5 : D 5 := p6_5 rfl
                  have e0 := f0 p6_0; subst e0
                  have e4 := f4 p6_4; subst e4
                  have e5 := f5 p6_5; subst e5
                  go_simp
                  refine (s1 _).mono ?_
                  rintro e w2 ⟨rfl, hbc⟩
                  go_wp2_with fail
                  exact hK.out _ _ ((hInv.out _ _ _).2 ⟨_, _, _, _, _, _, _, _, _, _, _, _, C10, rfl, hbl.trans hbc, fun _ => rfl, told_next f1 (by decide), told_next f2 (by decide), told_next f3 (by decide), fun _ => rfl, fun _ => rfl, fun _ => (by first | rfl | go_num | (simp; done)), told_next f7 (by decide), told_next f8 (by decide), told_next f9 (by decide), told_next f12 (by decide), g10.next (by decide) (by decide) (fun _ _ h => h.call hbc)⟩)
                · refine StepD.plain rfl rfl ?_
                  intro D a' w' hn hp hI K hK
                  obtain ⟨x55, x56, x57, x58, x59, x60, x61, x54, x62, x63, x14, x15, C10, ha, hbl, f0, f1, f2, f3, f4, f5, f6, f7, f8, f9, f12, g10⟩ := (hInv.out D a' w').1 hI
                  subst ha; clear hI
                  (try simp only [List.set_cons_zero, List.set_cons_succ])
                  obtain ⟨p7_6, _⟩ := hp
                  have p7_6 : D 6 := p7_6 rfl
                  have e6 := f6 p7_6; subst e6
                  go_simp
                  exact hK.out _ _ ((hInv.out _ _ _).2 ⟨_, _, _, _, _, _, _, _, _, _, _, _, C10, rfl, hbl, told_next f0 (by decide), told_next f1 (by decide), told_next f2 (by decide), told_next f3 (by decide), told_next f4 (by decide), told_next f5 (by decide), fun _ => rfl, fun _ => (by first | rfl | go_num | (simp; done)), told_next f8 (by decide), told_next f9 (by decide), told_next f12 (by decide), g10.next (by decide) (by decide) (fun _ _ h => h)⟩)
                · refine StepD.plain rfl rfl ?_
                  intro D a' w' hn hp hI K hK
                  obtain ⟨x55, x56, x57, x58, x59, x60, x61, x54, x62, x63, x14, x15, C10, ha, hbl, f0, f1, f2, f3, f4, f5, f6, f7, f8, f9, f12, g10⟩ := (hInv.out D a' w').1 hI
                  subst ha; clear hI
                  (try simp only [List.set_cons_zero, List.set_cons_succ])
                  obtain ⟨p8_7, _⟩ := hp
                  have p8_7 : D 7 := p8_7 rfl
                  have e7 := f7 p8_7; subst e7
                  go_simp
                  exact hK.out _ _ ((hInv.out _ _ _).2 ⟨_, _, _, _, _, _, _, _, _, _, _, _, C10, rfl, hbl, told_next f0 (by decide), told_next f1 (by decide), told_next f2 (by decide), told_next f3 (by decide), told_next f4 (by decide), told_next f5 (by decide), told_next f6 (by decide), fun _ => rfl, fun _ => (by first | rfl | go_num | (simp; done)), told_next f9 (by decide), told_next f12 (by decide), g10.next (by decide) (by decide) (fun _ _ h => h)⟩)
                · refine StepD.plain rfl rfl ?_
                  intro D a' w' hn hp hI K hK
                  obtain ⟨x55, x56, x57, x58, x59, x60, x61, x54, x62, x63, x14, x15, C10, ha, hbl, f0, f1, f2, f3, f4, f5, f6, f7, f8, f9, f12, g10⟩ := (hInv.out D a' w').1 hI
                  subst ha; clear hI
                  (try simp only [List.set_cons_zero, List.set_cons_succ])
                  obtain ⟨p9_7, _, _⟩ := hp
                  have p9_7 : D 7 := p9_7 rfl
                  have e7 := f7 p9_7; subst e7
                  go_simp
                  exact hK.out _ _ ((hInv.out _ _ _).2 ⟨_, _, _, _, _, _, _, _, _, _, _, _, C10, rfl, hbl, told_next f0 (by decide), told_next f1 (by decide), told_next f2 (by decide), told_next f3 (by decide), told_next f4 (by decide), told_next f5 (by decide), told_next f6 (by decide), fun _ => rfl, told_next f8 (by decide), fun _ => (by first | rfl | go_num | (simp; done)), told_next f12 (by decide), g10.next (by decide) (by decide) (fun _ _ h => h)⟩)
                · refine StepD.plain rfl rfl ?_
                  intro D a' w' hn hp hI K hK
                  obtain ⟨x55, x56, x57, x58, x59, x60, x61, x54, x62, x63, x14, x15, C10, ha, hbl, f0, f1, f2, f3, f4, f5, f6, f7, f8, f9, f12, g10⟩ := (hInv.out D a' w').1 hI
                  subst ha; clear hI
                  (try simp only [List.set_cons_zero, List.set_cons_succ])
                  go_simp
                  exact hK.out _ _ ((hInv.out _ _ _).2 ⟨_, _, _, _, _, _, _, _, _, _, _, _, _, rfl, hbl.alloc _, told_next f0 (by decide), told_next f1 (by decide), told_next f2 (by decide), told_next f3 (by decide), told_next f4 (by decide), told_next f5 (by decide), told_next f6 (by decide), told_next f7 (by decide), told_next f8 (by decide), told_next f9 (by decide), told_next f12 (by decide), g10.made hn (by decide) hbl.size⟩)
                · refine StepD.plain rfl rfl ?_
                  intro D a' w' hn hp hI K hK
                  obtain ⟨x55, x56, x57, x58, x59, x60, x61, x54, x62, x63, x14, x15, C10, ha, hbl, f0, f1, f2, f3, f4, f5, f6, f7, f8, f9, f12, g10⟩ := (hInv.out D a' w').1 hI
                  subst ha; clear hI
                  (try simp only [List.set_cons_zero, List.set_cons_succ])
                  obtain ⟨p11_10, p11_8, p11_6, p11_0, p11_1, p11_2, p11_3, p11_4, p11_5, _, p11_7, _, _, _, _⟩ := hp
                  have p11_0 : D 0 := p11_0 rfl
                  have p11_1 : D 1 := p11_1 rfl
                  have p11_2 : D 2 := p11_2 rfl
                  have p11_3 : D 3 := p11_3 rfl
                  have p11_4 : D 4 := p11_4 rfl
                  have p11_5 : D 5 := p11_5 rfl
                  have p11_6 : D 6 := p11_6 rfl
                  have p11_7 : D 7 := p11_7 rfl
                  have p11_8 : D 8 := p11_8 rfl
                  have p11_10 : D 10 := p11_10 rfl
                  obtain ⟨e14, lw14, ha14, hz14⟩ := g10.2 p11_10
                  subst e14
                  have bz := hz14 hn
                  obtain ⟨bc, bf, bl_⟩ := bz.tell
                  clear ha14 hz14
                  have e8 := f8 p11_8; subst e8
                  go_simp
                  have lwb : w25.heap.size ≤ C10 := lw14
                  exact hK.out _ _ ((hInv.out _ _ _).2 ⟨_, _, _, _, _, _, _, _, _, _, _, _, C10, rfl, ((((hbl).setCell (by simp only []; omega) _).setCell (by simp only []; omega) _).setCell (by simp only []; omega) _).setCell (by simp only []; omega) _, told_next f0 (by decide), told_next f1 (by decide), told_next f2 (by decide), told_next f3 (by decide), told_next f4 (by decide), told_next f5 (by decide), told_next f6 (by decide), told_next f7 (by decide), fun _ => rfl, told_next f9 (by decide), told_next f12 (by decide), g10.filled p11_10 hn (fun h => (((((h).set _ _).set _ _).set _ _).set _ _).cells rfl)⟩)
                · refine StepD.plain rfl rfl ?_
                  intro D a' w' hn hp hI K hK
                  obtain ⟨x55, x56, x57, x58, x59, x60, x61, x54, x62, x63, x14, x15, C10, ha, hbl, f0, f1, f2, f3, f4, f5, f6, f7, f8, f9, f12, g10⟩ := (hInv.out D a' w').1 hI
                  subst ha; clear hI
                  (try simp only [List.set_cons_zero, List.set_cons_succ])
                  obtain ⟨p12_9, p12_11, p12_0, p12_1, p12_2, p12_3, p12_4, p12_5, p12_6, p12_7, p12_8, _, p12_10, _, _⟩ := hp
                  have p12_0 : D 0 := p12_0 rfl
                  have p12_1 : D 1 := p12_1 rfl
                  have p12_2 : D 2 := p12_2 rfl
                  have p12_3 : D 3 := p12_3 rfl
                  have p12_4 : D 4 := p12_4 rfl
                  have p12_5 : D 5 := p12_5 rfl
                  have p12_6 : D 6 := p12_6 rfl
                  have p12_7 : D 7 := p12_7 rfl
                  have p12_8 : D 8 := p12_8 rfl
                  have p12_9 : D 9 := p12_9 rfl
                  have p12_10 : D 10 := p12_10 rfl
                  have p12_11 : D 11 := p12_11 rfl
                  have e9 := f9 p12_9; subst e9
                  go_simp
                  exact hK.out _ _ ((hInv.out _ _ _).2 ⟨_, _, _, _, _, _, _, _, _, _, _, _, C10, rfl, hbl, told_next f0 (by decide), told_next f1 (by decide), told_next f2 (by decide), told_next f3 (by decide), told_next f4 (by decide), told_next f5 (by decide), told_next f6 (by decide), told_next f7 (by decide), told_next f8 (by decide), fun _ => rfl, fun _ => (by first | rfl | go_num | (simp; done)), g10.next (by decide) (by decide) (fun _ _ h => h)⟩)
              · intro D a' w26 hall hI
                obtain ⟨x55, x56, x57, x58, x59, x60, x61, x54, x62, x63, x14, x15, B16, ha, hb26, f0, f1, f2, f3, f4, f5, f6, f7, f8, f9, f12, g10⟩ := hI
                subst ha
                (try simp only [List.set_cons_zero, List.set_cons_succ])
                have e := f0 (hall 0 (by decide)); subst e
                have e := f1 (hall 1 (by decide)); subst e
                have e := f2 (hall 2 (by decide)); subst e
                have e := f3 (hall 3 (by decide)); subst e
                have e := f4 (hall 4 (by decide)); subst e
                have e := f5 (hall 5 (by decide)); subst e
                have e := f6 (hall 6 (by decide)); subst e
                have e := f7 (hall 7 (by decide)); subst e
                have e := f8 (hall 8 (by decide)); subst e
                have e := f9 (hall 9 (by decide)); subst e
                have e := f12 (hall 12 (by decide)); subst e
                obtain ⟨e, lw16, ha16, hz16⟩ := g10.2 (hall 10 (by decide))
                subst e
                have q16 := ha16 (hall 11 (by decide))
                clear ha16 hz16 g10
                clear hall
                (try simp only [Act.put, List.setIfInBounds_toArray, List.set_cons_zero, List.set_cons_succ])
                have lo16 : w.heap.size ≤ B16 := (by have := y25; omega)
                have n16_0 : (B16 = B0) = False := (by simp only [eq_iff_iff, iff_false]; have := r25_0_l; omega)
                have n0_16 : (B0 = B16) = False := (by simp only [eq_iff_iff, iff_false]; have := r25_0_l; omega)
                have n16_1 : (B16 = B1) = False := (by simp only [eq_iff_iff, iff_false]; have := r25_1_l; omega)
                have n1_16 : (B1 = B16) = False := (by simp only [eq_iff_iff, iff_false]; have := r25_1_l; omega)
                have r26_0 : Box w26 B0 #[.int .u64 (L base 0), .int .u64 (L base 1), .int .u64 (L base 2), .int .u64 (L base 3)] 24 := r25_0.call hb26
                have r26_1 : Box w26 B1 #[.int .u64 0, .int .u64 0, .int .u64 0, .int .u64 0] 24 := r25_1.call hb26
                have r26_16 : Box w26 B16 #[.int .u64 (L d 0), .int .u64 (L d 1), .int .u64 (L d 2), .int .u64 (L d 3)] 24 := q16
                have b26 : Bl w w26 := Bl.trans b25 hb26
                have z26 : w25.heap.size ≤ w26.heap.size := (by have := hb26.size; omega)
                have y26 : w.heap.size ≤ w26.heap.size := b26.size
                clear r25_0 r25_0_c r25_0_f r25_0_l r25_1 r25_1_c r25_1_f r25_1_l r25_15 r25_15_c r25_15_f r25_15_l b25
                obtain ⟨r26_0_c, r26_0_f, r26_0_l⟩ := r26_0.tell
                obtain ⟨r26_1_c, r26_1_f, r26_1_l⟩ := r26_1.tell
                obtain ⟨r26_16_c, r26_16_f, r26_16_l⟩ := r26_16.tell
                clear hb26 lw16
                go_wp2_with fail
                refine (s2 _).mono ?_
                rintro e w27 ⟨rfl, hb27⟩
                have r27_1 : Box w27 B1 #[.int .u64 0, .int .u64 0, .int .u64 0, .int .u64 0] 24 := (r26_1).call hb27
                have b27 : Bl w w27 := Bl.trans (b26) hb27
                have z27 : w26.heap.size ≤ w27.heap.size := (by have := hb27.size; (try simp only [World.alloc, World.setCell, World.drew, Array.size_push, Array.size_modify] at this); omega)
                have y27 : w.heap.size ≤ w27.heap.size := b27.size
                clear r26_0 r26_0_c r26_0_f r26_0_l r26_1 r26_1_c r26_1_f r26_1_l r26_16 r26_16_c r26_16_f r26_16_l b26
                obtain ⟨r27_1_c, r27_1_f, r27_1_l⟩ := r27_1.tell
                have d27_0 : (B1 = w27.heap.size) = False := (by simp only [eq_iff_iff, iff_false]; omega)
                have e27_0 : (w27.heap.size = B1) = False := (by simp only [eq_iff_iff, iff_false]; omega)
                have m27_0 : B1 < w27.heap.size := (by omega)
                have d27_1 : (B1 = w27.heap.size + 1) = False := (by simp only [eq_iff_iff, iff_false]; omega)
                have e27_1 : (w27.heap.size + 1 = B1) = False := (by simp only [eq_iff_iff, iff_false]; omega)
                have m27_1 : B1 < w27.heap.size + 1 := (by omega)
                clear hb27
                go_wp2_with fail
                refine bodyPost_ret (v := .tuple #[.agg #[.int .u64 0, .int .u64 0, .int .u64 0, .int .u64 0], .int .i64 183]) (by simp only [results, Try.results8]; go_simp) rfl ⟨rfl, ?_⟩
                exact (((((b27).setCell (by simp only []; omega) _).setCell (by simp only []; omega) _).setCell (by simp only []; omega) _).setCell (by simp only []; omega) _).alloc _

end Go.Proofs.Ytcmjdmehooenkaa

