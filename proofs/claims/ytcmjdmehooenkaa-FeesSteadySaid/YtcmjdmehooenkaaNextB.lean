/- fees.NextBase and the document's. -/
import Derived.Test.YtcmjdmehooenkaaStep
import Derived.Test.YtcmjdmehooenkaaFeesN
set_option linter.unusedSimpArgs false
set_option linter.unusedVariables false
namespace Go.Proofs.Ytcmjdmehooenkaa
open Go Go.RowKit

set_option maxHeartbeats 4000000 in
set_option maxRecDepth 100000 in
theorem nextbase_c (base limit used : Nat) (hb : base < T256) (hl : limit < 18446744073709551616) (hu : used < 18446744073709551616) (w : World) :
    Calls Try.prog 7 #[U base, .int .u64 limit, .int .u64 used] w fun e w' => e = .returned (.tuple #[U (nbV base limit used), .int .i64 (nbE base limit used)]) ∧ Bl w w' := by
  go_enter Try.func7, Try.ntmps7
  obtain ⟨tg, htg⟩ : ∃ tg, tg = limit / 2 := ⟨_, rfl⟩
  have ht2 : (limit : Int) / 2 = (tg : Int) := by omega
  have htb : tg < 9223372036854775808 := by omega
  have hg := guardU
  unfold nbV nbE
  rw [← htg]
  have HTG := Lib.hid htg
  clear htg
  by_cases h0 : tg = 0
  · skip
    rw [if_pos h0, if_pos h0]
    have c : ((tg : Int) == 0) = true := by simp; omega
    have c2 : decide (tg = 0) = true := by simp; omega
    go_wp2_with fail
    refine bodyPost_ret (v := .tuple #[.agg #[.int .u64 0, .int .u64 0, .int .u64 0, .int .u64 0], .int .i64 1]) (by simp only [results, Try.results7]; go_simp) rfl ⟨rfl, ?_⟩
    exact ((Bl.refl w).alloc _).alloc _
  · skip
    have c9 : ((tg : Int) == 0) = false := by simp; omega
    have c8 : decide (tg = 0) = false := by simp; omega
    by_cases h1 : limit < used
    · skip
      rw [if_neg h0, if_pos h1, if_neg h0, if_pos h1]
      have c0 : decide (limit < used) = true := by simp; omega
      go_wp2_with fail
      refine bodyPost_ret (v := .tuple #[.agg #[.int .u64 0, .int .u64 0, .int .u64 0, .int .u64 0], .int .i64 184]) (by simp only [results, Try.results7]; go_simp) rfl ⟨rfl, ?_⟩
      exact ((Bl.refl w).alloc _).alloc _
    · skip
      by_cases h2 : used < tg
      · skip
        have c0 : decide (limit < used) = false := by simp; omega
        have c1 : decide (used < tg) = true := by simp; omega
        rw [if_neg h0, if_neg h1, if_pos h2, if_neg h0, if_neg h1, if_pos h2]
        obtain ⟨of, hof⟩ : ∃ of, of = tg - used := ⟨_, rfl⟩
        have e1 : (tg : Int) - used = (of : Int) := by omega
        have hle := stepN_le (off := of) hb (show 0 < tg by omega) (by omega)
        have s1 := fun w => step_c base of tg hb (by omega) (by omega) w
        rw [show mdV base of (8 * tg) = stepN base of tg from rfl] at s1
        rw [← hof]
        obtain ⟨d, hd⟩ : ∃ d, d = stepN base of tg := ⟨_, rfl⟩
        rw [← hd] at s1 hle ⊢
        have s2 := fun w => sub_c base d hb (by omega) w
        rw [show (base + T256 - d) % T256 = base - d by rw [show base + T256 - d = base - d + T256 by omega, Nat.add_mod_right, Nat.mod_eq_of_lt (by omega)], if_neg (by omega : ¬ base < d)] at s2
        have e2 : IntKind.u64.wrap (of : Int) = (of : Int) := by unfold IntKind.wrap; simp [IntKind.bits, IntKind.signed]; omega
        obtain ⟨r, hr⟩ : ∃ r, r = base - d := ⟨_, rfl⟩
        rw [← hr] at s2 ⊢
        clear hof hd hle hr
        go_wp2_with fail
        obtain ⟨w1, hw1⟩ : ∃ V : World, V = ((w.alloc (.cells #[.int .u64 (L base 0), .int .u64 (L base 1), .int .u64 (L base 2), .int .u64 (L base 3)] 24)).alloc (.cells #[.int .u64 0, .int .u64 0, .int .u64 0, .int .u64 0] 24)) := ⟨_, rfl⟩
        rw [← hw1]
        have r1_0 : Box w1 w.heap.size #[.int .u64 (L base 0), .int .u64 (L base 1), .int .u64 (L base 2), .int .u64 (L base 3)] 24 := by rw [hw1]; exact (Box.new _ _ _ _ (by simp)).alloc _
        have r1_1 : Box w1 (w.heap.size + 1) #[.int .u64 0, .int .u64 0, .int .u64 0, .int .u64 0] 24 := by rw [hw1]; exact Box.new _ _ _ _ (by simp)
        have b1 : Bl w w1 := by rw [hw1]; exact ((Bl.refl w).alloc _).alloc _
        have z1 : w.heap.size + 1 + 1 ≤ w1.heap.size := (by rw [hw1]; simp only [World.alloc, World.setCell, World.drew, Array.size_push, Array.size_modify]; omega)
        have y1 : w.heap.size ≤ w1.heap.size := b1.size
        obtain ⟨B1, hB1⟩ : ∃ B, B = w.heap.size + 1 := ⟨_, rfl⟩
        (try rw [← hB1]); rw [← hB1] at r1_1
        obtain ⟨B0, hB0⟩ : ∃ B, B = w.heap.size := ⟨_, rfl⟩
        (try rw [← hB0]); rw [← hB0] at r1_0
        have lo0 : w.heap.size ≤ B0 := by omega
        have lo1 : w.heap.size ≤ B1 := by omega
        have n0_1 : (B0 = B1) = False := (by simp only [eq_iff_iff, iff_false]; omega)
        have n1_0 : (B1 = B0) = False := (by simp only [eq_iff_iff, iff_false]; omega)
        clear hB0
        clear hB1
        obtain ⟨r1_0_c, r1_0_f, r1_0_l⟩ := r1_0.tell
        obtain ⟨r1_1_c, r1_1_f, r1_1_l⟩ := r1_1.tell
        clear hw1
        refine wp_region_told_at (fun l0 D a' w' => ∃ (x30 : Value) (x31 : Value) (x32 : Value) (x33 : Value) (x34 : Value) (x35 : Value) (x36 : Value) (x37 : Value) (x29 : Value) (x38 : Value) (x39 : Value) (x9 : Value) (x10 : Value) (C11 : Nat), a' = ⟨((((((((((((((l0).set 30 x30).set 31 x31).set 32 x32).set 33 x33).set 34 x34).set 35 x35).set 36 x36).set 37 x37).set 29 x29).set 38 x38).set 39 x39).set 9 x9).set 10 x10).toArray, []⟩ ∧ Bl w1 w' ∧ (D 0 → x30 = U base) ∧ (D 1 → x31 = U base) ∧ (D 2 → x32 = .int .u64 tg) ∧ (D 3 → x33 = .int .u64 used) ∧ (D 4 → x34 = .int .u64 of) ∧ (D 5 → x35 = .int .u64 tg) ∧ (D 6 → x36 = U d) ∧ (D 7 → x37 = .tuple #[U r, .int .u64 0]) ∧ (D 8 → x29 = .tuple #[U r, .int .u64 0]) ∧ (D 9 → x38 = U r) ∧ (D 10 → x39 = .int .u64 0) ∧ (D 13 → x10 = .int .u64 0) ∧ Blk D 11 12 w1 w' x9 C11 #[.int .u64 0, .int .u64 0, .int .u64 0, .int .u64 0] #[.int .u64 (L r 0), .int .u64 (L r 1), .int .u64 (L r 2), .int .u64 (L r 3)] 24) (by kernel_rfl) (by kernel_rfl) ?_ ?_ ?_
        · exact fun l0 => ⟨l0.getD 30 undef, l0.getD 31 undef, l0.getD 32 undef, l0.getD 33 undef, l0.getD 34 undef, l0.getD 35 undef, l0.getD 36 undef, l0.getD 37 undef, l0.getD 29 undef, l0.getD 38 undef, l0.getD 39 undef, l0.getD 9 undef, l0.getD 10 undef, 0, (by simp only [set_self]), (Bl.refl w1).drew, fun h => h.elim, fun h => h.elim, fun h => h.elim, fun h => h.elim, fun h => h.elim, fun h => h.elim, fun h => h.elim, fun h => h.elim, fun h => h.elim, fun h => h.elim, fun h => h.elim, fun h => h.elim, Blk.start⟩
        · intro Inv hInv
          refine AllD.cons ?_ (AllD.cons ?_ (AllD.cons ?_ (AllD.cons ?_ (AllD.cons ?_ (AllD.cons ?_ (AllD.cons ?_ (AllD.cons ?_ (AllD.cons ?_ (AllD.cons ?_ (AllD.cons ?_ (AllD.cons ?_ (AllD.cons ?_ (AllD.cons ?_ (AllD.nil))))))))))))))
          · refine StepD.plain rfl rfl ?_
            intro D a' w' hn hp hI K hK
            obtain ⟨x30, x31, x32, x33, x34, x35, x36, x37, x29, x38, x39, x9, x10, C11, ha, hbl, f0, f1, f2, f3, f4, f5, f6, f7, f8, f9, f10, f13, g11⟩ := (hInv.out D a' w').1 hI
            subst ha; clear hI
            (try simp only [List.set_cons_zero, List.set_cons_succ])
            have bz := r1_0.call hbl
            obtain ⟨bc, bf, bl_⟩ := bz.tell
            go_simp
            exact hK.out _ _ ((hInv.out _ _ _).2 ⟨_, _, _, _, _, _, _, _, _, _, _, _, _, C11, rfl, hbl, fun _ => (by first | rfl | go_num | (simp; done)), told_next f1 (by decide), told_next f2 (by decide), told_next f3 (by decide), told_next f4 (by decide), told_next f5 (by decide), told_next f6 (by decide), told_next f7 (by decide), told_next f8 (by decide), told_next f9 (by decide), told_next f10 (by decide), told_next f13 (by decide), g11.next (by decide) (by decide) (fun _ _ h => h)⟩)
          · refine StepD.plain rfl rfl ?_
            intro D a' w' hn hp hI K hK
            obtain ⟨x30, x31, x32, x33, x34, x35, x36, x37, x29, x38, x39, x9, x10, C11, ha, hbl, f0, f1, f2, f3, f4, f5, f6, f7, f8, f9, f10, f13, g11⟩ := (hInv.out D a' w').1 hI
            subst ha; clear hI
            (try simp only [List.set_cons_zero, List.set_cons_succ])
            have bz := r1_0.call hbl
            obtain ⟨bc, bf, bl_⟩ := bz.tell
            go_simp
            exact hK.out _ _ ((hInv.out _ _ _).2 ⟨_, _, _, _, _, _, _, _, _, _, _, _, _, C11, rfl, hbl, told_next f0 (by decide), fun _ => (by first | rfl | go_num | (simp; done)), told_next f2 (by decide), told_next f3 (by decide), told_next f4 (by decide), told_next f5 (by decide), told_next f6 (by decide), told_next f7 (by decide), told_next f8 (by decide), told_next f9 (by decide), told_next f10 (by decide), told_next f13 (by decide), g11.next (by decide) (by decide) (fun _ _ h => h)⟩)
          · refine StepD.plain rfl rfl ?_
            intro D a' w' hn hp hI K hK
            obtain ⟨x30, x31, x32, x33, x34, x35, x36, x37, x29, x38, x39, x9, x10, C11, ha, hbl, f0, f1, f2, f3, f4, f5, f6, f7, f8, f9, f10, f13, g11⟩ := (hInv.out D a' w').1 hI
            subst ha; clear hI
            (try simp only [List.set_cons_zero, List.set_cons_succ])
            go_simp
            exact hK.out _ _ ((hInv.out _ _ _).2 ⟨_, _, _, _, _, _, _, _, _, _, _, _, _, C11, rfl, hbl, told_next f0 (by decide), told_next f1 (by decide), fun _ => (by first | rfl | go_num | (simp; done)), told_next f3 (by decide), told_next f4 (by decide), told_next f5 (by decide), told_next f6 (by decide), told_next f7 (by decide), told_next f8 (by decide), told_next f9 (by decide), told_next f10 (by decide), told_next f13 (by decide), g11.next (by decide) (by decide) (fun _ _ h => h)⟩)
          · refine StepD.plain rfl rfl ?_
            intro D a' w' hn hp hI K hK
            obtain ⟨x30, x31, x32, x33, x34, x35, x36, x37, x29, x38, x39, x9, x10, C11, ha, hbl, f0, f1, f2, f3, f4, f5, f6, f7, f8, f9, f10, f13, g11⟩ := (hInv.out D a' w').1 hI
            subst ha; clear hI
            (try simp only [List.set_cons_zero, List.set_cons_succ])
            go_simp
            exact hK.out _ _ ((hInv.out _ _ _).2 ⟨_, _, _, _, _, _, _, _, _, _, _, _, _, C11, rfl, hbl, told_next f0 (by decide), told_next f1 (by decide), told_next f2 (by decide), fun _ => (by first | rfl | go_num | (simp; done)), told_next f4 (by decide), told_next f5 (by decide), told_next f6 (by decide), told_next f7 (by decide), told_next f8 (by decide), told_next f9 (by decide), told_next f10 (by decide), told_next f13 (by decide), g11.next (by decide) (by decide) (fun _ _ h => h)⟩)
          · refine StepD.plain rfl rfl ?_
            intro D a' w' hn hp hI K hK
            obtain ⟨x30, x31, x32, x33, x34, x35, x36, x37, x29, x38, x39, x9, x10, C11, ha, hbl, f0, f1, f2, f3, f4, f5, f6, f7, f8, f9, f10, f13, g11⟩ := (hInv.out D a' w').1 hI
            subst ha; clear hI
            (try simp only [List.set_cons_zero, List.set_cons_succ])
            obtain ⟨p4_2, p4_3, _⟩ := hp
            have p4_2 : D 2 := p4_2 rfl
            have p4_3 : D 3 := p4_3 rfl
            have e2 := f2 p4_2; subst e2
            have e3 := f3 p4_3; subst e3
            go_simp
            exact hK.out _ _ ((hInv.out _ _ _).2 ⟨_, _, _, _, _, _, _, _, _, _, _, _, _, C11, rfl, hbl, told_next f0 (by decide), told_next f1 (by decide), fun _ => rfl, fun _ => rfl, fun _ => (by first | rfl | go_num | (simp; done)), told_next f5 (by decide), told_next f6 (by decide), told_next f7 (by decide), told_next f8 (by decide), told_next f9 (by decide), told_next f10 (by decide), told_next f13 (by decide), g11.next (by decide) (by decide) (fun _ _ h => h)⟩)
          · refine StepD.plain rfl rfl ?_
            intro D a' w' hn hp hI K hK
            obtain ⟨x30, x31, x32, x33, x34, x35, x36, x37, x29, x38, x39, x9, x10, C11, ha, hbl, f0, f1, f2, f3, f4, f5, f6, f7, f8, f9, f10, f13, g11⟩ := (hInv.out D a' w').1 hI
            subst ha; clear hI
            (try simp only [List.set_cons_zero, List.set_cons_succ])
            go_simp
            exact hK.out _ _ ((hInv.out _ _ _).2 ⟨_, _, _, _, _, _, _, _, _, _, _, _, _, C11, rfl, hbl, told_next f0 (by decide), told_next f1 (by decide), told_next f2 (by decide), told_next f3 (by decide), told_next f4 (by decide), fun _ => (by first | rfl | go_num | (simp; done)), told_next f6 (by decide), told_next f7 (by decide), told_next f8 (by decide), told_next f9 (by decide), told_next f10 (by decide), told_next f13 (by decide), g11.next (by decide) (by decide) (fun _ _ h => h)⟩)
          · refine StepD.plain rfl rfl ?_
            intro D a' w' hn hp hI K hK
            obtain ⟨x30, x31, x32, x33, x34, x35, x36, x37, x29, x38, x39, x9, x10, C11, ha, hbl, f0, f1, f2, f3, f4, f5, f6, f7, f8, f9, f10, f13, g11⟩ := (hInv.out D a' w').1 hI
            subst ha; clear hI
            (try simp only [List.set_cons_zero, List.set_cons_succ])
            obtain ⟨p6_1, p6_4, p6_5, _⟩ := hp
            have p6_1 : D 1 := p6_1 rfl
            have p6_4 : D 4 := p6_4 rfl
            have p6_5 : D 5 := p6_5 rfl
            have e1 := f1 p6_1; subst e1
            have e4 := f4 p6_4; subst e4
            have e5 := f5 p6_5; subst e5
            go_simp
            refine (s1 _).mono ?_
            rintro e w2 ⟨rfl, hbc⟩
            go_wp2_with fail
            exact hK.out _ _ ((hInv.out _ _ _).2 ⟨_, _, _, _, _, _, _, _, _, _, _, _, _, C11, rfl, hbl.trans hbc, told_next f0 (by decide), fun _ => rfl, told_next f2 (by decide), told_next f3 (by decide), fun _ => rfl, fun _ => rfl, fun _ => (by first | rfl | go_num | (simp; done)), told_next f7 (by decide), told_next f8 (by decide), told_next f9 (by decide), told_next f10 (by decide), told_next f13 (by decide), g11.next (by decide) (by decide) (fun _ _ h => h.call hbc)⟩)
          · refine StepD.plain rfl rfl ?_
            intro D a' w' hn hp hI K hK
            obtain ⟨x30, x31, x32, x33, x34, x35, x36, x37, x29, x38, x39, x9, x10, C11, ha, hbl, f0, f1, f2, f3, f4, f5, f6, f7, f8, f9, f10, f13, g11⟩ := (hInv.out D a' w').1 hI
            subst ha; clear hI
            (try simp only [List.set_cons_zero, List.set_cons_succ])
            obtain ⟨p7_0, p7_6, _, _⟩ := hp
            have p7_0 : D 0 := p7_0 rfl
            have p7_6 : D 6 := p7_6 rfl
            have e0 := f0 p7_0; subst e0
            have e6 := f6 p7_6; subst e6
            go_simp
            refine (s2 _).mono ?_
            rintro e w2 ⟨rfl, hbc⟩
            go_wp2_with fail
            exact hK.out _ _ ((hInv.out _ _ _).2 ⟨_, _, _, _, _, _, _, _, _, _, _, _, _, C11, rfl, hbl.trans hbc, fun _ => rfl, told_next f1 (by decide), told_next f2 (by decide), told_next f3 (by decide), told_next f4 (by decide), told_next f5 (by decide), fun _ => rfl, fun _ => (by first | rfl | go_num | (simp; done)), told_next f8 (by decide), told_next f9 (by decide), told_next f10 (by decide), told_next f13 (by decide), g11.next (by decide) (by decide) (fun _ _ h => h.call hbc)⟩)
          · refine StepD.plain rfl rfl ?_
            intro D a' w' hn hp hI K hK
            obtain ⟨x30, x31, x32, x33, x34, x35, x36, x37, x29, x38, x39, x9, x10, C11, ha, hbl, f0, f1, f2, f3, f4, f5, f6, f7, f8, f9, f10, f13, g11⟩ := (hInv.out D a' w').1 hI
            subst ha; clear hI
            (try simp only [List.set_cons_zero, List.set_cons_succ])
            obtain ⟨p8_7, _⟩ := hp
            have p8_7 : D 7 := p8_7 rfl
            have e7 := f7 p8_7; subst e7
            go_simp
            exact hK.out _ _ ((hInv.out _ _ _).2 ⟨_, _, _, _, _, _, _, _, _, _, _, _, _, C11, rfl, hbl, told_next f0 (by decide), told_next f1 (by decide), told_next f2 (by decide), told_next f3 (by decide), told_next f4 (by decide), told_next f5 (by decide), told_next f6 (by decide), fun _ => rfl, fun _ => (by first | rfl | go_num | (simp; done)), told_next f9 (by decide), told_next f10 (by decide), told_next f13 (by decide), g11.next (by decide) (by decide) (fun _ _ h => h)⟩)
          · refine StepD.plain rfl rfl ?_
            intro D a' w' hn hp hI K hK
            obtain ⟨x30, x31, x32, x33, x34, x35, x36, x37, x29, x38, x39, x9, x10, C11, ha, hbl, f0, f1, f2, f3, f4, f5, f6, f7, f8, f9, f10, f13, g11⟩ := (hInv.out D a' w').1 hI
            subst ha; clear hI
            (try simp only [List.set_cons_zero, List.set_cons_succ])
            obtain ⟨p9_8, _⟩ := hp
            have p9_8 : D 8 := p9_8 rfl
            have e8 := f8 p9_8; subst e8
            go_simp
            exact hK.out _ _ ((hInv.out _ _ _).2 ⟨_, _, _, _, _, _, _, _, _, _, _, _, _, C11, rfl, hbl, told_next f0 (by decide), told_next f1 (by decide), told_next f2 (by decide), told_next f3 (by decide), told_next f4 (by decide), told_next f5 (by decide), told_next f6 (by decide), told_next f7 (by decide), fun _ => rfl, fun _ => (by first | rfl | go_num | (simp; done)), told_next f10 (by decide), told_next f13 (by decide), g11.next (by decide) (by decide) (fun _ _ h => h)⟩)
          · refine StepD.plain rfl rfl ?_
            intro D a' w' hn hp hI K hK
            obtain ⟨x30, x31, x32, x33, x34, x35, x36, x37, x29, x38, x39, x9, x10, C11, ha, hbl, f0, f1, f2, f3, f4, f5, f6, f7, f8, f9, f10, f13, g11⟩ := (hInv.out D a' w').1 hI
            subst ha; clear hI
            (try simp only [List.set_cons_zero, List.set_cons_succ])
            obtain ⟨p10_8, _, _⟩ := hp
            have p10_8 : D 8 := p10_8 rfl
            have e8 := f8 p10_8; subst e8
            go_simp
            exact hK.out _ _ ((hInv.out _ _ _).2 ⟨_, _, _, _, _, _, _, _, _, _, _, _, _, C11, rfl, hbl, told_next f0 (by decide), told_next f1 (by decide), told_next f2 (by decide), told_next f3 (by decide), told_next f4 (by decide), told_next f5 (by decide), told_next f6 (by decide), told_next f7 (by decide), fun _ => rfl, told_next f9 (by decide), fun _ => (by first | rfl | go_num | (simp; done)), told_next f13 (by decide), g11.next (by decide) (by decide) (fun _ _ h => h)⟩)
          · refine StepD.plain rfl rfl ?_
            intro D a' w' hn hp hI K hK
            obtain ⟨x30, x31, x32, x33, x34, x35, x36, x37, x29, x38, x39, x9, x10, C11, ha, hbl, f0, f1, f2, f3, f4, f5, f6, f7, f8, f9, f10, f13, g11⟩ := (hInv.out D a' w').1 hI
            subst ha; clear hI
            (try simp only [List.set_cons_zero, List.set_cons_succ])
            go_simp
            exact hK.out _ _ ((hInv.out _ _ _).2 ⟨_, _, _, _, _, _, _, _, _, _, _, _, _, _, rfl, hbl.alloc _, told_next f0 (by decide), told_next f1 (by decide), told_next f2 (by decide), told_next f3 (by decide), told_next f4 (by decide), told_next f5 (by decide), told_next f6 (by decide), told_next f7 (by decide), told_next f8 (by decide), told_next f9 (by decide), told_next f10 (by decide), told_next f13 (by decide), g11.made hn (by decide) hbl.size⟩)
          · refine StepD.plain rfl rfl ?_
            intro D a' w' hn hp hI K hK
            obtain ⟨x30, x31, x32, x33, x34, x35, x36, x37, x29, x38, x39, x9, x10, C11, ha, hbl, f0, f1, f2, f3, f4, f5, f6, f7, f8, f9, f10, f13, g11⟩ := (hInv.out D a' w').1 hI
            subst ha; clear hI
            (try simp only [List.set_cons_zero, List.set_cons_succ])
            obtain ⟨p12_11, p12_9, p12_7, p12_0, p12_1, p12_2, p12_3, p12_4, p12_5, p12_6, _, p12_8, _, _, _, _⟩ := hp
            have p12_0 : D 0 := p12_0 rfl
            have p12_1 : D 1 := p12_1 rfl
            have p12_2 : D 2 := p12_2 rfl
            have p12_3 : D 3 := p12_3 rfl
            have p12_4 : D 4 := p12_4 rfl
            have p12_5 : D 5 := p12_5 rfl
            have p12_6 : D 6 := p12_6 rfl
            have p12_7 : D 7 := p12_7 rfl
            have p12_8 : D 8 := p12_8 rfl
            have p12_9 : D 9 := p12_9 rfl
            have p12_11 : D 11 := p12_11 rfl
            obtain ⟨e9, lw9, ha9, hz9⟩ := g11.2 p12_11
            subst e9
            have bz := hz9 hn
            obtain ⟨bc, bf, bl_⟩ := bz.tell
            clear ha9 hz9
            have e9 := f9 p12_9; subst e9
            go_simp
            have lwb : w1.heap.size ≤ C11 := lw9
            exact hK.out _ _ ((hInv.out _ _ _).2 ⟨_, _, _, _, _, _, _, _, _, _, _, _, _, C11, rfl, ((((hbl).setCell (by simp only []; omega) _).setCell (by simp only []; omega) _).setCell (by simp only []; omega) _).setCell (by simp only []; omega) _, told_next f0 (by decide), told_next f1 (by decide), told_next f2 (by decide), told_next f3 (by decide), told_next f4 (by decide), told_next f5 (by decide), told_next f6 (by decide), told_next f7 (by decide), told_next f8 (by decide), fun _ => rfl, told_next f10 (by decide), told_next f13 (by decide), g11.filled p12_11 hn (fun h => (((((h).set _ _).set _ _).set _ _).set _ _).cells rfl)⟩)
          · refine StepD.plain rfl rfl ?_
            intro D a' w' hn hp hI K hK
            obtain ⟨x30, x31, x32, x33, x34, x35, x36, x37, x29, x38, x39, x9, x10, C11, ha, hbl, f0, f1, f2, f3, f4, f5, f6, f7, f8, f9, f10, f13, g11⟩ := (hInv.out D a' w').1 hI
            subst ha; clear hI
            (try simp only [List.set_cons_zero, List.set_cons_succ])
            obtain ⟨p13_10, p13_12, p13_0, p13_1, p13_2, p13_3, p13_4, p13_5, p13_6, p13_7, p13_8, p13_9, _, p13_11, _, _⟩ := hp
            have p13_0 : D 0 := p13_0 rfl
            have p13_1 : D 1 := p13_1 rfl
            have p13_2 : D 2 := p13_2 rfl
            have p13_3 : D 3 := p13_3 rfl
            have p13_4 : D 4 := p13_4 rfl
            have p13_5 : D 5 := p13_5 rfl
            have p13_6 : D 6 := p13_6 rfl
            have p13_7 : D 7 := p13_7 rfl
            have p13_8 : D 8 := p13_8 rfl
            have p13_9 : D 9 := p13_9 rfl
            have p13_10 : D 10 := p13_10 rfl
            have p13_11 : D 11 := p13_11 rfl
            have p13_12 : D 12 := p13_12 rfl
            have e10 := f10 p13_10; subst e10
            go_simp
            exact hK.out _ _ ((hInv.out _ _ _).2 ⟨_, _, _, _, _, _, _, _, _, _, _, _, _, C11, rfl, hbl, told_next f0 (by decide), told_next f1 (by decide), told_next f2 (by decide), told_next f3 (by decide), told_next f4 (by decide), told_next f5 (by decide), told_next f6 (by decide), told_next f7 (by decide), told_next f8 (by decide), told_next f9 (by decide), fun _ => rfl, fun _ => (by first | rfl | go_num | (simp; done)), g11.next (by decide) (by decide) (fun _ _ h => h)⟩)
        · intro D a' w2 hall hI
          obtain ⟨x30, x31, x32, x33, x34, x35, x36, x37, x29, x38, x39, x9, x10, B2, ha, hb2, f0, f1, f2, f3, f4, f5, f6, f7, f8, f9, f10, f13, g11⟩ := hI
          subst ha
          (try simp only [List.set_cons_zero, List.set_cons_succ])
          have e := f0 (hall 0 (by decide)); subst e
          have e := f1 (hall 1 (by decide)); subst e
          have e := f2 (hall 2 (by decide)); subst e
          have e := f3 (hall 3 (by decide)); subst e
          have e := f4 (hall 4 (by decide)); subst e
          have e := f5 (hall 5 (by decide)); subst e
          have e := f6 (hall 6 (by decide)); subst e
          have e := f7 (hall 7 (by decide)); subst e
          have e := f8 (hall 8 (by decide)); subst e
          have e := f9 (hall 9 (by decide)); subst e
          have e := f10 (hall 10 (by decide)); subst e
          have e := f13 (hall 13 (by decide)); subst e
          obtain ⟨e, lw2, ha2, hz2⟩ := g11.2 (hall 11 (by decide))
          subst e
          have q2 := ha2 (hall 12 (by decide))
          clear ha2 hz2 g11
          clear hall
          (try simp only [Act.put, List.setIfInBounds_toArray, List.set_cons_zero, List.set_cons_succ])
          have lo2 : w.heap.size ≤ B2 := (by have := y1; omega)
          have n2_0 : (B2 = B0) = False := (by simp only [eq_iff_iff, iff_false]; have := r1_0_l; omega)
          have n0_2 : (B0 = B2) = False := (by simp only [eq_iff_iff, iff_false]; have := r1_0_l; omega)
          have n2_1 : (B2 = B1) = False := (by simp only [eq_iff_iff, iff_false]; have := r1_1_l; omega)
          have n1_2 : (B1 = B2) = False := (by simp only [eq_iff_iff, iff_false]; have := r1_1_l; omega)
          have r2_0 : Box w2 B0 #[.int .u64 (L base 0), .int .u64 (L base 1), .int .u64 (L base 2), .int .u64 (L base 3)] 24 := r1_0.call hb2
          have r2_1 : Box w2 B1 #[.int .u64 0, .int .u64 0, .int .u64 0, .int .u64 0] 24 := r1_1.call hb2
          have r2_2 : Box w2 B2 #[.int .u64 (L r 0), .int .u64 (L r 1), .int .u64 (L r 2), .int .u64 (L r 3)] 24 := q2
          have b2 : Bl w w2 := Bl.trans b1 hb2
          have z2 : w1.heap.size ≤ w2.heap.size := (by have := hb2.size; omega)
          have y2 : w.heap.size ≤ w2.heap.size := b2.size
          clear r1_0 r1_0_c r1_0_f r1_0_l r1_1 r1_1_c r1_1_f r1_1_l b1
          obtain ⟨r2_0_c, r2_0_f, r2_0_l⟩ := r2_0.tell
          obtain ⟨r2_1_c, r2_1_f, r2_1_l⟩ := r2_1.tell
          obtain ⟨r2_2_c, r2_2_f, r2_2_l⟩ := r2_2.tell
          clear hb2 lw2
          go_wp2_with fail
          refine bodyPost_ret (v := .tuple #[U r, .int .i64 0]) (by simp only [results, Try.results7]; go_simp) rfl ⟨rfl, ?_⟩
          exact ((((b2).setCell (by simp only []; omega) _).setCell (by simp only []; omega) _).setCell (by simp only []; omega) _).setCell (by simp only []; omega) _
      · skip
        by_cases h3 : used = tg
        · skip
          rw [if_neg h0, if_neg h1, if_neg h2, if_pos h3, if_neg h0, if_neg h1, if_neg h2, if_pos h3]
          have c0 : decide (limit < used) = false := by simp; omega
          have c1 : decide (used < tg) = false := by simp; omega
          have c2 : (used == tg) = true := by simp; omega
          have c3 : ((used : Int) == (tg : Int)) = true := by simp; omega
          go_wp2_with fail
          refine bodyPost_ret (v := .tuple #[U base, .int .i64 0]) (by simp only [results, Try.results7]; go_simp) rfl ⟨rfl, ?_⟩
          exact ((Bl.refl w).alloc _).alloc _
        · skip
          rw [if_neg h0, if_neg h1, if_neg h2, if_neg h3, if_neg h0, if_neg h1, if_neg h2, if_neg h3]
          have c0 : decide (limit < used) = false := by simp; omega
          have c1 : decide (used < tg) = false := by simp; omega
          have c2 : (used == tg) = false := by simp; omega
          have c3 : ((used : Int) == (tg : Int)) = false := by simp; omega
          unfold nbD
          obtain ⟨of, hof⟩ : ∃ of, of = used - tg := ⟨_, rfl⟩
          have e1 : (used : Int) - tg = (of : Int) := by omega
          have htt := HTG.out
          have hle := stepN_le (off := of) hb (show 0 < tg by omega) (by omega)
          have hmde := (stepN_eq (off := of) hb (show 0 < tg by omega) (by omega)).2
          clear htt
          have s1 := fun w => step_c base of tg hb (by omega) (by omega) w
          rw [show mdV base of (8 * tg) = stepN base of tg from rfl] at s1
          rw [← hof]
          obtain ⟨d, hd⟩ : ∃ d, d = stepN base of tg := ⟨_, rfl⟩
          rw [← hd] at s1 hle ⊢
          have e2 : IntKind.u64.wrap (of : Int) = (of : Int) := by unfold IntKind.wrap; simp [IntKind.bits, IntKind.signed]; omega
          have hdT : d < T256 := by omega
          have f1 := fun w => from_c 1 (by omega) w
          have hq := fun w => run_eq_U hdT T256_pos w
          rw [← U_zero] at hq
          clear hof hd
          by_cases h4 : d = 0
          · skip
            have g4 : decide (d = 0) = true := by simpa using h4
            rw [if_pos h4]
            simp only [g4] at hq
            obtain ⟨cy, hcy⟩ : ∃ c, c = (base + 1) / T256 := ⟨_, rfl⟩
            have s2 := fun w => add_c base 1 hb (by rw [T256_eq]; omega) w
            rw [← hcy] at s2
            clear h4 g4
            by_cases h5 : base + 1 < T256
            · skip
              rw [if_pos h5, if_pos h5]
              rw [Nat.mod_eq_of_lt h5] at s2
              obtain rfl : cy = 0 := by rw [hcy]; exact Nat.div_eq_of_lt h5
              obtain ⟨r, hr⟩ : ∃ r, r = base + 1 := ⟨_, rfl⟩
              rw [← hr] at s2 ⊢
              clear hr hcy h5 hle
              go_wp2_with fail
              refine (s1 _).mono ?_
              rintro e w3 ⟨rfl, hb3⟩
              have r3_0 : Box w3 w.heap.size #[.int .u64 (L base 0), .int .u64 (L base 1), .int .u64 (L base 2), .int .u64 (L base 3)] 24 := ((Box.new _ _ _ _ (by simp)).alloc _).call hb3
              have r3_1 : Box w3 (w.heap.size + 1) #[.int .u64 0, .int .u64 0, .int .u64 0, .int .u64 0] 24 := (Box.new _ _ _ _ (by simp)).call hb3
              have b3 : Bl w w3 := Bl.trans (((Bl.refl w).alloc _).alloc _) hb3
              have z3 : w.heap.size + 1 + 1 ≤ w3.heap.size := (by have := hb3.size; (try simp only [World.alloc, World.setCell, World.drew, Array.size_push, Array.size_modify] at this); omega)
              have y3 : w.heap.size ≤ w3.heap.size := b3.size
              obtain ⟨B1, hB1⟩ : ∃ B, B = w.heap.size + 1 := ⟨_, rfl⟩
              (try rw [← hB1]); rw [← hB1] at r3_1
              obtain ⟨B0, hB0⟩ : ∃ B, B = w.heap.size := ⟨_, rfl⟩
              (try rw [← hB0]); rw [← hB0] at r3_0
              have lo0 : w.heap.size ≤ B0 := by omega
              have lo1 : w.heap.size ≤ B1 := by omega
              have n0_1 : (B0 = B1) = False := (by simp only [eq_iff_iff, iff_false]; omega)
              have n1_0 : (B1 = B0) = False := (by simp only [eq_iff_iff, iff_false]; omega)
              clear hB0
              clear hB1
              obtain ⟨r3_0_c, r3_0_f, r3_0_l⟩ := r3_0.tell
              obtain ⟨r3_1_c, r3_1_f, r3_1_l⟩ := r3_1.tell
              have d3_0 : (B0 = w3.heap.size) = False := (by simp only [eq_iff_iff, iff_false]; omega)
              have e3_0 : (w3.heap.size = B0) = False := (by simp only [eq_iff_iff, iff_false]; omega)
              have m3_0 : B0 < w3.heap.size := (by omega)
              have d3_1 : (B0 = w3.heap.size + 1) = False := (by simp only [eq_iff_iff, iff_false]; omega)
              have e3_1 : (w3.heap.size + 1 = B0) = False := (by simp only [eq_iff_iff, iff_false]; omega)
              have m3_1 : B0 < w3.heap.size + 1 := (by omega)
              have d3_2 : (B1 = w3.heap.size) = False := (by simp only [eq_iff_iff, iff_false]; omega)
              have e3_2 : (w3.heap.size = B1) = False := (by simp only [eq_iff_iff, iff_false]; omega)
              have m3_2 : B1 < w3.heap.size := (by omega)
              have d3_3 : (B1 = w3.heap.size + 1) = False := (by simp only [eq_iff_iff, iff_false]; omega)
              have e3_3 : (w3.heap.size + 1 = B1) = False := (by simp only [eq_iff_iff, iff_false]; omega)
              have m3_3 : B1 < w3.heap.size + 1 := (by omega)
              clear hb3
              go_wp2_with fail
              refine (f1 _).mono ?_
              rintro e w4 ⟨rfl, hb4⟩
              have r4_0 : Box w4 B0 #[.int .u64 (L base 0), .int .u64 (L base 1), .int .u64 (L base 2), .int .u64 (L base 3)] 24 := ((r3_0).alloc _).call hb4
              have r4_1 : Box w4 B1 #[.int .u64 0, .int .u64 0, .int .u64 0, .int .u64 0] 24 := ((r3_1).alloc _).call hb4
              have r4_3 : Box w4 w3.heap.size #[.int .u64 (L d 0), .int .u64 (L d 1), .int .u64 (L d 2), .int .u64 (L d 3)] 24 := (Box.new _ _ _ _ (by simp)).call hb4
              have b4 : Bl w w4 := Bl.trans ((b3).alloc _) hb4
              have z4 : w3.heap.size + 1 ≤ w4.heap.size := (by have := hb4.size; (try simp only [World.alloc, World.setCell, World.drew, Array.size_push, Array.size_modify] at this); omega)
              have y4 : w.heap.size ≤ w4.heap.size := b4.size
              obtain ⟨B3, hB3⟩ : ∃ B, B = w3.heap.size := ⟨_, rfl⟩
              (try rw [← hB3]); rw [← hB3] at r4_3
              have lo3 : w.heap.size ≤ B3 := by omega
              have n3_0 : (B3 = B0) = False := (by simp only [eq_iff_iff, iff_false]; have := r3_0_l; omega)
              have n0_3 : (B0 = B3) = False := (by simp only [eq_iff_iff, iff_false]; have := r3_0_l; omega)
              have n3_1 : (B3 = B1) = False := (by simp only [eq_iff_iff, iff_false]; have := r3_1_l; omega)
              have n1_3 : (B1 = B3) = False := (by simp only [eq_iff_iff, iff_false]; have := r3_1_l; omega)
              clear hB3
              clear r3_0 r3_0_c r3_0_f r3_0_l r3_1 r3_1_c r3_1_f r3_1_l b3
              obtain ⟨r4_0_c, r4_0_f, r4_0_l⟩ := r4_0.tell
              obtain ⟨r4_1_c, r4_1_f, r4_1_l⟩ := r4_1.tell
              obtain ⟨r4_3_c, r4_3_f, r4_3_l⟩ := r4_3.tell
              clear hb4
              go_wp2_with fail
              refine (s2 _).mono ?_
              rintro e w5 ⟨rfl, hb5⟩
              have r5_1 : Box w5 B1 #[.int .u64 0, .int .u64 0, .int .u64 0, .int .u64 0] 24 := (((((r4_1).far _ _ (by simp only []; first | omega | exact of_eq_false (by assumption))).far _ _ (by simp only []; first | omega | exact of_eq_false (by assumption))).far _ _ (by simp only []; first | omega | exact of_eq_false (by assumption))).far _ _ (by simp only []; first | omega | exact of_eq_false (by assumption))).call hb5
              have b5 : Bl w w5 := Bl.trans (((((b4).setCell (by simp only []; omega) _).setCell (by simp only []; omega) _).setCell (by simp only []; omega) _).setCell (by simp only []; omega) _) hb5
              have z5 : w4.heap.size ≤ w5.heap.size := (by have := hb5.size; (try simp only [World.alloc, World.setCell, World.drew, Array.size_push, Array.size_modify] at this); omega)
              have y5 : w.heap.size ≤ w5.heap.size := b5.size
              clear r4_0 r4_0_c r4_0_f r4_0_l r4_1 r4_1_c r4_1_f r4_1_l r4_3 r4_3_c r4_3_f r4_3_l b4
              obtain ⟨r5_1_c, r5_1_f, r5_1_l⟩ := r5_1.tell
              have d5_0 : (B1 = w5.heap.size) = False := (by simp only [eq_iff_iff, iff_false]; omega)
              have e5_0 : (w5.heap.size = B1) = False := (by simp only [eq_iff_iff, iff_false]; omega)
              have m5_0 : B1 < w5.heap.size := (by omega)
              have d5_1 : (B1 = w5.heap.size + 1) = False := (by simp only [eq_iff_iff, iff_false]; omega)
              have e5_1 : (w5.heap.size + 1 = B1) = False := (by simp only [eq_iff_iff, iff_false]; omega)
              have m5_1 : B1 < w5.heap.size + 1 := (by omega)
              clear hb5
              go_wp2_with fail
              refine bodyPost_ret (v := .tuple #[U r, .int .i64 0]) (by simp only [results, Try.results7]; go_simp) rfl ⟨rfl, ?_⟩
              exact (((((b5).setCell (by simp only []; omega) _).setCell (by simp only []; omega) _).setCell (by simp only []; omega) _).setCell (by simp only []; omega) _).alloc _
            · skip
              rw [if_neg h5, if_neg h5]
              obtain rfl : cy = 1 := by rw [hcy]; rw [T256_eq] at *; omega
              generalize (base + 1) % T256 = r at *
              clear hcy h5 hle
              go_wp2_with fail
              refine (s1 _).mono ?_
              rintro e w6 ⟨rfl, hb6⟩
              have r6_0 : Box w6 w.heap.size #[.int .u64 (L base 0), .int .u64 (L base 1), .int .u64 (L base 2), .int .u64 (L base 3)] 24 := ((Box.new _ _ _ _ (by simp)).alloc _).call hb6
              have r6_1 : Box w6 (w.heap.size + 1) #[.int .u64 0, .int .u64 0, .int .u64 0, .int .u64 0] 24 := (Box.new _ _ _ _ (by simp)).call hb6
              have b6 : Bl w w6 := Bl.trans (((Bl.refl w).alloc _).alloc _) hb6
              have z6 : w.heap.size + 1 + 1 ≤ w6.heap.size := (by have := hb6.size; (try simp only [World.alloc, World.setCell, World.drew, Array.size_push, Array.size_modify] at this); omega)
              have y6 : w.heap.size ≤ w6.heap.size := b6.size
              obtain ⟨B1, hB1⟩ : ∃ B, B = w.heap.size + 1 := ⟨_, rfl⟩
              (try rw [← hB1]); rw [← hB1] at r6_1
              obtain ⟨B0, hB0⟩ : ∃ B, B = w.heap.size := ⟨_, rfl⟩
              (try rw [← hB0]); rw [← hB0] at r6_0
              have lo0 : w.heap.size ≤ B0 := by omega
              have lo1 : w.heap.size ≤ B1 := by omega
              have n0_1 : (B0 = B1) = False := (by simp only [eq_iff_iff, iff_false]; omega)
              have n1_0 : (B1 = B0) = False := (by simp only [eq_iff_iff, iff_false]; omega)
              clear hB0
              clear hB1
              obtain ⟨r6_0_c, r6_0_f, r6_0_l⟩ := r6_0.tell
              obtain ⟨r6_1_c, r6_1_f, r6_1_l⟩ := r6_1.tell
              have d6_0 : (B0 = w6.heap.size) = False := (by simp only [eq_iff_iff, iff_false]; omega)
              have e6_0 : (w6.heap.size = B0) = False := (by simp only [eq_iff_iff, iff_false]; omega)
              have m6_0 : B0 < w6.heap.size := (by omega)
              have d6_1 : (B0 = w6.heap.size + 1) = False := (by simp only [eq_iff_iff, iff_false]; omega)
              have e6_1 : (w6.heap.size + 1 = B0) = False := (by simp only [eq_iff_iff, iff_false]; omega)
              have m6_1 : B0 < w6.heap.size + 1 := (by omega)
              have d6_2 : (B1 = w6.heap.size) = False := (by simp only [eq_iff_iff, iff_false]; omega)
              have e6_2 : (w6.heap.size = B1) = False := (by simp only [eq_iff_iff, iff_false]; omega)
              have m6_2 : B1 < w6.heap.size := (by omega)
              have d6_3 : (B1 = w6.heap.size + 1) = False := (by simp only [eq_iff_iff, iff_false]; omega)
              have e6_3 : (w6.heap.size + 1 = B1) = False := (by simp only [eq_iff_iff, iff_false]; omega)
              have m6_3 : B1 < w6.heap.size + 1 := (by omega)
              clear hb6
              go_wp2_with fail
              refine (f1 _).mono ?_
              rintro e w7 ⟨rfl, hb7⟩
              have r7_0 : Box w7 B0 #[.int .u64 (L base 0), .int .u64 (L base 1), .int .u64 (L base 2), .int .u64 (L base 3)] 24 := ((r6_0).alloc _).call hb7
              have r7_1 : Box w7 B1 #[.int .u64 0, .int .u64 0, .int .u64 0, .int .u64 0] 24 := ((r6_1).alloc _).call hb7
              have r7_5 : Box w7 w6.heap.size #[.int .u64 (L d 0), .int .u64 (L d 1), .int .u64 (L d 2), .int .u64 (L d 3)] 24 := (Box.new _ _ _ _ (by simp)).call hb7
              have b7 : Bl w w7 := Bl.trans ((b6).alloc _) hb7
              have z7 : w6.heap.size + 1 ≤ w7.heap.size := (by have := hb7.size; (try simp only [World.alloc, World.setCell, World.drew, Array.size_push, Array.size_modify] at this); omega)
              have y7 : w.heap.size ≤ w7.heap.size := b7.size
              obtain ⟨B5, hB5⟩ : ∃ B, B = w6.heap.size := ⟨_, rfl⟩
              (try rw [← hB5]); rw [← hB5] at r7_5
              have lo5 : w.heap.size ≤ B5 := by omega
              have n5_0 : (B5 = B0) = False := (by simp only [eq_iff_iff, iff_false]; have := r6_0_l; omega)
              have n0_5 : (B0 = B5) = False := (by simp only [eq_iff_iff, iff_false]; have := r6_0_l; omega)
              have n5_1 : (B5 = B1) = False := (by simp only [eq_iff_iff, iff_false]; have := r6_1_l; omega)
              have n1_5 : (B1 = B5) = False := (by simp only [eq_iff_iff, iff_false]; have := r6_1_l; omega)
              clear hB5
              clear r6_0 r6_0_c r6_0_f r6_0_l r6_1 r6_1_c r6_1_f r6_1_l b6
              obtain ⟨r7_0_c, r7_0_f, r7_0_l⟩ := r7_0.tell
              obtain ⟨r7_1_c, r7_1_f, r7_1_l⟩ := r7_1.tell
              obtain ⟨r7_5_c, r7_5_f, r7_5_l⟩ := r7_5.tell
              clear hb7
              go_wp2_with fail
              refine (s2 _).mono ?_
              rintro e w8 ⟨rfl, hb8⟩
              have r8_1 : Box w8 B1 #[.int .u64 0, .int .u64 0, .int .u64 0, .int .u64 0] 24 := (((((r7_1).far _ _ (by simp only []; first | omega | exact of_eq_false (by assumption))).far _ _ (by simp only []; first | omega | exact of_eq_false (by assumption))).far _ _ (by simp only []; first | omega | exact of_eq_false (by assumption))).far _ _ (by simp only []; first | omega | exact of_eq_false (by assumption))).call hb8
              have b8 : Bl w w8 := Bl.trans (((((b7).setCell (by simp only []; omega) _).setCell (by simp only []; omega) _).setCell (by simp only []; omega) _).setCell (by simp only []; omega) _) hb8
              have z8 : w7.heap.size ≤ w8.heap.size := (by have := hb8.size; (try simp only [World.alloc, World.setCell, World.drew, Array.size_push, Array.size_modify] at this); omega)
              have y8 : w.heap.size ≤ w8.heap.size := b8.size
              clear r7_0 r7_0_c r7_0_f r7_0_l r7_1 r7_1_c r7_1_f r7_1_l r7_5 r7_5_c r7_5_f r7_5_l b7
              obtain ⟨r8_1_c, r8_1_f, r8_1_l⟩ := r8_1.tell
              have d8_0 : (B1 = w8.heap.size) = False := (by simp only [eq_iff_iff, iff_false]; omega)
              have e8_0 : (w8.heap.size = B1) = False := (by simp only [eq_iff_iff, iff_false]; omega)
              have m8_0 : B1 < w8.heap.size := (by omega)
              have d8_1 : (B1 = w8.heap.size + 1) = False := (by simp only [eq_iff_iff, iff_false]; omega)
              have e8_1 : (w8.heap.size + 1 = B1) = False := (by simp only [eq_iff_iff, iff_false]; omega)
              have m8_1 : B1 < w8.heap.size + 1 := (by omega)
              clear hb8
              go_wp2_with fail
              refine bodyPost_ret (v := .tuple #[.agg #[.int .u64 0, .int .u64 0, .int .u64 0, .int .u64 0], .int .i64 183]) (by simp only [results, Try.results7]; go_simp) rfl ⟨rfl, ?_⟩
              exact (((((b8).setCell (by simp only []; omega) _).setCell (by simp only []; omega) _).setCell (by simp only []; omega) _).setCell (by simp only []; omega) _).alloc _
          · skip
            have g4 : decide (d = 0) = false := by simpa using h4
            rw [if_neg h4]
            simp only [g4] at hq
            obtain ⟨cy, hcy⟩ : ∃ c, c = (base + d) / T256 := ⟨_, rfl⟩
            have s2 := fun w => add_c base d hb hdT w
            rw [← hcy] at s2
            clear h4 g4
            by_cases h5 : base + d < T256
            · skip
              rw [if_pos h5, if_pos h5]
              rw [Nat.mod_eq_of_lt h5] at s2
              obtain rfl : cy = 0 := by rw [hcy]; exact Nat.div_eq_of_lt h5
              obtain ⟨r, hr⟩ : ∃ r, r = base + d := ⟨_, rfl⟩
              rw [← hr] at s2 ⊢
              clear hr hcy h5 hle
              go_wp2_with fail
              refine (s1 _).mono ?_
              rintro e w9 ⟨rfl, hb9⟩
              have r9_0 : Box w9 w.heap.size #[.int .u64 (L base 0), .int .u64 (L base 1), .int .u64 (L base 2), .int .u64 (L base 3)] 24 := ((Box.new _ _ _ _ (by simp)).alloc _).call hb9
              have r9_1 : Box w9 (w.heap.size + 1) #[.int .u64 0, .int .u64 0, .int .u64 0, .int .u64 0] 24 := (Box.new _ _ _ _ (by simp)).call hb9
              have b9 : Bl w w9 := Bl.trans (((Bl.refl w).alloc _).alloc _) hb9
              have z9 : w.heap.size + 1 + 1 ≤ w9.heap.size := (by have := hb9.size; (try simp only [World.alloc, World.setCell, World.drew, Array.size_push, Array.size_modify] at this); omega)
              have y9 : w.heap.size ≤ w9.heap.size := b9.size
              obtain ⟨B1, hB1⟩ : ∃ B, B = w.heap.size + 1 := ⟨_, rfl⟩
              (try rw [← hB1]); rw [← hB1] at r9_1
              obtain ⟨B0, hB0⟩ : ∃ B, B = w.heap.size := ⟨_, rfl⟩
              (try rw [← hB0]); rw [← hB0] at r9_0
              have lo0 : w.heap.size ≤ B0 := by omega
              have lo1 : w.heap.size ≤ B1 := by omega
              have n0_1 : (B0 = B1) = False := (by simp only [eq_iff_iff, iff_false]; omega)
              have n1_0 : (B1 = B0) = False := (by simp only [eq_iff_iff, iff_false]; omega)
              clear hB0
              clear hB1
              obtain ⟨r9_0_c, r9_0_f, r9_0_l⟩ := r9_0.tell
              obtain ⟨r9_1_c, r9_1_f, r9_1_l⟩ := r9_1.tell
              have d9_0 : (B0 = w9.heap.size) = False := (by simp only [eq_iff_iff, iff_false]; omega)
              have e9_0 : (w9.heap.size = B0) = False := (by simp only [eq_iff_iff, iff_false]; omega)
              have m9_0 : B0 < w9.heap.size := (by omega)
              have d9_1 : (B0 = w9.heap.size + 1) = False := (by simp only [eq_iff_iff, iff_false]; omega)
              have e9_1 : (w9.heap.size + 1 = B0) = False := (by simp only [eq_iff_iff, iff_false]; omega)
              have m9_1 : B0 < w9.heap.size + 1 := (by omega)
              have d9_2 : (B1 = w9.heap.size) = False := (by simp only [eq_iff_iff, iff_false]; omega)
              have e9_2 : (w9.heap.size = B1) = False := (by simp only [eq_iff_iff, iff_false]; omega)
              have m9_2 : B1 < w9.heap.size := (by omega)
              have d9_3 : (B1 = w9.heap.size + 1) = False := (by simp only [eq_iff_iff, iff_false]; omega)
              have e9_3 : (w9.heap.size + 1 = B1) = False := (by simp only [eq_iff_iff, iff_false]; omega)
              have m9_3 : B1 < w9.heap.size + 1 := (by omega)
              clear hb9
              go_wp2_with fail
              refine (s2 _).mono ?_
              rintro e w10 ⟨rfl, hb10⟩
              have r10_1 : Box w10 B1 #[.int .u64 0, .int .u64 0, .int .u64 0, .int .u64 0] 24 := ((r9_1).alloc _).call hb10
              have b10 : Bl w w10 := Bl.trans ((b9).alloc _) hb10
              have z10 : w9.heap.size + 1 ≤ w10.heap.size := (by have := hb10.size; (try simp only [World.alloc, World.setCell, World.drew, Array.size_push, Array.size_modify] at this); omega)
              have y10 : w.heap.size ≤ w10.heap.size := b10.size
              clear r9_0 r9_0_c r9_0_f r9_0_l r9_1 r9_1_c r9_1_f r9_1_l b9
              obtain ⟨r10_1_c, r10_1_f, r10_1_l⟩ := r10_1.tell
              have d10_0 : (B1 = w10.heap.size) = False := (by simp only [eq_iff_iff, iff_false]; omega)
              have e10_0 : (w10.heap.size = B1) = False := (by simp only [eq_iff_iff, iff_false]; omega)
              have m10_0 : B1 < w10.heap.size := (by omega)
              have d10_1 : (B1 = w10.heap.size + 1) = False := (by simp only [eq_iff_iff, iff_false]; omega)
              have e10_1 : (w10.heap.size + 1 = B1) = False := (by simp only [eq_iff_iff, iff_false]; omega)
              have m10_1 : B1 < w10.heap.size + 1 := (by omega)
              clear hb10
              go_wp2_with fail
              refine bodyPost_ret (v := .tuple #[U r, .int .i64 0]) (by simp only [results, Try.results7]; go_simp) rfl ⟨rfl, ?_⟩
              exact (((((b10).setCell (by simp only []; omega) _).setCell (by simp only []; omega) _).setCell (by simp only []; omega) _).setCell (by simp only []; omega) _).alloc _
            · skip
              rw [if_neg h5, if_neg h5]
              obtain rfl : cy = 1 := by rw [hcy]; rw [T256_eq] at *; omega
              generalize (base + d) % T256 = r at *
              clear hcy h5 hle
              go_wp2_with fail
              refine (s1 _).mono ?_
              rintro e w11 ⟨rfl, hb11⟩
              have r11_0 : Box w11 w.heap.size #[.int .u64 (L base 0), .int .u64 (L base 1), .int .u64 (L base 2), .int .u64 (L base 3)] 24 := ((Box.new _ _ _ _ (by simp)).alloc _).call hb11
              have r11_1 : Box w11 (w.heap.size + 1) #[.int .u64 0, .int .u64 0, .int .u64 0, .int .u64 0] 24 := (Box.new _ _ _ _ (by simp)).call hb11
              have b11 : Bl w w11 := Bl.trans (((Bl.refl w).alloc _).alloc _) hb11
              have z11 : w.heap.size + 1 + 1 ≤ w11.heap.size := (by have := hb11.size; (try simp only [World.alloc, World.setCell, World.drew, Array.size_push, Array.size_modify] at this); omega)
              have y11 : w.heap.size ≤ w11.heap.size := b11.size
              obtain ⟨B1, hB1⟩ : ∃ B, B = w.heap.size + 1 := ⟨_, rfl⟩
              (try rw [← hB1]); rw [← hB1] at r11_1
              obtain ⟨B0, hB0⟩ : ∃ B, B = w.heap.size := ⟨_, rfl⟩
              (try rw [← hB0]); rw [← hB0] at r11_0
              have lo0 : w.heap.size ≤ B0 := by omega
              have lo1 : w.heap.size ≤ B1 := by omega
              have n0_1 : (B0 = B1) = False := (by simp only [eq_iff_iff, iff_false]; omega)
              have n1_0 : (B1 = B0) = False := (by simp only [eq_iff_iff, iff_false]; omega)
              clear hB0
              clear hB1
              obtain ⟨r11_0_c, r11_0_f, r11_0_l⟩ := r11_0.tell
              obtain ⟨r11_1_c, r11_1_f, r11_1_l⟩ := r11_1.tell
              have d11_0 : (B0 = w11.heap.size) = False := (by simp only [eq_iff_iff, iff_false]; omega)
              have e11_0 : (w11.heap.size = B0) = False := (by simp only [eq_iff_iff, iff_false]; omega)
              have m11_0 : B0 < w11.heap.size := (by omega)
              have d11_1 : (B0 = w11.heap.size + 1) = False := (by simp only [eq_iff_iff, iff_false]; omega)
              have e11_1 : (w11.heap.size + 1 = B0) = False := (by simp only [eq_iff_iff, iff_false]; omega)
              have m11_1 : B0 < w11.heap.size + 1 := (by omega)
              have d11_2 : (B1 = w11.heap.size) = False := (by simp only [eq_iff_iff, iff_false]; omega)
              have e11_2 : (w11.heap.size = B1) = False := (by simp only [eq_iff_iff, iff_false]; omega)
              have m11_2 : B1 < w11.heap.size := (by omega)
              have d11_3 : (B1 = w11.heap.size + 1) = False := (by simp only [eq_iff_iff, iff_false]; omega)
              have e11_3 : (w11.heap.size + 1 = B1) = False := (by simp only [eq_iff_iff, iff_false]; omega)
              have m11_3 : B1 < w11.heap.size + 1 := (by omega)
              clear hb11
              go_wp2_with fail
              refine (s2 _).mono ?_
              rintro e w12 ⟨rfl, hb12⟩
              have r12_1 : Box w12 B1 #[.int .u64 0, .int .u64 0, .int .u64 0, .int .u64 0] 24 := ((r11_1).alloc _).call hb12
              have b12 : Bl w w12 := Bl.trans ((b11).alloc _) hb12
              have z12 : w11.heap.size + 1 ≤ w12.heap.size := (by have := hb12.size; (try simp only [World.alloc, World.setCell, World.drew, Array.size_push, Array.size_modify] at this); omega)
              have y12 : w.heap.size ≤ w12.heap.size := b12.size
              clear r11_0 r11_0_c r11_0_f r11_0_l r11_1 r11_1_c r11_1_f r11_1_l b11
              obtain ⟨r12_1_c, r12_1_f, r12_1_l⟩ := r12_1.tell
              have d12_0 : (B1 = w12.heap.size) = False := (by simp only [eq_iff_iff, iff_false]; omega)
              have e12_0 : (w12.heap.size = B1) = False := (by simp only [eq_iff_iff, iff_false]; omega)
              have m12_0 : B1 < w12.heap.size := (by omega)
              have d12_1 : (B1 = w12.heap.size + 1) = False := (by simp only [eq_iff_iff, iff_false]; omega)
              have e12_1 : (w12.heap.size + 1 = B1) = False := (by simp only [eq_iff_iff, iff_false]; omega)
              have m12_1 : B1 < w12.heap.size + 1 := (by omega)
              clear hb12
              go_wp2_with fail
              refine bodyPost_ret (v := .tuple #[.agg #[.int .u64 0, .int .u64 0, .int .u64 0, .int .u64 0], .int .i64 183]) (by simp only [results, Try.results7]; go_simp) rfl ⟨rfl, ?_⟩
              exact (((((b12).setCell (by simp only []; omega) _).setCell (by simp only []; omega) _).setCell (by simp only []; omega) _).setCell (by simp only []; omega) _).alloc _

end Go.Proofs.Ytcmjdmehooenkaa

