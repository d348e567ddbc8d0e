/- The document's BlobBase. -/
import Derived.Test.YtcmjdmehooenkaaStep
import Derived.Test.YtcmjdmehooenkaaBlobN
import Derived.Deep.LoopGhost
set_option linter.unusedSimpArgs false
set_option linter.unusedVariables false
namespace Go.Proofs.Ytcmjdmehooenkaa
open Go Go.RowKit

set_option maxHeartbeats 40000000 in
set_option maxRecDepth 100000 in
theorem rblobbase_c (x f : Nat) (hx : x < 18446744073709551616) (hf : f < 18446744073709551616) (w : World) :
    Calls Try.prog 17 #[.int .u64 x, .int .u64 f] w fun e w' => e = .returned (.tuple #[U (bbV x f), .int .i64 (bbE x f)]) ∧ Bl w w' := by
  go_enter Try.func17, Try.ntmps17
  have hg := guardU
  have hTx : x < T256 := by rw [T256_eq]; omega
  have hTf : f < T256 := by rw [T256_eq]; omega
  obtain ⟨V, hV⟩ : ∃ V, V = bbV x f := ⟨_, rfl⟩
  obtain ⟨E, hE⟩ : ∃ E, E = bbE x f := ⟨_, rfl⟩
  rw [← hV, ← hE]
  by_cases h0 : f = 0
  · skip
    have V1 : Hid (V = 0) := by rw [hV]; exact if_pos h0
    have E1 : Hid (E = 1) := by rw [hE]; exact if_pos h0
    have c0 : ((f : Int) == 0) = true := by simp; omega
    have c1 : (f == 0) = true := by simp; omega
    clear hV hE
    go_wp2_with fail
    refine bodyPost_ret (v := .tuple #[.agg #[.int .u64 0, .int .u64 0, .int .u64 0, .int .u64 0], .int .i64 1]) (by simp only [results, Try.results17]; go_simp) rfl ⟨by rw [V1.out, E1.out] <;> rfl, ?_⟩
    exact (Bl.refl w).alloc _
  · skip
    obtain ⟨R, hR⟩ := bb_some x f (by omega) hTf
    obtain ⟨hv, he⟩ := bbV_of h0 hR
    have HV : Hid (V = R.getD 0) := hV.trans hv
    have HE : Hid (E = if R.isSome then 0 else 183) := hE.trans he
    have HB := Lib.hid hR
    have c0 : ((f : Int) == 0) = false := by simp; omega
    have c1 : (f == 0) = false := by simp; omega
    have f1 := fun w => rfrom_c f hf w
    have f2 := fun w => rfrom_c x hx w
    have hf0 : 0 < f := by omega
    clear hV hE hR hv he h0
    go_wp2_with fail
    refine (f1 _).mono ?_
    rintro e w1 ⟨rfl, hb1⟩
    have r1_0 : Box w1 w.heap.size #[.int .u64 0, .int .u64 0, .int .u64 0, .int .u64 0] 24 := (Box.new _ _ _ _ (by simp)).call hb1
    have b1 : Bl w w1 := Bl.trans ((Bl.refl w).alloc _) hb1
    have z1 : w.heap.size + 1 ≤ w1.heap.size := (by have := hb1.size; (try simp only [World.alloc, World.setCell, World.drew, Array.size_push, Array.size_modify] at this); omega)
    have y1 : w.heap.size ≤ w1.heap.size := b1.size
    obtain ⟨B0, hB0⟩ : ∃ B, B = w.heap.size := ⟨_, rfl⟩
    (try rw [← hB0]); rw [← hB0] at r1_0
    have lo0 : w.heap.size ≤ B0 := by omega
    clear hB0
    obtain ⟨r1_0_c, r1_0_f, r1_0_l⟩ := r1_0.tell
    have d1_0 : (B0 = w1.heap.size) = False := (by simp only [eq_iff_iff, iff_false]; omega)
    have e1_0 : (w1.heap.size = B0) = False := (by simp only [eq_iff_iff, iff_false]; omega)
    have m1_0 : B0 < w1.heap.size := (by omega)
    have d1_1 : (B0 = w1.heap.size + 1) = False := (by simp only [eq_iff_iff, iff_false]; omega)
    have e1_1 : (w1.heap.size + 1 = B0) = False := (by simp only [eq_iff_iff, iff_false]; omega)
    have m1_1 : B0 < w1.heap.size + 1 := (by omega)
    have d1_2 : (B0 = w1.heap.size + 1 + 1) = False := (by simp only [eq_iff_iff, iff_false]; omega)
    have e1_2 : (w1.heap.size + 1 + 1 = B0) = False := (by simp only [eq_iff_iff, iff_false]; omega)
    have m1_2 : B0 < w1.heap.size + 1 + 1 := (by omega)
    clear hb1
    go_wp2_with fail
    obtain ⟨w2, hw2⟩ : ∃ V : World, V = ((w1.alloc (.cells #[.int .u64 (L f 0), .int .u64 (L f 1), .int .u64 (L f 2), .int .u64 (L f 3)] 24)).alloc (.cells #[.int .u64 0, .int .u64 0, .int .u64 0, .int .u64 0] 24)) := ⟨_, rfl⟩
    rw [← hw2]
    have r2_0 : Box w2 B0 #[.int .u64 0, .int .u64 0, .int .u64 0, .int .u64 0] 24 := by rw [hw2]; exact ((r1_0).alloc _).alloc _
    have r2_1 : Box w2 w1.heap.size #[.int .u64 (L f 0), .int .u64 (L f 1), .int .u64 (L f 2), .int .u64 (L f 3)] 24 := by rw [hw2]; exact (Box.new _ _ _ _ (by simp)).alloc _
    have r2_2 : Box w2 (w1.heap.size + 1) #[.int .u64 0, .int .u64 0, .int .u64 0, .int .u64 0] 24 := by rw [hw2]; exact Box.new _ _ _ _ (by simp)
    have b2 : Bl w w2 := by rw [hw2]; exact ((b1).alloc _).alloc _
    have z2 : w1.heap.size + 1 + 1 ≤ w2.heap.size := (by rw [hw2]; simp only [World.alloc, World.setCell, World.drew, Array.size_push, Array.size_modify]; omega)
    have y2 : w.heap.size ≤ w2.heap.size := b2.size
    obtain ⟨B2, hB2⟩ : ∃ B, B = w1.heap.size + 1 := ⟨_, rfl⟩
    (try rw [← hB2]); rw [← hB2] at r2_2
    obtain ⟨B1, hB1⟩ : ∃ B, B = w1.heap.size := ⟨_, rfl⟩
    (try rw [← hB1]); rw [← hB1] at r2_1
    have lo1 : w.heap.size ≤ B1 := by omega
    have lo2 : w.heap.size ≤ B2 := by omega
    have n1_0 : (B1 = B0) = False := (by simp only [eq_iff_iff, iff_false]; have := r1_0_l; omega)
    have n0_1 : (B0 = B1) = False := (by simp only [eq_iff_iff, iff_false]; have := r1_0_l; omega)
    have n1_2 : (B1 = B2) = False := (by simp only [eq_iff_iff, iff_false]; omega)
    have n2_1 : (B2 = B1) = False := (by simp only [eq_iff_iff, iff_false]; omega)
    have n2_0 : (B2 = B0) = False := (by simp only [eq_iff_iff, iff_false]; have := r1_0_l; omega)
    have n0_2 : (B0 = B2) = False := (by simp only [eq_iff_iff, iff_false]; have := r1_0_l; omega)
    clear hB1
    clear hB2
    clear r1_0 r1_0_c r1_0_f r1_0_l b1
    obtain ⟨r2_0_c, r2_0_f, r2_0_l⟩ := r2_0.tell
    obtain ⟨r2_1_c, r2_1_f, r2_1_l⟩ := r2_1.tell
    obtain ⟨r2_2_c, r2_2_f, r2_2_l⟩ := r2_2.tell
    clear hw2
    go_loopg [8] (1024) (fun gk v8 wr => ∃ (i : Nat) (a : Nat) (all : Nat), i + gk = 1025 ∧ 1 ≤ i ∧ a < T256 ∧ all < T256 ∧ Hid (bbF gk x f i a all = some R) ∧ v8 = .int .u64 i ∧ Bl w wr ∧ Box wr B0 #[.int .u64 0, .int .u64 0, .int .u64 0, .int .u64 0] 24 ∧ Box wr B1 #[.int .u64 (L a 0), .int .u64 (L a 1), .int .u64 (L a 2), .int .u64 (L a 3)] 24 ∧ Box wr B2 #[.int .u64 (L all 0), .int .u64 (L all 1), .int .u64 (L all 2), .int .u64 (L all 3)] 24)
    case atStart =>
      exact ⟨1, f, 0, rfl, (by omega), hTf, T256_pos, HB, (by first | rfl | go_num), b2, r2_0, r2_1, r2_2⟩
    case round =>
      obtain ⟨i, a, all, hk, h1i, ha, hall, hbb, rfl, b3, r3_0, r3_1, r3_2⟩ := hrel
      clear r2_0 r2_0_c r2_0_f r2_0_l r2_1 r2_1_c r2_1_f r2_1_l r2_2 r2_2_c r2_2_f r2_2_l b2
      have y3 : w.heap.size ≤ wr.heap.size := b3.size
      obtain ⟨r3_0_c, r3_0_f, r3_0_l⟩ := r3_0.tell
      obtain ⟨r3_1_c, r3_1_f, r3_1_l⟩ := r3_1.tell
      obtain ⟨r3_2_c, r3_2_f, r3_2_l⟩ := r3_2.tell
      by_cases hz : a = 0
      · skip
        have hr : R = some (all / f) := by have := hbb.out; rw [hz, bb_zero] at this; simpa using this.symm
        have V1 : Hid (V = all / f) := HV.out.trans (by rw [hr]; rfl)
        have E1 : Hid (E = 0) := HE.out.trans (by rw [hr]; rfl)
        have hq := fun w => run_eq_U ha T256_pos w
        rw [← U_zero, decide_eq_true hz] at hq
        have q1 := fun w => rdivmod_c all f hall hTf w
        rw [show eZ f = 0 from if_neg (by omega)] at q1
        generalize dmR all f = rr at *
        obtain ⟨qq, hqq⟩ : ∃ q, q = all / f := ⟨_, rfl⟩
        rw [← hqq] at q1 V1
        clear hr hbb hqq hz
        by_cases h7 : i ≤ 1024
        · skip
          have d1 : decide (i ≤ 1024) = true := by simpa using h7
          have d2 : decide ((i : Int) ≤ 1024) = true := by simp; omega
          go_wp2_with fail
          refine wp_region_told_at (fun l0 D a' w' => ∃ (x63 : Value) (x64 : Value) (x65 : Value) (x66 : Value) (x62 : Value) (x67 : Value) (x68 : Value) (x69 : Value) (x15 : Value) (x16 : Value) (x17 : Value) (C8 : Nat) (C9 : Nat), a' = ⟨((((((((((((l0).set 63 x63).set 64 x64).set 65 x65).set 66 x66).set 62 x62).set 67 x67).set 68 x68).set 69 x69).set 15 x15).set 16 x16).set 17 x17).toArray, []⟩ ∧ Bl wr w' ∧ (D 0 → x63 = U all) ∧ (D 1 → x64 = .int .u64 f) ∧ (D 2 → x65 = U f) ∧ (D 3 → x66 = .tuple #[U qq, U rr, .int .i64 0]) ∧ (D 4 → x62 = .tuple #[U qq, U rr, .int .i64 0]) ∧ (D 5 → x67 = U qq) ∧ (D 6 → x68 = U rr) ∧ (D 7 → x69 = .int .i64 0) ∧ (D 12 → x17 = .int .i64 0) ∧ Blk D 8 10 wr w' x15 C8 #[.int .u64 0, .int .u64 0, .int .u64 0, .int .u64 0] #[.int .u64 (L qq 0), .int .u64 (L qq 1), .int .u64 (L qq 2), .int .u64 (L qq 3)] 24 ∧ Blk D 9 11 wr w' x16 C9 #[.int .u64 0, .int .u64 0, .int .u64 0, .int .u64 0] #[.int .u64 (L rr 0), .int .u64 (L rr 1), .int .u64 (L rr 2), .int .u64 (L rr 3)] 24 ∧ NeB D 8 9 C8 C9) (by kernel_rfl) (by kernel_rfl) ?_ ?_ ?_
          · exact fun l0 => ⟨l0.getD 63 undef, l0.getD 64 undef, l0.getD 65 undef, l0.getD 66 undef, l0.getD 62 undef, l0.getD 67 undef, l0.getD 68 undef, l0.getD 69 undef, l0.getD 15 undef, l0.getD 16 undef, l0.getD 17 undef, 0, 0, (by simp only [set_self]), (Bl.refl wr).drew, fun h => h.elim, fun h => h.elim, fun h => h.elim, fun h => h.elim, fun h => h.elim, fun h => h.elim, fun h => h.elim, fun h => h.elim, fun h => h.elim, Blk.start, Blk.start, NeB.start⟩
          · intro Inv hInv
            refine AllD.cons ?_ (AllD.cons ?_ (AllD.cons ?_ (AllD.cons ?_ (AllD.cons ?_ (AllD.cons ?_ (AllD.cons ?_ (AllD.cons ?_ (AllD.cons ?_ (AllD.cons ?_ (AllD.cons ?_ (AllD.cons ?_ (AllD.cons ?_ (AllD.nil)))))))))))))
            · refine StepD.plain rfl rfl ?_
              intro D a' w' hn hp hI K hK
              obtain ⟨x63, x64, x65, x66, x62, x67, x68, x69, x15, x16, x17, C8, C9, ha, hbl, zf0, zf1, zf2, zf3, zf4, zf5, zf6, zf7, zf12, zg8, zg9, zn0_1⟩ := (hInv.out D a' w').1 hI
              subst ha; clear hI
              (try simp only [List.set_cons_zero, List.set_cons_succ])
              have bz := r3_2.call hbl
              obtain ⟨bc, bf, bl_⟩ := bz.tell
              go_simp
              exact hK.out _ _ ((hInv.out _ _ _).2 ⟨_, _, _, _, _, _, _, _, _, _, _, C8, C9, rfl, hbl, fun _ => (by first | rfl | go_num | (simp; done)), told_next zf1 (by decide), told_next zf2 (by decide), told_next zf3 (by decide), told_next zf4 (by decide), told_next zf5 (by decide), told_next zf6 (by decide), told_next zf7 (by decide), told_next zf12 (by decide), zg8.next (by decide) (by decide) (fun _ _ h => h), zg9.next (by decide) (by decide) (fun _ _ h => h), zn0_1.next (by decide) (by decide)⟩)
            · refine StepD.plain rfl rfl ?_
              intro D a' w' hn hp hI K hK
              obtain ⟨x63, x64, x65, x66, x62, x67, x68, x69, x15, x16, x17, C8, C9, ha, hbl, zf0, zf1, zf2, zf3, zf4, zf5, zf6, zf7, zf12, zg8, zg9, zn0_1⟩ := (hInv.out D a' w').1 hI
              subst ha; clear hI
              (try simp only [List.set_cons_zero, List.set_cons_succ])
              go_simp
              exact hK.out _ _ ((hInv.out _ _ _).2 ⟨_, _, _, _, _, _, _, _, _, _, _, C8, C9, rfl, hbl, told_next zf0 (by decide), fun _ => (by first | rfl | go_num | (simp; done)), told_next zf2 (by decide), told_next zf3 (by decide), told_next zf4 (by decide), told_next zf5 (by decide), told_next zf6 (by decide), told_next zf7 (by decide), told_next zf12 (by decide), zg8.next (by decide) (by decide) (fun _ _ h => h), zg9.next (by decide) (by decide) (fun _ _ h => h), zn0_1.next (by decide) (by decide)⟩)
            · refine StepD.plain rfl rfl ?_
              intro D a' w' hn hp hI K hK
              obtain ⟨x63, x64, x65, x66, x62, x67, x68, x69, x15, x16, x17, C8, C9, ha, hbl, zf0, zf1, zf2, zf3, zf4, zf5, zf6, zf7, zf12, zg8, zg9, zn0_1⟩ := (hInv.out D a' w').1 hI
              subst ha; clear hI
              (try simp only [List.set_cons_zero, List.set_cons_succ])
              obtain ⟨p2_1, _⟩ := hp
              have p2_1 : D 1 := p2_1 rfl
              have e1 := zf1 p2_1; subst e1
              go_simp
              refine (f1 _).mono ?_
              rintro e w2 ⟨rfl, hbc⟩
              go_wp2_with fail
              exact hK.out _ _ ((hInv.out _ _ _).2 ⟨_, _, _, _, _, _, _, _, _, _, _, C8, C9, rfl, hbl.trans hbc, told_next zf0 (by decide), fun _ => rfl, fun _ => (by first | rfl | go_num | (simp; done)), told_next zf3 (by decide), told_next zf4 (by decide), told_next zf5 (by decide), told_next zf6 (by decide), told_next zf7 (by decide), told_next zf12 (by decide), zg8.next (by decide) (by decide) (fun _ _ h => h.call hbc), zg9.next (by decide) (by decide) (fun _ _ h => h.call hbc), zn0_1.next (by decide) (by decide)⟩)
            · refine StepD.plain rfl rfl ?_
              intro D a' w' hn hp hI K hK
              obtain ⟨x63, x64, x65, x66, x62, x67, x68, x69, x15, x16, x17, C8, C9, ha, hbl, zf0, zf1, zf2, zf3, zf4, zf5, zf6, zf7, zf12, zg8, zg9, zn0_1⟩ := (hInv.out D a' w').1 hI
              subst ha; clear hI
              (try simp only [List.set_cons_zero, List.set_cons_succ])
              obtain ⟨p3_0, p3_2, _, _⟩ := hp
              have p3_0 : D 0 := p3_0 rfl
              have p3_2 : D 2 := p3_2 rfl
              have e0 := zf0 p3_0; subst e0
              have e2 := zf2 p3_2; subst e2
              go_simp
              refine (q1 _).mono ?_
              rintro e w2 ⟨rfl, hbc⟩
              go_wp2_with fail
              exact hK.out _ _ ((hInv.out _ _ _).2 ⟨_, _, _, _, _, _, _, _, _, _, _, C8, C9, rfl, hbl.trans hbc, fun _ => rfl, told_next zf1 (by decide), fun _ => rfl, fun _ => (by first | rfl | go_num | (simp; done)), told_next zf4 (by decide), told_next zf5 (by decide), told_next zf6 (by decide), told_next zf7 (by decide), told_next zf12 (by decide), zg8.next (by decide) (by decide) (fun _ _ h => h.call hbc), zg9.next (by decide) (by decide) (fun _ _ h => h.call hbc), zn0_1.next (by decide) (by decide)⟩)
            · refine StepD.plain rfl rfl ?_
              intro D a' w' hn hp hI K hK
              obtain ⟨x63, x64, x65, x66, x62, x67, x68, x69, x15, x16, x17, C8, C9, ha, hbl, zf0, zf1, zf2, zf3, zf4, zf5, zf6, zf7, zf12, zg8, zg9, zn0_1⟩ := (hInv.out D a' w').1 hI
              subst ha; clear hI
              (try simp only [List.set_cons_zero, List.set_cons_succ])
              obtain ⟨p4_3, _⟩ := hp
              have p4_3 : D 3 := p4_3 rfl
              have e3 := zf3 p4_3; subst e3
              go_simp
              exact hK.out _ _ ((hInv.out _ _ _).2 ⟨_, _, _, _, _, _, _, _, _, _, _, C8, C9, rfl, hbl, told_next zf0 (by decide), told_next zf1 (by decide), told_next zf2 (by decide), fun _ => rfl, fun _ => (by first | rfl | go_num | (simp; done)), told_next zf5 (by decide), told_next zf6 (by decide), told_next zf7 (by decide), told_next zf12 (by decide), zg8.next (by decide) (by decide) (fun _ _ h => h), zg9.next (by decide) (by decide) (fun _ _ h => h), zn0_1.next (by decide) (by decide)⟩)
            · refine StepD.plain rfl rfl ?_
              intro D a' w' hn hp hI K hK
              obtain ⟨x63, x64, x65, x66, x62, x67, x68, x69, x15, x16, x17, C8, C9, ha, hbl, zf0, zf1, zf2, zf3, zf4, zf5, zf6, zf7, zf12, zg8, zg9, zn0_1⟩ := (hInv.out D a' w').1 hI
              subst ha; clear hI
              (try simp only [List.set_cons_zero, List.set_cons_succ])
              obtain ⟨p5_4, _⟩ := hp
              have p5_4 : D 4 := p5_4 rfl
              have e4 := zf4 p5_4; subst e4
              go_simp
              exact hK.out _ _ ((hInv.out _ _ _).2 ⟨_, _, _, _, _, _, _, _, _, _, _, C8, C9, rfl, hbl, told_next zf0 (by decide), told_next zf1 (by decide), told_next zf2 (by decide), told_next zf3 (by decide), fun _ => rfl, fun _ => (by first | rfl | go_num | (simp; done)), told_next zf6 (by decide), told_next zf7 (by decide), told_next zf12 (by decide), zg8.next (by decide) (by decide) (fun _ _ h => h), zg9.next (by decide) (by decide) (fun _ _ h => h), zn0_1.next (by decide) (by decide)⟩)
            · refine StepD.plain rfl rfl ?_
              intro D a' w' hn hp hI K hK
              obtain ⟨x63, x64, x65, x66, x62, x67, x68, x69, x15, x16, x17, C8, C9, ha, hbl, zf0, zf1, zf2, zf3, zf4, zf5, zf6, zf7, zf12, zg8, zg9, zn0_1⟩ := (hInv.out D a' w').1 hI
              subst ha; clear hI
              (try simp only [List.set_cons_zero, List.set_cons_succ])
              obtain ⟨p6_4, _, _⟩ := hp
              have p6_4 : D 4 := p6_4 rfl
              have e4 := zf4 p6_4; subst e4
              go_simp
              exact hK.out _ _ ((hInv.out _ _ _).2 ⟨_, _, _, _, _, _, _, _, _, _, _, C8, C9, rfl, hbl, told_next zf0 (by decide), told_next zf1 (by decide), told_next zf2 (by decide), told_next zf3 (by decide), fun _ => rfl, told_next zf5 (by decide), fun _ => (by first | rfl | go_num | (simp; done)), told_next zf7 (by decide), told_next zf12 (by decide), zg8.next (by decide) (by decide) (fun _ _ h => h), zg9.next (by decide) (by decide) (fun _ _ h => h), zn0_1.next (by decide) (by decide)⟩)
            · refine StepD.plain rfl rfl ?_
              intro D a' w' hn hp hI K hK
              obtain ⟨x63, x64, x65, x66, x62, x67, x68, x69, x15, x16, x17, C8, C9, ha, hbl, zf0, zf1, zf2, zf3, zf4, zf5, zf6, zf7, zf12, zg8, zg9, zn0_1⟩ := (hInv.out D a' w').1 hI
              subst ha; clear hI
              (try simp only [List.set_cons_zero, List.set_cons_succ])
              obtain ⟨p7_4, _, _⟩ := hp
              have p7_4 : D 4 := p7_4 rfl
              have e4 := zf4 p7_4; subst e4
              go_simp
              exact hK.out _ _ ((hInv.out _ _ _).2 ⟨_, _, _, _, _, _, _, _, _, _, _, C8, C9, rfl, hbl, told_next zf0 (by decide), told_next zf1 (by decide), told_next zf2 (by decide), told_next zf3 (by decide), fun _ => rfl, told_next zf5 (by decide), told_next zf6 (by decide), fun _ => (by first | rfl | go_num | (simp; done)), told_next zf12 (by decide), zg8.next (by decide) (by decide) (fun _ _ h => h), zg9.next (by decide) (by decide) (fun _ _ h => h), zn0_1.next (by decide) (by decide)⟩)
            · refine StepD.plain rfl rfl ?_
              intro D a' w' hn hp hI K hK
              obtain ⟨x63, x64, x65, x66, x62, x67, x68, x69, x15, x16, x17, C8, C9, ha, hbl, zf0, zf1, zf2, zf3, zf4, zf5, zf6, zf7, zf12, zg8, zg9, zn0_1⟩ := (hInv.out D a' w').1 hI
              subst ha; clear hI
              (try simp only [List.set_cons_zero, List.set_cons_succ])
              go_simp
              exact hK.out _ _ ((hInv.out _ _ _).2 ⟨_, _, _, _, _, _, _, _, _, _, _, _, C9, rfl, hbl.alloc _, told_next zf0 (by decide), told_next zf1 (by decide), told_next zf2 (by decide), told_next zf3 (by decide), told_next zf4 (by decide), told_next zf5 (by decide), told_next zf6 (by decide), told_next zf7 (by decide), told_next zf12 (by decide), zg8.made hn (by decide) hbl.size, zg9.next (by decide) (by decide) (fun _ _ h => h.alloc _), NeB.right zg9 (by decide)⟩)
            · refine StepD.plain rfl rfl ?_
              intro D a' w' hn hp hI K hK
              obtain ⟨x63, x64, x65, x66, x62, x67, x68, x69, x15, x16, x17, C8, C9, ha, hbl, zf0, zf1, zf2, zf3, zf4, zf5, zf6, zf7, zf12, zg8, zg9, zn0_1⟩ := (hInv.out D a' w').1 hI
              subst ha; clear hI
              (try simp only [List.set_cons_zero, List.set_cons_succ])
              go_simp
              exact hK.out _ _ ((hInv.out _ _ _).2 ⟨_, _, _, _, _, _, _, _, _, _, _, C8, _, rfl, hbl.alloc _, told_next zf0 (by decide), told_next zf1 (by decide), told_next zf2 (by decide), told_next zf3 (by decide), told_next zf4 (by decide), told_next zf5 (by decide), told_next zf6 (by decide), told_next zf7 (by decide), told_next zf12 (by decide), zg8.next (by decide) (by decide) (fun _ _ h => h.alloc _), zg9.made hn (by decide) hbl.size, NeB.left zg8 (by decide)⟩)
            · refine StepD.plain rfl rfl ?_
              intro D a' w' hn hp hI K hK
              obtain ⟨x63, x64, x65, x66, x62, x67, x68, x69, x15, x16, x17, C8, C9, ha, hbl, zf0, zf1, zf2, zf3, zf4, zf5, zf6, zf7, zf12, zg8, zg9, zn0_1⟩ := (hInv.out D a' w').1 hI
              subst ha; clear hI
              (try simp only [List.set_cons_zero, List.set_cons_succ])
              obtain ⟨p10_8, p10_5, p10_3, p10_0, p10_1, p10_2, _, p10_4, _, _, _, _, p10_9, _⟩ := hp
              have p10_0 : D 0 := p10_0 rfl
              have p10_1 : D 1 := p10_1 rfl
              have p10_2 : D 2 := p10_2 rfl
              have p10_3 : D 3 := p10_3 rfl
              have p10_4 : D 4 := p10_4 rfl
              have p10_5 : D 5 := p10_5 rfl
              have p10_8 : D 8 := p10_8 rfl
              have p10_9 : D 9 := p10_9 rfl
              obtain ⟨e15, lw15, ha15, hz15⟩ := zg8.2 p10_8
              subst e15
              have bz := hz15 hn
              obtain ⟨bc, bf, bl_⟩ := bz.tell
              clear ha15 hz15
              have e5 := zf5 p10_5; subst e5
              go_simp
              have lwb : wr.heap.size ≤ C8 := lw15
              have far9 : ∀ (h : D 9), C9 ≠ C8 := fun h => (zn0_1 p10_8 h).symm
              exact hK.out _ _ ((hInv.out _ _ _).2 ⟨_, _, _, _, _, _, _, _, _, _, _, C8, C9, rfl, ((((hbl).setCell (by simp only []; omega) _).setCell (by simp only []; omega) _).setCell (by simp only []; omega) _).setCell (by simp only []; omega) _, told_next zf0 (by decide), told_next zf1 (by decide), told_next zf2 (by decide), told_next zf3 (by decide), told_next zf4 (by decide), fun _ => rfl, told_next zf6 (by decide), told_next zf7 (by decide), told_next zf12 (by decide), zg8.filled p10_8 hn (fun h => (((((h).set _ _).set _ _).set _ _).set _ _).cells rfl), zg9.next (by decide) (by decide) (fun hd _ h => ((((h).far _ _ (far9 hd)).far _ _ (far9 hd)).far _ _ (far9 hd)).far _ _ (far9 hd)), zn0_1.next (by decide) (by decide)⟩)
            · refine StepD.plain rfl rfl ?_
              intro D a' w' hn hp hI K hK
              obtain ⟨x63, x64, x65, x66, x62, x67, x68, x69, x15, x16, x17, C8, C9, ha, hbl, zf0, zf1, zf2, zf3, zf4, zf5, zf6, zf7, zf12, zg8, zg9, zn0_1⟩ := (hInv.out D a' w').1 hI
              subst ha; clear hI
              (try simp only [List.set_cons_zero, List.set_cons_succ])
              obtain ⟨p11_9, p11_6, p11_10, p11_0, p11_1, p11_2, p11_3, p11_4, p11_5, _, _, p11_8, _, _, _⟩ := hp
              have p11_0 : D 0 := p11_0 rfl
              have p11_1 : D 1 := p11_1 rfl
              have p11_2 : D 2 := p11_2 rfl
              have p11_3 : D 3 := p11_3 rfl
              have p11_4 : D 4 := p11_4 rfl
              have p11_5 : D 5 := p11_5 rfl
              have p11_6 : D 6 := p11_6 rfl
              have p11_8 : D 8 := p11_8 rfl
              have p11_9 : D 9 := p11_9 rfl
              have p11_10 : D 10 := p11_10 rfl
              obtain ⟨e16, lw16, ha16, hz16⟩ := zg9.2 p11_9
              subst e16
              have bz := hz16 hn
              obtain ⟨bc, bf, bl_⟩ := bz.tell
              clear ha16 hz16
              have e6 := zf6 p11_6; subst e6
              go_simp
              have lwb : wr.heap.size ≤ C9 := lw16
              have far8 : ∀ (h : D 8), C8 ≠ C9 := fun h => zn0_1 h p11_9
              exact hK.out _ _ ((hInv.out _ _ _).2 ⟨_, _, _, _, _, _, _, _, _, _, _, C8, C9, rfl, ((((hbl).setCell (by simp only []; omega) _).setCell (by simp only []; omega) _).setCell (by simp only []; omega) _).setCell (by simp only []; omega) _, told_next zf0 (by decide), told_next zf1 (by decide), told_next zf2 (by decide), told_next zf3 (by decide), told_next zf4 (by decide), told_next zf5 (by decide), fun _ => rfl, told_next zf7 (by decide), told_next zf12 (by decide), zg8.next (by decide) (by decide) (fun hd _ h => ((((h).far _ _ (far8 hd)).far _ _ (far8 hd)).far _ _ (far8 hd)).far _ _ (far8 hd)), zg9.filled p11_9 hn (fun h => (((((h).set _ _).set _ _).set _ _).set _ _).cells rfl), zn0_1.next (by decide) (by decide)⟩)
            · refine StepD.plain rfl rfl ?_
              intro D a' w' hn hp hI K hK
              obtain ⟨x63, x64, x65, x66, x62, x67, x68, x69, x15, x16, x17, C8, C9, ha, hbl, zf0, zf1, zf2, zf3, zf4, zf5, zf6, zf7, zf12, zg8, zg9, zn0_1⟩ := (hInv.out D a' w').1 hI
              subst ha; clear hI
              (try simp only [List.set_cons_zero, List.set_cons_succ])
              obtain ⟨p12_7, p12_11, p12_0, p12_1, p12_2, p12_3, p12_4, p12_5, p12_6, _, p12_8, p12_9, p12_10, _, _⟩ := hp
              have p12_0 : D 0 := p12_0 rfl
              have p12_1 : D 1 := p12_1 rfl
              have p12_2 : D 2 := p12_2 rfl
              have p12_3 : D 3 := p12_3 rfl
              have p12_4 : D 4 := p12_4 rfl
              have p12_5 : D 5 := p12_5 rfl
              have p12_6 : D 6 := p12_6 rfl
              have p12_7 : D 7 := p12_7 rfl
              have p12_8 : D 8 := p12_8 rfl
              have p12_9 : D 9 := p12_9 rfl
              have p12_10 : D 10 := p12_10 rfl
              have p12_11 : D 11 := p12_11 rfl
              have e7 := zf7 p12_7; subst e7
              go_simp
              exact hK.out _ _ ((hInv.out _ _ _).2 ⟨_, _, _, _, _, _, _, _, _, _, _, C8, C9, rfl, hbl, told_next zf0 (by decide), told_next zf1 (by decide), told_next zf2 (by decide), told_next zf3 (by decide), told_next zf4 (by decide), told_next zf5 (by decide), told_next zf6 (by decide), fun _ => rfl, fun _ => (by first | rfl | go_num | (simp; done)), zg8.next (by decide) (by decide) (fun _ _ h => h), zg9.next (by decide) (by decide) (fun _ _ h => h), zn0_1.next (by decide) (by decide)⟩)
          · intro D a' w4 hall hI
            obtain ⟨x63, x64, x65, x66, x62, x67, x68, x69, x15, x16, x17, B3, B4, ha, hb4, zf0, zf1, zf2, zf3, zf4, zf5, zf6, zf7, zf12, zg8, zg9, zn0_1⟩ := hI
            subst ha
            (try simp only [List.set_cons_zero, List.set_cons_succ])
            have e := zf0 (hall 0 (by decide)); subst e
            have e := zf1 (hall 1 (by decide)); subst e
            have e := zf2 (hall 2 (by decide)); subst e
            have e := zf3 (hall 3 (by decide)); subst e
            have e := zf4 (hall 4 (by decide)); subst e
            have e := zf5 (hall 5 (by decide)); subst e
            have e := zf6 (hall 6 (by decide)); subst e
            have e := zf7 (hall 7 (by decide)); subst e
            have e := zf12 (hall 12 (by decide)); subst e
            obtain ⟨e, lw3, ha3, hz3⟩ := zg8.2 (hall 8 (by decide))
            subst e
            have q3 := ha3 (hall 10 (by decide))
            clear ha3 hz3 zg8
            obtain ⟨e, lw4, ha4, hz4⟩ := zg9.2 (hall 9 (by decide))
            subst e
            have q4 := ha4 (hall 11 (by decide))
            clear ha4 hz4 zg9
            have zn0_1 := zn0_1 (hall 8 (by decide)) (hall 9 (by decide))
            clear hall
            (try simp only [Act.put, List.setIfInBounds_toArray, List.set_cons_zero, List.set_cons_succ])
            have lo3 : w.heap.size ≤ B3 := (by have := y3; omega)
            have lo4 : w.heap.size ≤ B4 := (by have := y3; omega)
            have n3_0 : (B3 = B0) = False := (by simp only [eq_iff_iff, iff_false]; have := r3_0_l; omega)
            have n0_3 : (B0 = B3) = False := (by simp only [eq_iff_iff, iff_false]; have := r3_0_l; omega)
            have r4_0 : Box w4 B0 #[.int .u64 0, .int .u64 0, .int .u64 0, .int .u64 0] 24 := r3_0.call hb4
            have r4_3 : Box w4 B3 #[.int .u64 (L qq 0), .int .u64 (L qq 1), .int .u64 (L qq 2), .int .u64 (L qq 3)] 24 := q3
            have b4 : Bl w w4 := Bl.trans b3 hb4
            have z4 : wr.heap.size ≤ w4.heap.size := (by have := hb4.size; omega)
            have y4 : w.heap.size ≤ w4.heap.size := b4.size
            clear r3_0 r3_0_c r3_0_f r3_0_l r3_1 r3_1_c r3_1_f r3_1_l r3_2 r3_2_c r3_2_f r3_2_l b3
            obtain ⟨r4_0_c, r4_0_f, r4_0_l⟩ := r4_0.tell
            obtain ⟨r4_3_c, r4_3_f, r4_3_l⟩ := r4_3.tell
            clear hb4 lw3 lw4
            go_wp2_with fail
            refine bodyPost_ret (v := .tuple #[U qq, .int .i64 0]) (by simp only [results, Try.results17]; go_simp) rfl ⟨by rw [V1.out, E1.out] <;> rfl, ?_⟩
            exact ((((b4).setCell (by simp only []; omega) _).setCell (by simp only []; omega) _).setCell (by simp only []; omega) _).setCell (by simp only []; omega) _
        · skip
          have d1 : decide (i ≤ 1024) = false := by simpa using h7
          have d2 : decide ((i : Int) ≤ 1024) = false := by simp; omega
          go_wp2_with fail
          refine wp_region_told_at (fun l0 D a' w' => ∃ (x63 : Value) (x64 : Value) (x65 : Value) (x66 : Value) (x62 : Value) (x67 : Value) (x68 : Value) (x69 : Value) (x15 : Value) (x16 : Value) (x17 : Value) (C8 : Nat) (C9 : Nat), a' = ⟨((((((((((((l0).set 63 x63).set 64 x64).set 65 x65).set 66 x66).set 62 x62).set 67 x67).set 68 x68).set 69 x69).set 15 x15).set 16 x16).set 17 x17).toArray, []⟩ ∧ Bl wr w' ∧ (D 0 → x63 = U all) ∧ (D 1 → x64 = .int .u64 f) ∧ (D 2 → x65 = U f) ∧ (D 3 → x66 = .tuple #[U qq, U rr, .int .i64 0]) ∧ (D 4 → x62 = .tuple #[U qq, U rr, .int .i64 0]) ∧ (D 5 → x67 = U qq) ∧ (D 6 → x68 = U rr) ∧ (D 7 → x69 = .int .i64 0) ∧ (D 12 → x17 = .int .i64 0) ∧ Blk D 8 10 wr w' x15 C8 #[.int .u64 0, .int .u64 0, .int .u64 0, .int .u64 0] #[.int .u64 (L qq 0), .int .u64 (L qq 1), .int .u64 (L qq 2), .int .u64 (L qq 3)] 24 ∧ Blk D 9 11 wr w' x16 C9 #[.int .u64 0, .int .u64 0, .int .u64 0, .int .u64 0] #[.int .u64 (L rr 0), .int .u64 (L rr 1), .int .u64 (L rr 2), .int .u64 (L rr 3)] 24 ∧ NeB D 8 9 C8 C9) (by kernel_rfl) (by kernel_rfl) ?_ ?_ ?_
          · exact fun l0 => ⟨l0.getD 63 undef, l0.getD 64 undef, l0.getD 65 undef, l0.getD 66 undef, l0.getD 62 undef, l0.getD 67 undef, l0.getD 68 undef, l0.getD 69 undef, l0.getD 15 undef, l0.getD 16 undef, l0.getD 17 undef, 0, 0, (by simp only [set_self]), (Bl.refl wr).drew, fun h => h.elim, fun h => h.elim, fun h => h.elim, fun h => h.elim, fun h => h.elim, fun h => h.elim, fun h => h.elim, fun h => h.elim, fun h => h.elim, Blk.start, Blk.start, NeB.start⟩
          · intro Inv hInv
            refine AllD.cons ?_ (AllD.cons ?_ (AllD.cons ?_ (AllD.cons ?_ (AllD.cons ?_ (AllD.cons ?_ (AllD.cons ?_ (AllD.cons ?_ (AllD.cons ?_ (AllD.cons ?_ (AllD.cons ?_ (AllD.cons ?_ (AllD.cons ?_ (AllD.nil)))))))))))))
            · refine StepD.plain rfl rfl ?_
              intro D a' w' hn hp hI K hK
              obtain ⟨x63, x64, x65, x66, x62, x67, x68, x69, x15, x16, x17, C8, C9, ha, hbl, zf0, zf1, zf2, zf3, zf4, zf5, zf6, zf7, zf12, zg8, zg9, zn0_1⟩ := (hInv.out D a' w').1 hI
              subst ha; clear hI
              (try simp only [List.set_cons_zero, List.set_cons_succ])
              have bz := r3_2.call hbl
              obtain ⟨bc, bf, bl_⟩ := bz.tell
              go_simp
              exact hK.out _ _ ((hInv.out _ _ _).2 ⟨_, _, _, _, _, _, _, _, _, _, _, C8, C9, rfl, hbl, fun _ => (by first | rfl | go_num | (simp; done)), told_next zf1 (by decide), told_next zf2 (by decide), told_next zf3 (by decide), told_next zf4 (by decide), told_next zf5 (by decide), told_next zf6 (by decide), told_next zf7 (by decide), told_next zf12 (by decide), zg8.next (by decide) (by decide) (fun _ _ h => h), zg9.next (by decide) (by decide) (fun _ _ h => h), zn0_1.next (by decide) (by decide)⟩)
            · refine StepD.plain rfl rfl ?_
              intro D a' w' hn hp hI K hK
              obtain ⟨x63, x64, x65, x66, x62, x67, x68, x69, x15, x16, x17, C8, C9, ha, hbl, zf0, zf1, zf2, zf3, zf4, zf5, zf6, zf7, zf12, zg8, zg9, zn0_1⟩ := (hInv.out D a' w').1 hI
              subst ha; clear hI
              (try simp only [List.set_cons_zero, List.set_cons_succ])
              go_simp
              exact hK.out _ _ ((hInv.out _ _ _).2 ⟨_, _, _, _, _, _, _, _, _, _, _, C8, C9, rfl, hbl, told_next zf0 (by decide), fun _ => (by first | rfl | go_num | (simp; done)), told_next zf2 (by decide), told_next zf3 (by decide), told_next zf4 (by decide), told_next zf5 (by decide), told_next zf6 (by decide), told_next zf7 (by decide), told_next zf12 (by decide), zg8.next (by decide) (by decide) (fun _ _ h => h), zg9.next (by decide) (by decide) (fun _ _ h => h), zn0_1.next (by decide) (by decide)⟩)
            · refine StepD.plain rfl rfl ?_
              intro D a' w' hn hp hI K hK
              obtain ⟨x63, x64, x65, x66, x62, x67, x68, x69, x15, x16, x17, C8, C9, ha, hbl, zf0, zf1, zf2, zf3, zf4, zf5, zf6, zf7, zf12, zg8, zg9, zn0_1⟩ := (hInv.out D a' w').1 hI
              subst ha; clear hI
              (try simp only [List.set_cons_zero, List.set_cons_succ])
              obtain ⟨p2_1, _⟩ := hp
              have p2_1 : D 1 := p2_1 rfl
              have e1 := zf1 p2_1; subst e1
              go_simp
              refine (f1 _).mono ?_
              rintro e w2 ⟨rfl, hbc⟩
              go_wp2_with fail
              exact hK.out _ _ ((hInv.out _ _ _).2 ⟨_, _, _, _, _, _, _, _, _, _, _, C8, C9, rfl, hbl.trans hbc, told_next zf0 (by decide), fun _ => rfl, fun _ => (by first | rfl | go_num | (simp; done)), told_next zf3 (by decide), told_next zf4 (by decide), told_next zf5 (by decide), told_next zf6 (by decide), told_next zf7 (by decide), told_next zf12 (by decide), zg8.next (by decide) (by decide) (fun _ _ h => h.call hbc), zg9.next (by decide) (by decide) (fun _ _ h => h.call hbc), zn0_1.next (by decide) (by decide)⟩)
            · refine StepD.plain rfl rfl ?_
              intro D a' w' hn hp hI K hK
              obtain ⟨x63, x64, x65, x66, x62, x67, x68, x69, x15, x16, x17, C8, C9, ha, hbl, zf0, zf1, zf2, zf3, zf4, zf5, zf6, zf7, zf12, zg8, zg9, zn0_1⟩ := (hInv.out D a' w').1 hI
              subst ha; clear hI
              (try simp only [List.set_cons_zero, List.set_cons_succ])
              obtain ⟨p3_0, p3_2, _, _⟩ := hp
              have p3_0 : D 0 := p3_0 rfl
              have p3_2 : D 2 := p3_2 rfl
              have e0 := zf0 p3_0; subst e0
              have e2 := zf2 p3_2; subst e2
              go_simp
              refine (q1 _).mono ?_
              rintro e w2 ⟨rfl, hbc⟩
              go_wp2_with fail
              exact hK.out _ _ ((hInv.out _ _ _).2 ⟨_, _, _, _, _, _, _, _, _, _, _, C8, C9, rfl, hbl.trans hbc, fun _ => rfl, told_next zf1 (by decide), fun _ => rfl, fun _ => (by first | rfl | go_num | (simp; done)), told_next zf4 (by decide), told_next zf5 (by decide), told_next zf6 (by decide), told_next zf7 (by decide), told_next zf12 (by decide), zg8.next (by decide) (by decide) (fun _ _ h => h.call hbc), zg9.next (by decide) (by decide) (fun _ _ h => h.call hbc), zn0_1.next (by decide) (by decide)⟩)
            · refine StepD.plain rfl rfl ?_
              intro D a' w' hn hp hI K hK
              obtain ⟨x63, x64, x65, x66, x62, x67, x68, x69, x15, x16, x17, C8, C9, ha, hbl, zf0, zf1, zf2, zf3, zf4, zf5, zf6, zf7, zf12, zg8, zg9, zn0_1⟩ := (hInv.out D a' w').1 hI
              subst ha; clear hI
              (try simp only [List.set_cons_zero, List.set_cons_succ])
              obtain ⟨p4_3, _⟩ := hp
              have p4_3 : D 3 := p4_3 rfl
              have e3 := zf3 p4_3; subst e3
              go_simp
              exact hK.out _ _ ((hInv.out _ _ _).2 ⟨_, _, _, _, _, _, _, _, _, _, _, C8, C9, rfl, hbl, told_next zf0 (by decide), told_next zf1 (by decide), told_next zf2 (by decide), fun _ => rfl, fun _ => (by first | rfl | go_num | (simp; done)), told_next zf5 (by decide), told_next zf6 (by decide), told_next zf7 (by decide), told_next zf12 (by decide), zg8.next (by decide) (by decide) (fun _ _ h => h), zg9.next (by decide) (by decide) (fun _ _ h => h), zn0_1.next (by decide) (by decide)⟩)
            · refine StepD.plain rfl rfl ?_
              intro D a' w' hn hp hI K hK
              obtain ⟨x63, x64, x65, x66, x62, x67, x68, x69, x15, x16, x17, C8, C9, ha, hbl, zf0, zf1, zf2, zf3, zf4, zf5, zf6, zf7, zf12, zg8, zg9, zn0_1⟩ := (hInv.out D a' w').1 hI
              subst ha; clear hI
              (try simp only [List.set_cons_zero, List.set_cons_succ])
              obtain ⟨p5_4, _⟩ := hp
              have p5_4 : D 4 := p5_4 rfl
              have e4 := zf4 p5_4; subst e4
              go_simp
              exact hK.out _ _ ((hInv.out _ _ _).2 ⟨_, _, _, _, _, _, _, _, _, _, _, C8, C9, rfl, hbl, told_next zf0 (by decide), told_next zf1 (by decide), told_next zf2 (by decide), told_next zf3 (by decide), fun _ => rfl, fun _ => (by first | rfl | go_num | (simp; done)), told_next zf6 (by decide), told_next zf7 (by decide), told_next zf12 (by decide), zg8.next (by decide) (by decide) (fun _ _ h => h), zg9.next (by decide) (by decide) (fun _ _ h => h), zn0_1.next (by decide) (by decide)⟩)
            · refine StepD.plain rfl rfl ?_
              intro D a' w' hn hp hI K hK
              obtain ⟨x63, x64, x65, x66, x62, x67, x68, x69, x15, x16, x17, C8, C9, ha, hbl, zf0, zf1, zf2, zf3, zf4, zf5, zf6, zf7, zf12, zg8, zg9, zn0_1⟩ := (hInv.out D a' w').1 hI
              subst ha; clear hI
              (try simp only [List.set_cons_zero, List.set_cons_succ])
              obtain ⟨p6_4, _, _⟩ := hp
              have p6_4 : D 4 := p6_4 rfl
              have e4 := zf4 p6_4; subst e4
              go_simp
              exact hK.out _ _ ((hInv.out _ _ _).2 ⟨_, _, _, _, _, _, _, _, _, _, _, C8, C9, rfl, hbl, told_next zf0 (by decide), told_next zf1 (by decide), told_next zf2 (by decide), told_next zf3 (by decide), fun _ => rfl, told_next zf5 (by decide), fun _ => (by first | rfl | go_num | (simp; done)), told_next zf7 (by decide), told_next zf12 (by decide), zg8.next (by decide) (by decide) (fun _ _ h => h), zg9.next (by decide) (by decide) (fun _ _ h => h), zn0_1.next (by decide) (by decide)⟩)
            · refine StepD.plain rfl rfl ?_
              intro D a' w' hn hp hI K hK
              obtain ⟨x63, x64, x65, x66, x62, x67, x68, x69, x15, x16, x17, C8, C9, ha, hbl, zf0, zf1, zf2, zf3, zf4, zf5, zf6, zf7, zf12, zg8, zg9, zn0_1⟩ := (hInv.out D a' w').1 hI
              subst ha; clear hI
              (try simp only [List.set_cons_zero, List.set_cons_succ])
              obtain ⟨p7_4, _, _⟩ := hp
              have p7_4 : D 4 := p7_4 rfl
              have e4 := zf4 p7_4; subst e4
              go_simp
              exact hK.out _ _ ((hInv.out _ _ _).2 ⟨_, _, _, _, _, _, _, _, _, _, _, C8, C9, rfl, hbl, told_next zf0 (by decide), told_next zf1 (by decide), told_next zf2 (by decide), told_next zf3 (by decide), fun _ => rfl, told_next zf5 (by decide), told_next zf6 (by decide), fun _ => (by first | rfl | go_num | (simp; done)), told_next zf12 (by decide), zg8.next (by decide) (by decide) (fun _ _ h => h), zg9.next (by decide) (by decide) (fun _ _ h => h), zn0_1.next (by decide) (by decide)⟩)
            · refine StepD.plain rfl rfl ?_
              intro D a' w' hn hp hI K hK
              obtain ⟨x63, x64, x65, x66, x62, x67, x68, x69, x15, x16, x17, C8, C9, ha, hbl, zf0, zf1, zf2, zf3, zf4, zf5, zf6, zf7, zf12, zg8, zg9, zn0_1⟩ := (hInv.out D a' w').1 hI
              subst ha; clear hI
              (try simp only [List.set_cons_zero, List.set_cons_succ])
              go_simp
              exact hK.out _ _ ((hInv.out _ _ _).2 ⟨_, _, _, _, _, _, _, _, _, _, _, _, C9, rfl, hbl.alloc _, told_next zf0 (by decide), told_next zf1 (by decide), told_next zf2 (by decide), told_next zf3 (by decide), told_next zf4 (by decide), told_next zf5 (by decide), told_next zf6 (by decide), told_next zf7 (by decide), told_next zf12 (by decide), zg8.made hn (by decide) hbl.size, zg9.next (by decide) (by decide) (fun _ _ h => h.alloc _), NeB.right zg9 (by decide)⟩)
            · refine StepD.plain rfl rfl ?_
              intro D a' w' hn hp hI K hK
              obtain ⟨x63, x64, x65, x66, x62, x67, x68, x69, x15, x16, x17, C8, C9, ha, hbl, zf0, zf1, zf2, zf3, zf4, zf5, zf6, zf7, zf12, zg8, zg9, zn0_1⟩ := (hInv.out D a' w').1 hI
              subst ha; clear hI
              (try simp only [List.set_cons_zero, List.set_cons_succ])
              go_simp
              exact hK.out _ _ ((hInv.out _ _ _).2 ⟨_, _, _, _, _, _, _, _, _, _, _, C8, _, rfl, hbl.alloc _, told_next zf0 (by decide), told_next zf1 (by decide), told_next zf2 (by decide), told_next zf3 (by decide), told_next zf4 (by decide), told_next zf5 (by decide), told_next zf6 (by decide), told_next zf7 (by decide), told_next zf12 (by decide), zg8.next (by decide) (by decide) (fun _ _ h => h.alloc _), zg9.made hn (by decide) hbl.size, NeB.left zg8 (by decide)⟩)
            · refine StepD.plain rfl rfl ?_
              intro D a' w' hn hp hI K hK
              obtain ⟨x63, x64, x65, x66, x62, x67, x68, x69, x15, x16, x17, C8, C9, ha, hbl, zf0, zf1, zf2, zf3, zf4, zf5, zf6, zf7, zf12, zg8, zg9, zn0_1⟩ := (hInv.out D a' w').1 hI
              subst ha; clear hI
              (try simp only [List.set_cons_zero, List.set_cons_succ])
              obtain ⟨p10_8, p10_5, p10_3, p10_0, p10_1, p10_2, _, p10_4, _, _, _, _, p10_9, _⟩ := hp
              have p10_0 : D 0 := p10_0 rfl
              have p10_1 : D 1 := p10_1 rfl
              have p10_2 : D 2 := p10_2 rfl
              have p10_3 : D 3 := p10_3 rfl
              have p10_4 : D 4 := p10_4 rfl
              have p10_5 : D 5 := p10_5 rfl
              have p10_8 : D 8 := p10_8 rfl
              have p10_9 : D 9 := p10_9 rfl
              obtain ⟨e15, lw15, ha15, hz15⟩ := zg8.2 p10_8
              subst e15
              have bz := hz15 hn
              obtain ⟨bc, bf, bl_⟩ := bz.tell
              clear ha15 hz15
              have e5 := zf5 p10_5; subst e5
              go_simp
              have lwb : wr.heap.size ≤ C8 := lw15
              have far9 : ∀ (h : D 9), C9 ≠ C8 := fun h => (zn0_1 p10_8 h).symm
              exact hK.out _ _ ((hInv.out _ _ _).2 ⟨_, _, _, _, _, _, _, _, _, _, _, C8, C9, rfl, ((((hbl).setCell (by simp only []; omega) _).setCell (by simp only []; omega) _).setCell (by simp only []; omega) _).setCell (by simp only []; omega) _, told_next zf0 (by decide), told_next zf1 (by decide), told_next zf2 (by decide), told_next zf3 (by decide), told_next zf4 (by decide), fun _ => rfl, told_next zf6 (by decide), told_next zf7 (by decide), told_next zf12 (by decide), zg8.filled p10_8 hn (fun h => (((((h).set _ _).set _ _).set _ _).set _ _).cells rfl), zg9.next (by decide) (by decide) (fun hd _ h => ((((h).far _ _ (far9 hd)).far _ _ (far9 hd)).far _ _ (far9 hd)).far _ _ (far9 hd)), zn0_1.next (by decide) (by decide)⟩)
            · refine StepD.plain rfl rfl ?_
              intro D a' w' hn hp hI K hK
              obtain ⟨x63, x64, x65, x66, x62, x67, x68, x69, x15, x16, x17, C8, C9, ha, hbl, zf0, zf1, zf2, zf3, zf4, zf5, zf6, zf7, zf12, zg8, zg9, zn0_1⟩ := (hInv.out D a' w').1 hI
              subst ha; clear hI
              (try simp only [List.set_cons_zero, List.set_cons_succ])
              obtain ⟨p11_9, p11_6, p11_10, p11_0, p11_1, p11_2, p11_3, p11_4, p11_5, _, _, p11_8, _, _, _⟩ := hp
              have p11_0 : D 0 := p11_0 rfl
              have p11_1 : D 1 := p11_1 rfl
              have p11_2 : D 2 := p11_2 rfl
              have p11_3 : D 3 := p11_3 rfl
              have p11_4 : D 4 := p11_4 rfl
              have p11_5 : D 5 := p11_5 rfl
              have p11_6 : D 6 := p11_6 rfl
              have p11_8 : D 8 := p11_8 rfl
              have p11_9 : D 9 := p11_9 rfl
              have p11_10 : D 10 := p11_10 rfl
              obtain ⟨e16, lw16, ha16, hz16⟩ := zg9.2 p11_9
              subst e16
              have bz := hz16 hn
              obtain ⟨bc, bf, bl_⟩ := bz.tell
              clear ha16 hz16
              have e6 := zf6 p11_6; subst e6
              go_simp
              have lwb : wr.heap.size ≤ C9 := lw16
              have far8 : ∀ (h : D 8), C8 ≠ C9 := fun h => zn0_1 h p11_9
              exact hK.out _ _ ((hInv.out _ _ _).2 ⟨_, _, _, _, _, _, _, _, _, _, _, C8, C9, rfl, ((((hbl).setCell (by simp only []; omega) _).setCell (by simp only []; omega) _).setCell (by simp only []; omega) _).setCell (by simp only []; omega) _, told_next zf0 (by decide), told_next zf1 (by decide), told_next zf2 (by decide), told_next zf3 (by decide), told_next zf4 (by decide), told_next zf5 (by decide), fun _ => rfl, told_next zf7 (by decide), told_next zf12 (by decide), zg8.next (by decide) (by decide) (fun hd _ h => ((((h).far _ _ (far8 hd)).far _ _ (far8 hd)).far _ _ (far8 hd)).far _ _ (far8 hd)), zg9.filled p11_9 hn (fun h => (((((h).set _ _).set _ _).set _ _).set _ _).cells rfl), zn0_1.next (by decide) (by decide)⟩)
            · refine StepD.plain rfl rfl ?_
              intro D a' w' hn hp hI K hK
              obtain ⟨x63, x64, x65, x66, x62, x67, x68, x69, x15, x16, x17, C8, C9, ha, hbl, zf0, zf1, zf2, zf3, zf4, zf5, zf6, zf7, zf12, zg8, zg9, zn0_1⟩ := (hInv.out D a' w').1 hI
              subst ha; clear hI
              (try simp only [List.set_cons_zero, List.set_cons_succ])
              obtain ⟨p12_7, p12_11, p12_0, p12_1, p12_2, p12_3, p12_4, p12_5, p12_6, _, p12_8, p12_9, p12_10, _, _⟩ := hp
              have p12_0 : D 0 := p12_0 rfl
              have p12_1 : D 1 := p12_1 rfl
              have p12_2 : D 2 := p12_2 rfl
              have p12_3 : D 3 := p12_3 rfl
              have p12_4 : D 4 := p12_4 rfl
              have p12_5 : D 5 := p12_5 rfl
              have p12_6 : D 6 := p12_6 rfl
              have p12_7 : D 7 := p12_7 rfl
              have p12_8 : D 8 := p12_8 rfl
              have p12_9 : D 9 := p12_9 rfl
              have p12_10 : D 10 := p12_10 rfl
              have p12_11 : D 11 := p12_11 rfl
              have e7 := zf7 p12_7; subst e7
              go_simp
              exact hK.out _ _ ((hInv.out _ _ _).2 ⟨_, _, _, _, _, _, _, _, _, _, _, C8, C9, rfl, hbl, told_next zf0 (by decide), told_next zf1 (by decide), told_next zf2 (by decide), told_next zf3 (by decide), told_next zf4 (by decide), told_next zf5 (by decide), told_next zf6 (by decide), fun _ => rfl, fun _ => (by first | rfl | go_num | (simp; done)), zg8.next (by decide) (by decide) (fun _ _ h => h), zg9.next (by decide) (by decide) (fun _ _ h => h), zn0_1.next (by decide) (by decide)⟩)
          · intro D a' w5 hall hI
            obtain ⟨x63, x64, x65, x66, x62, x67, x68, x69, x15, x16, x17, B5, B6, ha, hb5, zf0, zf1, zf2, zf3, zf4, zf5, zf6, zf7, zf12, zg8, zg9, zn0_1⟩ := hI
            subst ha
            (try simp only [List.set_cons_zero, List.set_cons_succ])
            have e := zf0 (hall 0 (by decide)); subst e
            have e := zf1 (hall 1 (by decide)); subst e
            have e := zf2 (hall 2 (by decide)); subst e
            have e := zf3 (hall 3 (by decide)); subst e
            have e := zf4 (hall 4 (by decide)); subst e
            have e := zf5 (hall 5 (by decide)); subst e
            have e := zf6 (hall 6 (by decide)); subst e
            have e := zf7 (hall 7 (by decide)); subst e
            have e := zf12 (hall 12 (by decide)); subst e
            obtain ⟨e, lw5, ha5, hz5⟩ := zg8.2 (hall 8 (by decide))
            subst e
            have q5 := ha5 (hall 10 (by decide))
            clear ha5 hz5 zg8
            obtain ⟨e, lw6, ha6, hz6⟩ := zg9.2 (hall 9 (by decide))
            subst e
            have q6 := ha6 (hall 11 (by decide))
            clear ha6 hz6 zg9
            have zn0_1 := zn0_1 (hall 8 (by decide)) (hall 9 (by decide))
            clear hall
            (try simp only [Act.put, List.setIfInBounds_toArray, List.set_cons_zero, List.set_cons_succ])
            have lo5 : w.heap.size ≤ B5 := (by have := y3; omega)
            have lo6 : w.heap.size ≤ B6 := (by have := y3; omega)
            have n5_0 : (B5 = B0) = False := (by simp only [eq_iff_iff, iff_false]; have := r3_0_l; omega)
            have n0_5 : (B0 = B5) = False := (by simp only [eq_iff_iff, iff_false]; have := r3_0_l; omega)
            have r5_0 : Box w5 B0 #[.int .u64 0, .int .u64 0, .int .u64 0, .int .u64 0] 24 := r3_0.call hb5
            have r5_5 : Box w5 B5 #[.int .u64 (L qq 0), .int .u64 (L qq 1), .int .u64 (L qq 2), .int .u64 (L qq 3)] 24 := q5
            have b5 : Bl w w5 := Bl.trans b3 hb5
            have z5 : wr.heap.size ≤ w5.heap.size := (by have := hb5.size; omega)
            have y5 : w.heap.size ≤ w5.heap.size := b5.size
            clear r3_0 r3_0_c r3_0_f r3_0_l r3_1 r3_1_c r3_1_f r3_1_l r3_2 r3_2_c r3_2_f r3_2_l b3
            obtain ⟨r5_0_c, r5_0_f, r5_0_l⟩ := r5_0.tell
            obtain ⟨r5_5_c, r5_5_f, r5_5_l⟩ := r5_5.tell
            clear hb5 lw5 lw6
            go_wp2_with fail
            refine bodyPost_ret (v := .tuple #[U qq, .int .i64 0]) (by simp only [results, Try.results17]; go_simp) rfl ⟨by rw [V1.out, E1.out] <;> rfl, ?_⟩
            exact ((((b5).setCell (by simp only []; omega) _).setCell (by simp only []; omega) _).setCell (by simp only []; omega) _).setCell (by simp only []; omega) _
      · skip
        obtain ⟨g, rfl⟩ : ∃ g, gk = g + 1 := ⟨gk - 1, by rcases gk with _ | g; exact (bb_out hz hbb.out).elim; omega⟩
        have hq := fun w => run_eq_U ha T256_pos w
        rw [← U_zero, decide_eq_false hz] at hq
        have hi64 : i < 18446744073709551616 := by omega
        have hiI : (i : Int) ≤ 1024 := by omega
        have hd1 : decide (i ≤ 1024) = true := by simp; omega
        have hd2 : decide ((i : Int) ≤ 1024) = true := by simp; omega
        have hiT : i < T256 := by rw [T256_eq]; omega
        have hfi : f * i < T256 := by
          have : f * i ≤ 18446744073709551616 * 1025 := Nat.mul_le_mul (by omega) (by omega)
          rw [T256_eq]; omega
        have a1 := fun w => rsum_c all a hall ha w
        have a2 := fun w => rfrom_c i hi64 w
        have a3 := fun w => rproduct_c f i hTf hiT w
        rw [Nat.div_eq_of_lt hfi, Nat.mod_eq_of_lt hfi, decide_eq_true rfl] at a3
        have a4 := fun w => rmuldiv_c a x (f * i) ha hTx hfi w
        have hne : f * i ≠ 0 := Nat.mul_ne_zero (by omega) (by omega)
        obtain ⟨by_, hby⟩ : ∃ b, b = f * i := ⟨_, rfl⟩
        rw [← hby] at a3 a4 hne hfi
        by_cases h5 : all + a < T256
        · skip
          by_cases h6 : a * x / by_ < T256
          · skip
            rw [Nat.div_eq_of_lt h5, show (((0 : Nat) : Int) == 0) = true from rfl] at a1
            rw [Nat.mod_eq_of_lt h5] at a1
            rw [show mdE a x by_ = 0 by unfold mdE; rw [if_neg hne, if_pos h6], show mdV a x by_ = a * x / by_ from if_pos h6] at a4
            have HN : Hid (bbF g x f (i + 1) (a * x / by_) (all + a) = some R) := by
              have := hbb.out; rw [bb_next hz h5 (by rw [← hby]; exact h6), ← hby] at this; exact this
            obtain ⟨an, han⟩ : ∃ v, v = a * x / by_ := ⟨_, rfl⟩
            obtain ⟨sn, hsn⟩ : ∃ v, v = all + a := ⟨_, rfl⟩
            rw [← han] at a4 HN h6
            rw [← hsn] at a1 HN h5
            have hkk : Hid (i + 1 + g = 1025) := Lib.hid (by omega)
            clear hbb hby han hsn hz hne hfi hk
            go_wp2_with fail
            refine (a1 _).mono ?_
            rintro e w6 ⟨rfl, hb6⟩
            have r6_0 : Box w6 B0 #[.int .u64 0, .int .u64 0, .int .u64 0, .int .u64 0] 24 := (r3_0).call hb6
            have r6_1 : Box w6 B1 #[.int .u64 (L a 0), .int .u64 (L a 1), .int .u64 (L a 2), .int .u64 (L a 3)] 24 := (r3_1).call hb6
            have r6_2 : Box w6 B2 #[.int .u64 (L all 0), .int .u64 (L all 1), .int .u64 (L all 2), .int .u64 (L all 3)] 24 := (r3_2).call hb6
            have b6 : Bl w w6 := Bl.trans (b3) hb6
            have z6 : wr.heap.size ≤ w6.heap.size := (by have := hb6.size; (try simp only [World.alloc, World.setCell, World.drew, Array.size_push, Array.size_modify] at this); omega)
            have y6 : w.heap.size ≤ w6.heap.size := b6.size
            clear r3_0 r3_0_c r3_0_f r3_0_l r3_1 r3_1_c r3_1_f r3_1_l r3_2 r3_2_c r3_2_f r3_2_l b3
            obtain ⟨r6_0_c, r6_0_f, r6_0_l⟩ := r6_0.tell
            obtain ⟨r6_1_c, r6_1_f, r6_1_l⟩ := r6_1.tell
            obtain ⟨r6_2_c, r6_2_f, r6_2_l⟩ := r6_2.tell
            have d6_0 : (B0 = w6.heap.size) = False := (by simp only [eq_iff_iff, iff_false]; omega)
            have e6_0 : (w6.heap.size = B0) = False := (by simp only [eq_iff_iff, iff_false]; omega)
            have m6_0 : B0 < w6.heap.size := (by omega)
            have d6_1 : (B0 = w6.heap.size + 1) = False := (by simp only [eq_iff_iff, iff_false]; omega)
            have e6_1 : (w6.heap.size + 1 = B0) = False := (by simp only [eq_iff_iff, iff_false]; omega)
            have m6_1 : B0 < w6.heap.size + 1 := (by omega)
            have d6_2 : (B1 = w6.heap.size) = False := (by simp only [eq_iff_iff, iff_false]; omega)
            have e6_2 : (w6.heap.size = B1) = False := (by simp only [eq_iff_iff, iff_false]; omega)
            have m6_2 : B1 < w6.heap.size := (by omega)
            have d6_3 : (B1 = w6.heap.size + 1) = False := (by simp only [eq_iff_iff, iff_false]; omega)
            have e6_3 : (w6.heap.size + 1 = B1) = False := (by simp only [eq_iff_iff, iff_false]; omega)
            have m6_3 : B1 < w6.heap.size + 1 := (by omega)
            have d6_4 : (B2 = w6.heap.size) = False := (by simp only [eq_iff_iff, iff_false]; omega)
            have e6_4 : (w6.heap.size = B2) = False := (by simp only [eq_iff_iff, iff_false]; omega)
            have m6_4 : B2 < w6.heap.size := (by omega)
            have d6_5 : (B2 = w6.heap.size + 1) = False := (by simp only [eq_iff_iff, iff_false]; omega)
            have e6_5 : (w6.heap.size + 1 = B2) = False := (by simp only [eq_iff_iff, iff_false]; omega)
            have m6_5 : B2 < w6.heap.size + 1 := (by omega)
            clear hb6
            go_wp2_with fail
            refine (f1 _).mono ?_
            rintro e w7 ⟨rfl, hb7⟩
            have r7_0 : Box w7 B0 #[.int .u64 0, .int .u64 0, .int .u64 0, .int .u64 0] 24 := ((((((r6_0).far _ _ (by simp only []; first | omega | exact of_eq_false (by assumption))).far _ _ (by simp only []; first | omega | exact of_eq_false (by assumption))).far _ _ (by simp only []; first | omega | exact of_eq_false (by assumption))).far _ _ (by simp only []; first | omega | exact of_eq_false (by assumption))).alloc _).call hb7
            have r7_1 : Box w7 B1 #[.int .u64 (L a 0), .int .u64 (L a 1), .int .u64 (L a 2), .int .u64 (L a 3)] 24 := ((((((r6_1).far _ _ (by simp only []; first | omega | exact of_eq_false (by assumption))).far _ _ (by simp only []; first | omega | exact of_eq_false (by assumption))).far _ _ (by simp only []; first | omega | exact of_eq_false (by assumption))).far _ _ (by simp only []; first | omega | exact of_eq_false (by assumption))).alloc _).call hb7
            have r7_2 : Box w7 B2 #[.int .u64 (L sn 0), .int .u64 (L sn 1), .int .u64 (L sn 2), .int .u64 (L sn 3)] 24 := (((((((r6_2).set _ _).set _ _).set _ _).set _ _).alloc _).cells rfl).call hb7
            have r7_7 : Box w7 w6.heap.size #[.int .u64 (L sn 0), .int .u64 (L sn 1), .int .u64 (L sn 2), .int .u64 (L sn 3)] 24 := (Box.new _ _ _ _ (by simp)).call hb7
            have b7 : Bl w w7 := Bl.trans ((((((b6).setCell (by simp only []; omega) _).setCell (by simp only []; omega) _).setCell (by simp only []; omega) _).setCell (by simp only []; omega) _).alloc _) hb7
            have z7 : w6.heap.size + 1 ≤ w7.heap.size := (by have := hb7.size; (try simp only [World.alloc, World.setCell, World.drew, Array.size_push, Array.size_modify] at this); omega)
            have y7 : w.heap.size ≤ w7.heap.size := b7.size
            obtain ⟨B7, hB7⟩ : ∃ B, B = w6.heap.size := ⟨_, rfl⟩
            (try rw [← hB7]); rw [← hB7] at r7_7
            have lo7 : w.heap.size ≤ B7 := by omega
            have n7_0 : (B7 = B0) = False := (by simp only [eq_iff_iff, iff_false]; have := r6_0_l; omega)
            have n0_7 : (B0 = B7) = False := (by simp only [eq_iff_iff, iff_false]; have := r6_0_l; omega)
            have n7_1 : (B7 = B1) = False := (by simp only [eq_iff_iff, iff_false]; have := r6_1_l; omega)
            have n1_7 : (B1 = B7) = False := (by simp only [eq_iff_iff, iff_false]; have := r6_1_l; omega)
            have n7_2 : (B7 = B2) = False := (by simp only [eq_iff_iff, iff_false]; have := r6_2_l; omega)
            have n2_7 : (B2 = B7) = False := (by simp only [eq_iff_iff, iff_false]; have := r6_2_l; omega)
            clear hB7
            clear r6_0 r6_0_c r6_0_f r6_0_l r6_1 r6_1_c r6_1_f r6_1_l r6_2 r6_2_c r6_2_f r6_2_l b6
            obtain ⟨r7_0_c, r7_0_f, r7_0_l⟩ := r7_0.tell
            obtain ⟨r7_1_c, r7_1_f, r7_1_l⟩ := r7_1.tell
            obtain ⟨r7_2_c, r7_2_f, r7_2_l⟩ := r7_2.tell
            obtain ⟨r7_7_c, r7_7_f, r7_7_l⟩ := r7_7.tell
            clear hb7
            go_wp2_with fail
            refine (a2 _).mono ?_
            rintro e w8 ⟨rfl, hb8⟩
            have r8_0 : Box w8 B0 #[.int .u64 0, .int .u64 0, .int .u64 0, .int .u64 0] 24 := (r7_0).call hb8
            have r8_1 : Box w8 B1 #[.int .u64 (L a 0), .int .u64 (L a 1), .int .u64 (L a 2), .int .u64 (L a 3)] 24 := (r7_1).call hb8
            have r8_2 : Box w8 B2 #[.int .u64 (L sn 0), .int .u64 (L sn 1), .int .u64 (L sn 2), .int .u64 (L sn 3)] 24 := (r7_2).call hb8
            have r8_7 : Box w8 B7 #[.int .u64 (L sn 0), .int .u64 (L sn 1), .int .u64 (L sn 2), .int .u64 (L sn 3)] 24 := (r7_7).call hb8
            have b8 : Bl w w8 := Bl.trans (b7) hb8
            have z8 : w7.heap.size ≤ w8.heap.size := (by have := hb8.size; (try simp only [World.alloc, World.setCell, World.drew, Array.size_push, Array.size_modify] at this); omega)
            have y8 : w.heap.size ≤ w8.heap.size := b8.size
            clear r7_0 r7_0_c r7_0_f r7_0_l r7_1 r7_1_c r7_1_f r7_1_l r7_2 r7_2_c r7_2_f r7_2_l r7_7 r7_7_c r7_7_f r7_7_l b7
            obtain ⟨r8_0_c, r8_0_f, r8_0_l⟩ := r8_0.tell
            obtain ⟨r8_1_c, r8_1_f, r8_1_l⟩ := r8_1.tell
            obtain ⟨r8_2_c, r8_2_f, r8_2_l⟩ := r8_2.tell
            obtain ⟨r8_7_c, r8_7_f, r8_7_l⟩ := r8_7.tell
            clear hb8
            go_wp2_with fail
            refine (a3 _).mono ?_
            rintro e w9 ⟨rfl, hb9⟩
            have r9_0 : Box w9 B0 #[.int .u64 0, .int .u64 0, .int .u64 0, .int .u64 0] 24 := (r8_0).call hb9
            have r9_1 : Box w9 B1 #[.int .u64 (L a 0), .int .u64 (L a 1), .int .u64 (L a 2), .int .u64 (L a 3)] 24 := (r8_1).call hb9
            have r9_2 : Box w9 B2 #[.int .u64 (L sn 0), .int .u64 (L sn 1), .int .u64 (L sn 2), .int .u64 (L sn 3)] 24 := (r8_2).call hb9
            have r9_7 : Box w9 B7 #[.int .u64 (L sn 0), .int .u64 (L sn 1), .int .u64 (L sn 2), .int .u64 (L sn 3)] 24 := (r8_7).call hb9
            have b9 : Bl w w9 := Bl.trans (b8) hb9
            have z9 : w8.heap.size ≤ w9.heap.size := (by have := hb9.size; (try simp only [World.alloc, World.setCell, World.drew, Array.size_push, Array.size_modify] at this); omega)
            have y9 : w.heap.size ≤ w9.heap.size := b9.size
            clear r8_0 r8_0_c r8_0_f r8_0_l r8_1 r8_1_c r8_1_f r8_1_l r8_2 r8_2_c r8_2_f r8_2_l r8_7 r8_7_c r8_7_f r8_7_l b8
            obtain ⟨r9_0_c, r9_0_f, r9_0_l⟩ := r9_0.tell
            obtain ⟨r9_1_c, r9_1_f, r9_1_l⟩ := r9_1.tell
            obtain ⟨r9_2_c, r9_2_f, r9_2_l⟩ := r9_2.tell
            obtain ⟨r9_7_c, r9_7_f, r9_7_l⟩ := r9_7.tell
            have d9_0 : (B0 = w9.heap.size) = False := (by simp only [eq_iff_iff, iff_false]; omega)
            have e9_0 : (w9.heap.size = B0) = False := (by simp only [eq_iff_iff, iff_false]; omega)
            have m9_0 : B0 < w9.heap.size := (by omega)
            have d9_1 : (B0 = w9.heap.size + 1) = False := (by simp only [eq_iff_iff, iff_false]; omega)
            have e9_1 : (w9.heap.size + 1 = B0) = False := (by simp only [eq_iff_iff, iff_false]; omega)
            have m9_1 : B0 < w9.heap.size + 1 := (by omega)
            have d9_2 : (B1 = w9.heap.size) = False := (by simp only [eq_iff_iff, iff_false]; omega)
            have e9_2 : (w9.heap.size = B1) = False := (by simp only [eq_iff_iff, iff_false]; omega)
            have m9_2 : B1 < w9.heap.size := (by omega)
            have d9_3 : (B1 = w9.heap.size + 1) = False := (by simp only [eq_iff_iff, iff_false]; omega)
            have e9_3 : (w9.heap.size + 1 = B1) = False := (by simp only [eq_iff_iff, iff_false]; omega)
            have m9_3 : B1 < w9.heap.size + 1 := (by omega)
            have d9_4 : (B2 = w9.heap.size) = False := (by simp only [eq_iff_iff, iff_false]; omega)
            have e9_4 : (w9.heap.size = B2) = False := (by simp only [eq_iff_iff, iff_false]; omega)
            have m9_4 : B2 < w9.heap.size := (by omega)
            have d9_5 : (B2 = w9.heap.size + 1) = False := (by simp only [eq_iff_iff, iff_false]; omega)
            have e9_5 : (w9.heap.size + 1 = B2) = False := (by simp only [eq_iff_iff, iff_false]; omega)
            have m9_5 : B2 < w9.heap.size + 1 := (by omega)
            have d9_6 : (B7 = w9.heap.size) = False := (by simp only [eq_iff_iff, iff_false]; omega)
            have e9_6 : (w9.heap.size = B7) = False := (by simp only [eq_iff_iff, iff_false]; omega)
            have m9_6 : B7 < w9.heap.size := (by omega)
            have d9_7 : (B7 = w9.heap.size + 1) = False := (by simp only [eq_iff_iff, iff_false]; omega)
            have e9_7 : (w9.heap.size + 1 = B7) = False := (by simp only [eq_iff_iff, iff_false]; omega)
            have m9_7 : B7 < w9.heap.size + 1 := (by omega)
            clear hb9
            go_wp2_with fail
            obtain ⟨w10, hw10⟩ : ∃ V : World, V = (w9.alloc (.cells #[.int .u64 (L by_ 0), .int .u64 (L by_ 1), .int .u64 (L by_ 2), .int .u64 (L by_ 3)] 24)) := ⟨_, rfl⟩
            rw [← hw10]
            have r10_0 : Box w10 B0 #[.int .u64 0, .int .u64 0, .int .u64 0, .int .u64 0] 24 := by rw [hw10]; exact (r9_0).alloc _
            have r10_1 : Box w10 B1 #[.int .u64 (L a 0), .int .u64 (L a 1), .int .u64 (L a 2), .int .u64 (L a 3)] 24 := by rw [hw10]; exact (r9_1).alloc _
            have r10_2 : Box w10 B2 #[.int .u64 (L sn 0), .int .u64 (L sn 1), .int .u64 (L sn 2), .int .u64 (L sn 3)] 24 := by rw [hw10]; exact (r9_2).alloc _
            have r10_7 : Box w10 B7 #[.int .u64 (L sn 0), .int .u64 (L sn 1), .int .u64 (L sn 2), .int .u64 (L sn 3)] 24 := by rw [hw10]; exact (r9_7).alloc _
            have r10_8 : Box w10 w9.heap.size #[.int .u64 (L by_ 0), .int .u64 (L by_ 1), .int .u64 (L by_ 2), .int .u64 (L by_ 3)] 24 := by rw [hw10]; exact Box.new _ _ _ _ (by simp)
            have b10 : Bl w w10 := by rw [hw10]; exact (b9).alloc _
            have z10 : w9.heap.size + 1 ≤ w10.heap.size := (by rw [hw10]; simp only [World.alloc, World.setCell, World.drew, Array.size_push, Array.size_modify]; omega)
            have y10 : w.heap.size ≤ w10.heap.size := b10.size
            obtain ⟨B8, hB8⟩ : ∃ B, B = w9.heap.size := ⟨_, rfl⟩
            (try rw [← hB8]); rw [← hB8] at r10_8
            have lo8 : w.heap.size ≤ B8 := by omega
            have n8_0 : (B8 = B0) = False := (by simp only [eq_iff_iff, iff_false]; have := r9_0_l; omega)
            have n0_8 : (B0 = B8) = False := (by simp only [eq_iff_iff, iff_false]; have := r9_0_l; omega)
            have n8_1 : (B8 = B1) = False := (by simp only [eq_iff_iff, iff_false]; have := r9_1_l; omega)
            have n1_8 : (B1 = B8) = False := (by simp only [eq_iff_iff, iff_false]; have := r9_1_l; omega)
            have n8_2 : (B8 = B2) = False := (by simp only [eq_iff_iff, iff_false]; have := r9_2_l; omega)
            have n2_8 : (B2 = B8) = False := (by simp only [eq_iff_iff, iff_false]; have := r9_2_l; omega)
            have n8_7 : (B8 = B7) = False := (by simp only [eq_iff_iff, iff_false]; have := r9_7_l; omega)
            have n7_8 : (B7 = B8) = False := (by simp only [eq_iff_iff, iff_false]; have := r9_7_l; omega)
            clear hB8
            clear r9_0 r9_0_c r9_0_f r9_0_l r9_1 r9_1_c r9_1_f r9_1_l r9_2 r9_2_c r9_2_f r9_2_l r9_7 r9_7_c r9_7_f r9_7_l b9
            obtain ⟨r10_0_c, r10_0_f, r10_0_l⟩ := r10_0.tell
            obtain ⟨r10_1_c, r10_1_f, r10_1_l⟩ := r10_1.tell
            obtain ⟨r10_2_c, r10_2_f, r10_2_l⟩ := r10_2.tell
            obtain ⟨r10_7_c, r10_7_f, r10_7_l⟩ := r10_7.tell
            obtain ⟨r10_8_c, r10_8_f, r10_8_l⟩ := r10_8.tell
            clear hw10
            refine wp_region_told_at (fun l0 D a' w' => ∃ (x51 : Value) (x52 : Value) (x53 : Value) (x54 : Value) (x55 : Value) (x50 : Value) (x56 : Value) (x57 : Value) (x13 : Value) (x14 : Value) (C8 : Nat), a' = ⟨(((((((((((l0).set 51 x51).set 52 x52).set 53 x53).set 54 x54).set 55 x55).set 50 x50).set 56 x56).set 57 x57).set 13 x13).set 14 x14).toArray, []⟩ ∧ Bl w10 w' ∧ (D 0 → x51 = U a) ∧ (D 1 → x52 = .int .u64 x) ∧ (D 2 → x53 = U x) ∧ (D 3 → x54 = U by_) ∧ (D 4 → x55 = .tuple #[U an, .int .i64 0]) ∧ (D 5 → x50 = .tuple #[U an, .int .i64 0]) ∧ (D 6 → x56 = U an) ∧ (D 7 → x57 = .int .i64 0) ∧ (D 10 → x14 = .int .i64 0) ∧ Blk D 8 9 w10 w' x13 C8 #[.int .u64 0, .int .u64 0, .int .u64 0, .int .u64 0] #[.int .u64 (L an 0), .int .u64 (L an 1), .int .u64 (L an 2), .int .u64 (L an 3)] 24) (by kernel_rfl) (by kernel_rfl) ?_ ?_ ?_
            · exact fun l0 => ⟨l0.getD 51 undef, l0.getD 52 undef, l0.getD 53 undef, l0.getD 54 undef, l0.getD 55 undef, l0.getD 50 undef, l0.getD 56 undef, l0.getD 57 undef, l0.getD 13 undef, l0.getD 14 undef, 0, (by simp only [set_self]), (Bl.refl w10).drew, fun h => h.elim, fun h => h.elim, fun h => h.elim, fun h => h.elim, fun h => h.elim, fun h => h.elim, fun h => h.elim, fun h => h.elim, fun h => h.elim, Blk.start⟩
            · intro Inv hInv
              refine AllD.cons ?_ (AllD.cons ?_ (AllD.cons ?_ (AllD.cons ?_ (AllD.cons ?_ (AllD.cons ?_ (AllD.cons ?_ (AllD.cons ?_ (AllD.cons ?_ (AllD.cons ?_ (AllD.cons ?_ (AllD.nil)))))))))))
              · refine StepD.plain rfl rfl ?_
                intro D a' w' hn hp hI K hK
                obtain ⟨x51, x52, x53, x54, x55, x50, x56, x57, x13, x14, C8, ha, hbl, zf0, zf1, zf2, zf3, zf4, zf5, zf6, zf7, zf10, zg8⟩ := (hInv.out D a' w').1 hI
                subst ha; clear hI
                (try simp only [List.set_cons_zero, List.set_cons_succ])
                have bz := r10_1.call hbl
                obtain ⟨bc, bf, bl_⟩ := bz.tell
                go_simp
                exact hK.out _ _ ((hInv.out _ _ _).2 ⟨_, _, _, _, _, _, _, _, _, _, C8, rfl, hbl, fun _ => (by first | rfl | go_num | (simp; done)), told_next zf1 (by decide), told_next zf2 (by decide), told_next zf3 (by decide), told_next zf4 (by decide), told_next zf5 (by decide), told_next zf6 (by decide), told_next zf7 (by decide), told_next zf10 (by decide), zg8.next (by decide) (by decide) (fun _ _ h => h)⟩)
              · refine StepD.plain rfl rfl ?_
                intro D a' w' hn hp hI K hK
                obtain ⟨x51, x52, x53, x54, x55, x50, x56, x57, x13, x14, C8, ha, hbl, zf0, zf1, zf2, zf3, zf4, zf5, zf6, zf7, zf10, zg8⟩ := (hInv.out D a' w').1 hI
                subst ha; clear hI
                (try simp only [List.set_cons_zero, List.set_cons_succ])
                go_simp
                exact hK.out _ _ ((hInv.out _ _ _).2 ⟨_, _, _, _, _, _, _, _, _, _, C8, rfl, hbl, told_next zf0 (by decide), fun _ => (by first | rfl | go_num | (simp; done)), told_next zf2 (by decide), told_next zf3 (by decide), told_next zf4 (by decide), told_next zf5 (by decide), told_next zf6 (by decide), told_next zf7 (by decide), told_next zf10 (by decide), zg8.next (by decide) (by decide) (fun _ _ h => h)⟩)
              · refine StepD.plain rfl rfl ?_
                intro D a' w' hn hp hI K hK
                obtain ⟨x51, x52, x53, x54, x55, x50, x56, x57, x13, x14, C8, ha, hbl, zf0, zf1, zf2, zf3, zf4, zf5, zf6, zf7, zf10, zg8⟩ := (hInv.out D a' w').1 hI
                subst ha; clear hI
                (try simp only [List.set_cons_zero, List.set_cons_succ])
                obtain ⟨p2_1, _⟩ := hp
                have p2_1 : D 1 := p2_1 rfl
                have e1 := zf1 p2_1; subst e1
                go_simp
                refine (f2 _).mono ?_
                rintro e w2 ⟨rfl, hbc⟩
                go_wp2_with fail
                exact hK.out _ _ ((hInv.out _ _ _).2 ⟨_, _, _, _, _, _, _, _, _, _, C8, rfl, hbl.trans hbc, told_next zf0 (by decide), fun _ => rfl, fun _ => (by first | rfl | go_num | (simp; done)), told_next zf3 (by decide), told_next zf4 (by decide), told_next zf5 (by decide), told_next zf6 (by decide), told_next zf7 (by decide), told_next zf10 (by decide), zg8.next (by decide) (by decide) (fun _ _ h => h.call hbc)⟩)
              · refine StepD.plain rfl rfl ?_
                intro D a' w' hn hp hI K hK
                obtain ⟨x51, x52, x53, x54, x55, x50, x56, x57, x13, x14, C8, ha, hbl, zf0, zf1, zf2, zf3, zf4, zf5, zf6, zf7, zf10, zg8⟩ := (hInv.out D a' w').1 hI
                subst ha; clear hI
                (try simp only [List.set_cons_zero, List.set_cons_succ])
                have bz := r10_8.call hbl
                obtain ⟨bc, bf, bl_⟩ := bz.tell
                go_simp
                exact hK.out _ _ ((hInv.out _ _ _).2 ⟨_, _, _, _, _, _, _, _, _, _, C8, rfl, hbl, told_next zf0 (by decide), told_next zf1 (by decide), told_next zf2 (by decide), fun _ => (by first | rfl | go_num | (simp; done)), told_next zf4 (by decide), told_next zf5 (by decide), told_next zf6 (by decide), told_next zf7 (by decide), told_next zf10 (by decide), zg8.next (by decide) (by decide) (fun _ _ h => h)⟩)
              · refine StepD.plain rfl rfl ?_
                intro D a' w' hn hp hI K hK
                obtain ⟨x51, x52, x53, x54, x55, x50, x56, x57, x13, x14, C8, ha, hbl, zf0, zf1, zf2, zf3, zf4, zf5, zf6, zf7, zf10, zg8⟩ := (hInv.out D a' w').1 hI
                subst ha; clear hI
                (try simp only [List.set_cons_zero, List.set_cons_succ])
                obtain ⟨p4_0, p4_2, p4_3, _, _⟩ := hp
                have p4_0 : D 0 := p4_0 rfl
                have p4_2 : D 2 := p4_2 rfl
                have p4_3 : D 3 := p4_3 rfl
                have e0 := zf0 p4_0; subst e0
                have e2 := zf2 p4_2; subst e2
                have e3 := zf3 p4_3; subst e3
                go_simp
                refine (a4 _).mono ?_
                rintro e w2 ⟨rfl, hbc⟩
                go_wp2_with fail
                exact hK.out _ _ ((hInv.out _ _ _).2 ⟨_, _, _, _, _, _, _, _, _, _, C8, rfl, hbl.trans hbc, fun _ => rfl, told_next zf1 (by decide), fun _ => rfl, fun _ => rfl, fun _ => (by first | rfl | go_num | (simp; done)), told_next zf5 (by decide), told_next zf6 (by decide), told_next zf7 (by decide), told_next zf10 (by decide), zg8.next (by decide) (by decide) (fun _ _ h => h.call hbc)⟩)
              · refine StepD.plain rfl rfl ?_
                intro D a' w' hn hp hI K hK
                obtain ⟨x51, x52, x53, x54, x55, x50, x56, x57, x13, x14, C8, ha, hbl, zf0, zf1, zf2, zf3, zf4, zf5, zf6, zf7, zf10, zg8⟩ := (hInv.out D a' w').1 hI
                subst ha; clear hI
                (try simp only [List.set_cons_zero, List.set_cons_succ])
                obtain ⟨p5_4, _⟩ := hp
                have p5_4 : D 4 := p5_4 rfl
                have e4 := zf4 p5_4; subst e4
                go_simp
                exact hK.out _ _ ((hInv.out _ _ _).2 ⟨_, _, _, _, _, _, _, _, _, _, C8, rfl, hbl, told_next zf0 (by decide), told_next zf1 (by decide), told_next zf2 (by decide), told_next zf3 (by decide), fun _ => rfl, fun _ => (by first | rfl | go_num | (simp; done)), told_next zf6 (by decide), told_next zf7 (by decide), told_next zf10 (by decide), zg8.next (by decide) (by decide) (fun _ _ h => h)⟩)
              · refine StepD.plain rfl rfl ?_
                intro D a' w' hn hp hI K hK
                obtain ⟨x51, x52, x53, x54, x55, x50, x56, x57, x13, x14, C8, ha, hbl, zf0, zf1, zf2, zf3, zf4, zf5, zf6, zf7, zf10, zg8⟩ := (hInv.out D a' w').1 hI
                subst ha; clear hI
                (try simp only [List.set_cons_zero, List.set_cons_succ])
                obtain ⟨p6_5, _⟩ := hp
                have p6_5 : D 5 := p6_5 rfl
                have e5 := zf5 p6_5; subst e5
                go_simp
                exact hK.out _ _ ((hInv.out _ _ _).2 ⟨_, _, _, _, _, _, _, _, _, _, C8, rfl, hbl, told_next zf0 (by decide), told_next zf1 (by decide), told_next zf2 (by decide), told_next zf3 (by decide), told_next zf4 (by decide), fun _ => rfl, fun _ => (by first | rfl | go_num | (simp; done)), told_next zf7 (by decide), told_next zf10 (by decide), zg8.next (by decide) (by decide) (fun _ _ h => h)⟩)
              · refine StepD.plain rfl rfl ?_
                intro D a' w' hn hp hI K hK
                obtain ⟨x51, x52, x53, x54, x55, x50, x56, x57, x13, x14, C8, ha, hbl, zf0, zf1, zf2, zf3, zf4, zf5, zf6, zf7, zf10, zg8⟩ := (hInv.out D a' w').1 hI
                subst ha; clear hI
                (try simp only [List.set_cons_zero, List.set_cons_succ])
                obtain ⟨p7_5, _, _⟩ := hp
                have p7_5 : D 5 := p7_5 rfl
                have e5 := zf5 p7_5; subst e5
                go_simp
                exact hK.out _ _ ((hInv.out _ _ _).2 ⟨_, _, _, _, _, _, _, _, _, _, C8, rfl, hbl, told_next zf0 (by decide), told_next zf1 (by decide), told_next zf2 (by decide), told_next zf3 (by decide), told_next zf4 (by decide), fun _ => rfl, told_next zf6 (by decide), fun _ => (by first | rfl | go_num | (simp; done)), told_next zf10 (by decide), zg8.next (by decide) (by decide) (fun _ _ h => h)⟩)
              · refine StepD.plain rfl rfl ?_
                intro D a' w' hn hp hI K hK
                obtain ⟨x51, x52, x53, x54, x55, x50, x56, x57, x13, x14, C8, ha, hbl, zf0, zf1, zf2, zf3, zf4, zf5, zf6, zf7, zf10, zg8⟩ := (hInv.out D a' w').1 hI
                subst ha; clear hI
                (try simp only [List.set_cons_zero, List.set_cons_succ])
                go_simp
                exact hK.out _ _ ((hInv.out _ _ _).2 ⟨_, _, _, _, _, _, _, _, _, _, _, rfl, hbl.alloc _, told_next zf0 (by decide), told_next zf1 (by decide), told_next zf2 (by decide), told_next zf3 (by decide), told_next zf4 (by decide), told_next zf5 (by decide), told_next zf6 (by decide), told_next zf7 (by decide), told_next zf10 (by decide), zg8.made hn (by decide) hbl.size⟩)
              · refine StepD.plain rfl rfl ?_
                intro D a' w' hn hp hI K hK
                obtain ⟨x51, x52, x53, x54, x55, x50, x56, x57, x13, x14, C8, ha, hbl, zf0, zf1, zf2, zf3, zf4, zf5, zf6, zf7, zf10, zg8⟩ := (hInv.out D a' w').1 hI
                subst ha; clear hI
                (try simp only [List.set_cons_zero, List.set_cons_succ])
                obtain ⟨p9_8, p9_6, p9_4, p9_0, p9_1, p9_2, p9_3, _, p9_5, _, _, _, _⟩ := hp
                have p9_0 : D 0 := p9_0 rfl
                have p9_1 : D 1 := p9_1 rfl
                have p9_2 : D 2 := p9_2 rfl
                have p9_3 : D 3 := p9_3 rfl
                have p9_4 : D 4 := p9_4 rfl
                have p9_5 : D 5 := p9_5 rfl
                have p9_6 : D 6 := p9_6 rfl
                have p9_8 : D 8 := p9_8 rfl
                obtain ⟨e13, lw13, ha13, hz13⟩ := zg8.2 p9_8
                subst e13
                have bz := hz13 hn
                obtain ⟨bc, bf, bl_⟩ := bz.tell
                clear ha13 hz13
                have e6 := zf6 p9_6; subst e6
                go_simp
                have lwb : w10.heap.size ≤ C8 := lw13
                exact hK.out _ _ ((hInv.out _ _ _).2 ⟨_, _, _, _, _, _, _, _, _, _, C8, rfl, ((((hbl).setCell (by simp only []; omega) _).setCell (by simp only []; omega) _).setCell (by simp only []; omega) _).setCell (by simp only []; omega) _, told_next zf0 (by decide), told_next zf1 (by decide), told_next zf2 (by decide), told_next zf3 (by decide), told_next zf4 (by decide), told_next zf5 (by decide), fun _ => rfl, told_next zf7 (by decide), told_next zf10 (by decide), zg8.filled p9_8 hn (fun h => (((((h).set _ _).set _ _).set _ _).set _ _).cells rfl)⟩)
              · refine StepD.plain rfl rfl ?_
                intro D a' w' hn hp hI K hK
                obtain ⟨x51, x52, x53, x54, x55, x50, x56, x57, x13, x14, C8, ha, hbl, zf0, zf1, zf2, zf3, zf4, zf5, zf6, zf7, zf10, zg8⟩ := (hInv.out D a' w').1 hI
                subst ha; clear hI
                (try simp only [List.set_cons_zero, List.set_cons_succ])
                obtain ⟨p10_7, p10_9, p10_0, p10_1, p10_2, p10_3, p10_4, p10_5, p10_6, _, p10_8, _, _⟩ := hp
                have p10_0 : D 0 := p10_0 rfl
                have p10_1 : D 1 := p10_1 rfl
                have p10_2 : D 2 := p10_2 rfl
                have p10_3 : D 3 := p10_3 rfl
                have p10_4 : D 4 := p10_4 rfl
                have p10_5 : D 5 := p10_5 rfl
                have p10_6 : D 6 := p10_6 rfl
                have p10_7 : D 7 := p10_7 rfl
                have p10_8 : D 8 := p10_8 rfl
                have p10_9 : D 9 := p10_9 rfl
                have e7 := zf7 p10_7; subst e7
                go_simp
                exact hK.out _ _ ((hInv.out _ _ _).2 ⟨_, _, _, _, _, _, _, _, _, _, C8, rfl, hbl, told_next zf0 (by decide), told_next zf1 (by decide), told_next zf2 (by decide), told_next zf3 (by decide), told_next zf4 (by decide), told_next zf5 (by decide), told_next zf6 (by decide), fun _ => rfl, fun _ => (by first | rfl | go_num | (simp; done)), zg8.next (by decide) (by decide) (fun _ _ h => h)⟩)
            · intro D a' w11 hall hI
              obtain ⟨x51, x52, x53, x54, x55, x50, x56, x57, x13, x14, B9, ha, hb11, zf0, zf1, zf2, zf3, zf4, zf5, zf6, zf7, zf10, zg8⟩ := hI
              subst ha
              (try simp only [List.set_cons_zero, List.set_cons_succ])
              have e := zf0 (hall 0 (by decide)); subst e
              have e := zf1 (hall 1 (by decide)); subst e
              have e := zf2 (hall 2 (by decide)); subst e
              have e := zf3 (hall 3 (by decide)); subst e
              have e := zf4 (hall 4 (by decide)); subst e
              have e := zf5 (hall 5 (by decide)); subst e
              have e := zf6 (hall 6 (by decide)); subst e
              have e := zf7 (hall 7 (by decide)); subst e
              have e := zf10 (hall 10 (by decide)); subst e
              obtain ⟨e, lw9, ha9, hz9⟩ := zg8.2 (hall 8 (by decide))
              subst e
              have q9 := ha9 (hall 9 (by decide))
              clear ha9 hz9 zg8
              clear hall
              (try simp only [Act.put, List.setIfInBounds_toArray, List.set_cons_zero, List.set_cons_succ])
              have lo9 : w.heap.size ≤ B9 := (by have := y10; omega)
              have n9_0 : (B9 = B0) = False := (by simp only [eq_iff_iff, iff_false]; have := r10_0_l; omega)
              have n0_9 : (B0 = B9) = False := (by simp only [eq_iff_iff, iff_false]; have := r10_0_l; omega)
              have n9_1 : (B9 = B1) = False := (by simp only [eq_iff_iff, iff_false]; have := r10_1_l; omega)
              have n1_9 : (B1 = B9) = False := (by simp only [eq_iff_iff, iff_false]; have := r10_1_l; omega)
              have n9_2 : (B9 = B2) = False := (by simp only [eq_iff_iff, iff_false]; have := r10_2_l; omega)
              have n2_9 : (B2 = B9) = False := (by simp only [eq_iff_iff, iff_false]; have := r10_2_l; omega)
              have n9_7 : (B9 = B7) = False := (by simp only [eq_iff_iff, iff_false]; have := r10_7_l; omega)
              have n7_9 : (B7 = B9) = False := (by simp only [eq_iff_iff, iff_false]; have := r10_7_l; omega)
              have n9_8 : (B9 = B8) = False := (by simp only [eq_iff_iff, iff_false]; have := r10_8_l; omega)
              have n8_9 : (B8 = B9) = False := (by simp only [eq_iff_iff, iff_false]; have := r10_8_l; omega)
              have r11_0 : Box w11 B0 #[.int .u64 0, .int .u64 0, .int .u64 0, .int .u64 0] 24 := r10_0.call hb11
              have r11_1 : Box w11 B1 #[.int .u64 (L a 0), .int .u64 (L a 1), .int .u64 (L a 2), .int .u64 (L a 3)] 24 := r10_1.call hb11
              have r11_2 : Box w11 B2 #[.int .u64 (L sn 0), .int .u64 (L sn 1), .int .u64 (L sn 2), .int .u64 (L sn 3)] 24 := r10_2.call hb11
              have r11_7 : Box w11 B7 #[.int .u64 (L sn 0), .int .u64 (L sn 1), .int .u64 (L sn 2), .int .u64 (L sn 3)] 24 := r10_7.call hb11
              have r11_8 : Box w11 B8 #[.int .u64 (L by_ 0), .int .u64 (L by_ 1), .int .u64 (L by_ 2), .int .u64 (L by_ 3)] 24 := r10_8.call hb11
              have r11_9 : Box w11 B9 #[.int .u64 (L an 0), .int .u64 (L an 1), .int .u64 (L an 2), .int .u64 (L an 3)] 24 := q9
              have b11 : Bl w w11 := Bl.trans b10 hb11
              have z11 : w10.heap.size ≤ w11.heap.size := (by have := hb11.size; omega)
              have y11 : w.heap.size ≤ w11.heap.size := b11.size
              clear r10_0 r10_0_c r10_0_f r10_0_l r10_1 r10_1_c r10_1_f r10_1_l r10_2 r10_2_c r10_2_f r10_2_l r10_7 r10_7_c r10_7_f r10_7_l r10_8 r10_8_c r10_8_f r10_8_l b10
              obtain ⟨r11_0_c, r11_0_f, r11_0_l⟩ := r11_0.tell
              obtain ⟨r11_1_c, r11_1_f, r11_1_l⟩ := r11_1.tell
              obtain ⟨r11_2_c, r11_2_f, r11_2_l⟩ := r11_2.tell
              obtain ⟨r11_7_c, r11_7_f, r11_7_l⟩ := r11_7.tell
              obtain ⟨r11_8_c, r11_8_f, r11_8_l⟩ := r11_8.tell
              obtain ⟨r11_9_c, r11_9_f, r11_9_l⟩ := r11_9.tell
              clear hb11 lw9
              go_wp2_with fail
              obtain ⟨w12, hw12⟩ : ∃ V : World, V = ((((w11.setCell ⟨B1, 0, none⟩ (.int .u64 (L an 0))).setCell ⟨B1, 1, none⟩ (.int .u64 (L an 1))).setCell ⟨B1, 2, none⟩ (.int .u64 (L an 2))).setCell ⟨B1, 3, none⟩ (.int .u64 (L an 3))) := ⟨_, rfl⟩
              rw [← hw12]
              have r12_0 : Box w12 B0 #[.int .u64 0, .int .u64 0, .int .u64 0, .int .u64 0] 24 := by rw [hw12]; exact ((((r11_0).far _ _ (by simp only []; first | omega | exact of_eq_false (by assumption))).far _ _ (by simp only []; first | omega | exact of_eq_false (by assumption))).far _ _ (by simp only []; first | omega | exact of_eq_false (by assumption))).far _ _ (by simp only []; first | omega | exact of_eq_false (by assumption))
              have r12_1 : Box w12 B1 #[.int .u64 (L an 0), .int .u64 (L an 1), .int .u64 (L an 2), .int .u64 (L an 3)] 24 := by rw [hw12]; exact (((((r11_1).set _ _).set _ _).set _ _).set _ _).cells rfl
              have r12_2 : Box w12 B2 #[.int .u64 (L sn 0), .int .u64 (L sn 1), .int .u64 (L sn 2), .int .u64 (L sn 3)] 24 := by rw [hw12]; exact ((((r11_2).far _ _ (by simp only []; first | omega | exact of_eq_false (by assumption))).far _ _ (by simp only []; first | omega | exact of_eq_false (by assumption))).far _ _ (by simp only []; first | omega | exact of_eq_false (by assumption))).far _ _ (by simp only []; first | omega | exact of_eq_false (by assumption))
              have r12_7 : Box w12 B7 #[.int .u64 (L sn 0), .int .u64 (L sn 1), .int .u64 (L sn 2), .int .u64 (L sn 3)] 24 := by rw [hw12]; exact ((((r11_7).far _ _ (by simp only []; first | omega | exact of_eq_false (by assumption))).far _ _ (by simp only []; first | omega | exact of_eq_false (by assumption))).far _ _ (by simp only []; first | omega | exact of_eq_false (by assumption))).far _ _ (by simp only []; first | omega | exact of_eq_false (by assumption))
              have r12_8 : Box w12 B8 #[.int .u64 (L by_ 0), .int .u64 (L by_ 1), .int .u64 (L by_ 2), .int .u64 (L by_ 3)] 24 := by rw [hw12]; exact ((((r11_8).far _ _ (by simp only []; first | omega | exact of_eq_false (by assumption))).far _ _ (by simp only []; first | omega | exact of_eq_false (by assumption))).far _ _ (by simp only []; first | omega | exact of_eq_false (by assumption))).far _ _ (by simp only []; first | omega | exact of_eq_false (by assumption))
              have r12_9 : Box w12 B9 #[.int .u64 (L an 0), .int .u64 (L an 1), .int .u64 (L an 2), .int .u64 (L an 3)] 24 := by rw [hw12]; exact ((((r11_9).far _ _ (by simp only []; first | omega | exact of_eq_false (by assumption))).far _ _ (by simp only []; first | omega | exact of_eq_false (by assumption))).far _ _ (by simp only []; first | omega | exact of_eq_false (by assumption))).far _ _ (by simp only []; first | omega | exact of_eq_false (by assumption))
              have b12 : Bl w w12 := by rw [hw12]; exact ((((b11).setCell (by simp only []; omega) _).setCell (by simp only []; omega) _).setCell (by simp only []; omega) _).setCell (by simp only []; omega) _
              have z12 : w11.heap.size ≤ w12.heap.size := (by rw [hw12]; simp only [World.alloc, World.setCell, World.drew, Array.size_push, Array.size_modify]; omega)
              have y12 : w.heap.size ≤ w12.heap.size := b12.size
              clear r11_0 r11_0_c r11_0_f r11_0_l r11_1 r11_1_c r11_1_f r11_1_l r11_2 r11_2_c r11_2_f r11_2_l r11_7 r11_7_c r11_7_f r11_7_l r11_8 r11_8_c r11_8_f r11_8_l r11_9 r11_9_c r11_9_f r11_9_l b11
              obtain ⟨r12_0_c, r12_0_f, r12_0_l⟩ := r12_0.tell
              obtain ⟨r12_1_c, r12_1_f, r12_1_l⟩ := r12_1.tell
              obtain ⟨r12_2_c, r12_2_f, r12_2_l⟩ := r12_2.tell
              obtain ⟨r12_7_c, r12_7_f, r12_7_l⟩ := r12_7.tell
              obtain ⟨r12_8_c, r12_8_f, r12_8_l⟩ := r12_8.tell
              obtain ⟨r12_9_c, r12_9_f, r12_9_l⟩ := r12_9.tell
              clear hw12
              go_roundg (g)
              case measure => omega
              case rel =>
                exact ⟨i + 1, an, sn, hkk.out, (by omega), h6, h5, HN, (by first | rfl | go_num | (simp; done)), b12, r12_0, r12_1, r12_2⟩
          · skip
            rw [Nat.div_eq_of_lt h5, show (((0 : Nat) : Int) == 0) = true from rfl] at a1
            rw [show mdE a x by_ = 11 by unfold mdE; rw [if_neg hne, if_neg h6]] at a4
            have hr : R = none := by have := hbb.out; rw [bb_wide hz (by rw [← hby]; omega)] at this; simpa using this.symm
            have V1 : Hid (V = 0) := HV.out.trans (by rw [hr]; rfl)
            have E1 : Hid (E = 183) := HE.out.trans (by rw [hr]; rfl)
            generalize mdV a x by_ = md at *
            generalize (all + a) % T256 = s at *
            clear hr hbb hby h5 h6 hz hne hfi hk
            go_wp2_with fail
            refine (a1 _).mono ?_
            rintro e w13 ⟨rfl, hb13⟩
            have r13_0 : Box w13 B0 #[.int .u64 0, .int .u64 0, .int .u64 0, .int .u64 0] 24 := (r3_0).call hb13
            have r13_1 : Box w13 B1 #[.int .u64 (L a 0), .int .u64 (L a 1), .int .u64 (L a 2), .int .u64 (L a 3)] 24 := (r3_1).call hb13
            have r13_2 : Box w13 B2 #[.int .u64 (L all 0), .int .u64 (L all 1), .int .u64 (L all 2), .int .u64 (L all 3)] 24 := (r3_2).call hb13
            have b13 : Bl w w13 := Bl.trans (b3) hb13
            have z13 : wr.heap.size ≤ w13.heap.size := (by have := hb13.size; (try simp only [World.alloc, World.setCell, World.drew, Array.size_push, Array.size_modify] at this); omega)
            have y13 : w.heap.size ≤ w13.heap.size := b13.size
            clear r3_0 r3_0_c r3_0_f r3_0_l r3_1 r3_1_c r3_1_f r3_1_l r3_2 r3_2_c r3_2_f r3_2_l b3
            obtain ⟨r13_0_c, r13_0_f, r13_0_l⟩ := r13_0.tell
            obtain ⟨r13_1_c, r13_1_f, r13_1_l⟩ := r13_1.tell
            obtain ⟨r13_2_c, r13_2_f, r13_2_l⟩ := r13_2.tell
            have d13_0 : (B0 = w13.heap.size) = False := (by simp only [eq_iff_iff, iff_false]; omega)
            have e13_0 : (w13.heap.size = B0) = False := (by simp only [eq_iff_iff, iff_false]; omega)
            have m13_0 : B0 < w13.heap.size := (by omega)
            have d13_1 : (B0 = w13.heap.size + 1) = False := (by simp only [eq_iff_iff, iff_false]; omega)
            have e13_1 : (w13.heap.size + 1 = B0) = False := (by simp only [eq_iff_iff, iff_false]; omega)
            have m13_1 : B0 < w13.heap.size + 1 := (by omega)
            have d13_2 : (B1 = w13.heap.size) = False := (by simp only [eq_iff_iff, iff_false]; omega)
            have e13_2 : (w13.heap.size = B1) = False := (by simp only [eq_iff_iff, iff_false]; omega)
            have m13_2 : B1 < w13.heap.size := (by omega)
            have d13_3 : (B1 = w13.heap.size + 1) = False := (by simp only [eq_iff_iff, iff_false]; omega)
            have e13_3 : (w13.heap.size + 1 = B1) = False := (by simp only [eq_iff_iff, iff_false]; omega)
            have m13_3 : B1 < w13.heap.size + 1 := (by omega)
            have d13_4 : (B2 = w13.heap.size) = False := (by simp only [eq_iff_iff, iff_false]; omega)
            have e13_4 : (w13.heap.size = B2) = False := (by simp only [eq_iff_iff, iff_false]; omega)
            have m13_4 : B2 < w13.heap.size := (by omega)
            have d13_5 : (B2 = w13.heap.size + 1) = False := (by simp only [eq_iff_iff, iff_false]; omega)
            have e13_5 : (w13.heap.size + 1 = B2) = False := (by simp only [eq_iff_iff, iff_false]; omega)
            have m13_5 : B2 < w13.heap.size + 1 := (by omega)
            clear hb13
            go_wp2_with fail
            refine (f1 _).mono ?_
            rintro e w14 ⟨rfl, hb14⟩
            have r14_0 : Box w14 B0 #[.int .u64 0, .int .u64 0, .int .u64 0, .int .u64 0] 24 := ((((((r13_0).far _ _ (by simp only []; first | omega | exact of_eq_false (by assumption))).far _ _ (by simp only []; first | omega | exact of_eq_false (by assumption))).far _ _ (by simp only []; first | omega | exact of_eq_false (by assumption))).far _ _ (by simp only []; first | omega | exact of_eq_false (by assumption))).alloc _).call hb14
            have r14_1 : Box w14 B1 #[.int .u64 (L a 0), .int .u64 (L a 1), .int .u64 (L a 2), .int .u64 (L a 3)] 24 := ((((((r13_1).far _ _ (by simp only []; first | omega | exact of_eq_false (by assumption))).far _ _ (by simp only []; first | omega | exact of_eq_false (by assumption))).far _ _ (by simp only []; first | omega | exact of_eq_false (by assumption))).far _ _ (by simp only []; first | omega | exact of_eq_false (by assumption))).alloc _).call hb14
            have r14_2 : Box w14 B2 #[.int .u64 (L s 0), .int .u64 (L s 1), .int .u64 (L s 2), .int .u64 (L s 3)] 24 := (((((((r13_2).set _ _).set _ _).set _ _).set _ _).alloc _).cells rfl).call hb14
            have r14_10 : Box w14 w13.heap.size #[.int .u64 (L s 0), .int .u64 (L s 1), .int .u64 (L s 2), .int .u64 (L s 3)] 24 := (Box.new _ _ _ _ (by simp)).call hb14
            have b14 : Bl w w14 := Bl.trans ((((((b13).setCell (by simp only []; omega) _).setCell (by simp only []; omega) _).setCell (by simp only []; omega) _).setCell (by simp only []; omega) _).alloc _) hb14
            have z14 : w13.heap.size + 1 ≤ w14.heap.size := (by have := hb14.size; (try simp only [World.alloc, World.setCell, World.drew, Array.size_push, Array.size_modify] at this); omega)
            have y14 : w.heap.size ≤ w14.heap.size := b14.size
            obtain ⟨B10, hB10⟩ : ∃ B, B = w13.heap.size := ⟨_, rfl⟩
            (try rw [← hB10]); rw [← hB10] at r14_10
            have lo10 : w.heap.size ≤ B10 := by omega
            have n10_0 : (B10 = B0) = False := (by simp only [eq_iff_iff, iff_false]; have := r13_0_l; omega)
            have n0_10 : (B0 = B10) = False := (by simp only [eq_iff_iff, iff_false]; have := r13_0_l; omega)
            have n10_1 : (B10 = B1) = False := (by simp only [eq_iff_iff, iff_false]; have := r13_1_l; omega)
            have n1_10 : (B1 = B10) = False := (by simp only [eq_iff_iff, iff_false]; have := r13_1_l; omega)
            have n10_2 : (B10 = B2) = False := (by simp only [eq_iff_iff, iff_false]; have := r13_2_l; omega)
            have n2_10 : (B2 = B10) = False := (by simp only [eq_iff_iff, iff_false]; have := r13_2_l; omega)
            clear hB10
            clear r13_0 r13_0_c r13_0_f r13_0_l r13_1 r13_1_c r13_1_f r13_1_l r13_2 r13_2_c r13_2_f r13_2_l b13
            obtain ⟨r14_0_c, r14_0_f, r14_0_l⟩ := r14_0.tell
            obtain ⟨r14_1_c, r14_1_f, r14_1_l⟩ := r14_1.tell
            obtain ⟨r14_2_c, r14_2_f, r14_2_l⟩ := r14_2.tell
            obtain ⟨r14_10_c, r14_10_f, r14_10_l⟩ := r14_10.tell
            clear hb14
            go_wp2_with fail
            refine (a2 _).mono ?_
            rintro e w15 ⟨rfl, hb15⟩
            have r15_0 : Box w15 B0 #[.int .u64 0, .int .u64 0, .int .u64 0, .int .u64 0] 24 := (r14_0).call hb15
            have r15_1 : Box w15 B1 #[.int .u64 (L a 0), .int .u64 (L a 1), .int .u64 (L a 2), .int .u64 (L a 3)] 24 := (r14_1).call hb15
            have r15_2 : Box w15 B2 #[.int .u64 (L s 0), .int .u64 (L s 1), .int .u64 (L s 2), .int .u64 (L s 3)] 24 := (r14_2).call hb15
            have r15_10 : Box w15 B10 #[.int .u64 (L s 0), .int .u64 (L s 1), .int .u64 (L s 2), .int .u64 (L s 3)] 24 := (r14_10).call hb15
            have b15 : Bl w w15 := Bl.trans (b14) hb15
            have z15 : w14.heap.size ≤ w15.heap.size := (by have := hb15.size; (try simp only [World.alloc, World.setCell, World.drew, Array.size_push, Array.size_modify] at this); omega)
            have y15 : w.heap.size ≤ w15.heap.size := b15.size
            clear r14_0 r14_0_c r14_0_f r14_0_l r14_1 r14_1_c r14_1_f r14_1_l r14_2 r14_2_c r14_2_f r14_2_l r14_10 r14_10_c r14_10_f r14_10_l b14
            obtain ⟨r15_0_c, r15_0_f, r15_0_l⟩ := r15_0.tell
            obtain ⟨r15_1_c, r15_1_f, r15_1_l⟩ := r15_1.tell
            obtain ⟨r15_2_c, r15_2_f, r15_2_l⟩ := r15_2.tell
            obtain ⟨r15_10_c, r15_10_f, r15_10_l⟩ := r15_10.tell
            clear hb15
            go_wp2_with fail
            refine (a3 _).mono ?_
            rintro e w16 ⟨rfl, hb16⟩
            have r16_0 : Box w16 B0 #[.int .u64 0, .int .u64 0, .int .u64 0, .int .u64 0] 24 := (r15_0).call hb16
            have r16_1 : Box w16 B1 #[.int .u64 (L a 0), .int .u64 (L a 1), .int .u64 (L a 2), .int .u64 (L a 3)] 24 := (r15_1).call hb16
            have r16_2 : Box w16 B2 #[.int .u64 (L s 0), .int .u64 (L s 1), .int .u64 (L s 2), .int .u64 (L s 3)] 24 := (r15_2).call hb16
            have r16_10 : Box w16 B10 #[.int .u64 (L s 0), .int .u64 (L s 1), .int .u64 (L s 2), .int .u64 (L s 3)] 24 := (r15_10).call hb16
            have b16 : Bl w w16 := Bl.trans (b15) hb16
            have z16 : w15.heap.size ≤ w16.heap.size := (by have := hb16.size; (try simp only [World.alloc, World.setCell, World.drew, Array.size_push, Array.size_modify] at this); omega)
            have y16 : w.heap.size ≤ w16.heap.size := b16.size
            clear r15_0 r15_0_c r15_0_f r15_0_l r15_1 r15_1_c r15_1_f r15_1_l r15_2 r15_2_c r15_2_f r15_2_l r15_10 r15_10_c r15_10_f r15_10_l b15
            obtain ⟨r16_0_c, r16_0_f, r16_0_l⟩ := r16_0.tell
            obtain ⟨r16_1_c, r16_1_f, r16_1_l⟩ := r16_1.tell
            obtain ⟨r16_2_c, r16_2_f, r16_2_l⟩ := r16_2.tell
            obtain ⟨r16_10_c, r16_10_f, r16_10_l⟩ := r16_10.tell
            have d16_0 : (B0 = w16.heap.size) = False := (by simp only [eq_iff_iff, iff_false]; omega)
            have e16_0 : (w16.heap.size = B0) = False := (by simp only [eq_iff_iff, iff_false]; omega)
            have m16_0 : B0 < w16.heap.size := (by omega)
            have d16_1 : (B0 = w16.heap.size + 1) = False := (by simp only [eq_iff_iff, iff_false]; omega)
            have e16_1 : (w16.heap.size + 1 = B0) = False := (by simp only [eq_iff_iff, iff_false]; omega)
            have m16_1 : B0 < w16.heap.size + 1 := (by omega)
            have d16_2 : (B1 = w16.heap.size) = False := (by simp only [eq_iff_iff, iff_false]; omega)
            have e16_2 : (w16.heap.size = B1) = False := (by simp only [eq_iff_iff, iff_false]; omega)
            have m16_2 : B1 < w16.heap.size := (by omega)
            have d16_3 : (B1 = w16.heap.size + 1) = False := (by simp only [eq_iff_iff, iff_false]; omega)
            have e16_3 : (w16.heap.size + 1 = B1) = False := (by simp only [eq_iff_iff, iff_false]; omega)
            have m16_3 : B1 < w16.heap.size + 1 := (by omega)
            have d16_4 : (B2 = w16.heap.size) = False := (by simp only [eq_iff_iff, iff_false]; omega)
            have e16_4 : (w16.heap.size = B2) = False := (by simp only [eq_iff_iff, iff_false]; omega)
            have m16_4 : B2 < w16.heap.size := (by omega)
            have d16_5 : (B2 = w16.heap.size + 1) = False := (by simp only [eq_iff_iff, iff_false]; omega)
            have e16_5 : (w16.heap.size + 1 = B2) = False := (by simp only [eq_iff_iff, iff_false]; omega)
            have m16_5 : B2 < w16.heap.size + 1 := (by omega)
            have d16_6 : (B10 = w16.heap.size) = False := (by simp only [eq_iff_iff, iff_false]; omega)
            have e16_6 : (w16.heap.size = B10) = False := (by simp only [eq_iff_iff, iff_false]; omega)
            have m16_6 : B10 < w16.heap.size := (by omega)
            have d16_7 : (B10 = w16.heap.size + 1) = False := (by simp only [eq_iff_iff, iff_false]; omega)
            have e16_7 : (w16.heap.size + 1 = B10) = False := (by simp only [eq_iff_iff, iff_false]; omega)
            have m16_7 : B10 < w16.heap.size + 1 := (by omega)
            clear hb16
            go_wp2_with fail
            obtain ⟨w17, hw17⟩ : ∃ V : World, V = (w16.alloc (.cells #[.int .u64 (L by_ 0), .int .u64 (L by_ 1), .int .u64 (L by_ 2), .int .u64 (L by_ 3)] 24)) := ⟨_, rfl⟩
            rw [← hw17]
            have r17_0 : Box w17 B0 #[.int .u64 0, .int .u64 0, .int .u64 0, .int .u64 0] 24 := by rw [hw17]; exact (r16_0).alloc _
            have r17_1 : Box w17 B1 #[.int .u64 (L a 0), .int .u64 (L a 1), .int .u64 (L a 2), .int .u64 (L a 3)] 24 := by rw [hw17]; exact (r16_1).alloc _
            have r17_2 : Box w17 B2 #[.int .u64 (L s 0), .int .u64 (L s 1), .int .u64 (L s 2), .int .u64 (L s 3)] 24 := by rw [hw17]; exact (r16_2).alloc _
            have r17_10 : Box w17 B10 #[.int .u64 (L s 0), .int .u64 (L s 1), .int .u64 (L s 2), .int .u64 (L s 3)] 24 := by rw [hw17]; exact (r16_10).alloc _
            have r17_11 : Box w17 w16.heap.size #[.int .u64 (L by_ 0), .int .u64 (L by_ 1), .int .u64 (L by_ 2), .int .u64 (L by_ 3)] 24 := by rw [hw17]; exact Box.new _ _ _ _ (by simp)
            have b17 : Bl w w17 := by rw [hw17]; exact (b16).alloc _
            have z17 : w16.heap.size + 1 ≤ w17.heap.size := (by rw [hw17]; simp only [World.alloc, World.setCell, World.drew, Array.size_push, Array.size_modify]; omega)
            have y17 : w.heap.size ≤ w17.heap.size := b17.size
            obtain ⟨B11, hB11⟩ : ∃ B, B = w16.heap.size := ⟨_, rfl⟩
            (try rw [← hB11]); rw [← hB11] at r17_11
            have lo11 : w.heap.size ≤ B11 := by omega
            have n11_0 : (B11 = B0) = False := (by simp only [eq_iff_iff, iff_false]; have := r16_0_l; omega)
            have n0_11 : (B0 = B11) = False := (by simp only [eq_iff_iff, iff_false]; have := r16_0_l; omega)
            have n11_1 : (B11 = B1) = False := (by simp only [eq_iff_iff, iff_false]; have := r16_1_l; omega)
            have n1_11 : (B1 = B11) = False := (by simp only [eq_iff_iff, iff_false]; have := r16_1_l; omega)
            have n11_2 : (B11 = B2) = False := (by simp only [eq_iff_iff, iff_false]; have := r16_2_l; omega)
            have n2_11 : (B2 = B11) = False := (by simp only [eq_iff_iff, iff_false]; have := r16_2_l; omega)
            have n11_10 : (B11 = B10) = False := (by simp only [eq_iff_iff, iff_false]; have := r16_10_l; omega)
            have n10_11 : (B10 = B11) = False := (by simp only [eq_iff_iff, iff_false]; have := r16_10_l; omega)
            clear hB11
            clear r16_0 r16_0_c r16_0_f r16_0_l r16_1 r16_1_c r16_1_f r16_1_l r16_2 r16_2_c r16_2_f r16_2_l r16_10 r16_10_c r16_10_f r16_10_l b16
            obtain ⟨r17_0_c, r17_0_f, r17_0_l⟩ := r17_0.tell
            obtain ⟨r17_1_c, r17_1_f, r17_1_l⟩ := r17_1.tell
            obtain ⟨r17_2_c, r17_2_f, r17_2_l⟩ := r17_2.tell
            obtain ⟨r17_10_c, r17_10_f, r17_10_l⟩ := r17_10.tell
            obtain ⟨r17_11_c, r17_11_f, r17_11_l⟩ := r17_11.tell
            clear hw17
            refine wp_region_told_at (fun l0 D a' w' => ∃ (x51 : Value) (x52 : Value) (x53 : Value) (x54 : Value) (x55 : Value) (x50 : Value) (x56 : Value) (x57 : Value) (x13 : Value) (x14 : Value) (C8 : Nat), a' = ⟨(((((((((((l0).set 51 x51).set 52 x52).set 53 x53).set 54 x54).set 55 x55).set 50 x50).set 56 x56).set 57 x57).set 13 x13).set 14 x14).toArray, []⟩ ∧ Bl w17 w' ∧ (D 0 → x51 = U a) ∧ (D 1 → x52 = .int .u64 x) ∧ (D 2 → x53 = U x) ∧ (D 3 → x54 = U by_) ∧ (D 4 → x55 = .tuple #[U md, .int .i64 11]) ∧ (D 5 → x50 = .tuple #[U md, .int .i64 11]) ∧ (D 6 → x56 = U md) ∧ (D 7 → x57 = .int .i64 11) ∧ (D 10 → x14 = .int .i64 11) ∧ Blk D 8 9 w17 w' x13 C8 #[.int .u64 0, .int .u64 0, .int .u64 0, .int .u64 0] #[.int .u64 (L md 0), .int .u64 (L md 1), .int .u64 (L md 2), .int .u64 (L md 3)] 24) (by kernel_rfl) (by kernel_rfl) ?_ ?_ ?_
            · exact fun l0 => ⟨l0.getD 51 undef, l0.getD 52 undef, l0.getD 53 undef, l0.getD 54 undef, l0.getD 55 undef, l0.getD 50 undef, l0.getD 56 undef, l0.getD 57 undef, l0.getD 13 undef, l0.getD 14 undef, 0, (by simp only [set_self]), (Bl.refl w17).drew, fun h => h.elim, fun h => h.elim, fun h => h.elim, fun h => h.elim, fun h => h.elim, fun h => h.elim, fun h => h.elim, fun h => h.elim, fun h => h.elim, Blk.start⟩
            · intro Inv hInv
              refine AllD.cons ?_ (AllD.cons ?_ (AllD.cons ?_ (AllD.cons ?_ (AllD.cons ?_ (AllD.cons ?_ (AllD.cons ?_ (AllD.cons ?_ (AllD.cons ?_ (AllD.cons ?_ (AllD.cons ?_ (AllD.nil)))))))))))
              · refine StepD.plain rfl rfl ?_
                intro D a' w' hn hp hI K hK
                obtain ⟨x51, x52, x53, x54, x55, x50, x56, x57, x13, x14, C8, ha, hbl, zf0, zf1, zf2, zf3, zf4, zf5, zf6, zf7, zf10, zg8⟩ := (hInv.out D a' w').1 hI
                subst ha; clear hI
                (try simp only [List.set_cons_zero, List.set_cons_succ])
                have bz := r17_1.call hbl
                obtain ⟨bc, bf, bl_⟩ := bz.tell
                go_simp
                exact hK.out _ _ ((hInv.out _ _ _).2 ⟨_, _, _, _, _, _, _, _, _, _, C8, rfl, hbl, fun _ => (by first | rfl | go_num | (simp; done)), told_next zf1 (by decide), told_next zf2 (by decide), told_next zf3 (by decide), told_next zf4 (by decide), told_next zf5 (by decide), told_next zf6 (by decide), told_next zf7 (by decide), told_next zf10 (by decide), zg8.next (by decide) (by decide) (fun _ _ h => h)⟩)
              · refine StepD.plain rfl rfl ?_
                intro D a' w' hn hp hI K hK
                obtain ⟨x51, x52, x53, x54, x55, x50, x56, x57, x13, x14, C8, ha, hbl, zf0, zf1, zf2, zf3, zf4, zf5, zf6, zf7, zf10, zg8⟩ := (hInv.out D a' w').1 hI
                subst ha; clear hI
                (try simp only [List.set_cons_zero, List.set_cons_succ])
                go_simp
                exact hK.out _ _ ((hInv.out _ _ _).2 ⟨_, _, _, _, _, _, _, _, _, _, C8, rfl, hbl, told_next zf0 (by decide), fun _ => (by first | rfl | go_num | (simp; done)), told_next zf2 (by decide), told_next zf3 (by decide), told_next zf4 (by decide), told_next zf5 (by decide), told_next zf6 (by decide), told_next zf7 (by decide), told_next zf10 (by decide), zg8.next (by decide) (by decide) (fun _ _ h => h)⟩)
              · refine StepD.plain rfl rfl ?_
                intro D a' w' hn hp hI K hK
                obtain ⟨x51, x52, x53, x54, x55, x50, x56, x57, x13, x14, C8, ha, hbl, zf0, zf1, zf2, zf3, zf4, zf5, zf6, zf7, zf10, zg8⟩ := (hInv.out D a' w').1 hI
                subst ha; clear hI
                (try simp only [List.set_cons_zero, List.set_cons_succ])
                obtain ⟨p2_1, _⟩ := hp
                have p2_1 : D 1 := p2_1 rfl
                have e1 := zf1 p2_1; subst e1
                go_simp
                refine (f2 _).mono ?_
                rintro e w2 ⟨rfl, hbc⟩
                go_wp2_with fail
                exact hK.out _ _ ((hInv.out _ _ _).2 ⟨_, _, _, _, _, _, _, _, _, _, C8, rfl, hbl.trans hbc, told_next zf0 (by decide), fun _ => rfl, fun _ => (by first | rfl | go_num | (simp; done)), told_next zf3 (by decide), told_next zf4 (by decide), told_next zf5 (by decide), told_next zf6 (by decide), told_next zf7 (by decide), told_next zf10 (by decide), zg8.next (by decide) (by decide) (fun _ _ h => h.call hbc)⟩)
              · refine StepD.plain rfl rfl ?_
                intro D a' w' hn hp hI K hK
                obtain ⟨x51, x52, x53, x54, x55, x50, x56, x57, x13, x14, C8, ha, hbl, zf0, zf1, zf2, zf3, zf4, zf5, zf6, zf7, zf10, zg8⟩ := (hInv.out D a' w').1 hI
                subst ha; clear hI
                (try simp only [List.set_cons_zero, List.set_cons_succ])
                have bz := r17_11.call hbl
                obtain ⟨bc, bf, bl_⟩ := bz.tell
                go_simp
                exact hK.out _ _ ((hInv.out _ _ _).2 ⟨_, _, _, _, _, _, _, _, _, _, C8, rfl, hbl, told_next zf0 (by decide), told_next zf1 (by decide), told_next zf2 (by decide), fun _ => (by first | rfl | go_num | (simp; done)), told_next zf4 (by decide), told_next zf5 (by decide), told_next zf6 (by decide), told_next zf7 (by decide), told_next zf10 (by decide), zg8.next (by decide) (by decide) (fun _ _ h => h)⟩)
              · refine StepD.plain rfl rfl ?_
                intro D a' w' hn hp hI K hK
                obtain ⟨x51, x52, x53, x54, x55, x50, x56, x57, x13, x14, C8, ha, hbl, zf0, zf1, zf2, zf3, zf4, zf5, zf6, zf7, zf10, zg8⟩ := (hInv.out D a' w').1 hI
                subst ha; clear hI
                (try simp only [List.set_cons_zero, List.set_cons_succ])
                obtain ⟨p4_0, p4_2, p4_3, _, _⟩ := hp
                have p4_0 : D 0 := p4_0 rfl
                have p4_2 : D 2 := p4_2 rfl
                have p4_3 : D 3 := p4_3 rfl
                have e0 := zf0 p4_0; subst e0
                have e2 := zf2 p4_2; subst e2
                have e3 := zf3 p4_3; subst e3
                go_simp
                refine (a4 _).mono ?_
                rintro e w2 ⟨rfl, hbc⟩
                go_wp2_with fail
                exact hK.out _ _ ((hInv.out _ _ _).2 ⟨_, _, _, _, _, _, _, _, _, _, C8, rfl, hbl.trans hbc, fun _ => rfl, told_next zf1 (by decide), fun _ => rfl, fun _ => rfl, fun _ => (by first | rfl | go_num | (simp; done)), told_next zf5 (by decide), told_next zf6 (by decide), told_next zf7 (by decide), told_next zf10 (by decide), zg8.next (by decide) (by decide) (fun _ _ h => h.call hbc)⟩)
              · refine StepD.plain rfl rfl ?_
                intro D a' w' hn hp hI K hK
                obtain ⟨x51, x52, x53, x54, x55, x50, x56, x57, x13, x14, C8, ha, hbl, zf0, zf1, zf2, zf3, zf4, zf5, zf6, zf7, zf10, zg8⟩ := (hInv.out D a' w').1 hI
                subst ha; clear hI
                (try simp only [List.set_cons_zero, List.set_cons_succ])
                obtain ⟨p5_4, _⟩ := hp
                have p5_4 : D 4 := p5_4 rfl
                have e4 := zf4 p5_4; subst e4
                go_simp
                exact hK.out _ _ ((hInv.out _ _ _).2 ⟨_, _, _, _, _, _, _, _, _, _, C8, rfl, hbl, told_next zf0 (by decide), told_next zf1 (by decide), told_next zf2 (by decide), told_next zf3 (by decide), fun _ => rfl, fun _ => (by first | rfl | go_num | (simp; done)), told_next zf6 (by decide), told_next zf7 (by decide), told_next zf10 (by decide), zg8.next (by decide) (by decide) (fun _ _ h => h)⟩)
              · refine StepD.plain rfl rfl ?_
                intro D a' w' hn hp hI K hK
                obtain ⟨x51, x52, x53, x54, x55, x50, x56, x57, x13, x14, C8, ha, hbl, zf0, zf1, zf2, zf3, zf4, zf5, zf6, zf7, zf10, zg8⟩ := (hInv.out D a' w').1 hI
                subst ha; clear hI
                (try simp only [List.set_cons_zero, List.set_cons_succ])
                obtain ⟨p6_5, _⟩ := hp
                have p6_5 : D 5 := p6_5 rfl
                have e5 := zf5 p6_5; subst e5
                go_simp
                exact hK.out _ _ ((hInv.out _ _ _).2 ⟨_, _, _, _, _, _, _, _, _, _, C8, rfl, hbl, told_next zf0 (by decide), told_next zf1 (by decide), told_next zf2 (by decide), told_next zf3 (by decide), told_next zf4 (by decide), fun _ => rfl, fun _ => (by first | rfl | go_num | (simp; done)), told_next zf7 (by decide), told_next zf10 (by decide), zg8.next (by decide) (by decide) (fun _ _ h => h)⟩)
              · refine StepD.plain rfl rfl ?_
                intro D a' w' hn hp hI K hK
                obtain ⟨x51, x52, x53, x54, x55, x50, x56, x57, x13, x14, C8, ha, hbl, zf0, zf1, zf2, zf3, zf4, zf5, zf6, zf7, zf10, zg8⟩ := (hInv.out D a' w').1 hI
                subst ha; clear hI
                (try simp only [List.set_cons_zero, List.set_cons_succ])
                obtain ⟨p7_5, _, _⟩ := hp
                have p7_5 : D 5 := p7_5 rfl
                have e5 := zf5 p7_5; subst e5
                go_simp
                exact hK.out _ _ ((hInv.out _ _ _).2 ⟨_, _, _, _, _, _, _, _, _, _, C8, rfl, hbl, told_next zf0 (by decide), told_next zf1 (by decide), told_next zf2 (by decide), told_next zf3 (by decide), told_next zf4 (by decide), fun _ => rfl, told_next zf6 (by decide), fun _ => (by first | rfl | go_num | (simp; done)), told_next zf10 (by decide), zg8.next (by decide) (by decide) (fun _ _ h => h)⟩)
              · refine StepD.plain rfl rfl ?_
                intro D a' w' hn hp hI K hK
                obtain ⟨x51, x52, x53, x54, x55, x50, x56, x57, x13, x14, C8, ha, hbl, zf0, zf1, zf2, zf3, zf4, zf5, zf6, zf7, zf10, zg8⟩ := (hInv.out D a' w').1 hI
                subst ha; clear hI
                (try simp only [List.set_cons_zero, List.set_cons_succ])
                go_simp
                exact hK.out _ _ ((hInv.out _ _ _).2 ⟨_, _, _, _, _, _, _, _, _, _, _, rfl, hbl.alloc _, told_next zf0 (by decide), told_next zf1 (by decide), told_next zf2 (by decide), told_next zf3 (by decide), told_next zf4 (by decide), told_next zf5 (by decide), told_next zf6 (by decide), told_next zf7 (by decide), told_next zf10 (by decide), zg8.made hn (by decide) hbl.size⟩)
              · refine StepD.plain rfl rfl ?_
                intro D a' w' hn hp hI K hK
                obtain ⟨x51, x52, x53, x54, x55, x50, x56, x57, x13, x14, C8, ha, hbl, zf0, zf1, zf2, zf3, zf4, zf5, zf6, zf7, zf10, zg8⟩ := (hInv.out D a' w').1 hI
                subst ha; clear hI
                (try simp only [List.set_cons_zero, List.set_cons_succ])
                obtain ⟨p9_8, p9_6, p9_4, p9_0, p9_1, p9_2, p9_3, _, p9_5, _, _, _, _⟩ := hp
                have p9_0 : D 0 := p9_0 rfl
                have p9_1 : D 1 := p9_1 rfl
                have p9_2 : D 2 := p9_2 rfl
                have p9_3 : D 3 := p9_3 rfl
                have p9_4 : D 4 := p9_4 rfl
                have p9_5 : D 5 := p9_5 rfl
                have p9_6 : D 6 := p9_6 rfl
                have p9_8 : D 8 := p9_8 rfl
                obtain ⟨e13, lw13, ha13, hz13⟩ := zg8.2 p9_8
                subst e13
                have bz := hz13 hn
                obtain ⟨bc, bf, bl_⟩ := bz.tell
                clear ha13 hz13
                have e6 := zf6 p9_6; subst e6
                go_simp
                have lwb : w17.heap.size ≤ C8 := lw13
                exact hK.out _ _ ((hInv.out _ _ _).2 ⟨_, _, _, _, _, _, _, _, _, _, C8, rfl, ((((hbl).setCell (by simp only []; omega) _).setCell (by simp only []; omega) _).setCell (by simp only []; omega) _).setCell (by simp only []; omega) _, told_next zf0 (by decide), told_next zf1 (by decide), told_next zf2 (by decide), told_next zf3 (by decide), told_next zf4 (by decide), told_next zf5 (by decide), fun _ => rfl, told_next zf7 (by decide), told_next zf10 (by decide), zg8.filled p9_8 hn (fun h => (((((h).set _ _).set _ _).set _ _).set _ _).cells rfl)⟩)
              · refine StepD.plain rfl rfl ?_
                intro D a' w' hn hp hI K hK
                obtain ⟨x51, x52, x53, x54, x55, x50, x56, x57, x13, x14, C8, ha, hbl, zf0, zf1, zf2, zf3, zf4, zf5, zf6, zf7, zf10, zg8⟩ := (hInv.out D a' w').1 hI
                subst ha; clear hI
                (try simp only [List.set_cons_zero, List.set_cons_succ])
                obtain ⟨p10_7, p10_9, p10_0, p10_1, p10_2, p10_3, p10_4, p10_5, p10_6, _, p10_8, _, _⟩ := hp
                have p10_0 : D 0 := p10_0 rfl
                have p10_1 : D 1 := p10_1 rfl
                have p10_2 : D 2 := p10_2 rfl
                have p10_3 : D 3 := p10_3 rfl
                have p10_4 : D 4 := p10_4 rfl
                have p10_5 : D 5 := p10_5 rfl
                have p10_6 : D 6 := p10_6 rfl
                have p10_7 : D 7 := p10_7 rfl
                have p10_8 : D 8 := p10_8 rfl
                have p10_9 : D 9 := p10_9 rfl
                have e7 := zf7 p10_7; subst e7
                go_simp
                exact hK.out _ _ ((hInv.out _ _ _).2 ⟨_, _, _, _, _, _, _, _, _, _, C8, rfl, hbl, told_next zf0 (by decide), told_next zf1 (by decide), told_next zf2 (by decide), told_next zf3 (by decide), told_next zf4 (by decide), told_next zf5 (by decide), told_next zf6 (by decide), fun _ => rfl, fun _ => (by first | rfl | go_num | (simp; done)), zg8.next (by decide) (by decide) (fun _ _ h => h)⟩)
            · intro D a' w18 hall hI
              obtain ⟨x51, x52, x53, x54, x55, x50, x56, x57, x13, x14, B12, ha, hb18, zf0, zf1, zf2, zf3, zf4, zf5, zf6, zf7, zf10, zg8⟩ := hI
              subst ha
              (try simp only [List.set_cons_zero, List.set_cons_succ])
              have e := zf0 (hall 0 (by decide)); subst e
              have e := zf1 (hall 1 (by decide)); subst e
              have e := zf2 (hall 2 (by decide)); subst e
              have e := zf3 (hall 3 (by decide)); subst e
              have e := zf4 (hall 4 (by decide)); subst e
              have e := zf5 (hall 5 (by decide)); subst e
              have e := zf6 (hall 6 (by decide)); subst e
              have e := zf7 (hall 7 (by decide)); subst e
              have e := zf10 (hall 10 (by decide)); subst e
              obtain ⟨e, lw12, ha12, hz12⟩ := zg8.2 (hall 8 (by decide))
              subst e
              have q12 := ha12 (hall 9 (by decide))
              clear ha12 hz12 zg8
              clear hall
              (try simp only [Act.put, List.setIfInBounds_toArray, List.set_cons_zero, List.set_cons_succ])
              have lo12 : w.heap.size ≤ B12 := (by have := y17; omega)
              have n12_0 : (B12 = B0) = False := (by simp only [eq_iff_iff, iff_false]; have := r17_0_l; omega)
              have n0_12 : (B0 = B12) = False := (by simp only [eq_iff_iff, iff_false]; have := r17_0_l; omega)
              have n12_1 : (B12 = B1) = False := (by simp only [eq_iff_iff, iff_false]; have := r17_1_l; omega)
              have n1_12 : (B1 = B12) = False := (by simp only [eq_iff_iff, iff_false]; have := r17_1_l; omega)
              have n12_2 : (B12 = B2) = False := (by simp only [eq_iff_iff, iff_false]; have := r17_2_l; omega)
              have n2_12 : (B2 = B12) = False := (by simp only [eq_iff_iff, iff_false]; have := r17_2_l; omega)
              have n12_10 : (B12 = B10) = False := (by simp only [eq_iff_iff, iff_false]; have := r17_10_l; omega)
              have n10_12 : (B10 = B12) = False := (by simp only [eq_iff_iff, iff_false]; have := r17_10_l; omega)
              have n12_11 : (B12 = B11) = False := (by simp only [eq_iff_iff, iff_false]; have := r17_11_l; omega)
              have n11_12 : (B11 = B12) = False := (by simp only [eq_iff_iff, iff_false]; have := r17_11_l; omega)
              have r18_0 : Box w18 B0 #[.int .u64 0, .int .u64 0, .int .u64 0, .int .u64 0] 24 := r17_0.call hb18
              have r18_1 : Box w18 B1 #[.int .u64 (L a 0), .int .u64 (L a 1), .int .u64 (L a 2), .int .u64 (L a 3)] 24 := r17_1.call hb18
              have r18_2 : Box w18 B2 #[.int .u64 (L s 0), .int .u64 (L s 1), .int .u64 (L s 2), .int .u64 (L s 3)] 24 := r17_2.call hb18
              have r18_10 : Box w18 B10 #[.int .u64 (L s 0), .int .u64 (L s 1), .int .u64 (L s 2), .int .u64 (L s 3)] 24 := r17_10.call hb18
              have r18_11 : Box w18 B11 #[.int .u64 (L by_ 0), .int .u64 (L by_ 1), .int .u64 (L by_ 2), .int .u64 (L by_ 3)] 24 := r17_11.call hb18
              have r18_12 : Box w18 B12 #[.int .u64 (L md 0), .int .u64 (L md 1), .int .u64 (L md 2), .int .u64 (L md 3)] 24 := q12
              have b18 : Bl w w18 := Bl.trans b17 hb18
              have z18 : w17.heap.size ≤ w18.heap.size := (by have := hb18.size; omega)
              have y18 : w.heap.size ≤ w18.heap.size := b18.size
              clear r17_0 r17_0_c r17_0_f r17_0_l r17_1 r17_1_c r17_1_f r17_1_l r17_2 r17_2_c r17_2_f r17_2_l r17_10 r17_10_c r17_10_f r17_10_l r17_11 r17_11_c r17_11_f r17_11_l b17
              obtain ⟨r18_0_c, r18_0_f, r18_0_l⟩ := r18_0.tell
              obtain ⟨r18_1_c, r18_1_f, r18_1_l⟩ := r18_1.tell
              obtain ⟨r18_2_c, r18_2_f, r18_2_l⟩ := r18_2.tell
              obtain ⟨r18_10_c, r18_10_f, r18_10_l⟩ := r18_10.tell
              obtain ⟨r18_11_c, r18_11_f, r18_11_l⟩ := r18_11.tell
              obtain ⟨r18_12_c, r18_12_f, r18_12_l⟩ := r18_12.tell
              clear hb18 lw12
              go_wp2_with fail
              refine bodyPost_ret (v := .tuple #[.agg #[.int .u64 0, .int .u64 0, .int .u64 0, .int .u64 0], .int .i64 183]) (by simp only [results, Try.results17]; go_simp) rfl ⟨by rw [V1.out, E1.out] <;> rfl, ?_⟩
              exact ((((b18).setCell (by simp only []; omega) _).setCell (by simp only []; omega) _).setCell (by simp only []; omega) _).setCell (by simp only []; omega) _
        · skip
          obtain ⟨cy, hcy⟩ : ∃ c, c = (all + a) / T256 := ⟨_, rfl⟩
          rw [← hcy] at a1
          obtain rfl : cy = 1 := by rw [hcy]; rw [T256_eq] at *; omega
          rw [show (((1 : Nat) : Int) == 0) = false from rfl] at a1
          have hr : R = none := by have := hbb.out; rw [bb_wide hz (by rw [← hby]; omega)] at this; simpa using this.symm
          have V1 : Hid (V = 0) := HV.out.trans (by rw [hr]; rfl)
          have E1 : Hid (E = 183) := HE.out.trans (by rw [hr]; rfl)
          generalize mdV a x by_ = md at *
          generalize (all + a) % T256 = s at *
          generalize mdE a x by_ = me at *
          clear hr hbb hby hcy h5 hz hne hfi hk
          go_wp2_with fail
          refine (a1 _).mono ?_
          rintro e w19 ⟨rfl, hb19⟩
          have r19_0 : Box w19 B0 #[.int .u64 0, .int .u64 0, .int .u64 0, .int .u64 0] 24 := (r3_0).call hb19
          have r19_1 : Box w19 B1 #[.int .u64 (L a 0), .int .u64 (L a 1), .int .u64 (L a 2), .int .u64 (L a 3)] 24 := (r3_1).call hb19
          have r19_2 : Box w19 B2 #[.int .u64 (L all 0), .int .u64 (L all 1), .int .u64 (L all 2), .int .u64 (L all 3)] 24 := (r3_2).call hb19
          have b19 : Bl w w19 := Bl.trans (b3) hb19
          have z19 : wr.heap.size ≤ w19.heap.size := (by have := hb19.size; (try simp only [World.alloc, World.setCell, World.drew, Array.size_push, Array.size_modify] at this); omega)
          have y19 : w.heap.size ≤ w19.heap.size := b19.size
          clear r3_0 r3_0_c r3_0_f r3_0_l r3_1 r3_1_c r3_1_f r3_1_l r3_2 r3_2_c r3_2_f r3_2_l b3
          obtain ⟨r19_0_c, r19_0_f, r19_0_l⟩ := r19_0.tell
          obtain ⟨r19_1_c, r19_1_f, r19_1_l⟩ := r19_1.tell
          obtain ⟨r19_2_c, r19_2_f, r19_2_l⟩ := r19_2.tell
          have d19_0 : (B0 = w19.heap.size) = False := (by simp only [eq_iff_iff, iff_false]; omega)
          have e19_0 : (w19.heap.size = B0) = False := (by simp only [eq_iff_iff, iff_false]; omega)
          have m19_0 : B0 < w19.heap.size := (by omega)
          have d19_1 : (B0 = w19.heap.size + 1) = False := (by simp only [eq_iff_iff, iff_false]; omega)
          have e19_1 : (w19.heap.size + 1 = B0) = False := (by simp only [eq_iff_iff, iff_false]; omega)
          have m19_1 : B0 < w19.heap.size + 1 := (by omega)
          have d19_2 : (B1 = w19.heap.size) = False := (by simp only [eq_iff_iff, iff_false]; omega)
          have e19_2 : (w19.heap.size = B1) = False := (by simp only [eq_iff_iff, iff_false]; omega)
          have m19_2 : B1 < w19.heap.size := (by omega)
          have d19_3 : (B1 = w19.heap.size + 1) = False := (by simp only [eq_iff_iff, iff_false]; omega)
          have e19_3 : (w19.heap.size + 1 = B1) = False := (by simp only [eq_iff_iff, iff_false]; omega)
          have m19_3 : B1 < w19.heap.size + 1 := (by omega)
          have d19_4 : (B2 = w19.heap.size) = False := (by simp only [eq_iff_iff, iff_false]; omega)
          have e19_4 : (w19.heap.size = B2) = False := (by simp only [eq_iff_iff, iff_false]; omega)
          have m19_4 : B2 < w19.heap.size := (by omega)
          have d19_5 : (B2 = w19.heap.size + 1) = False := (by simp only [eq_iff_iff, iff_false]; omega)
          have e19_5 : (w19.heap.size + 1 = B2) = False := (by simp only [eq_iff_iff, iff_false]; omega)
          have m19_5 : B2 < w19.heap.size + 1 := (by omega)
          clear hb19
          go_wp2_with fail
          refine bodyPost_ret (v := .tuple #[.agg #[.int .u64 0, .int .u64 0, .int .u64 0, .int .u64 0], .int .i64 183]) (by simp only [results, Try.results17]; go_simp) rfl ⟨by rw [V1.out, E1.out] <;> rfl, ?_⟩
          exact (((((b19).setCell (by simp only []; omega) _).setCell (by simp only []; omega) _).setCell (by simp only []; omega) _).setCell (by simp only []; omega) _).alloc _

end Go.Proofs.Ytcmjdmehooenkaa

