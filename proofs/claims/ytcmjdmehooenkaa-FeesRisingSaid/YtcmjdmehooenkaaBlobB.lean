/- fees.BlobBase. -/
import Derived.Test.YtcmjdmehooenkaaStep
import Derived.Test.YtcmjdmehooenkaaBlobN
import Derived.Deep.LoopGhost
set_option linter.unusedSimpArgs false
set_option linter.unusedVariables false
namespace Go.Proofs.Ytcmjdmehooenkaa
open Go Go.RowKit

set_option maxHeartbeats 40000000 in
set_option maxRecDepth 100000 in
theorem blobbase_c (x f : Nat) (hx : x < 18446744073709551616) (hf : f < 18446744073709551616) (w : World) :
    Calls Try.prog 16 #[.int .u64 x, .int .u64 f] w fun e w' => e = .returned (.tuple #[U (bbV x f), .int .i64 (bbE x f)]) ∧ Bl w w' := by
  go_enter Try.func16, Try.ntmps16
  have hg := guardU
  have hTx : x < T256 := by rw [T256_eq]; omega
  have hTf : f < T256 := by rw [T256_eq]; omega
  obtain ⟨V, hV⟩ : ∃ V, V = bbV x f := ⟨_, rfl⟩
  obtain ⟨E, hE⟩ : ∃ E, E = bbE x f := ⟨_, rfl⟩
  rw [← hV, ← hE]
  by_cases h0 : f = 0
  · skip
    have V1 : Hid (V = 0) := by rw [hV]; exact if_pos h0
    have E1 : Hid (E = 1) := by rw [hE]; exact if_pos h0
    have c0 : ((f : Int) == 0) = true := by simp; omega
    have c1 : (f == 0) = true := by simp; omega
    clear hV hE
    go_wp2_with fail
    refine bodyPost_ret (v := .tuple #[.agg #[.int .u64 0, .int .u64 0, .int .u64 0, .int .u64 0], .int .i64 1]) (by simp only [results, Try.results16]; go_simp) rfl ⟨by rw [V1.out, E1.out] <;> rfl, ?_⟩
    exact (Bl.refl w).alloc _
  · skip
    obtain ⟨R, hR⟩ := bb_some x f (by omega) hTf
    obtain ⟨hv, he⟩ := bbV_of h0 hR
    have HV : Hid (V = R.getD 0) := hV.trans hv
    have HE : Hid (E = if R.isSome then 0 else 183) := hE.trans he
    have HB := Lib.hid hR
    have c0 : ((f : Int) == 0) = false := by simp; omega
    have c1 : (f == 0) = false := by simp; omega
    have f1 := fun w => from_c f hf w
    have f2 := fun w => from_c x hx w
    have hf0 : 0 < f := by omega
    clear hV hE hR hv he h0
    go_wp2_with fail
    refine (f1 _).mono ?_
    rintro e w1 ⟨rfl, hb1⟩
    have r1_0 : Box w1 w.heap.size #[.int .u64 0, .int .u64 0, .int .u64 0, .int .u64 0] 24 := (Box.new _ _ _ _ (by simp)).call hb1
    have b1 : Bl w w1 := Bl.trans ((Bl.refl w).alloc _) hb1
    have z1 : w.heap.size + 1 ≤ w1.heap.size := (by have := hb1.size; (try simp only [World.alloc, World.setCell, World.drew, Array.size_push, Array.size_modify] at this); omega)
    have y1 : w.heap.size ≤ w1.heap.size := b1.size
    obtain ⟨B0, hB0⟩ : ∃ B, B = w.heap.size := ⟨_, rfl⟩
    (try rw [← hB0]); rw [← hB0] at r1_0
    have lo0 : w.heap.size ≤ B0 := by omega
    clear hB0
    obtain ⟨r1_0_c, r1_0_f, r1_0_l⟩ := r1_0.tell
    clear hb1
    go_wp2_with fail
    refine (f2 _).mono ?_
    rintro e w2 ⟨rfl, hb2⟩
    have r2_0 : Box w2 B0 #[.int .u64 0, .int .u64 0, .int .u64 0, .int .u64 0] 24 := (r1_0).call hb2
    have b2 : Bl w w2 := Bl.trans (b1) hb2
    have z2 : w1.heap.size ≤ w2.heap.size := (by have := hb2.size; (try simp only [World.alloc, World.setCell, World.drew, Array.size_push, Array.size_modify] at this); omega)
    have y2 : w.heap.size ≤ w2.heap.size := b2.size
    clear r1_0 r1_0_c r1_0_f r1_0_l b1
    obtain ⟨r2_0_c, r2_0_f, r2_0_l⟩ := r2_0.tell
    have d2_0 : (B0 = w2.heap.size) = False := (by simp only [eq_iff_iff, iff_false]; omega)
    have e2_0 : (w2.heap.size = B0) = False := (by simp only [eq_iff_iff, iff_false]; omega)
    have m2_0 : B0 < w2.heap.size := (by omega)
    have d2_1 : (B0 = w2.heap.size + 1) = False := (by simp only [eq_iff_iff, iff_false]; omega)
    have e2_1 : (w2.heap.size + 1 = B0) = False := (by simp only [eq_iff_iff, iff_false]; omega)
    have m2_1 : B0 < w2.heap.size + 1 := (by omega)
    have d2_2 : (B0 = w2.heap.size + 1 + 1) = False := (by simp only [eq_iff_iff, iff_false]; omega)
    have e2_2 : (w2.heap.size + 1 + 1 = B0) = False := (by simp only [eq_iff_iff, iff_false]; omega)
    have m2_2 : B0 < w2.heap.size + 1 + 1 := (by omega)
    have d2_3 : (B0 = w2.heap.size + 1 + 1 + 1) = False := (by simp only [eq_iff_iff, iff_false]; omega)
    have e2_3 : (w2.heap.size + 1 + 1 + 1 = B0) = False := (by simp only [eq_iff_iff, iff_false]; omega)
    have m2_3 : B0 < w2.heap.size + 1 + 1 + 1 := (by omega)
    clear hb2
    go_wp2_with fail
    obtain ⟨w3, hw3⟩ : ∃ V : World, V = (((w2.alloc (.cells #[.int .u64 (L f 0), .int .u64 (L f 1), .int .u64 (L f 2), .int .u64 (L f 3)] 24)).alloc (.cells #[.int .u64 (L x 0), .int .u64 (L x 1), .int .u64 (L x 2), .int .u64 (L x 3)] 24)).alloc (.cells #[.int .u64 0, .int .u64 0, .int .u64 0, .int .u64 0] 24)) := ⟨_, rfl⟩
    rw [← hw3]
    have r3_0 : Box w3 B0 #[.int .u64 0, .int .u64 0, .int .u64 0, .int .u64 0] 24 := by rw [hw3]; exact (((r2_0).alloc _).alloc _).alloc _
    have r3_1 : Box w3 w2.heap.size #[.int .u64 (L f 0), .int .u64 (L f 1), .int .u64 (L f 2), .int .u64 (L f 3)] 24 := by rw [hw3]; exact ((Box.new _ _ _ _ (by simp)).alloc _).alloc _
    have r3_2 : Box w3 (w2.heap.size + 1) #[.int .u64 (L x 0), .int .u64 (L x 1), .int .u64 (L x 2), .int .u64 (L x 3)] 24 := by rw [hw3]; exact (Box.new _ _ _ _ (by simp)).alloc _
    have r3_3 : Box w3 (w2.heap.size + 1 + 1) #[.int .u64 0, .int .u64 0, .int .u64 0, .int .u64 0] 24 := by rw [hw3]; exact Box.new _ _ _ _ (by simp)
    have b3 : Bl w w3 := by rw [hw3]; exact (((b2).alloc _).alloc _).alloc _
    have z3 : w2.heap.size + 1 + 1 + 1 ≤ w3.heap.size := (by rw [hw3]; simp only [World.alloc, World.setCell, World.drew, Array.size_push, Array.size_modify]; omega)
    have y3 : w.heap.size ≤ w3.heap.size := b3.size
    obtain ⟨B3, hB3⟩ : ∃ B, B = w2.heap.size + 1 + 1 := ⟨_, rfl⟩
    (try rw [← hB3]); rw [← hB3] at r3_3
    obtain ⟨B2, hB2⟩ : ∃ B, B = w2.heap.size + 1 := ⟨_, rfl⟩
    (try rw [← hB2]); rw [← hB2] at r3_2
    obtain ⟨B1, hB1⟩ : ∃ B, B = w2.heap.size := ⟨_, rfl⟩
    (try rw [← hB1]); rw [← hB1] at r3_1
    have lo1 : w.heap.size ≤ B1 := by omega
    have lo2 : w.heap.size ≤ B2 := by omega
    have lo3 : w.heap.size ≤ B3 := by omega
    have n1_0 : (B1 = B0) = False := (by simp only [eq_iff_iff, iff_false]; have := r2_0_l; omega)
    have n0_1 : (B0 = B1) = False := (by simp only [eq_iff_iff, iff_false]; have := r2_0_l; omega)
    have n1_2 : (B1 = B2) = False := (by simp only [eq_iff_iff, iff_false]; omega)
    have n2_1 : (B2 = B1) = False := (by simp only [eq_iff_iff, iff_false]; omega)
    have n1_3 : (B1 = B3) = False := (by simp only [eq_iff_iff, iff_false]; omega)
    have n3_1 : (B3 = B1) = False := (by simp only [eq_iff_iff, iff_false]; omega)
    have n2_0 : (B2 = B0) = False := (by simp only [eq_iff_iff, iff_false]; have := r2_0_l; omega)
    have n0_2 : (B0 = B2) = False := (by simp only [eq_iff_iff, iff_false]; have := r2_0_l; omega)
    have n2_3 : (B2 = B3) = False := (by simp only [eq_iff_iff, iff_false]; omega)
    have n3_2 : (B3 = B2) = False := (by simp only [eq_iff_iff, iff_false]; omega)
    have n3_0 : (B3 = B0) = False := (by simp only [eq_iff_iff, iff_false]; have := r2_0_l; omega)
    have n0_3 : (B0 = B3) = False := (by simp only [eq_iff_iff, iff_false]; have := r2_0_l; omega)
    clear hB1
    clear hB2
    clear hB3
    clear r2_0 r2_0_c r2_0_f r2_0_l b2
    obtain ⟨r3_0_c, r3_0_f, r3_0_l⟩ := r3_0.tell
    obtain ⟨r3_1_c, r3_1_f, r3_1_l⟩ := r3_1.tell
    obtain ⟨r3_2_c, r3_2_f, r3_2_l⟩ := r3_2.tell
    obtain ⟨r3_3_c, r3_3_f, r3_3_l⟩ := r3_3.tell
    clear hw3
    refine wp_region_told_at (fun l0 D a' w' => ∃ (x27 : Value) (x10 : Value) (x9 : Value) (C1 : Nat), a' = ⟨((((l0).set 27 x27).set 10 x10).set 9 x9).toArray, []⟩ ∧ Bl w3 w' ∧ (D 0 → x27 = U f) ∧ (D 2 → x9 = .int .u64 1) ∧ Blk D 1 3 w3 w' x10 C1 #[.int .u64 0, .int .u64 0, .int .u64 0, .int .u64 0] #[.int .u64 (L f 0), .int .u64 (L f 1), .int .u64 (L f 2), .int .u64 (L f 3)] 24) (by kernel_rfl) (by kernel_rfl) ?_ ?_ ?_
    · exact fun l0 => ⟨l0.getD 27 undef, l0.getD 10 undef, l0.getD 9 undef, 0, (by simp only [set_self]), (Bl.refl w3).drew, fun h => h.elim, fun h => h.elim, Blk.start⟩
    · intro Inv hInv
      refine AllD.cons ?_ (AllD.cons ?_ (AllD.cons ?_ (AllD.cons ?_ (AllD.nil))))
      · refine StepD.plain rfl rfl ?_
        intro D a' w' hn hp hI K hK
        obtain ⟨x27, x10, x9, C1, ha, hbl, zf0, zf2, zg1⟩ := (hInv.out D a' w').1 hI
        subst ha; clear hI
        (try simp only [List.set_cons_zero, List.set_cons_succ])
        have bz := r3_1.call hbl
        obtain ⟨bc, bf, bl_⟩ := bz.tell
        go_simp
        exact hK.out _ _ ((hInv.out _ _ _).2 ⟨_, _, _, C1, rfl, hbl, fun _ => (by first | rfl | go_num | (simp; done)), told_next zf2 (by decide), zg1.next (by decide) (by decide) (fun _ _ h => h)⟩)
      · refine StepD.plain rfl rfl ?_
        intro D a' w' hn hp hI K hK
        obtain ⟨x27, x10, x9, C1, ha, hbl, zf0, zf2, zg1⟩ := (hInv.out D a' w').1 hI
        subst ha; clear hI
        (try simp only [List.set_cons_zero, List.set_cons_succ])
        go_simp
        exact hK.out _ _ ((hInv.out _ _ _).2 ⟨_, _, _, _, rfl, hbl.alloc _, told_next zf0 (by decide), told_next zf2 (by decide), zg1.made hn (by decide) hbl.size⟩)
      · refine StepD.plain rfl rfl ?_
        intro D a' w' hn hp hI K hK
        obtain ⟨x27, x10, x9, C1, ha, hbl, zf0, zf2, zg1⟩ := (hInv.out D a' w').1 hI
        subst ha; clear hI
        (try simp only [List.set_cons_zero, List.set_cons_succ])
        obtain ⟨_, p2_1, _⟩ := hp
        have p2_1 : D 1 := p2_1 rfl
        go_simp
        exact hK.out _ _ ((hInv.out _ _ _).2 ⟨_, _, _, C1, rfl, hbl, told_next zf0 (by decide), fun _ => (by first | rfl | go_num | (simp; done)), zg1.next (by decide) (by decide) (fun _ _ h => h)⟩)
      · refine StepD.plain rfl rfl ?_
        intro D a' w' hn hp hI K hK
        obtain ⟨x27, x10, x9, C1, ha, hbl, zf0, zf2, zg1⟩ := (hInv.out D a' w').1 hI
        subst ha; clear hI
        (try simp only [List.set_cons_zero, List.set_cons_succ])
        obtain ⟨p3_1, p3_0, p3_2, _, _, _, _⟩ := hp
        have p3_0 : D 0 := p3_0 rfl
        have p3_1 : D 1 := p3_1 rfl
        have p3_2 : D 2 := p3_2 rfl
        obtain ⟨e10, lw10, ha10, hz10⟩ := zg1.2 p3_1
        subst e10
        have bz := hz10 hn
        obtain ⟨bc, bf, bl_⟩ := bz.tell
        clear ha10 hz10
        have e0 := zf0 p3_0; subst e0
        go_simp
        have lwb : w3.heap.size ≤ C1 := lw10
        exact hK.out _ _ ((hInv.out _ _ _).2 ⟨_, _, _, C1, rfl, ((((hbl).setCell (by simp only []; omega) _).setCell (by simp only []; omega) _).setCell (by simp only []; omega) _).setCell (by simp only []; omega) _, fun _ => rfl, told_next zf2 (by decide), zg1.filled p3_1 hn (fun h => (((((h).set _ _).set _ _).set _ _).set _ _).cells rfl)⟩)
    · intro D a' w4 hall hI
      obtain ⟨x27, x10, x9, B4, ha, hb4, zf0, zf2, zg1⟩ := hI
      subst ha
      (try simp only [List.set_cons_zero, List.set_cons_succ])
      have e := zf0 (hall 0 (by decide)); subst e
      have e := zf2 (hall 2 (by decide)); subst e
      obtain ⟨e, lw4, ha4, hz4⟩ := zg1.2 (hall 1 (by decide))
      subst e
      have q4 := ha4 (hall 3 (by decide))
      clear ha4 hz4 zg1
      clear hall
      (try simp only [Act.put, List.setIfInBounds_toArray, List.set_cons_zero, List.set_cons_succ])
      have lo4 : w.heap.size ≤ B4 := (by have := y3; omega)
      have n4_0 : (B4 = B0) = False := (by simp only [eq_iff_iff, iff_false]; have := r3_0_l; omega)
      have n0_4 : (B0 = B4) = False := (by simp only [eq_iff_iff, iff_false]; have := r3_0_l; omega)
      have n4_1 : (B4 = B1) = False := (by simp only [eq_iff_iff, iff_false]; have := r3_1_l; omega)
      have n1_4 : (B1 = B4) = False := (by simp only [eq_iff_iff, iff_false]; have := r3_1_l; omega)
      have n4_2 : (B4 = B2) = False := (by simp only [eq_iff_iff, iff_false]; have := r3_2_l; omega)
      have n2_4 : (B2 = B4) = False := (by simp only [eq_iff_iff, iff_false]; have := r3_2_l; omega)
      have n4_3 : (B4 = B3) = False := (by simp only [eq_iff_iff, iff_false]; have := r3_3_l; omega)
      have n3_4 : (B3 = B4) = False := (by simp only [eq_iff_iff, iff_false]; have := r3_3_l; omega)
      have r4_0 : Box w4 B0 #[.int .u64 0, .int .u64 0, .int .u64 0, .int .u64 0] 24 := r3_0.call hb4
      have r4_1 : Box w4 B1 #[.int .u64 (L f 0), .int .u64 (L f 1), .int .u64 (L f 2), .int .u64 (L f 3)] 24 := r3_1.call hb4
      have r4_2 : Box w4 B2 #[.int .u64 (L x 0), .int .u64 (L x 1), .int .u64 (L x 2), .int .u64 (L x 3)] 24 := r3_2.call hb4
      have r4_3 : Box w4 B3 #[.int .u64 0, .int .u64 0, .int .u64 0, .int .u64 0] 24 := r3_3.call hb4
      have r4_4 : Box w4 B4 #[.int .u64 (L f 0), .int .u64 (L f 1), .int .u64 (L f 2), .int .u64 (L f 3)] 24 := q4
      have b4 : Bl w w4 := Bl.trans b3 hb4
      have z4 : w3.heap.size ≤ w4.heap.size := (by have := hb4.size; omega)
      have y4 : w.heap.size ≤ w4.heap.size := b4.size
      clear r3_0 r3_0_c r3_0_f r3_0_l r3_1 r3_1_c r3_1_f r3_1_l r3_2 r3_2_c r3_2_f r3_2_l r3_3 r3_3_c r3_3_f r3_3_l b3
      obtain ⟨r4_0_c, r4_0_f, r4_0_l⟩ := r4_0.tell
      obtain ⟨r4_1_c, r4_1_f, r4_1_l⟩ := r4_1.tell
      obtain ⟨r4_2_c, r4_2_f, r4_2_l⟩ := r4_2.tell
      obtain ⟨r4_3_c, r4_3_f, r4_3_l⟩ := r4_3.tell
      obtain ⟨r4_4_c, r4_4_f, r4_4_l⟩ := r4_4.tell
      clear hb4 lw4
      go_wp2_with fail
      go_loopg [9, 10] (1024) (fun gk v9 v10 wr => ∃ (i : Nat) (a : Nat) (all : Nat) (A : Nat), i + gk = 1025 ∧ 1 ≤ i ∧ a < T256 ∧ all < T256 ∧ Hid (bbF gk x f i a all = some R) ∧ v9 = .int .u64 i ∧ v10 = .pointer (some ⟨A, 0, none⟩) ∧ Bl w wr ∧ Box wr B0 #[.int .u64 0, .int .u64 0, .int .u64 0, .int .u64 0] 24 ∧ Box wr B1 #[.int .u64 (L f 0), .int .u64 (L f 1), .int .u64 (L f 2), .int .u64 (L f 3)] 24 ∧ Box wr B2 #[.int .u64 (L x 0), .int .u64 (L x 1), .int .u64 (L x 2), .int .u64 (L x 3)] 24 ∧ Box wr B3 #[.int .u64 (L all 0), .int .u64 (L all 1), .int .u64 (L all 2), .int .u64 (L all 3)] 24 ∧ Box wr A #[.int .u64 (L a 0), .int .u64 (L a 1), .int .u64 (L a 2), .int .u64 (L a 3)] 24 ∧ w.heap.size ≤ A ∧ A ≠ B0 ∧ A ≠ B1 ∧ A ≠ B2 ∧ A ≠ B3)
      case atStart =>
        exact ⟨1, f, 0, B4, rfl, (by omega), hTf, T256_pos, HB, (by first | rfl | go_num), (by first | rfl | go_num), b4, r4_0, r4_1, r4_2, r4_3, r4_4, (by omega), (of_eq_false n4_0), (of_eq_false n4_1), (of_eq_false n4_2), (of_eq_false n4_3)⟩
      case round =>
        obtain ⟨i, a, all, A, hk, h1i, ha, hall, hbb, rfl, rfl, b5, r5_0, r5_1, r5_2, r5_3, r5_5, lo5, ne5_0, ne5_1, ne5_2, ne5_3⟩ := hrel
        clear r4_0 r4_0_c r4_0_f r4_0_l r4_1 r4_1_c r4_1_f r4_1_l r4_2 r4_2_c r4_2_f r4_2_l r4_3 r4_3_c r4_3_f r4_3_l r4_4 r4_4_c r4_4_f r4_4_l b4
        have n5_0 : (A = B0) = False := eq_false ne5_0
        have n0_5 : (B0 = A) = False := eq_false ne5_0.symm
        clear ne5_0
        have n5_1 : (A = B1) = False := eq_false ne5_1
        have n1_5 : (B1 = A) = False := eq_false ne5_1.symm
        clear ne5_1
        have n5_2 : (A = B2) = False := eq_false ne5_2
        have n2_5 : (B2 = A) = False := eq_false ne5_2.symm
        clear ne5_2
        have n5_3 : (A = B3) = False := eq_false ne5_3
        have n3_5 : (B3 = A) = False := eq_false ne5_3.symm
        clear ne5_3
        have y5 : w.heap.size ≤ wr.heap.size := b5.size
        obtain ⟨r5_0_c, r5_0_f, r5_0_l⟩ := r5_0.tell
        obtain ⟨r5_1_c, r5_1_f, r5_1_l⟩ := r5_1.tell
        obtain ⟨r5_2_c, r5_2_f, r5_2_l⟩ := r5_2.tell
        obtain ⟨r5_3_c, r5_3_f, r5_3_l⟩ := r5_3.tell
        obtain ⟨r5_5_c, r5_5_f, r5_5_l⟩ := r5_5.tell
        by_cases hz : a = 0
        · skip
          have hr : R = some (all / f) := by have := hbb.out; rw [hz, bb_zero] at this; simpa using this.symm
          have V1 : Hid (V = all / f) := HV.out.trans (by rw [hr]; rfl)
          have E1 : Hid (E = 0) := HE.out.trans (by rw [hr]; rfl)
          have hq := fun w => run_eq_U ha T256_pos w
          rw [← U_zero, decide_eq_true hz] at hq
          have q1 := fun w => divmod_c all f hall hTf w
          rw [show eZ f = 0 from if_neg (by omega)] at q1
          generalize dmR all f = rr at *
          obtain ⟨qq, hqq⟩ : ∃ q, q = all / f := ⟨_, rfl⟩
          rw [← hqq] at q1 V1
          clear hr hbb hqq hz
          go_wp2_with fail
          refine (q1 _).mono ?_
          rintro e w6 ⟨rfl, hb6⟩
          have r6_0 : Box w6 B0 #[.int .u64 0, .int .u64 0, .int .u64 0, .int .u64 0] 24 := (r5_0).call hb6
          have b6 : Bl w w6 := Bl.trans (b5) hb6
          have z6 : wr.heap.size ≤ w6.heap.size := (by have := hb6.size; (try simp only [World.alloc, World.setCell, World.drew, Array.size_push, Array.size_modify] at this); omega)
          have y6 : w.heap.size ≤ w6.heap.size := b6.size
          clear r5_0 r5_0_c r5_0_f r5_0_l r5_1 r5_1_c r5_1_f r5_1_l r5_2 r5_2_c r5_2_f r5_2_l r5_3 r5_3_c r5_3_f r5_3_l r5_5 r5_5_c r5_5_f r5_5_l b5
          obtain ⟨r6_0_c, r6_0_f, r6_0_l⟩ := r6_0.tell
          have d6_0 : (B0 = w6.heap.size) = False := (by simp only [eq_iff_iff, iff_false]; omega)
          have e6_0 : (w6.heap.size = B0) = False := (by simp only [eq_iff_iff, iff_false]; omega)
          have m6_0 : B0 < w6.heap.size := (by omega)
          have d6_1 : (B0 = w6.heap.size + 1) = False := (by simp only [eq_iff_iff, iff_false]; omega)
          have e6_1 : (w6.heap.size + 1 = B0) = False := (by simp only [eq_iff_iff, iff_false]; omega)
          have m6_1 : B0 < w6.heap.size + 1 := (by omega)
          have d6_2 : (B0 = w6.heap.size + 1 + 1) = False := (by simp only [eq_iff_iff, iff_false]; omega)
          have e6_2 : (w6.heap.size + 1 + 1 = B0) = False := (by simp only [eq_iff_iff, iff_false]; omega)
          have m6_2 : B0 < w6.heap.size + 1 + 1 := (by omega)
          clear hb6
          go_wp2_with fail
          refine bodyPost_ret (v := .tuple #[U qq, .int .i64 0]) (by simp only [results, Try.results16]; go_simp) rfl ⟨by rw [V1.out, E1.out] <;> rfl, ?_⟩
          exact ((((((b6).setCell (by simp only []; omega) _).setCell (by simp only []; omega) _).setCell (by simp only []; omega) _).setCell (by simp only []; omega) _).alloc _).alloc _
        · skip
          obtain ⟨g, rfl⟩ : ∃ g, gk = g + 1 := ⟨gk - 1, by rcases gk with _ | g; exact (bb_out hz hbb.out).elim; omega⟩
          have hq := fun w => run_eq_U ha T256_pos w
          rw [← U_zero, decide_eq_false hz] at hq
          have hi64 : i < 18446744073709551616 := by omega
          have hiI : (i : Int) ≤ 1025 := by omega
          have hiT : i < T256 := by rw [T256_eq]; omega
          have hfi : f * i < T256 := by
            have : f * i ≤ 18446744073709551616 * 1025 := Nat.mul_le_mul (by omega) (by omega)
            rw [T256_eq]; omega
          have a1 := fun w => add_c all a hall ha w
          have a2 := fun w => from_c i hi64 w
          have a3 := fun w => mul_c f i hTf hiT w
          rw [Nat.div_eq_of_lt hfi, Nat.mod_eq_of_lt hfi] at a3
          have a4 := fun w => muldiv_c a x (f * i) ha hTx hfi w
          have hne : f * i ≠ 0 := Nat.mul_ne_zero (by omega) (by omega)
          obtain ⟨by_, hby⟩ : ∃ b, b = f * i := ⟨_, rfl⟩
          rw [← hby] at a3 a4 hne hfi
          by_cases h5 : all + a < T256
          · skip
            by_cases h6 : a * x / by_ < T256
            · skip
              rw [Nat.div_eq_of_lt h5, Nat.mod_eq_of_lt h5] at a1
              rw [show mdE a x by_ = 0 by unfold mdE; rw [if_neg hne, if_pos h6], show mdV a x by_ = a * x / by_ from if_pos h6] at a4
              have HN : Hid (bbF g x f (i + 1) (a * x / by_) (all + a) = some R) := by
                have := hbb.out; rw [bb_next hz h5 (by rw [← hby]; exact h6), ← hby] at this; exact this
              obtain ⟨an, han⟩ : ∃ v, v = a * x / by_ := ⟨_, rfl⟩
              obtain ⟨sn, hsn⟩ : ∃ v, v = all + a := ⟨_, rfl⟩
              rw [← han] at a4 HN h6
              rw [← hsn] at a1 HN h5
              have hkk : Hid (i + 1 + g = 1025) := Lib.hid (by omega)
              clear hbb hby han hsn hz hne hfi hk
              go_wp2_with fail
              refine (a1 _).mono ?_
              rintro e w7 ⟨rfl, hb7⟩
              have r7_0 : Box w7 B0 #[.int .u64 0, .int .u64 0, .int .u64 0, .int .u64 0] 24 := (r5_0).call hb7
              have r7_1 : Box w7 B1 #[.int .u64 (L f 0), .int .u64 (L f 1), .int .u64 (L f 2), .int .u64 (L f 3)] 24 := (r5_1).call hb7
              have r7_2 : Box w7 B2 #[.int .u64 (L x 0), .int .u64 (L x 1), .int .u64 (L x 2), .int .u64 (L x 3)] 24 := (r5_2).call hb7
              have r7_3 : Box w7 B3 #[.int .u64 (L all 0), .int .u64 (L all 1), .int .u64 (L all 2), .int .u64 (L all 3)] 24 := (r5_3).call hb7
              have r7_5 : Box w7 A #[.int .u64 (L a 0), .int .u64 (L a 1), .int .u64 (L a 2), .int .u64 (L a 3)] 24 := (r5_5).call hb7
              have b7 : Bl w w7 := Bl.trans (b5) hb7
              have z7 : wr.heap.size ≤ w7.heap.size := (by have := hb7.size; (try simp only [World.alloc, World.setCell, World.drew, Array.size_push, Array.size_modify] at this); omega)
              have y7 : w.heap.size ≤ w7.heap.size := b7.size
              clear r5_0 r5_0_c r5_0_f r5_0_l r5_1 r5_1_c r5_1_f r5_1_l r5_2 r5_2_c r5_2_f r5_2_l r5_3 r5_3_c r5_3_f r5_3_l r5_5 r5_5_c r5_5_f r5_5_l b5
              obtain ⟨r7_0_c, r7_0_f, r7_0_l⟩ := r7_0.tell
              obtain ⟨r7_1_c, r7_1_f, r7_1_l⟩ := r7_1.tell
              obtain ⟨r7_2_c, r7_2_f, r7_2_l⟩ := r7_2.tell
              obtain ⟨r7_3_c, r7_3_f, r7_3_l⟩ := r7_3.tell
              obtain ⟨r7_5_c, r7_5_f, r7_5_l⟩ := r7_5.tell
              have d7_0 : (B0 = w7.heap.size) = False := (by simp only [eq_iff_iff, iff_false]; omega)
              have e7_0 : (w7.heap.size = B0) = False := (by simp only [eq_iff_iff, iff_false]; omega)
              have m7_0 : B0 < w7.heap.size := (by omega)
              have d7_1 : (B0 = w7.heap.size + 1) = False := (by simp only [eq_iff_iff, iff_false]; omega)
              have e7_1 : (w7.heap.size + 1 = B0) = False := (by simp only [eq_iff_iff, iff_false]; omega)
              have m7_1 : B0 < w7.heap.size + 1 := (by omega)
              have d7_2 : (B1 = w7.heap.size) = False := (by simp only [eq_iff_iff, iff_false]; omega)
              have e7_2 : (w7.heap.size = B1) = False := (by simp only [eq_iff_iff, iff_false]; omega)
              have m7_2 : B1 < w7.heap.size := (by omega)
              have d7_3 : (B1 = w7.heap.size + 1) = False := (by simp only [eq_iff_iff, iff_false]; omega)
              have e7_3 : (w7.heap.size + 1 = B1) = False := (by simp only [eq_iff_iff, iff_false]; omega)
              have m7_3 : B1 < w7.heap.size + 1 := (by omega)
              have d7_4 : (B2 = w7.heap.size) = False := (by simp only [eq_iff_iff, iff_false]; omega)
              have e7_4 : (w7.heap.size = B2) = False := (by simp only [eq_iff_iff, iff_false]; omega)
              have m7_4 : B2 < w7.heap.size := (by omega)
              have d7_5 : (B2 = w7.heap.size + 1) = False := (by simp only [eq_iff_iff, iff_false]; omega)
              have e7_5 : (w7.heap.size + 1 = B2) = False := (by simp only [eq_iff_iff, iff_false]; omega)
              have m7_5 : B2 < w7.heap.size + 1 := (by omega)
              have d7_6 : (B3 = w7.heap.size) = False := (by simp only [eq_iff_iff, iff_false]; omega)
              have e7_6 : (w7.heap.size = B3) = False := (by simp only [eq_iff_iff, iff_false]; omega)
              have m7_6 : B3 < w7.heap.size := (by omega)
              have d7_7 : (B3 = w7.heap.size + 1) = False := (by simp only [eq_iff_iff, iff_false]; omega)
              have e7_7 : (w7.heap.size + 1 = B3) = False := (by simp only [eq_iff_iff, iff_false]; omega)
              have m7_7 : B3 < w7.heap.size + 1 := (by omega)
              have d7_8 : (A = w7.heap.size) = False := (by simp only [eq_iff_iff, iff_false]; omega)
              have e7_8 : (w7.heap.size = A) = False := (by simp only [eq_iff_iff, iff_false]; omega)
              have m7_8 : A < w7.heap.size := (by omega)
              have d7_9 : (A = w7.heap.size + 1) = False := (by simp only [eq_iff_iff, iff_false]; omega)
              have e7_9 : (w7.heap.size + 1 = A) = False := (by simp only [eq_iff_iff, iff_false]; omega)
              have m7_9 : A < w7.heap.size + 1 := (by omega)
              clear hb7
              go_wp2_with fail
              obtain ⟨w8, hw8⟩ : ∃ V : World, V = (w7.alloc (.cells #[.int .u64 (L sn 0), .int .u64 (L sn 1), .int .u64 (L sn 2), .int .u64 (L sn 3)] 24)) := ⟨_, rfl⟩
              rw [← hw8]
              have r8_0 : Box w8 B0 #[.int .u64 0, .int .u64 0, .int .u64 0, .int .u64 0] 24 := by rw [hw8]; exact (r7_0).alloc _
              have r8_1 : Box w8 B1 #[.int .u64 (L f 0), .int .u64 (L f 1), .int .u64 (L f 2), .int .u64 (L f 3)] 24 := by rw [hw8]; exact (r7_1).alloc _
              have r8_2 : Box w8 B2 #[.int .u64 (L x 0), .int .u64 (L x 1), .int .u64 (L x 2), .int .u64 (L x 3)] 24 := by rw [hw8]; exact (r7_2).alloc _
              have r8_3 : Box w8 B3 #[.int .u64 (L all 0), .int .u64 (L all 1), .int .u64 (L all 2), .int .u64 (L all 3)] 24 := by rw [hw8]; exact (r7_3).alloc _
              have r8_5 : Box w8 A #[.int .u64 (L a 0), .int .u64 (L a 1), .int .u64 (L a 2), .int .u64 (L a 3)] 24 := by rw [hw8]; exact (r7_5).alloc _
              have r8_8 : Box w8 w7.heap.size #[.int .u64 (L sn 0), .int .u64 (L sn 1), .int .u64 (L sn 2), .int .u64 (L sn 3)] 24 := by rw [hw8]; exact Box.new _ _ _ _ (by simp)
              have b8 : Bl w w8 := by rw [hw8]; exact (b7).alloc _
              have z8 : w7.heap.size + 1 ≤ w8.heap.size := (by rw [hw8]; simp only [World.alloc, World.setCell, World.drew, Array.size_push, Array.size_modify]; omega)
              have y8 : w.heap.size ≤ w8.heap.size := b8.size
              obtain ⟨B8, hB8⟩ : ∃ B, B = w7.heap.size := ⟨_, rfl⟩
              (try rw [← hB8]); rw [← hB8] at r8_8
              have lo8 : w.heap.size ≤ B8 := by omega
              have n8_0 : (B8 = B0) = False := (by simp only [eq_iff_iff, iff_false]; have := r7_0_l; omega)
              have n0_8 : (B0 = B8) = False := (by simp only [eq_iff_iff, iff_false]; have := r7_0_l; omega)
              have n8_1 : (B8 = B1) = False := (by simp only [eq_iff_iff, iff_false]; have := r7_1_l; omega)
              have n1_8 : (B1 = B8) = False := (by simp only [eq_iff_iff, iff_false]; have := r7_1_l; omega)
              have n8_2 : (B8 = B2) = False := (by simp only [eq_iff_iff, iff_false]; have := r7_2_l; omega)
              have n2_8 : (B2 = B8) = False := (by simp only [eq_iff_iff, iff_false]; have := r7_2_l; omega)
              have n8_3 : (B8 = B3) = False := (by simp only [eq_iff_iff, iff_false]; have := r7_3_l; omega)
              have n3_8 : (B3 = B8) = False := (by simp only [eq_iff_iff, iff_false]; have := r7_3_l; omega)
              have n8_5 : (B8 = A) = False := (by simp only [eq_iff_iff, iff_false]; have := r7_5_l; omega)
              have n5_8 : (A = B8) = False := (by simp only [eq_iff_iff, iff_false]; have := r7_5_l; omega)
              clear hB8
              clear r7_0 r7_0_c r7_0_f r7_0_l r7_1 r7_1_c r7_1_f r7_1_l r7_2 r7_2_c r7_2_f r7_2_l r7_3 r7_3_c r7_3_f r7_3_l r7_5 r7_5_c r7_5_f r7_5_l b7
              obtain ⟨r8_0_c, r8_0_f, r8_0_l⟩ := r8_0.tell
              obtain ⟨r8_1_c, r8_1_f, r8_1_l⟩ := r8_1.tell
              obtain ⟨r8_2_c, r8_2_f, r8_2_l⟩ := r8_2.tell
              obtain ⟨r8_3_c, r8_3_f, r8_3_l⟩ := r8_3.tell
              obtain ⟨r8_5_c, r8_5_f, r8_5_l⟩ := r8_5.tell
              obtain ⟨r8_8_c, r8_8_f, r8_8_l⟩ := r8_8.tell
              clear hw8
              refine wp_region_told_at (fun l0 D a' w' => ∃ (x40 : Value) (x41 : Value) (x42 : Value) (x43 : Value) (x39 : Value) (x44 : Value) (x45 : Value) (x13 : Value) (x14 : Value) (C7 : Nat) (C8 : Nat), a' = ⟨((((((((((l0).set 40 x40).set 41 x41).set 42 x42).set 43 x43).set 39 x39).set 44 x44).set 45 x45).set 13 x13).set 14 x14).toArray, []⟩ ∧ Bl w8 w' ∧ (D 0 → x40 = U f) ∧ (D 1 → x41 = .int .u64 i) ∧ (D 2 → x42 = U i) ∧ (D 3 → x43 = .tuple #[U 0, U by_]) ∧ (D 4 → x39 = .tuple #[U 0, U by_]) ∧ (D 5 → x44 = U 0) ∧ (D 6 → x45 = U by_) ∧ Blk D 7 9 w8 w' x13 C7 #[.int .u64 0, .int .u64 0, .int .u64 0, .int .u64 0] #[.int .u64 (L 0 0), .int .u64 (L 0 1), .int .u64 (L 0 2), .int .u64 (L 0 3)] 24 ∧ Blk D 8 10 w8 w' x14 C8 #[.int .u64 0, .int .u64 0, .int .u64 0, .int .u64 0] #[.int .u64 (L by_ 0), .int .u64 (L by_ 1), .int .u64 (L by_ 2), .int .u64 (L by_ 3)] 24 ∧ NeB D 7 8 C7 C8) (by kernel_rfl) (by kernel_rfl) ?_ ?_ ?_
              · exact fun l0 => ⟨l0.getD 40 undef, l0.getD 41 undef, l0.getD 42 undef, l0.getD 43 undef, l0.getD 39 undef, l0.getD 44 undef, l0.getD 45 undef, l0.getD 13 undef, l0.getD 14 undef, 0, 0, (by simp only [set_self]), (Bl.refl w8).drew, fun h => h.elim, fun h => h.elim, fun h => h.elim, fun h => h.elim, fun h => h.elim, fun h => h.elim, fun h => h.elim, Blk.start, Blk.start, NeB.start⟩
              · intro Inv hInv
                refine AllD.cons ?_ (AllD.cons ?_ (AllD.cons ?_ (AllD.cons ?_ (AllD.cons ?_ (AllD.cons ?_ (AllD.cons ?_ (AllD.cons ?_ (AllD.cons ?_ (AllD.cons ?_ (AllD.cons ?_ (AllD.nil)))))))))))
                · refine StepD.plain rfl rfl ?_
                  intro D a' w' hn hp hI K hK
                  obtain ⟨x40, x41, x42, x43, x39, x44, x45, x13, x14, C7, C8, ha, hbl, zf0, zf1, zf2, zf3, zf4, zf5, zf6, zg7, zg8, zn0_1⟩ := (hInv.out D a' w').1 hI
                  subst ha; clear hI
                  (try simp only [List.set_cons_zero, List.set_cons_succ])
                  have bz := r8_1.call hbl
                  obtain ⟨bc, bf, bl_⟩ := bz.tell
                  go_simp
                  exact hK.out _ _ ((hInv.out _ _ _).2 ⟨_, _, _, _, _, _, _, _, _, C7, C8, rfl, hbl, fun _ => (by first | rfl | go_num | (simp; done)), told_next zf1 (by decide), told_next zf2 (by decide), told_next zf3 (by decide), told_next zf4 (by decide), told_next zf5 (by decide), told_next zf6 (by decide), zg7.next (by decide) (by decide) (fun _ _ h => h), zg8.next (by decide) (by decide) (fun _ _ h => h), zn0_1.next (by decide) (by decide)⟩)
                · refine StepD.plain rfl rfl ?_
                  intro D a' w' hn hp hI K hK
                  obtain ⟨x40, x41, x42, x43, x39, x44, x45, x13, x14, C7, C8, ha, hbl, zf0, zf1, zf2, zf3, zf4, zf5, zf6, zg7, zg8, zn0_1⟩ := (hInv.out D a' w').1 hI
                  subst ha; clear hI
                  (try simp only [List.set_cons_zero, List.set_cons_succ])
                  go_simp
                  exact hK.out _ _ ((hInv.out _ _ _).2 ⟨_, _, _, _, _, _, _, _, _, C7, C8, rfl, hbl, told_next zf0 (by decide), fun _ => (by first | rfl | go_num | (simp; done)), told_next zf2 (by decide), told_next zf3 (by decide), told_next zf4 (by decide), told_next zf5 (by decide), told_next zf6 (by decide), zg7.next (by decide) (by decide) (fun _ _ h => h), zg8.next (by decide) (by decide) (fun _ _ h => h), zn0_1.next (by decide) (by decide)⟩)
                · refine StepD.plain rfl rfl ?_
                  intro D a' w' hn hp hI K hK
                  obtain ⟨x40, x41, x42, x43, x39, x44, x45, x13, x14, C7, C8, ha, hbl, zf0, zf1, zf2, zf3, zf4, zf5, zf6, zg7, zg8, zn0_1⟩ := (hInv.out D a' w').1 hI
                  subst ha; clear hI
                  (try simp only [List.set_cons_zero, List.set_cons_succ])
                  obtain ⟨p2_1, _⟩ := hp
                  have p2_1 : D 1 := p2_1 rfl
                  have e1 := zf1 p2_1; subst e1
                  go_simp
                  refine (a2 _).mono ?_
                  rintro e w2 ⟨rfl, hbc⟩
                  go_wp2_with fail
                  exact hK.out _ _ ((hInv.out _ _ _).2 ⟨_, _, _, _, _, _, _, _, _, C7, C8, rfl, hbl.trans hbc, told_next zf0 (by decide), fun _ => rfl, fun _ => (by first | rfl | go_num | (simp; done)), told_next zf3 (by decide), told_next zf4 (by decide), told_next zf5 (by decide), told_next zf6 (by decide), zg7.next (by decide) (by decide) (fun _ _ h => h.call hbc), zg8.next (by decide) (by decide) (fun _ _ h => h.call hbc), zn0_1.next (by decide) (by decide)⟩)
                · refine StepD.plain rfl rfl ?_
                  intro D a' w' hn hp hI K hK
                  obtain ⟨x40, x41, x42, x43, x39, x44, x45, x13, x14, C7, C8, ha, hbl, zf0, zf1, zf2, zf3, zf4, zf5, zf6, zg7, zg8, zn0_1⟩ := (hInv.out D a' w').1 hI
                  subst ha; clear hI
                  (try simp only [List.set_cons_zero, List.set_cons_succ])
                  obtain ⟨p3_0, p3_2, _, _⟩ := hp
                  have p3_0 : D 0 := p3_0 rfl
                  have p3_2 : D 2 := p3_2 rfl
                  have e0 := zf0 p3_0; subst e0
                  have e2 := zf2 p3_2; subst e2
                  go_simp
                  refine (a3 _).mono ?_
                  rintro e w2 ⟨rfl, hbc⟩
                  go_wp2_with fail
                  exact hK.out _ _ ((hInv.out _ _ _).2 ⟨_, _, _, _, _, _, _, _, _, C7, C8, rfl, hbl.trans hbc, fun _ => rfl, told_next zf1 (by decide), fun _ => rfl, fun _ => (by first | rfl | go_num | (simp; done)), told_next zf4 (by decide), told_next zf5 (by decide), told_next zf6 (by decide), zg7.next (by decide) (by decide) (fun _ _ h => h.call hbc), zg8.next (by decide) (by decide) (fun _ _ h => h.call hbc), zn0_1.next (by decide) (by decide)⟩)
                · refine StepD.plain rfl rfl ?_
                  intro D a' w' hn hp hI K hK
                  obtain ⟨x40, x41, x42, x43, x39, x44, x45, x13, x14, C7, C8, ha, hbl, zf0, zf1, zf2, zf3, zf4, zf5, zf6, zg7, zg8, zn0_1⟩ := (hInv.out D a' w').1 hI
                  subst ha; clear hI
                  (try simp only [List.set_cons_zero, List.set_cons_succ])
                  obtain ⟨p4_3, _⟩ := hp
                  have p4_3 : D 3 := p4_3 rfl
                  have e3 := zf3 p4_3; subst e3
                  go_simp
                  exact hK.out _ _ ((hInv.out _ _ _).2 ⟨_, _, _, _, _, _, _, _, _, C7, C8, rfl, hbl, told_next zf0 (by decide), told_next zf1 (by decide), told_next zf2 (by decide), fun _ => rfl, fun _ => (by first | rfl | go_num | (simp; done)), told_next zf5 (by decide), told_next zf6 (by decide), zg7.next (by decide) (by decide) (fun _ _ h => h), zg8.next (by decide) (by decide) (fun _ _ h => h), zn0_1.next (by decide) (by decide)⟩)
                · refine StepD.plain rfl rfl ?_
                  intro D a' w' hn hp hI K hK
                  obtain ⟨x40, x41, x42, x43, x39, x44, x45, x13, x14, C7, C8, ha, hbl, zf0, zf1, zf2, zf3, zf4, zf5, zf6, zg7, zg8, zn0_1⟩ := (hInv.out D a' w').1 hI
                  subst ha; clear hI
                  (try simp only [List.set_cons_zero, List.set_cons_succ])
                  obtain ⟨p5_4, _⟩ := hp
                  have p5_4 : D 4 := p5_4 rfl
                  have e4 := zf4 p5_4; subst e4
                  go_simp
                  exact hK.out _ _ ((hInv.out _ _ _).2 ⟨_, _, _, _, _, _, _, _, _, C7, C8, rfl, hbl, told_next zf0 (by decide), told_next zf1 (by decide), told_next zf2 (by decide), told_next zf3 (by decide), fun _ => rfl, fun _ => (by first | rfl | go_num | (simp; done)), told_next zf6 (by decide), zg7.next (by decide) (by decide) (fun _ _ h => h), zg8.next (by decide) (by decide) (fun _ _ h => h), zn0_1.next (by decide) (by decide)⟩)
                · refine StepD.plain rfl rfl ?_
                  intro D a' w' hn hp hI K hK
                  obtain ⟨x40, x41, x42, x43, x39, x44, x45, x13, x14, C7, C8, ha, hbl, zf0, zf1, zf2, zf3, zf4, zf5, zf6, zg7, zg8, zn0_1⟩ := (hInv.out D a' w').1 hI
                  subst ha; clear hI
                  (try simp only [List.set_cons_zero, List.set_cons_succ])
                  obtain ⟨p6_4, _, _⟩ := hp
                  have p6_4 : D 4 := p6_4 rfl
                  have e4 := zf4 p6_4; subst e4
                  go_simp
                  exact hK.out _ _ ((hInv.out _ _ _).2 ⟨_, _, _, _, _, _, _, _, _, C7, C8, rfl, hbl, told_next zf0 (by decide), told_next zf1 (by decide), told_next zf2 (by decide), told_next zf3 (by decide), fun _ => rfl, told_next zf5 (by decide), fun _ => (by first | rfl | go_num | (simp; done)), zg7.next (by decide) (by decide) (fun _ _ h => h), zg8.next (by decide) (by decide) (fun _ _ h => h), zn0_1.next (by decide) (by decide)⟩)
                · refine StepD.plain rfl rfl ?_
                  intro D a' w' hn hp hI K hK
                  obtain ⟨x40, x41, x42, x43, x39, x44, x45, x13, x14, C7, C8, ha, hbl, zf0, zf1, zf2, zf3, zf4, zf5, zf6, zg7, zg8, zn0_1⟩ := (hInv.out D a' w').1 hI
                  subst ha; clear hI
                  (try simp only [List.set_cons_zero, List.set_cons_succ])
                  go_simp
                  exact hK.out _ _ ((hInv.out _ _ _).2 ⟨_, _, _, _, _, _, _, _, _, _, C8, rfl, hbl.alloc _, told_next zf0 (by decide), told_next zf1 (by decide), told_next zf2 (by decide), told_next zf3 (by decide), told_next zf4 (by decide), told_next zf5 (by decide), told_next zf6 (by decide), zg7.made hn (by decide) hbl.size, zg8.next (by decide) (by decide) (fun _ _ h => h.alloc _), NeB.right zg8 (by decide)⟩)
                · refine StepD.plain rfl rfl ?_
                  intro D a' w' hn hp hI K hK
                  obtain ⟨x40, x41, x42, x43, x39, x44, x45, x13, x14, C7, C8, ha, hbl, zf0, zf1, zf2, zf3, zf4, zf5, zf6, zg7, zg8, zn0_1⟩ := (hInv.out D a' w').1 hI
                  subst ha; clear hI
                  (try simp only [List.set_cons_zero, List.set_cons_succ])
                  go_simp
                  exact hK.out _ _ ((hInv.out _ _ _).2 ⟨_, _, _, _, _, _, _, _, _, C7, _, rfl, hbl.alloc _, told_next zf0 (by decide), told_next zf1 (by decide), told_next zf2 (by decide), told_next zf3 (by decide), told_next zf4 (by decide), told_next zf5 (by decide), told_next zf6 (by decide), zg7.next (by decide) (by decide) (fun _ _ h => h.alloc _), zg8.made hn (by decide) hbl.size, NeB.left zg7 (by decide)⟩)
                · refine StepD.plain rfl rfl ?_
                  intro D a' w' hn hp hI K hK
                  obtain ⟨x40, x41, x42, x43, x39, x44, x45, x13, x14, C7, C8, ha, hbl, zf0, zf1, zf2, zf3, zf4, zf5, zf6, zg7, zg8, zn0_1⟩ := (hInv.out D a' w').1 hI
                  subst ha; clear hI
                  (try simp only [List.set_cons_zero, List.set_cons_succ])
                  obtain ⟨p9_7, p9_5, p9_3, p9_0, p9_1, p9_2, _, p9_4, _, _, _, p9_8, _⟩ := hp
                  have p9_0 : D 0 := p9_0 rfl
                  have p9_1 : D 1 := p9_1 rfl
                  have p9_2 : D 2 := p9_2 rfl
                  have p9_3 : D 3 := p9_3 rfl
                  have p9_4 : D 4 := p9_4 rfl
                  have p9_5 : D 5 := p9_5 rfl
                  have p9_7 : D 7 := p9_7 rfl
                  have p9_8 : D 8 := p9_8 rfl
                  obtain ⟨e13, lw13, ha13, hz13⟩ := zg7.2 p9_7
                  subst e13
                  have bz := hz13 hn
                  obtain ⟨bc, bf, bl_⟩ := bz.tell
                  clear ha13 hz13
                  have e5 := zf5 p9_5; subst e5
                  go_simp
                  have lwb : w8.heap.size ≤ C7 := lw13
                  have far8 : ∀ (h : D 8), C8 ≠ C7 := fun h => (zn0_1 p9_7 h).symm
                  exact hK.out _ _ ((hInv.out _ _ _).2 ⟨_, _, _, _, _, _, _, _, _, C7, C8, rfl, ((((hbl).setCell (by simp only []; omega) _).setCell (by simp only []; omega) _).setCell (by simp only []; omega) _).setCell (by simp only []; omega) _, told_next zf0 (by decide), told_next zf1 (by decide), told_next zf2 (by decide), told_next zf3 (by decide), told_next zf4 (by decide), fun _ => rfl, told_next zf6 (by decide), zg7.filled p9_7 hn (fun h => (((((h).set _ _).set _ _).set _ _).set _ _).cells rfl), zg8.next (by decide) (by decide) (fun hd _ h => ((((h).far _ _ (far8 hd)).far _ _ (far8 hd)).far _ _ (far8 hd)).far _ _ (far8 hd)), zn0_1.next (by decide) (by decide)⟩)
                · refine StepD.plain rfl rfl ?_
                  intro D a' w' hn hp hI K hK
                  obtain ⟨x40, x41, x42, x43, x39, x44, x45, x13, x14, C7, C8, ha, hbl, zf0, zf1, zf2, zf3, zf4, zf5, zf6, zg7, zg8, zn0_1⟩ := (hInv.out D a' w').1 hI
                  subst ha; clear hI
                  (try simp only [List.set_cons_zero, List.set_cons_succ])
                  obtain ⟨p10_8, p10_6, p10_9, p10_0, p10_1, p10_2, p10_3, p10_4, p10_5, _, p10_7, _, _, _⟩ := hp
                  have p10_0 : D 0 := p10_0 rfl
                  have p10_1 : D 1 := p10_1 rfl
                  have p10_2 : D 2 := p10_2 rfl
                  have p10_3 : D 3 := p10_3 rfl
                  have p10_4 : D 4 := p10_4 rfl
                  have p10_5 : D 5 := p10_5 rfl
                  have p10_6 : D 6 := p10_6 rfl
                  have p10_7 : D 7 := p10_7 rfl
                  have p10_8 : D 8 := p10_8 rfl
                  have p10_9 : D 9 := p10_9 rfl
                  obtain ⟨e14, lw14, ha14, hz14⟩ := zg8.2 p10_8
                  subst e14
                  have bz := hz14 hn
                  obtain ⟨bc, bf, bl_⟩ := bz.tell
                  clear ha14 hz14
                  have e6 := zf6 p10_6; subst e6
                  go_simp
                  have lwb : w8.heap.size ≤ C8 := lw14
                  have far7 : ∀ (h : D 7), C7 ≠ C8 := fun h => zn0_1 h p10_8
                  exact hK.out _ _ ((hInv.out _ _ _).2 ⟨_, _, _, _, _, _, _, _, _, C7, C8, rfl, ((((hbl).setCell (by simp only []; omega) _).setCell (by simp only []; omega) _).setCell (by simp only []; omega) _).setCell (by simp only []; omega) _, told_next zf0 (by decide), told_next zf1 (by decide), told_next zf2 (by decide), told_next zf3 (by decide), told_next zf4 (by decide), told_next zf5 (by decide), fun _ => rfl, zg7.next (by decide) (by decide) (fun hd _ h => ((((h).far _ _ (far7 hd)).far _ _ (far7 hd)).far _ _ (far7 hd)).far _ _ (far7 hd)), zg8.filled p10_8 hn (fun h => (((((h).set _ _).set _ _).set _ _).set _ _).cells rfl), zn0_1.next (by decide) (by decide)⟩)
              · intro D a' w9 hall hI
                obtain ⟨x40, x41, x42, x43, x39, x44, x45, x13, x14, B9, B10, ha, hb9, zf0, zf1, zf2, zf3, zf4, zf5, zf6, zg7, zg8, zn0_1⟩ := hI
                subst ha
                (try simp only [List.set_cons_zero, List.set_cons_succ])
                have e := zf0 (hall 0 (by decide)); subst e
                have e := zf1 (hall 1 (by decide)); subst e
                have e := zf2 (hall 2 (by decide)); subst e
                have e := zf3 (hall 3 (by decide)); subst e
                have e := zf4 (hall 4 (by decide)); subst e
                have e := zf5 (hall 5 (by decide)); subst e
                have e := zf6 (hall 6 (by decide)); subst e
                obtain ⟨e, lw9, ha9, hz9⟩ := zg7.2 (hall 7 (by decide))
                subst e
                have q9 := ha9 (hall 9 (by decide))
                clear ha9 hz9 zg7
                obtain ⟨e, lw10, ha10, hz10⟩ := zg8.2 (hall 8 (by decide))
                subst e
                have q10 := ha10 (hall 10 (by decide))
                clear ha10 hz10 zg8
                have zn0_1 := zn0_1 (hall 7 (by decide)) (hall 8 (by decide))
                clear hall
                (try simp only [Act.put, List.setIfInBounds_toArray, List.set_cons_zero, List.set_cons_succ])
                have lo9 : w.heap.size ≤ B9 := (by have := y8; omega)
                have lo10 : w.heap.size ≤ B10 := (by have := y8; omega)
                have n9_0 : (B9 = B0) = False := (by simp only [eq_iff_iff, iff_false]; have := r8_0_l; omega)
                have n0_9 : (B0 = B9) = False := (by simp only [eq_iff_iff, iff_false]; have := r8_0_l; omega)
                have n9_1 : (B9 = B1) = False := (by simp only [eq_iff_iff, iff_false]; have := r8_1_l; omega)
                have n1_9 : (B1 = B9) = False := (by simp only [eq_iff_iff, iff_false]; have := r8_1_l; omega)
                have n9_2 : (B9 = B2) = False := (by simp only [eq_iff_iff, iff_false]; have := r8_2_l; omega)
                have n2_9 : (B2 = B9) = False := (by simp only [eq_iff_iff, iff_false]; have := r8_2_l; omega)
                have n9_3 : (B9 = B3) = False := (by simp only [eq_iff_iff, iff_false]; have := r8_3_l; omega)
                have n3_9 : (B3 = B9) = False := (by simp only [eq_iff_iff, iff_false]; have := r8_3_l; omega)
                have n9_5 : (B9 = A) = False := (by simp only [eq_iff_iff, iff_false]; have := r8_5_l; omega)
                have n5_9 : (A = B9) = False := (by simp only [eq_iff_iff, iff_false]; have := r8_5_l; omega)
                have n9_8 : (B9 = B8) = False := (by simp only [eq_iff_iff, iff_false]; have := r8_8_l; omega)
                have n8_9 : (B8 = B9) = False := (by simp only [eq_iff_iff, iff_false]; have := r8_8_l; omega)
                have n9_10 : (B9 = B10) = False := (by simp only [eq_iff_iff, iff_false]; omega)
                have n10_9 : (B10 = B9) = False := (by simp only [eq_iff_iff, iff_false]; omega)
                have n10_0 : (B10 = B0) = False := (by simp only [eq_iff_iff, iff_false]; have := r8_0_l; omega)
                have n0_10 : (B0 = B10) = False := (by simp only [eq_iff_iff, iff_false]; have := r8_0_l; omega)
                have n10_1 : (B10 = B1) = False := (by simp only [eq_iff_iff, iff_false]; have := r8_1_l; omega)
                have n1_10 : (B1 = B10) = False := (by simp only [eq_iff_iff, iff_false]; have := r8_1_l; omega)
                have n10_2 : (B10 = B2) = False := (by simp only [eq_iff_iff, iff_false]; have := r8_2_l; omega)
                have n2_10 : (B2 = B10) = False := (by simp only [eq_iff_iff, iff_false]; have := r8_2_l; omega)
                have n10_3 : (B10 = B3) = False := (by simp only [eq_iff_iff, iff_false]; have := r8_3_l; omega)
                have n3_10 : (B3 = B10) = False := (by simp only [eq_iff_iff, iff_false]; have := r8_3_l; omega)
                have n10_5 : (B10 = A) = False := (by simp only [eq_iff_iff, iff_false]; have := r8_5_l; omega)
                have n5_10 : (A = B10) = False := (by simp only [eq_iff_iff, iff_false]; have := r8_5_l; omega)
                have n10_8 : (B10 = B8) = False := (by simp only [eq_iff_iff, iff_false]; have := r8_8_l; omega)
                have n8_10 : (B8 = B10) = False := (by simp only [eq_iff_iff, iff_false]; have := r8_8_l; omega)
                have r9_0 : Box w9 B0 #[.int .u64 0, .int .u64 0, .int .u64 0, .int .u64 0] 24 := r8_0.call hb9
                have r9_1 : Box w9 B1 #[.int .u64 (L f 0), .int .u64 (L f 1), .int .u64 (L f 2), .int .u64 (L f 3)] 24 := r8_1.call hb9
                have r9_2 : Box w9 B2 #[.int .u64 (L x 0), .int .u64 (L x 1), .int .u64 (L x 2), .int .u64 (L x 3)] 24 := r8_2.call hb9
                have r9_3 : Box w9 B3 #[.int .u64 (L all 0), .int .u64 (L all 1), .int .u64 (L all 2), .int .u64 (L all 3)] 24 := r8_3.call hb9
                have r9_5 : Box w9 A #[.int .u64 (L a 0), .int .u64 (L a 1), .int .u64 (L a 2), .int .u64 (L a 3)] 24 := r8_5.call hb9
                have r9_8 : Box w9 B8 #[.int .u64 (L sn 0), .int .u64 (L sn 1), .int .u64 (L sn 2), .int .u64 (L sn 3)] 24 := r8_8.call hb9
                have r9_9 : Box w9 B9 #[.int .u64 (L 0 0), .int .u64 (L 0 1), .int .u64 (L 0 2), .int .u64 (L 0 3)] 24 := q9
                have r9_10 : Box w9 B10 #[.int .u64 (L by_ 0), .int .u64 (L by_ 1), .int .u64 (L by_ 2), .int .u64 (L by_ 3)] 24 := q10
                have b9 : Bl w w9 := Bl.trans b8 hb9
                have z9 : w8.heap.size ≤ w9.heap.size := (by have := hb9.size; omega)
                have y9 : w.heap.size ≤ w9.heap.size := b9.size
                clear r8_0 r8_0_c r8_0_f r8_0_l r8_1 r8_1_c r8_1_f r8_1_l r8_2 r8_2_c r8_2_f r8_2_l r8_3 r8_3_c r8_3_f r8_3_l r8_5 r8_5_c r8_5_f r8_5_l r8_8 r8_8_c r8_8_f r8_8_l b8
                obtain ⟨r9_0_c, r9_0_f, r9_0_l⟩ := r9_0.tell
                obtain ⟨r9_1_c, r9_1_f, r9_1_l⟩ := r9_1.tell
                obtain ⟨r9_2_c, r9_2_f, r9_2_l⟩ := r9_2.tell
                obtain ⟨r9_3_c, r9_3_f, r9_3_l⟩ := r9_3.tell
                obtain ⟨r9_5_c, r9_5_f, r9_5_l⟩ := r9_5.tell
                obtain ⟨r9_8_c, r9_8_f, r9_8_l⟩ := r9_8.tell
                obtain ⟨r9_9_c, r9_9_f, r9_9_l⟩ := r9_9.tell
                obtain ⟨r9_10_c, r9_10_f, r9_10_l⟩ := r9_10.tell
                clear hb9 lw9 lw10
                go_wp2_with fail
                refine (a4 _).mono ?_
                rintro e w10 ⟨rfl, hb10⟩
                have r10_0 : Box w10 B0 #[.int .u64 0, .int .u64 0, .int .u64 0, .int .u64 0] 24 := (r9_0).call hb10
                have r10_1 : Box w10 B1 #[.int .u64 (L f 0), .int .u64 (L f 1), .int .u64 (L f 2), .int .u64 (L f 3)] 24 := (r9_1).call hb10
                have r10_2 : Box w10 B2 #[.int .u64 (L x 0), .int .u64 (L x 1), .int .u64 (L x 2), .int .u64 (L x 3)] 24 := (r9_2).call hb10
                have r10_3 : Box w10 B3 #[.int .u64 (L all 0), .int .u64 (L all 1), .int .u64 (L all 2), .int .u64 (L all 3)] 24 := (r9_3).call hb10
                have r10_5 : Box w10 A #[.int .u64 (L a 0), .int .u64 (L a 1), .int .u64 (L a 2), .int .u64 (L a 3)] 24 := (r9_5).call hb10
                have r10_8 : Box w10 B8 #[.int .u64 (L sn 0), .int .u64 (L sn 1), .int .u64 (L sn 2), .int .u64 (L sn 3)] 24 := (r9_8).call hb10
                have r10_9 : Box w10 B9 #[.int .u64 (L 0 0), .int .u64 (L 0 1), .int .u64 (L 0 2), .int .u64 (L 0 3)] 24 := (r9_9).call hb10
                have r10_10 : Box w10 B10 #[.int .u64 (L by_ 0), .int .u64 (L by_ 1), .int .u64 (L by_ 2), .int .u64 (L by_ 3)] 24 := (r9_10).call hb10
                have b10 : Bl w w10 := Bl.trans (b9) hb10
                have z10 : w9.heap.size ≤ w10.heap.size := (by have := hb10.size; (try simp only [World.alloc, World.setCell, World.drew, Array.size_push, Array.size_modify] at this); omega)
                have y10 : w.heap.size ≤ w10.heap.size := b10.size
                clear r9_0 r9_0_c r9_0_f r9_0_l r9_1 r9_1_c r9_1_f r9_1_l r9_2 r9_2_c r9_2_f r9_2_l r9_3 r9_3_c r9_3_f r9_3_l r9_5 r9_5_c r9_5_f r9_5_l r9_8 r9_8_c r9_8_f r9_8_l r9_9 r9_9_c r9_9_f r9_9_l r9_10 r9_10_c r9_10_f r9_10_l b9
                obtain ⟨r10_0_c, r10_0_f, r10_0_l⟩ := r10_0.tell
                obtain ⟨r10_1_c, r10_1_f, r10_1_l⟩ := r10_1.tell
                obtain ⟨r10_2_c, r10_2_f, r10_2_l⟩ := r10_2.tell
                obtain ⟨r10_3_c, r10_3_f, r10_3_l⟩ := r10_3.tell
                obtain ⟨r10_5_c, r10_5_f, r10_5_l⟩ := r10_5.tell
                obtain ⟨r10_8_c, r10_8_f, r10_8_l⟩ := r10_8.tell
                obtain ⟨r10_9_c, r10_9_f, r10_9_l⟩ := r10_9.tell
                obtain ⟨r10_10_c, r10_10_f, r10_10_l⟩ := r10_10.tell
                have d10_0 : (B0 = w10.heap.size) = False := (by simp only [eq_iff_iff, iff_false]; omega)
                have e10_0 : (w10.heap.size = B0) = False := (by simp only [eq_iff_iff, iff_false]; omega)
                have m10_0 : B0 < w10.heap.size := (by omega)
                have d10_1 : (B0 = w10.heap.size + 1) = False := (by simp only [eq_iff_iff, iff_false]; omega)
                have e10_1 : (w10.heap.size + 1 = B0) = False := (by simp only [eq_iff_iff, iff_false]; omega)
                have m10_1 : B0 < w10.heap.size + 1 := (by omega)
                have d10_2 : (B1 = w10.heap.size) = False := (by simp only [eq_iff_iff, iff_false]; omega)
                have e10_2 : (w10.heap.size = B1) = False := (by simp only [eq_iff_iff, iff_false]; omega)
                have m10_2 : B1 < w10.heap.size := (by omega)
                have d10_3 : (B1 = w10.heap.size + 1) = False := (by simp only [eq_iff_iff, iff_false]; omega)
                have e10_3 : (w10.heap.size + 1 = B1) = False := (by simp only [eq_iff_iff, iff_false]; omega)
                have m10_3 : B1 < w10.heap.size + 1 := (by omega)
                have d10_4 : (B2 = w10.heap.size) = False := (by simp only [eq_iff_iff, iff_false]; omega)
                have e10_4 : (w10.heap.size = B2) = False := (by simp only [eq_iff_iff, iff_false]; omega)
                have m10_4 : B2 < w10.heap.size := (by omega)
                have d10_5 : (B2 = w10.heap.size + 1) = False := (by simp only [eq_iff_iff, iff_false]; omega)
                have e10_5 : (w10.heap.size + 1 = B2) = False := (by simp only [eq_iff_iff, iff_false]; omega)
                have m10_5 : B2 < w10.heap.size + 1 := (by omega)
                have d10_6 : (B3 = w10.heap.size) = False := (by simp only [eq_iff_iff, iff_false]; omega)
                have e10_6 : (w10.heap.size = B3) = False := (by simp only [eq_iff_iff, iff_false]; omega)
                have m10_6 : B3 < w10.heap.size := (by omega)
                have d10_7 : (B3 = w10.heap.size + 1) = False := (by simp only [eq_iff_iff, iff_false]; omega)
                have e10_7 : (w10.heap.size + 1 = B3) = False := (by simp only [eq_iff_iff, iff_false]; omega)
                have m10_7 : B3 < w10.heap.size + 1 := (by omega)
                have d10_8 : (A = w10.heap.size) = False := (by simp only [eq_iff_iff, iff_false]; omega)
                have e10_8 : (w10.heap.size = A) = False := (by simp only [eq_iff_iff, iff_false]; omega)
                have m10_8 : A < w10.heap.size := (by omega)
                have d10_9 : (A = w10.heap.size + 1) = False := (by simp only [eq_iff_iff, iff_false]; omega)
                have e10_9 : (w10.heap.size + 1 = A) = False := (by simp only [eq_iff_iff, iff_false]; omega)
                have m10_9 : A < w10.heap.size + 1 := (by omega)
                have d10_10 : (B8 = w10.heap.size) = False := (by simp only [eq_iff_iff, iff_false]; omega)
                have e10_10 : (w10.heap.size = B8) = False := (by simp only [eq_iff_iff, iff_false]; omega)
                have m10_10 : B8 < w10.heap.size := (by omega)
                have d10_11 : (B8 = w10.heap.size + 1) = False := (by simp only [eq_iff_iff, iff_false]; omega)
                have e10_11 : (w10.heap.size + 1 = B8) = False := (by simp only [eq_iff_iff, iff_false]; omega)
                have m10_11 : B8 < w10.heap.size + 1 := (by omega)
                have d10_12 : (B9 = w10.heap.size) = False := (by simp only [eq_iff_iff, iff_false]; omega)
                have e10_12 : (w10.heap.size = B9) = False := (by simp only [eq_iff_iff, iff_false]; omega)
                have m10_12 : B9 < w10.heap.size := (by omega)
                have d10_13 : (B9 = w10.heap.size + 1) = False := (by simp only [eq_iff_iff, iff_false]; omega)
                have e10_13 : (w10.heap.size + 1 = B9) = False := (by simp only [eq_iff_iff, iff_false]; omega)
                have m10_13 : B9 < w10.heap.size + 1 := (by omega)
                have d10_14 : (B10 = w10.heap.size) = False := (by simp only [eq_iff_iff, iff_false]; omega)
                have e10_14 : (w10.heap.size = B10) = False := (by simp only [eq_iff_iff, iff_false]; omega)
                have m10_14 : B10 < w10.heap.size := (by omega)
                have d10_15 : (B10 = w10.heap.size + 1) = False := (by simp only [eq_iff_iff, iff_false]; omega)
                have e10_15 : (w10.heap.size + 1 = B10) = False := (by simp only [eq_iff_iff, iff_false]; omega)
                have m10_15 : B10 < w10.heap.size + 1 := (by omega)
                clear hb10
                go_wp2_with fail
                obtain ⟨w11, hw11⟩ : ∃ V : World, V = (w10.alloc (.cells #[.int .u64 (L an 0), .int .u64 (L an 1), .int .u64 (L an 2), .int .u64 (L an 3)] 24)) := ⟨_, rfl⟩
                rw [← hw11]
                have r11_0 : Box w11 B0 #[.int .u64 0, .int .u64 0, .int .u64 0, .int .u64 0] 24 := by rw [hw11]; exact (r10_0).alloc _
                have r11_1 : Box w11 B1 #[.int .u64 (L f 0), .int .u64 (L f 1), .int .u64 (L f 2), .int .u64 (L f 3)] 24 := by rw [hw11]; exact (r10_1).alloc _
                have r11_2 : Box w11 B2 #[.int .u64 (L x 0), .int .u64 (L x 1), .int .u64 (L x 2), .int .u64 (L x 3)] 24 := by rw [hw11]; exact (r10_2).alloc _
                have r11_3 : Box w11 B3 #[.int .u64 (L all 0), .int .u64 (L all 1), .int .u64 (L all 2), .int .u64 (L all 3)] 24 := by rw [hw11]; exact (r10_3).alloc _
                have r11_5 : Box w11 A #[.int .u64 (L a 0), .int .u64 (L a 1), .int .u64 (L a 2), .int .u64 (L a 3)] 24 := by rw [hw11]; exact (r10_5).alloc _
                have r11_8 : Box w11 B8 #[.int .u64 (L sn 0), .int .u64 (L sn 1), .int .u64 (L sn 2), .int .u64 (L sn 3)] 24 := by rw [hw11]; exact (r10_8).alloc _
                have r11_9 : Box w11 B9 #[.int .u64 (L 0 0), .int .u64 (L 0 1), .int .u64 (L 0 2), .int .u64 (L 0 3)] 24 := by rw [hw11]; exact (r10_9).alloc _
                have r11_10 : Box w11 B10 #[.int .u64 (L by_ 0), .int .u64 (L by_ 1), .int .u64 (L by_ 2), .int .u64 (L by_ 3)] 24 := by rw [hw11]; exact (r10_10).alloc _
                have r11_11 : Box w11 w10.heap.size #[.int .u64 (L an 0), .int .u64 (L an 1), .int .u64 (L an 2), .int .u64 (L an 3)] 24 := by rw [hw11]; exact Box.new _ _ _ _ (by simp)
                have b11 : Bl w w11 := by rw [hw11]; exact (b10).alloc _
                have z11 : w10.heap.size + 1 ≤ w11.heap.size := (by rw [hw11]; simp only [World.alloc, World.setCell, World.drew, Array.size_push, Array.size_modify]; omega)
                have y11 : w.heap.size ≤ w11.heap.size := b11.size
                obtain ⟨B11, hB11⟩ : ∃ B, B = w10.heap.size := ⟨_, rfl⟩
                (try rw [← hB11]); rw [← hB11] at r11_11
                have lo11 : w.heap.size ≤ B11 := by omega
                have n11_0 : (B11 = B0) = False := (by simp only [eq_iff_iff, iff_false]; have := r10_0_l; omega)
                have n0_11 : (B0 = B11) = False := (by simp only [eq_iff_iff, iff_false]; have := r10_0_l; omega)
                have n11_1 : (B11 = B1) = False := (by simp only [eq_iff_iff, iff_false]; have := r10_1_l; omega)
                have n1_11 : (B1 = B11) = False := (by simp only [eq_iff_iff, iff_false]; have := r10_1_l; omega)
                have n11_2 : (B11 = B2) = False := (by simp only [eq_iff_iff, iff_false]; have := r10_2_l; omega)
                have n2_11 : (B2 = B11) = False := (by simp only [eq_iff_iff, iff_false]; have := r10_2_l; omega)
                have n11_3 : (B11 = B3) = False := (by simp only [eq_iff_iff, iff_false]; have := r10_3_l; omega)
                have n3_11 : (B3 = B11) = False := (by simp only [eq_iff_iff, iff_false]; have := r10_3_l; omega)
                have n11_5 : (B11 = A) = False := (by simp only [eq_iff_iff, iff_false]; have := r10_5_l; omega)
                have n5_11 : (A = B11) = False := (by simp only [eq_iff_iff, iff_false]; have := r10_5_l; omega)
                have n11_8 : (B11 = B8) = False := (by simp only [eq_iff_iff, iff_false]; have := r10_8_l; omega)
                have n8_11 : (B8 = B11) = False := (by simp only [eq_iff_iff, iff_false]; have := r10_8_l; omega)
                have n11_9 : (B11 = B9) = False := (by simp only [eq_iff_iff, iff_false]; have := r10_9_l; omega)
                have n9_11 : (B9 = B11) = False := (by simp only [eq_iff_iff, iff_false]; have := r10_9_l; omega)
                have n11_10 : (B11 = B10) = False := (by simp only [eq_iff_iff, iff_false]; have := r10_10_l; omega)
                have n10_11 : (B10 = B11) = False := (by simp only [eq_iff_iff, iff_false]; have := r10_10_l; omega)
                clear hB11
                clear r10_0 r10_0_c r10_0_f r10_0_l r10_1 r10_1_c r10_1_f r10_1_l r10_2 r10_2_c r10_2_f r10_2_l r10_3 r10_3_c r10_3_f r10_3_l r10_5 r10_5_c r10_5_f r10_5_l r10_8 r10_8_c r10_8_f r10_8_l r10_9 r10_9_c r10_9_f r10_9_l r10_10 r10_10_c r10_10_f r10_10_l b10
                obtain ⟨r11_0_c, r11_0_f, r11_0_l⟩ := r11_0.tell
                obtain ⟨r11_1_c, r11_1_f, r11_1_l⟩ := r11_1.tell
                obtain ⟨r11_2_c, r11_2_f, r11_2_l⟩ := r11_2.tell
                obtain ⟨r11_3_c, r11_3_f, r11_3_l⟩ := r11_3.tell
                obtain ⟨r11_5_c, r11_5_f, r11_5_l⟩ := r11_5.tell
                obtain ⟨r11_8_c, r11_8_f, r11_8_l⟩ := r11_8.tell
                obtain ⟨r11_9_c, r11_9_f, r11_9_l⟩ := r11_9.tell
                obtain ⟨r11_10_c, r11_10_f, r11_10_l⟩ := r11_10.tell
                obtain ⟨r11_11_c, r11_11_f, r11_11_l⟩ := r11_11.tell
                clear hw11
                refine wp_region_told_at (fun l0 D a' w' => ∃ (x60 : Value) (x61 : Value), a' = ⟨(((l0).set 60 x60).set 61 x61).toArray, []⟩ ∧ Bl w w' ∧ (D 0 → x60 = U sn) ∧ (D 1 → x61 = U an) ∧ OldB D 2 w' B3 #[.int .u64 (L all 0), .int .u64 (L all 1), .int .u64 (L all 2), .int .u64 (L all 3)] #[.int .u64 (L sn 0), .int .u64 (L sn 1), .int .u64 (L sn 2), .int .u64 (L sn 3)] 24 ∧ OldB D 3 w' A #[.int .u64 (L a 0), .int .u64 (L a 1), .int .u64 (L a 2), .int .u64 (L a 3)] #[.int .u64 (L an 0), .int .u64 (L an 1), .int .u64 (L an 2), .int .u64 (L an 3)] 24 ∧ w11.heap.size ≤ w'.heap.size ∧ Box w' B0 #[.int .u64 0, .int .u64 0, .int .u64 0, .int .u64 0] 24 ∧ Box w' B1 #[.int .u64 (L f 0), .int .u64 (L f 1), .int .u64 (L f 2), .int .u64 (L f 3)] 24 ∧ Box w' B2 #[.int .u64 (L x 0), .int .u64 (L x 1), .int .u64 (L x 2), .int .u64 (L x 3)] 24 ∧ Box w' B8 #[.int .u64 (L sn 0), .int .u64 (L sn 1), .int .u64 (L sn 2), .int .u64 (L sn 3)] 24 ∧ Box w' B9 #[.int .u64 (L 0 0), .int .u64 (L 0 1), .int .u64 (L 0 2), .int .u64 (L 0 3)] 24 ∧ Box w' B10 #[.int .u64 (L by_ 0), .int .u64 (L by_ 1), .int .u64 (L by_ 2), .int .u64 (L by_ 3)] 24 ∧ Box w' B11 #[.int .u64 (L an 0), .int .u64 (L an 1), .int .u64 (L an 2), .int .u64 (L an 3)] 24) (by kernel_rfl) (by kernel_rfl) ?_ ?_ ?_
                · exact fun l0 => ⟨l0.getD 60 undef, l0.getD 61 undef, (by simp only [set_self]), (b11).drew, fun h => h.elim, fun h => h.elim, OldB.start (r11_3).drew, OldB.start (r11_5).drew, Nat.le_refl _, (r11_0).drew, (r11_1).drew, (r11_2).drew, (r11_8).drew, (r11_9).drew, (r11_10).drew, (r11_11).drew⟩
                · intro Inv hInv
                  refine AllD.cons ?_ (AllD.cons ?_ (AllD.cons ?_ (AllD.cons ?_ (AllD.nil))))
                  · refine StepD.plain rfl rfl ?_
                    intro D a' w' hn hp hI K hK
                    obtain ⟨x60, x61, ha, hbl, zf0, zf1, zo3, zo5, hsz, zk0, zk1, zk2, zk8, zk9, zk10, zk11⟩ := (hInv.out D a' w').1 hI
                    subst ha; clear hI
                    (try simp only [List.set_cons_zero, List.set_cons_succ])
                    have bz := zk8
                    obtain ⟨bc, bf, bl_⟩ := bz.tell
                    go_simp
                    exact hK.out _ _ ((hInv.out _ _ _).2 ⟨_, _, rfl, hbl, fun _ => (by first | rfl | go_num | (simp; done)), told_next zf1 (by decide), zo3.next (by decide) (fun _ h => h), zo5.next (by decide) (fun _ h => h), hsz, zk0, zk1, zk2, zk8, zk9, zk10, zk11⟩)
                  · refine StepD.plain rfl rfl ?_
                    intro D a' w' hn hp hI K hK
                    obtain ⟨x60, x61, ha, hbl, zf0, zf1, zo3, zo5, hsz, zk0, zk1, zk2, zk8, zk9, zk10, zk11⟩ := (hInv.out D a' w').1 hI
                    subst ha; clear hI
                    (try simp only [List.set_cons_zero, List.set_cons_succ])
                    have bz := zk11
                    obtain ⟨bc, bf, bl_⟩ := bz.tell
                    go_simp
                    exact hK.out _ _ ((hInv.out _ _ _).2 ⟨_, _, rfl, hbl, told_next zf0 (by decide), fun _ => (by first | rfl | go_num | (simp; done)), zo3.next (by decide) (fun _ h => h), zo5.next (by decide) (fun _ h => h), hsz, zk0, zk1, zk2, zk8, zk9, zk10, zk11⟩)
                  · refine StepD.plain rfl rfl ?_
                    intro D a' w' hn hp hI K hK
                    obtain ⟨x60, x61, ha, hbl, zf0, zf1, zo3, zo5, hsz, zk0, zk1, zk2, zk8, zk9, zk10, zk11⟩ := (hInv.out D a' w').1 hI
                    subst ha; clear hI
                    (try simp only [List.set_cons_zero, List.set_cons_succ])
                    obtain ⟨p2_0, _, _, _⟩ := hp
                    have p2_0 : D 0 := p2_0 rfl
                    have e0 := zf0 p2_0; subst e0
                    have bz := zo3.2 hn
                    obtain ⟨bc, bf, bl_⟩ := bz.tell
                    go_simp
                    exact hK.out _ _ ((hInv.out _ _ _).2 ⟨_, _, rfl, ((((hbl).setCell (by simp only []; omega) _).setCell (by simp only []; omega) _).setCell (by simp only []; omega) _).setCell (by simp only []; omega) _, fun _ => rfl, told_next zf1 (by decide), zo3.filled hn (fun h => (((((h).set _ _).set _ _).set _ _).set _ _).cells rfl), zo5.next (by decide) (fun _ h => ((((h).far _ _ (by simp only []; exact of_eq_false n5_3)).far _ _ (by simp only []; exact of_eq_false n5_3)).far _ _ (by simp only []; exact of_eq_false n5_3)).far _ _ (by simp only []; exact of_eq_false n5_3)), (by simp [World.setCell]; omega), ((((zk0).far _ _ (by simp only []; exact of_eq_false n0_3)).far _ _ (by simp only []; exact of_eq_false n0_3)).far _ _ (by simp only []; exact of_eq_false n0_3)).far _ _ (by simp only []; exact of_eq_false n0_3), ((((zk1).far _ _ (by simp only []; exact of_eq_false n1_3)).far _ _ (by simp only []; exact of_eq_false n1_3)).far _ _ (by simp only []; exact of_eq_false n1_3)).far _ _ (by simp only []; exact of_eq_false n1_3), ((((zk2).far _ _ (by simp only []; exact of_eq_false n2_3)).far _ _ (by simp only []; exact of_eq_false n2_3)).far _ _ (by simp only []; exact of_eq_false n2_3)).far _ _ (by simp only []; exact of_eq_false n2_3), ((((zk8).far _ _ (by simp only []; exact of_eq_false n8_3)).far _ _ (by simp only []; exact of_eq_false n8_3)).far _ _ (by simp only []; exact of_eq_false n8_3)).far _ _ (by simp only []; exact of_eq_false n8_3), ((((zk9).far _ _ (by simp only []; exact of_eq_false n9_3)).far _ _ (by simp only []; exact of_eq_false n9_3)).far _ _ (by simp only []; exact of_eq_false n9_3)).far _ _ (by simp only []; exact of_eq_false n9_3), ((((zk10).far _ _ (by simp only []; exact of_eq_false n10_3)).far _ _ (by simp only []; exact of_eq_false n10_3)).far _ _ (by simp only []; exact of_eq_false n10_3)).far _ _ (by simp only []; exact of_eq_false n10_3), ((((zk11).far _ _ (by simp only []; exact of_eq_false n11_3)).far _ _ (by simp only []; exact of_eq_false n11_3)).far _ _ (by simp only []; exact of_eq_false n11_3)).far _ _ (by simp only []; exact of_eq_false n11_3)⟩)
                  · refine StepD.plain rfl rfl ?_
                    intro D a' w' hn hp hI K hK
                    obtain ⟨x60, x61, ha, hbl, zf0, zf1, zo3, zo5, hsz, zk0, zk1, zk2, zk8, zk9, zk10, zk11⟩ := (hInv.out D a' w').1 hI
                    subst ha; clear hI
                    (try simp only [List.set_cons_zero, List.set_cons_succ])
                    obtain ⟨p3_1, p3_2, p3_0, _, _, _⟩ := hp
                    have p3_0 : D 0 := p3_0 rfl
                    have p3_1 : D 1 := p3_1 rfl
                    have p3_2 : D 2 := p3_2 rfl
                    have e1 := zf1 p3_1; subst e1
                    have bz := zo5.2 hn
                    obtain ⟨bc, bf, bl_⟩ := bz.tell
                    go_simp
                    exact hK.out _ _ ((hInv.out _ _ _).2 ⟨_, _, rfl, ((((hbl).setCell (by simp only []; omega) _).setCell (by simp only []; omega) _).setCell (by simp only []; omega) _).setCell (by simp only []; omega) _, told_next zf0 (by decide), fun _ => rfl, zo3.next (by decide) (fun _ h => ((((h).far _ _ (by simp only []; exact of_eq_false n3_5)).far _ _ (by simp only []; exact of_eq_false n3_5)).far _ _ (by simp only []; exact of_eq_false n3_5)).far _ _ (by simp only []; exact of_eq_false n3_5)), zo5.filled hn (fun h => (((((h).set _ _).set _ _).set _ _).set _ _).cells rfl), (by simp [World.setCell]; omega), ((((zk0).far _ _ (by simp only []; exact of_eq_false n0_5)).far _ _ (by simp only []; exact of_eq_false n0_5)).far _ _ (by simp only []; exact of_eq_false n0_5)).far _ _ (by simp only []; exact of_eq_false n0_5), ((((zk1).far _ _ (by simp only []; exact of_eq_false n1_5)).far _ _ (by simp only []; exact of_eq_false n1_5)).far _ _ (by simp only []; exact of_eq_false n1_5)).far _ _ (by simp only []; exact of_eq_false n1_5), ((((zk2).far _ _ (by simp only []; exact of_eq_false n2_5)).far _ _ (by simp only []; exact of_eq_false n2_5)).far _ _ (by simp only []; exact of_eq_false n2_5)).far _ _ (by simp only []; exact of_eq_false n2_5), ((((zk8).far _ _ (by simp only []; exact of_eq_false n8_5)).far _ _ (by simp only []; exact of_eq_false n8_5)).far _ _ (by simp only []; exact of_eq_false n8_5)).far _ _ (by simp only []; exact of_eq_false n8_5), ((((zk9).far _ _ (by simp only []; exact of_eq_false n9_5)).far _ _ (by simp only []; exact of_eq_false n9_5)).far _ _ (by simp only []; exact of_eq_false n9_5)).far _ _ (by simp only []; exact of_eq_false n9_5), ((((zk10).far _ _ (by simp only []; exact of_eq_false n10_5)).far _ _ (by simp only []; exact of_eq_false n10_5)).far _ _ (by simp only []; exact of_eq_false n10_5)).far _ _ (by simp only []; exact of_eq_false n10_5), ((((zk11).far _ _ (by simp only []; exact of_eq_false n11_5)).far _ _ (by simp only []; exact of_eq_false n11_5)).far _ _ (by simp only []; exact of_eq_false n11_5)).far _ _ (by simp only []; exact of_eq_false n11_5)⟩)
                · intro D a' w12 hall hI
                  obtain ⟨x60, x61, ha, hb12, zf0, zf1, zo3, zo5, hsz, zk0, zk1, zk2, zk8, zk9, zk10, zk11⟩ := hI
                  subst ha
                  (try simp only [List.set_cons_zero, List.set_cons_succ])
                  have e := zf0 (hall 0 (by decide)); subst e
                  have e := zf1 (hall 1 (by decide)); subst e
                  have q3 := zo3.1 (hall 2 (by decide))
                  clear zo3
                  have q5 := zo5.1 (hall 3 (by decide))
                  clear zo5
                  have q0 := zk0
                  clear zk0
                  have q1 := zk1
                  clear zk1
                  have q2 := zk2
                  clear zk2
                  have q8 := zk8
                  clear zk8
                  have q9 := zk9
                  clear zk9
                  have q10 := zk10
                  clear zk10
                  have q11 := zk11
                  clear zk11
                  clear hall
                  (try simp only [Act.put, List.setIfInBounds_toArray, List.set_cons_zero, List.set_cons_succ])
                  have r12_0 : Box w12 B0 #[.int .u64 0, .int .u64 0, .int .u64 0, .int .u64 0] 24 := q0
                  have r12_1 : Box w12 B1 #[.int .u64 (L f 0), .int .u64 (L f 1), .int .u64 (L f 2), .int .u64 (L f 3)] 24 := q1
                  have r12_2 : Box w12 B2 #[.int .u64 (L x 0), .int .u64 (L x 1), .int .u64 (L x 2), .int .u64 (L x 3)] 24 := q2
                  have r12_3 : Box w12 B3 #[.int .u64 (L sn 0), .int .u64 (L sn 1), .int .u64 (L sn 2), .int .u64 (L sn 3)] 24 := q3
                  have r12_5 : Box w12 A #[.int .u64 (L an 0), .int .u64 (L an 1), .int .u64 (L an 2), .int .u64 (L an 3)] 24 := q5
                  have r12_8 : Box w12 B8 #[.int .u64 (L sn 0), .int .u64 (L sn 1), .int .u64 (L sn 2), .int .u64 (L sn 3)] 24 := q8
                  have r12_9 : Box w12 B9 #[.int .u64 (L 0 0), .int .u64 (L 0 1), .int .u64 (L 0 2), .int .u64 (L 0 3)] 24 := q9
                  have r12_10 : Box w12 B10 #[.int .u64 (L by_ 0), .int .u64 (L by_ 1), .int .u64 (L by_ 2), .int .u64 (L by_ 3)] 24 := q10
                  have r12_11 : Box w12 B11 #[.int .u64 (L an 0), .int .u64 (L an 1), .int .u64 (L an 2), .int .u64 (L an 3)] 24 := q11
                  have b12 : Bl w w12 := hb12
                  have z12 : w11.heap.size ≤ w12.heap.size := (by skip; omega)
                  have y12 : w.heap.size ≤ w12.heap.size := b12.size
                  clear r11_0 r11_0_c r11_0_f r11_0_l r11_1 r11_1_c r11_1_f r11_1_l r11_2 r11_2_c r11_2_f r11_2_l r11_3 r11_3_c r11_3_f r11_3_l r11_5 r11_5_c r11_5_f r11_5_l r11_8 r11_8_c r11_8_f r11_8_l r11_9 r11_9_c r11_9_f r11_9_l r11_10 r11_10_c r11_10_f r11_10_l r11_11 r11_11_c r11_11_f r11_11_l b11
                  obtain ⟨r12_0_c, r12_0_f, r12_0_l⟩ := r12_0.tell
                  obtain ⟨r12_1_c, r12_1_f, r12_1_l⟩ := r12_1.tell
                  obtain ⟨r12_2_c, r12_2_f, r12_2_l⟩ := r12_2.tell
                  obtain ⟨r12_3_c, r12_3_f, r12_3_l⟩ := r12_3.tell
                  obtain ⟨r12_5_c, r12_5_f, r12_5_l⟩ := r12_5.tell
                  obtain ⟨r12_8_c, r12_8_f, r12_8_l⟩ := r12_8.tell
                  obtain ⟨r12_9_c, r12_9_f, r12_9_l⟩ := r12_9.tell
                  obtain ⟨r12_10_c, r12_10_f, r12_10_l⟩ := r12_10.tell
                  obtain ⟨r12_11_c, r12_11_f, r12_11_l⟩ := r12_11.tell
                  have d12_0 : (B0 = w12.heap.size) = False := (by simp only [eq_iff_iff, iff_false]; omega)
                  have e12_0 : (w12.heap.size = B0) = False := (by simp only [eq_iff_iff, iff_false]; omega)
                  have m12_0 : B0 < w12.heap.size := (by omega)
                  have d12_1 : (B0 = w12.heap.size + 1) = False := (by simp only [eq_iff_iff, iff_false]; omega)
                  have e12_1 : (w12.heap.size + 1 = B0) = False := (by simp only [eq_iff_iff, iff_false]; omega)
                  have m12_1 : B0 < w12.heap.size + 1 := (by omega)
                  have d12_2 : (B1 = w12.heap.size) = False := (by simp only [eq_iff_iff, iff_false]; omega)
                  have e12_2 : (w12.heap.size = B1) = False := (by simp only [eq_iff_iff, iff_false]; omega)
                  have m12_2 : B1 < w12.heap.size := (by omega)
                  have d12_3 : (B1 = w12.heap.size + 1) = False := (by simp only [eq_iff_iff, iff_false]; omega)
                  have e12_3 : (w12.heap.size + 1 = B1) = False := (by simp only [eq_iff_iff, iff_false]; omega)
                  have m12_3 : B1 < w12.heap.size + 1 := (by omega)
                  have d12_4 : (B2 = w12.heap.size) = False := (by simp only [eq_iff_iff, iff_false]; omega)
                  have e12_4 : (w12.heap.size = B2) = False := (by simp only [eq_iff_iff, iff_false]; omega)
                  have m12_4 : B2 < w12.heap.size := (by omega)
                  have d12_5 : (B2 = w12.heap.size + 1) = False := (by simp only [eq_iff_iff, iff_false]; omega)
                  have e12_5 : (w12.heap.size + 1 = B2) = False := (by simp only [eq_iff_iff, iff_false]; omega)
                  have m12_5 : B2 < w12.heap.size + 1 := (by omega)
                  have d12_6 : (B3 = w12.heap.size) = False := (by simp only [eq_iff_iff, iff_false]; omega)
                  have e12_6 : (w12.heap.size = B3) = False := (by simp only [eq_iff_iff, iff_false]; omega)
                  have m12_6 : B3 < w12.heap.size := (by omega)
                  have d12_7 : (B3 = w12.heap.size + 1) = False := (by simp only [eq_iff_iff, iff_false]; omega)
                  have e12_7 : (w12.heap.size + 1 = B3) = False := (by simp only [eq_iff_iff, iff_false]; omega)
                  have m12_7 : B3 < w12.heap.size + 1 := (by omega)
                  have d12_8 : (A = w12.heap.size) = False := (by simp only [eq_iff_iff, iff_false]; omega)
                  have e12_8 : (w12.heap.size = A) = False := (by simp only [eq_iff_iff, iff_false]; omega)
                  have m12_8 : A < w12.heap.size := (by omega)
                  have d12_9 : (A = w12.heap.size + 1) = False := (by simp only [eq_iff_iff, iff_false]; omega)
                  have e12_9 : (w12.heap.size + 1 = A) = False := (by simp only [eq_iff_iff, iff_false]; omega)
                  have m12_9 : A < w12.heap.size + 1 := (by omega)
                  have d12_10 : (B8 = w12.heap.size) = False := (by simp only [eq_iff_iff, iff_false]; omega)
                  have e12_10 : (w12.heap.size = B8) = False := (by simp only [eq_iff_iff, iff_false]; omega)
                  have m12_10 : B8 < w12.heap.size := (by omega)
                  have d12_11 : (B8 = w12.heap.size + 1) = False := (by simp only [eq_iff_iff, iff_false]; omega)
                  have e12_11 : (w12.heap.size + 1 = B8) = False := (by simp only [eq_iff_iff, iff_false]; omega)
                  have m12_11 : B8 < w12.heap.size + 1 := (by omega)
                  have d12_12 : (B9 = w12.heap.size) = False := (by simp only [eq_iff_iff, iff_false]; omega)
                  have e12_12 : (w12.heap.size = B9) = False := (by simp only [eq_iff_iff, iff_false]; omega)
                  have m12_12 : B9 < w12.heap.size := (by omega)
                  have d12_13 : (B9 = w12.heap.size + 1) = False := (by simp only [eq_iff_iff, iff_false]; omega)
                  have e12_13 : (w12.heap.size + 1 = B9) = False := (by simp only [eq_iff_iff, iff_false]; omega)
                  have m12_13 : B9 < w12.heap.size + 1 := (by omega)
                  have d12_14 : (B10 = w12.heap.size) = False := (by simp only [eq_iff_iff, iff_false]; omega)
                  have e12_14 : (w12.heap.size = B10) = False := (by simp only [eq_iff_iff, iff_false]; omega)
                  have m12_14 : B10 < w12.heap.size := (by omega)
                  have d12_15 : (B10 = w12.heap.size + 1) = False := (by simp only [eq_iff_iff, iff_false]; omega)
                  have e12_15 : (w12.heap.size + 1 = B10) = False := (by simp only [eq_iff_iff, iff_false]; omega)
                  have m12_15 : B10 < w12.heap.size + 1 := (by omega)
                  have d12_16 : (B11 = w12.heap.size) = False := (by simp only [eq_iff_iff, iff_false]; omega)
                  have e12_16 : (w12.heap.size = B11) = False := (by simp only [eq_iff_iff, iff_false]; omega)
                  have m12_16 : B11 < w12.heap.size := (by omega)
                  have d12_17 : (B11 = w12.heap.size + 1) = False := (by simp only [eq_iff_iff, iff_false]; omega)
                  have e12_17 : (w12.heap.size + 1 = B11) = False := (by simp only [eq_iff_iff, iff_false]; omega)
                  have m12_17 : B11 < w12.heap.size + 1 := (by omega)
                  clear hb12 
                  go_wp2_with fail
                  obtain ⟨w13, hw13⟩ : ∃ V : World, V = (w12.alloc (.cells #[.int .u64 (L an 0), .int .u64 (L an 1), .int .u64 (L an 2), .int .u64 (L an 3)] 24)) := ⟨_, rfl⟩
                  rw [← hw13]
                  have r13_0 : Box w13 B0 #[.int .u64 0, .int .u64 0, .int .u64 0, .int .u64 0] 24 := by rw [hw13]; exact (r12_0).alloc _
                  have r13_1 : Box w13 B1 #[.int .u64 (L f 0), .int .u64 (L f 1), .int .u64 (L f 2), .int .u64 (L f 3)] 24 := by rw [hw13]; exact (r12_1).alloc _
                  have r13_2 : Box w13 B2 #[.int .u64 (L x 0), .int .u64 (L x 1), .int .u64 (L x 2), .int .u64 (L x 3)] 24 := by rw [hw13]; exact (r12_2).alloc _
                  have r13_3 : Box w13 B3 #[.int .u64 (L sn 0), .int .u64 (L sn 1), .int .u64 (L sn 2), .int .u64 (L sn 3)] 24 := by rw [hw13]; exact (r12_3).alloc _
                  have r13_8 : Box w13 B8 #[.int .u64 (L sn 0), .int .u64 (L sn 1), .int .u64 (L sn 2), .int .u64 (L sn 3)] 24 := by rw [hw13]; exact (r12_8).alloc _
                  have r13_9 : Box w13 B9 #[.int .u64 (L 0 0), .int .u64 (L 0 1), .int .u64 (L 0 2), .int .u64 (L 0 3)] 24 := by rw [hw13]; exact (r12_9).alloc _
                  have r13_10 : Box w13 B10 #[.int .u64 (L by_ 0), .int .u64 (L by_ 1), .int .u64 (L by_ 2), .int .u64 (L by_ 3)] 24 := by rw [hw13]; exact (r12_10).alloc _
                  have r13_11 : Box w13 B11 #[.int .u64 (L an 0), .int .u64 (L an 1), .int .u64 (L an 2), .int .u64 (L an 3)] 24 := by rw [hw13]; exact (r12_11).alloc _
                  have r13_12 : Box w13 w12.heap.size #[.int .u64 (L an 0), .int .u64 (L an 1), .int .u64 (L an 2), .int .u64 (L an 3)] 24 := by rw [hw13]; exact Box.new _ _ _ _ (by simp)
                  have b13 : Bl w w13 := by rw [hw13]; exact (b12).alloc _
                  have z13 : w12.heap.size + 1 ≤ w13.heap.size := (by rw [hw13]; simp only [World.alloc, World.setCell, World.drew, Array.size_push, Array.size_modify]; omega)
                  have y13 : w.heap.size ≤ w13.heap.size := b13.size
                  obtain ⟨B12, hB12⟩ : ∃ B, B = w12.heap.size := ⟨_, rfl⟩
                  (try rw [← hB12]); rw [← hB12] at r13_12
                  have lo12 : w.heap.size ≤ B12 := by omega
                  have n12_0 : (B12 = B0) = False := (by simp only [eq_iff_iff, iff_false]; have := r12_0_l; omega)
                  have n0_12 : (B0 = B12) = False := (by simp only [eq_iff_iff, iff_false]; have := r12_0_l; omega)
                  have n12_1 : (B12 = B1) = False := (by simp only [eq_iff_iff, iff_false]; have := r12_1_l; omega)
                  have n1_12 : (B1 = B12) = False := (by simp only [eq_iff_iff, iff_false]; have := r12_1_l; omega)
                  have n12_2 : (B12 = B2) = False := (by simp only [eq_iff_iff, iff_false]; have := r12_2_l; omega)
                  have n2_12 : (B2 = B12) = False := (by simp only [eq_iff_iff, iff_false]; have := r12_2_l; omega)
                  have n12_3 : (B12 = B3) = False := (by simp only [eq_iff_iff, iff_false]; have := r12_3_l; omega)
                  have n3_12 : (B3 = B12) = False := (by simp only [eq_iff_iff, iff_false]; have := r12_3_l; omega)
                  have n12_8 : (B12 = B8) = False := (by simp only [eq_iff_iff, iff_false]; have := r12_8_l; omega)
                  have n8_12 : (B8 = B12) = False := (by simp only [eq_iff_iff, iff_false]; have := r12_8_l; omega)
                  have n12_9 : (B12 = B9) = False := (by simp only [eq_iff_iff, iff_false]; have := r12_9_l; omega)
                  have n9_12 : (B9 = B12) = False := (by simp only [eq_iff_iff, iff_false]; have := r12_9_l; omega)
                  have n12_10 : (B12 = B10) = False := (by simp only [eq_iff_iff, iff_false]; have := r12_10_l; omega)
                  have n10_12 : (B10 = B12) = False := (by simp only [eq_iff_iff, iff_false]; have := r12_10_l; omega)
                  have n12_11 : (B12 = B11) = False := (by simp only [eq_iff_iff, iff_false]; have := r12_11_l; omega)
                  have n11_12 : (B11 = B12) = False := (by simp only [eq_iff_iff, iff_false]; have := r12_11_l; omega)
                  clear hB12
                  clear r12_0 r12_0_c r12_0_f r12_0_l r12_1 r12_1_c r12_1_f r12_1_l r12_2 r12_2_c r12_2_f r12_2_l r12_3 r12_3_c r12_3_f r12_3_l r12_5 r12_5_c r12_5_f r12_5_l r12_8 r12_8_c r12_8_f r12_8_l r12_9 r12_9_c r12_9_f r12_9_l r12_10 r12_10_c r12_10_f r12_10_l r12_11 r12_11_c r12_11_f r12_11_l b12
                  obtain ⟨r13_0_c, r13_0_f, r13_0_l⟩ := r13_0.tell
                  obtain ⟨r13_1_c, r13_1_f, r13_1_l⟩ := r13_1.tell
                  obtain ⟨r13_2_c, r13_2_f, r13_2_l⟩ := r13_2.tell
                  obtain ⟨r13_3_c, r13_3_f, r13_3_l⟩ := r13_3.tell
                  obtain ⟨r13_8_c, r13_8_f, r13_8_l⟩ := r13_8.tell
                  obtain ⟨r13_9_c, r13_9_f, r13_9_l⟩ := r13_9.tell
                  obtain ⟨r13_10_c, r13_10_f, r13_10_l⟩ := r13_10.tell
                  obtain ⟨r13_11_c, r13_11_f, r13_11_l⟩ := r13_11.tell
                  obtain ⟨r13_12_c, r13_12_f, r13_12_l⟩ := r13_12.tell
                  clear hw13
                  go_roundg (g)
                  case measure => omega
                  case rel =>
                    exact ⟨i + 1, an, sn, B12, hkk.out, (by omega), h6, h5, HN, (by first | rfl | go_num | (simp; done)), (by first | rfl | go_num | (simp; done)), b13, r13_0, r13_1, r13_2, r13_3, r13_12, (by omega), (of_eq_false n12_0), (of_eq_false n12_1), (of_eq_false n12_2), (of_eq_false n12_3)⟩
            · skip
              rw [Nat.div_eq_of_lt h5] at a1
              rw [show mdE a x by_ = 11 by unfold mdE; rw [if_neg hne, if_neg h6]] at a4
              have hr : R = none := by have := hbb.out; rw [bb_wide hz (by rw [← hby]; omega)] at this; simpa using this.symm
              have V1 : Hid (V = 0) := HV.out.trans (by rw [hr]; rfl)
              have E1 : Hid (E = 183) := HE.out.trans (by rw [hr]; rfl)
              generalize mdV a x by_ = md at *
              generalize (all + a) % T256 = s at *
              clear hr hbb hby h5 h6 hz hne hfi hk
              go_wp2_with fail
              refine (a1 _).mono ?_
              rintro e w14 ⟨rfl, hb14⟩
              have r14_0 : Box w14 B0 #[.int .u64 0, .int .u64 0, .int .u64 0, .int .u64 0] 24 := (r5_0).call hb14
              have r14_1 : Box w14 B1 #[.int .u64 (L f 0), .int .u64 (L f 1), .int .u64 (L f 2), .int .u64 (L f 3)] 24 := (r5_1).call hb14
              have r14_2 : Box w14 B2 #[.int .u64 (L x 0), .int .u64 (L x 1), .int .u64 (L x 2), .int .u64 (L x 3)] 24 := (r5_2).call hb14
              have r14_3 : Box w14 B3 #[.int .u64 (L all 0), .int .u64 (L all 1), .int .u64 (L all 2), .int .u64 (L all 3)] 24 := (r5_3).call hb14
              have r14_5 : Box w14 A #[.int .u64 (L a 0), .int .u64 (L a 1), .int .u64 (L a 2), .int .u64 (L a 3)] 24 := (r5_5).call hb14
              have b14 : Bl w w14 := Bl.trans (b5) hb14
              have z14 : wr.heap.size ≤ w14.heap.size := (by have := hb14.size; (try simp only [World.alloc, World.setCell, World.drew, Array.size_push, Array.size_modify] at this); omega)
              have y14 : w.heap.size ≤ w14.heap.size := b14.size
              clear r5_0 r5_0_c r5_0_f r5_0_l r5_1 r5_1_c r5_1_f r5_1_l r5_2 r5_2_c r5_2_f r5_2_l r5_3 r5_3_c r5_3_f r5_3_l r5_5 r5_5_c r5_5_f r5_5_l b5
              obtain ⟨r14_0_c, r14_0_f, r14_0_l⟩ := r14_0.tell
              obtain ⟨r14_1_c, r14_1_f, r14_1_l⟩ := r14_1.tell
              obtain ⟨r14_2_c, r14_2_f, r14_2_l⟩ := r14_2.tell
              obtain ⟨r14_3_c, r14_3_f, r14_3_l⟩ := r14_3.tell
              obtain ⟨r14_5_c, r14_5_f, r14_5_l⟩ := r14_5.tell
              have d14_0 : (B0 = w14.heap.size) = False := (by simp only [eq_iff_iff, iff_false]; omega)
              have e14_0 : (w14.heap.size = B0) = False := (by simp only [eq_iff_iff, iff_false]; omega)
              have m14_0 : B0 < w14.heap.size := (by omega)
              have d14_1 : (B0 = w14.heap.size + 1) = False := (by simp only [eq_iff_iff, iff_false]; omega)
              have e14_1 : (w14.heap.size + 1 = B0) = False := (by simp only [eq_iff_iff, iff_false]; omega)
              have m14_1 : B0 < w14.heap.size + 1 := (by omega)
              have d14_2 : (B1 = w14.heap.size) = False := (by simp only [eq_iff_iff, iff_false]; omega)
              have e14_2 : (w14.heap.size = B1) = False := (by simp only [eq_iff_iff, iff_false]; omega)
              have m14_2 : B1 < w14.heap.size := (by omega)
              have d14_3 : (B1 = w14.heap.size + 1) = False := (by simp only [eq_iff_iff, iff_false]; omega)
              have e14_3 : (w14.heap.size + 1 = B1) = False := (by simp only [eq_iff_iff, iff_false]; omega)
              have m14_3 : B1 < w14.heap.size + 1 := (by omega)
              have d14_4 : (B2 = w14.heap.size) = False := (by simp only [eq_iff_iff, iff_false]; omega)
              have e14_4 : (w14.heap.size = B2) = False := (by simp only [eq_iff_iff, iff_false]; omega)
              have m14_4 : B2 < w14.heap.size := (by omega)
              have d14_5 : (B2 = w14.heap.size + 1) = False := (by simp only [eq_iff_iff, iff_false]; omega)
              have e14_5 : (w14.heap.size + 1 = B2) = False := (by simp only [eq_iff_iff, iff_false]; omega)
              have m14_5 : B2 < w14.heap.size + 1 := (by omega)
              have d14_6 : (B3 = w14.heap.size) = False := (by simp only [eq_iff_iff, iff_false]; omega)
              have e14_6 : (w14.heap.size = B3) = False := (by simp only [eq_iff_iff, iff_false]; omega)
              have m14_6 : B3 < w14.heap.size := (by omega)
              have d14_7 : (B3 = w14.heap.size + 1) = False := (by simp only [eq_iff_iff, iff_false]; omega)
              have e14_7 : (w14.heap.size + 1 = B3) = False := (by simp only [eq_iff_iff, iff_false]; omega)
              have m14_7 : B3 < w14.heap.size + 1 := (by omega)
              have d14_8 : (A = w14.heap.size) = False := (by simp only [eq_iff_iff, iff_false]; omega)
              have e14_8 : (w14.heap.size = A) = False := (by simp only [eq_iff_iff, iff_false]; omega)
              have m14_8 : A < w14.heap.size := (by omega)
              have d14_9 : (A = w14.heap.size + 1) = False := (by simp only [eq_iff_iff, iff_false]; omega)
              have e14_9 : (w14.heap.size + 1 = A) = False := (by simp only [eq_iff_iff, iff_false]; omega)
              have m14_9 : A < w14.heap.size + 1 := (by omega)
              clear hb14
              go_wp2_with fail
              obtain ⟨w15, hw15⟩ : ∃ V : World, V = (w14.alloc (.cells #[.int .u64 (L s 0), .int .u64 (L s 1), .int .u64 (L s 2), .int .u64 (L s 3)] 24)) := ⟨_, rfl⟩
              rw [← hw15]
              have r15_0 : Box w15 B0 #[.int .u64 0, .int .u64 0, .int .u64 0, .int .u64 0] 24 := by rw [hw15]; exact (r14_0).alloc _
              have r15_1 : Box w15 B1 #[.int .u64 (L f 0), .int .u64 (L f 1), .int .u64 (L f 2), .int .u64 (L f 3)] 24 := by rw [hw15]; exact (r14_1).alloc _
              have r15_2 : Box w15 B2 #[.int .u64 (L x 0), .int .u64 (L x 1), .int .u64 (L x 2), .int .u64 (L x 3)] 24 := by rw [hw15]; exact (r14_2).alloc _
              have r15_3 : Box w15 B3 #[.int .u64 (L all 0), .int .u64 (L all 1), .int .u64 (L all 2), .int .u64 (L all 3)] 24 := by rw [hw15]; exact (r14_3).alloc _
              have r15_5 : Box w15 A #[.int .u64 (L a 0), .int .u64 (L a 1), .int .u64 (L a 2), .int .u64 (L a 3)] 24 := by rw [hw15]; exact (r14_5).alloc _
              have r15_13 : Box w15 w14.heap.size #[.int .u64 (L s 0), .int .u64 (L s 1), .int .u64 (L s 2), .int .u64 (L s 3)] 24 := by rw [hw15]; exact Box.new _ _ _ _ (by simp)
              have b15 : Bl w w15 := by rw [hw15]; exact (b14).alloc _
              have z15 : w14.heap.size + 1 ≤ w15.heap.size := (by rw [hw15]; simp only [World.alloc, World.setCell, World.drew, Array.size_push, Array.size_modify]; omega)
              have y15 : w.heap.size ≤ w15.heap.size := b15.size
              obtain ⟨B13, hB13⟩ : ∃ B, B = w14.heap.size := ⟨_, rfl⟩
              (try rw [← hB13]); rw [← hB13] at r15_13
              have lo13 : w.heap.size ≤ B13 := by omega
              have n13_0 : (B13 = B0) = False := (by simp only [eq_iff_iff, iff_false]; have := r14_0_l; omega)
              have n0_13 : (B0 = B13) = False := (by simp only [eq_iff_iff, iff_false]; have := r14_0_l; omega)
              have n13_1 : (B13 = B1) = False := (by simp only [eq_iff_iff, iff_false]; have := r14_1_l; omega)
              have n1_13 : (B1 = B13) = False := (by simp only [eq_iff_iff, iff_false]; have := r14_1_l; omega)
              have n13_2 : (B13 = B2) = False := (by simp only [eq_iff_iff, iff_false]; have := r14_2_l; omega)
              have n2_13 : (B2 = B13) = False := (by simp only [eq_iff_iff, iff_false]; have := r14_2_l; omega)
              have n13_3 : (B13 = B3) = False := (by simp only [eq_iff_iff, iff_false]; have := r14_3_l; omega)
              have n3_13 : (B3 = B13) = False := (by simp only [eq_iff_iff, iff_false]; have := r14_3_l; omega)
              have n13_5 : (B13 = A) = False := (by simp only [eq_iff_iff, iff_false]; have := r14_5_l; omega)
              have n5_13 : (A = B13) = False := (by simp only [eq_iff_iff, iff_false]; have := r14_5_l; omega)
              clear hB13
              clear r14_0 r14_0_c r14_0_f r14_0_l r14_1 r14_1_c r14_1_f r14_1_l r14_2 r14_2_c r14_2_f r14_2_l r14_3 r14_3_c r14_3_f r14_3_l r14_5 r14_5_c r14_5_f r14_5_l b14
              obtain ⟨r15_0_c, r15_0_f, r15_0_l⟩ := r15_0.tell
              obtain ⟨r15_1_c, r15_1_f, r15_1_l⟩ := r15_1.tell
              obtain ⟨r15_2_c, r15_2_f, r15_2_l⟩ := r15_2.tell
              obtain ⟨r15_3_c, r15_3_f, r15_3_l⟩ := r15_3.tell
              obtain ⟨r15_5_c, r15_5_f, r15_5_l⟩ := r15_5.tell
              obtain ⟨r15_13_c, r15_13_f, r15_13_l⟩ := r15_13.tell
              clear hw15
              refine wp_region_told_at (fun l0 D a' w' => ∃ (x40 : Value) (x41 : Value) (x42 : Value) (x43 : Value) (x39 : Value) (x44 : Value) (x45 : Value) (x13 : Value) (x14 : Value) (C7 : Nat) (C8 : Nat), a' = ⟨((((((((((l0).set 40 x40).set 41 x41).set 42 x42).set 43 x43).set 39 x39).set 44 x44).set 45 x45).set 13 x13).set 14 x14).toArray, []⟩ ∧ Bl w15 w' ∧ (D 0 → x40 = U f) ∧ (D 1 → x41 = .int .u64 i) ∧ (D 2 → x42 = U i) ∧ (D 3 → x43 = .tuple #[U 0, U by_]) ∧ (D 4 → x39 = .tuple #[U 0, U by_]) ∧ (D 5 → x44 = U 0) ∧ (D 6 → x45 = U by_) ∧ Blk D 7 9 w15 w' x13 C7 #[.int .u64 0, .int .u64 0, .int .u64 0, .int .u64 0] #[.int .u64 (L 0 0), .int .u64 (L 0 1), .int .u64 (L 0 2), .int .u64 (L 0 3)] 24 ∧ Blk D 8 10 w15 w' x14 C8 #[.int .u64 0, .int .u64 0, .int .u64 0, .int .u64 0] #[.int .u64 (L by_ 0), .int .u64 (L by_ 1), .int .u64 (L by_ 2), .int .u64 (L by_ 3)] 24 ∧ NeB D 7 8 C7 C8) (by kernel_rfl) (by kernel_rfl) ?_ ?_ ?_
              · exact fun l0 => ⟨l0.getD 40 undef, l0.getD 41 undef, l0.getD 42 undef, l0.getD 43 undef, l0.getD 39 undef, l0.getD 44 undef, l0.getD 45 undef, l0.getD 13 undef, l0.getD 14 undef, 0, 0, (by simp only [set_self]), (Bl.refl w15).drew, fun h => h.elim, fun h => h.elim, fun h => h.elim, fun h => h.elim, fun h => h.elim, fun h => h.elim, fun h => h.elim, Blk.start, Blk.start, NeB.start⟩
              · intro Inv hInv
                refine AllD.cons ?_ (AllD.cons ?_ (AllD.cons ?_ (AllD.cons ?_ (AllD.cons ?_ (AllD.cons ?_ (AllD.cons ?_ (AllD.cons ?_ (AllD.cons ?_ (AllD.cons ?_ (AllD.cons ?_ (AllD.nil)))))))))))
                · refine StepD.plain rfl rfl ?_
                  intro D a' w' hn hp hI K hK
                  obtain ⟨x40, x41, x42, x43, x39, x44, x45, x13, x14, C7, C8, ha, hbl, zf0, zf1, zf2, zf3, zf4, zf5, zf6, zg7, zg8, zn0_1⟩ := (hInv.out D a' w').1 hI
                  subst ha; clear hI
                  (try simp only [List.set_cons_zero, List.set_cons_succ])
                  have bz := r15_1.call hbl
                  obtain ⟨bc, bf, bl_⟩ := bz.tell
                  go_simp
                  exact hK.out _ _ ((hInv.out _ _ _).2 ⟨_, _, _, _, _, _, _, _, _, C7, C8, rfl, hbl, fun _ => (by first | rfl | go_num | (simp; done)), told_next zf1 (by decide), told_next zf2 (by decide), told_next zf3 (by decide), told_next zf4 (by decide), told_next zf5 (by decide), told_next zf6 (by decide), zg7.next (by decide) (by decide) (fun _ _ h => h), zg8.next (by decide) (by decide) (fun _ _ h => h), zn0_1.next (by decide) (by decide)⟩)
                · refine StepD.plain rfl rfl ?_
                  intro D a' w' hn hp hI K hK
                  obtain ⟨x40, x41, x42, x43, x39, x44, x45, x13, x14, C7, C8, ha, hbl, zf0, zf1, zf2, zf3, zf4, zf5, zf6, zg7, zg8, zn0_1⟩ := (hInv.out D a' w').1 hI
                  subst ha; clear hI
                  (try simp only [List.set_cons_zero, List.set_cons_succ])
                  go_simp
                  exact hK.out _ _ ((hInv.out _ _ _).2 ⟨_, _, _, _, _, _, _, _, _, C7, C8, rfl, hbl, told_next zf0 (by decide), fun _ => (by first | rfl | go_num | (simp; done)), told_next zf2 (by decide), told_next zf3 (by decide), told_next zf4 (by decide), told_next zf5 (by decide), told_next zf6 (by decide), zg7.next (by decide) (by decide) (fun _ _ h => h), zg8.next (by decide) (by decide) (fun _ _ h => h), zn0_1.next (by decide) (by decide)⟩)
                · refine StepD.plain rfl rfl ?_
                  intro D a' w' hn hp hI K hK
                  obtain ⟨x40, x41, x42, x43, x39, x44, x45, x13, x14, C7, C8, ha, hbl, zf0, zf1, zf2, zf3, zf4, zf5, zf6, zg7, zg8, zn0_1⟩ := (hInv.out D a' w').1 hI
                  subst ha; clear hI
                  (try simp only [List.set_cons_zero, List.set_cons_succ])
                  obtain ⟨p2_1, _⟩ := hp
                  have p2_1 : D 1 := p2_1 rfl
                  have e1 := zf1 p2_1; subst e1
                  go_simp
                  refine (a2 _).mono ?_
                  rintro e w2 ⟨rfl, hbc⟩
                  go_wp2_with fail
                  exact hK.out _ _ ((hInv.out _ _ _).2 ⟨_, _, _, _, _, _, _, _, _, C7, C8, rfl, hbl.trans hbc, told_next zf0 (by decide), fun _ => rfl, fun _ => (by first | rfl | go_num | (simp; done)), told_next zf3 (by decide), told_next zf4 (by decide), told_next zf5 (by decide), told_next zf6 (by decide), zg7.next (by decide) (by decide) (fun _ _ h => h.call hbc), zg8.next (by decide) (by decide) (fun _ _ h => h.call hbc), zn0_1.next (by decide) (by decide)⟩)
                · refine StepD.plain rfl rfl ?_
                  intro D a' w' hn hp hI K hK
                  obtain ⟨x40, x41, x42, x43, x39, x44, x45, x13, x14, C7, C8, ha, hbl, zf0, zf1, zf2, zf3, zf4, zf5, zf6, zg7, zg8, zn0_1⟩ := (hInv.out D a' w').1 hI
                  subst ha; clear hI
                  (try simp only [List.set_cons_zero, List.set_cons_succ])
                  obtain ⟨p3_0, p3_2, _, _⟩ := hp
                  have p3_0 : D 0 := p3_0 rfl
                  have p3_2 : D 2 := p3_2 rfl
                  have e0 := zf0 p3_0; subst e0
                  have e2 := zf2 p3_2; subst e2
                  go_simp
                  refine (a3 _).mono ?_
                  rintro e w2 ⟨rfl, hbc⟩
                  go_wp2_with fail
                  exact hK.out _ _ ((hInv.out _ _ _).2 ⟨_, _, _, _, _, _, _, _, _, C7, C8, rfl, hbl.trans hbc, fun _ => rfl, told_next zf1 (by decide), fun _ => rfl, fun _ => (by first | rfl | go_num | (simp; done)), told_next zf4 (by decide), told_next zf5 (by decide), told_next zf6 (by decide), zg7.next (by decide) (by decide) (fun _ _ h => h.call hbc), zg8.next (by decide) (by decide) (fun _ _ h => h.call hbc), zn0_1.next (by decide) (by decide)⟩)
                · refine StepD.plain rfl rfl ?_
                  intro D a' w' hn hp hI K hK
                  obtain ⟨x40, x41, x42, x43, x39, x44, x45, x13, x14, C7, C8, ha, hbl, zf0, zf1, zf2, zf3, zf4, zf5, zf6, zg7, zg8, zn0_1⟩ := (hInv.out D a' w').1 hI
                  subst ha; clear hI
                  (try simp only [List.set_cons_zero, List.set_cons_succ])
                  obtain ⟨p4_3, _⟩ := hp
                  have p4_3 : D 3 := p4_3 rfl
                  have e3 := zf3 p4_3; subst e3
                  go_simp
                  exact hK.out _ _ ((hInv.out _ _ _).2 ⟨_, _, _, _, _, _, _, _, _, C7, C8, rfl, hbl, told_next zf0 (by decide), told_next zf1 (by decide), told_next zf2 (by decide), fun _ => rfl, fun _ => (by first | rfl | go_num | (simp; done)), told_next zf5 (by decide), told_next zf6 (by decide), zg7.next (by decide) (by decide) (fun _ _ h => h), zg8.next (by decide) (by decide) (fun _ _ h => h), zn0_1.next (by decide) (by decide)⟩)
                · refine StepD.plain rfl rfl ?_
                  intro D a' w' hn hp hI K hK
                  obtain ⟨x40, x41, x42, x43, x39, x44, x45, x13, x14, C7, C8, ha, hbl, zf0, zf1, zf2, zf3, zf4, zf5, zf6, zg7, zg8, zn0_1⟩ := (hInv.out D a' w').1 hI
                  subst ha; clear hI
                  (try simp only [List.set_cons_zero, List.set_cons_succ])
                  obtain ⟨p5_4, _⟩ := hp
                  have p5_4 : D 4 := p5_4 rfl
                  have e4 := zf4 p5_4; subst e4
                  go_simp
                  exact hK.out _ _ ((hInv.out _ _ _).2 ⟨_, _, _, _, _, _, _, _, _, C7, C8, rfl, hbl, told_next zf0 (by decide), told_next zf1 (by decide), told_next zf2 (by decide), told_next zf3 (by decide), fun _ => rfl, fun _ => (by first | rfl | go_num | (simp; done)), told_next zf6 (by decide), zg7.next (by decide) (by decide) (fun _ _ h => h), zg8.next (by decide) (by decide) (fun _ _ h => h), zn0_1.next (by decide) (by decide)⟩)
                · refine StepD.plain rfl rfl ?_
                  intro D a' w' hn hp hI K hK
                  obtain ⟨x40, x41, x42, x43, x39, x44, x45, x13, x14, C7, C8, ha, hbl, zf0, zf1, zf2, zf3, zf4, zf5, zf6, zg7, zg8, zn0_1⟩ := (hInv.out D a' w').1 hI
                  subst ha; clear hI
                  (try simp only [List.set_cons_zero, List.set_cons_succ])
                  obtain ⟨p6_4, _, _⟩ := hp
                  have p6_4 : D 4 := p6_4 rfl
                  have e4 := zf4 p6_4; subst e4
                  go_simp
                  exact hK.out _ _ ((hInv.out _ _ _).2 ⟨_, _, _, _, _, _, _, _, _, C7, C8, rfl, hbl, told_next zf0 (by decide), told_next zf1 (by decide), told_next zf2 (by decide), told_next zf3 (by decide), fun _ => rfl, told_next zf5 (by decide), fun _ => (by first | rfl | go_num | (simp; done)), zg7.next (by decide) (by decide) (fun _ _ h => h), zg8.next (by decide) (by decide) (fun _ _ h => h), zn0_1.next (by decide) (by decide)⟩)
                · refine StepD.plain rfl rfl ?_
                  intro D a' w' hn hp hI K hK
                  obtain ⟨x40, x41, x42, x43, x39, x44, x45, x13, x14, C7, C8, ha, hbl, zf0, zf1, zf2, zf3, zf4, zf5, zf6, zg7, zg8, zn0_1⟩ := (hInv.out D a' w').1 hI
                  subst ha; clear hI
                  (try simp only [List.set_cons_zero, List.set_cons_succ])
                  go_simp
                  exact hK.out _ _ ((hInv.out _ _ _).2 ⟨_, _, _, _, _, _, _, _, _, _, C8, rfl, hbl.alloc _, told_next zf0 (by decide), told_next zf1 (by decide), told_next zf2 (by decide), told_next zf3 (by decide), told_next zf4 (by decide), told_next zf5 (by decide), told_next zf6 (by decide), zg7.made hn (by decide) hbl.size, zg8.next (by decide) (by decide) (fun _ _ h => h.alloc _), NeB.right zg8 (by decide)⟩)
                · refine StepD.plain rfl rfl ?_
                  intro D a' w' hn hp hI K hK
                  obtain ⟨x40, x41, x42, x43, x39, x44, x45, x13, x14, C7, C8, ha, hbl, zf0, zf1, zf2, zf3, zf4, zf5, zf6, zg7, zg8, zn0_1⟩ := (hInv.out D a' w').1 hI
                  subst ha; clear hI
                  (try simp only [List.set_cons_zero, List.set_cons_succ])
                  go_simp
                  exact hK.out _ _ ((hInv.out _ _ _).2 ⟨_, _, _, _, _, _, _, _, _, C7, _, rfl, hbl.alloc _, told_next zf0 (by decide), told_next zf1 (by decide), told_next zf2 (by decide), told_next zf3 (by decide), told_next zf4 (by decide), told_next zf5 (by decide), told_next zf6 (by decide), zg7.next (by decide) (by decide) (fun _ _ h => h.alloc _), zg8.made hn (by decide) hbl.size, NeB.left zg7 (by decide)⟩)
                · refine StepD.plain rfl rfl ?_
                  intro D a' w' hn hp hI K hK
                  obtain ⟨x40, x41, x42, x43, x39, x44, x45, x13, x14, C7, C8, ha, hbl, zf0, zf1, zf2, zf3, zf4, zf5, zf6, zg7, zg8, zn0_1⟩ := (hInv.out D a' w').1 hI
                  subst ha; clear hI
                  (try simp only [List.set_cons_zero, List.set_cons_succ])
                  obtain ⟨p9_7, p9_5, p9_3, p9_0, p9_1, p9_2, _, p9_4, _, _, _, p9_8, _⟩ := hp
                  have p9_0 : D 0 := p9_0 rfl
                  have p9_1 : D 1 := p9_1 rfl
                  have p9_2 : D 2 := p9_2 rfl
                  have p9_3 : D 3 := p9_3 rfl
                  have p9_4 : D 4 := p9_4 rfl
                  have p9_5 : D 5 := p9_5 rfl
                  have p9_7 : D 7 := p9_7 rfl
                  have p9_8 : D 8 := p9_8 rfl
                  obtain ⟨e13, lw13, ha13, hz13⟩ := zg7.2 p9_7
                  subst e13
                  have bz := hz13 hn
                  obtain ⟨bc, bf, bl_⟩ := bz.tell
                  clear ha13 hz13
                  have e5 := zf5 p9_5; subst e5
                  go_simp
                  have lwb : w15.heap.size ≤ C7 := lw13
                  have far8 : ∀ (h : D 8), C8 ≠ C7 := fun h => (zn0_1 p9_7 h).symm
                  exact hK.out _ _ ((hInv.out _ _ _).2 ⟨_, _, _, _, _, _, _, _, _, C7, C8, rfl, ((((hbl).setCell (by simp only []; omega) _).setCell (by simp only []; omega) _).setCell (by simp only []; omega) _).setCell (by simp only []; omega) _, told_next zf0 (by decide), told_next zf1 (by decide), told_next zf2 (by decide), told_next zf3 (by decide), told_next zf4 (by decide), fun _ => rfl, told_next zf6 (by decide), zg7.filled p9_7 hn (fun h => (((((h).set _ _).set _ _).set _ _).set _ _).cells rfl), zg8.next (by decide) (by decide) (fun hd _ h => ((((h).far _ _ (far8 hd)).far _ _ (far8 hd)).far _ _ (far8 hd)).far _ _ (far8 hd)), zn0_1.next (by decide) (by decide)⟩)
                · refine StepD.plain rfl rfl ?_
                  intro D a' w' hn hp hI K hK
                  obtain ⟨x40, x41, x42, x43, x39, x44, x45, x13, x14, C7, C8, ha, hbl, zf0, zf1, zf2, zf3, zf4, zf5, zf6, zg7, zg8, zn0_1⟩ := (hInv.out D a' w').1 hI
                  subst ha; clear hI
                  (try simp only [List.set_cons_zero, List.set_cons_succ])
                  obtain ⟨p10_8, p10_6, p10_9, p10_0, p10_1, p10_2, p10_3, p10_4, p10_5, _, p10_7, _, _, _⟩ := hp
                  have p10_0 : D 0 := p10_0 rfl
                  have p10_1 : D 1 := p10_1 rfl
                  have p10_2 : D 2 := p10_2 rfl
                  have p10_3 : D 3 := p10_3 rfl
                  have p10_4 : D 4 := p10_4 rfl
                  have p10_5 : D 5 := p10_5 rfl
                  have p10_6 : D 6 := p10_6 rfl
                  have p10_7 : D 7 := p10_7 rfl
                  have p10_8 : D 8 := p10_8 rfl
                  have p10_9 : D 9 := p10_9 rfl
                  obtain ⟨e14, lw14, ha14, hz14⟩ := zg8.2 p10_8
                  subst e14
                  have bz := hz14 hn
                  obtain ⟨bc, bf, bl_⟩ := bz.tell
                  clear ha14 hz14
                  have e6 := zf6 p10_6; subst e6
                  go_simp
                  have lwb : w15.heap.size ≤ C8 := lw14
                  have far7 : ∀ (h : D 7), C7 ≠ C8 := fun h => zn0_1 h p10_8
                  exact hK.out _ _ ((hInv.out _ _ _).2 ⟨_, _, _, _, _, _, _, _, _, C7, C8, rfl, ((((hbl).setCell (by simp only []; omega) _).setCell (by simp only []; omega) _).setCell (by simp only []; omega) _).setCell (by simp only []; omega) _, told_next zf0 (by decide), told_next zf1 (by decide), told_next zf2 (by decide), told_next zf3 (by decide), told_next zf4 (by decide), told_next zf5 (by decide), fun _ => rfl, zg7.next (by decide) (by decide) (fun hd _ h => ((((h).far _ _ (far7 hd)).far _ _ (far7 hd)).far _ _ (far7 hd)).far _ _ (far7 hd)), zg8.filled p10_8 hn (fun h => (((((h).set _ _).set _ _).set _ _).set _ _).cells rfl), zn0_1.next (by decide) (by decide)⟩)
              · intro D a' w16 hall hI
                obtain ⟨x40, x41, x42, x43, x39, x44, x45, x13, x14, B14, B15, ha, hb16, zf0, zf1, zf2, zf3, zf4, zf5, zf6, zg7, zg8, zn0_1⟩ := hI
                subst ha
                (try simp only [List.set_cons_zero, List.set_cons_succ])
                have e := zf0 (hall 0 (by decide)); subst e
                have e := zf1 (hall 1 (by decide)); subst e
                have e := zf2 (hall 2 (by decide)); subst e
                have e := zf3 (hall 3 (by decide)); subst e
                have e := zf4 (hall 4 (by decide)); subst e
                have e := zf5 (hall 5 (by decide)); subst e
                have e := zf6 (hall 6 (by decide)); subst e
                obtain ⟨e, lw14, ha14, hz14⟩ := zg7.2 (hall 7 (by decide))
                subst e
                have q14 := ha14 (hall 9 (by decide))
                clear ha14 hz14 zg7
                obtain ⟨e, lw15, ha15, hz15⟩ := zg8.2 (hall 8 (by decide))
                subst e
                have q15 := ha15 (hall 10 (by decide))
                clear ha15 hz15 zg8
                have zn0_1 := zn0_1 (hall 7 (by decide)) (hall 8 (by decide))
                clear hall
                (try simp only [Act.put, List.setIfInBounds_toArray, List.set_cons_zero, List.set_cons_succ])
                have lo14 : w.heap.size ≤ B14 := (by have := y15; omega)
                have lo15 : w.heap.size ≤ B15 := (by have := y15; omega)
                have n14_0 : (B14 = B0) = False := (by simp only [eq_iff_iff, iff_false]; have := r15_0_l; omega)
                have n0_14 : (B0 = B14) = False := (by simp only [eq_iff_iff, iff_false]; have := r15_0_l; omega)
                have n14_1 : (B14 = B1) = False := (by simp only [eq_iff_iff, iff_false]; have := r15_1_l; omega)
                have n1_14 : (B1 = B14) = False := (by simp only [eq_iff_iff, iff_false]; have := r15_1_l; omega)
                have n14_2 : (B14 = B2) = False := (by simp only [eq_iff_iff, iff_false]; have := r15_2_l; omega)
                have n2_14 : (B2 = B14) = False := (by simp only [eq_iff_iff, iff_false]; have := r15_2_l; omega)
                have n14_3 : (B14 = B3) = False := (by simp only [eq_iff_iff, iff_false]; have := r15_3_l; omega)
                have n3_14 : (B3 = B14) = False := (by simp only [eq_iff_iff, iff_false]; have := r15_3_l; omega)
                have n14_5 : (B14 = A) = False := (by simp only [eq_iff_iff, iff_false]; have := r15_5_l; omega)
                have n5_14 : (A = B14) = False := (by simp only [eq_iff_iff, iff_false]; have := r15_5_l; omega)
                have n14_13 : (B14 = B13) = False := (by simp only [eq_iff_iff, iff_false]; have := r15_13_l; omega)
                have n13_14 : (B13 = B14) = False := (by simp only [eq_iff_iff, iff_false]; have := r15_13_l; omega)
                have n14_15 : (B14 = B15) = False := (by simp only [eq_iff_iff, iff_false]; omega)
                have n15_14 : (B15 = B14) = False := (by simp only [eq_iff_iff, iff_false]; omega)
                have n15_0 : (B15 = B0) = False := (by simp only [eq_iff_iff, iff_false]; have := r15_0_l; omega)
                have n0_15 : (B0 = B15) = False := (by simp only [eq_iff_iff, iff_false]; have := r15_0_l; omega)
                have n15_1 : (B15 = B1) = False := (by simp only [eq_iff_iff, iff_false]; have := r15_1_l; omega)
                have n1_15 : (B1 = B15) = False := (by simp only [eq_iff_iff, iff_false]; have := r15_1_l; omega)
                have n15_2 : (B15 = B2) = False := (by simp only [eq_iff_iff, iff_false]; have := r15_2_l; omega)
                have n2_15 : (B2 = B15) = False := (by simp only [eq_iff_iff, iff_false]; have := r15_2_l; omega)
                have n15_3 : (B15 = B3) = False := (by simp only [eq_iff_iff, iff_false]; have := r15_3_l; omega)
                have n3_15 : (B3 = B15) = False := (by simp only [eq_iff_iff, iff_false]; have := r15_3_l; omega)
                have n15_5 : (B15 = A) = False := (by simp only [eq_iff_iff, iff_false]; have := r15_5_l; omega)
                have n5_15 : (A = B15) = False := (by simp only [eq_iff_iff, iff_false]; have := r15_5_l; omega)
                have n15_13 : (B15 = B13) = False := (by simp only [eq_iff_iff, iff_false]; have := r15_13_l; omega)
                have n13_15 : (B13 = B15) = False := (by simp only [eq_iff_iff, iff_false]; have := r15_13_l; omega)
                have r16_0 : Box w16 B0 #[.int .u64 0, .int .u64 0, .int .u64 0, .int .u64 0] 24 := r15_0.call hb16
                have r16_1 : Box w16 B1 #[.int .u64 (L f 0), .int .u64 (L f 1), .int .u64 (L f 2), .int .u64 (L f 3)] 24 := r15_1.call hb16
                have r16_2 : Box w16 B2 #[.int .u64 (L x 0), .int .u64 (L x 1), .int .u64 (L x 2), .int .u64 (L x 3)] 24 := r15_2.call hb16
                have r16_3 : Box w16 B3 #[.int .u64 (L all 0), .int .u64 (L all 1), .int .u64 (L all 2), .int .u64 (L all 3)] 24 := r15_3.call hb16
                have r16_5 : Box w16 A #[.int .u64 (L a 0), .int .u64 (L a 1), .int .u64 (L a 2), .int .u64 (L a 3)] 24 := r15_5.call hb16
                have r16_13 : Box w16 B13 #[.int .u64 (L s 0), .int .u64 (L s 1), .int .u64 (L s 2), .int .u64 (L s 3)] 24 := r15_13.call hb16
                have r16_14 : Box w16 B14 #[.int .u64 (L 0 0), .int .u64 (L 0 1), .int .u64 (L 0 2), .int .u64 (L 0 3)] 24 := q14
                have r16_15 : Box w16 B15 #[.int .u64 (L by_ 0), .int .u64 (L by_ 1), .int .u64 (L by_ 2), .int .u64 (L by_ 3)] 24 := q15
                have b16 : Bl w w16 := Bl.trans b15 hb16
                have z16 : w15.heap.size ≤ w16.heap.size := (by have := hb16.size; omega)
                have y16 : w.heap.size ≤ w16.heap.size := b16.size
                clear r15_0 r15_0_c r15_0_f r15_0_l r15_1 r15_1_c r15_1_f r15_1_l r15_2 r15_2_c r15_2_f r15_2_l r15_3 r15_3_c r15_3_f r15_3_l r15_5 r15_5_c r15_5_f r15_5_l r15_13 r15_13_c r15_13_f r15_13_l b15
                obtain ⟨r16_0_c, r16_0_f, r16_0_l⟩ := r16_0.tell
                obtain ⟨r16_1_c, r16_1_f, r16_1_l⟩ := r16_1.tell
                obtain ⟨r16_2_c, r16_2_f, r16_2_l⟩ := r16_2.tell
                obtain ⟨r16_3_c, r16_3_f, r16_3_l⟩ := r16_3.tell
                obtain ⟨r16_5_c, r16_5_f, r16_5_l⟩ := r16_5.tell
                obtain ⟨r16_13_c, r16_13_f, r16_13_l⟩ := r16_13.tell
                obtain ⟨r16_14_c, r16_14_f, r16_14_l⟩ := r16_14.tell
                obtain ⟨r16_15_c, r16_15_f, r16_15_l⟩ := r16_15.tell
                clear hb16 lw14 lw15
                go_wp2_with fail
                refine (a4 _).mono ?_
                rintro e w17 ⟨rfl, hb17⟩
                have r17_0 : Box w17 B0 #[.int .u64 0, .int .u64 0, .int .u64 0, .int .u64 0] 24 := (r16_0).call hb17
                have r17_1 : Box w17 B1 #[.int .u64 (L f 0), .int .u64 (L f 1), .int .u64 (L f 2), .int .u64 (L f 3)] 24 := (r16_1).call hb17
                have r17_2 : Box w17 B2 #[.int .u64 (L x 0), .int .u64 (L x 1), .int .u64 (L x 2), .int .u64 (L x 3)] 24 := (r16_2).call hb17
                have r17_3 : Box w17 B3 #[.int .u64 (L all 0), .int .u64 (L all 1), .int .u64 (L all 2), .int .u64 (L all 3)] 24 := (r16_3).call hb17
                have r17_5 : Box w17 A #[.int .u64 (L a 0), .int .u64 (L a 1), .int .u64 (L a 2), .int .u64 (L a 3)] 24 := (r16_5).call hb17
                have r17_13 : Box w17 B13 #[.int .u64 (L s 0), .int .u64 (L s 1), .int .u64 (L s 2), .int .u64 (L s 3)] 24 := (r16_13).call hb17
                have r17_14 : Box w17 B14 #[.int .u64 (L 0 0), .int .u64 (L 0 1), .int .u64 (L 0 2), .int .u64 (L 0 3)] 24 := (r16_14).call hb17
                have r17_15 : Box w17 B15 #[.int .u64 (L by_ 0), .int .u64 (L by_ 1), .int .u64 (L by_ 2), .int .u64 (L by_ 3)] 24 := (r16_15).call hb17
                have b17 : Bl w w17 := Bl.trans (b16) hb17
                have z17 : w16.heap.size ≤ w17.heap.size := (by have := hb17.size; (try simp only [World.alloc, World.setCell, World.drew, Array.size_push, Array.size_modify] at this); omega)
                have y17 : w.heap.size ≤ w17.heap.size := b17.size
                clear r16_0 r16_0_c r16_0_f r16_0_l r16_1 r16_1_c r16_1_f r16_1_l r16_2 r16_2_c r16_2_f r16_2_l r16_3 r16_3_c r16_3_f r16_3_l r16_5 r16_5_c r16_5_f r16_5_l r16_13 r16_13_c r16_13_f r16_13_l r16_14 r16_14_c r16_14_f r16_14_l r16_15 r16_15_c r16_15_f r16_15_l b16
                obtain ⟨r17_0_c, r17_0_f, r17_0_l⟩ := r17_0.tell
                obtain ⟨r17_1_c, r17_1_f, r17_1_l⟩ := r17_1.tell
                obtain ⟨r17_2_c, r17_2_f, r17_2_l⟩ := r17_2.tell
                obtain ⟨r17_3_c, r17_3_f, r17_3_l⟩ := r17_3.tell
                obtain ⟨r17_5_c, r17_5_f, r17_5_l⟩ := r17_5.tell
                obtain ⟨r17_13_c, r17_13_f, r17_13_l⟩ := r17_13.tell
                obtain ⟨r17_14_c, r17_14_f, r17_14_l⟩ := r17_14.tell
                obtain ⟨r17_15_c, r17_15_f, r17_15_l⟩ := r17_15.tell
                have d17_0 : (B0 = w17.heap.size) = False := (by simp only [eq_iff_iff, iff_false]; omega)
                have e17_0 : (w17.heap.size = B0) = False := (by simp only [eq_iff_iff, iff_false]; omega)
                have m17_0 : B0 < w17.heap.size := (by omega)
                have d17_1 : (B0 = w17.heap.size + 1) = False := (by simp only [eq_iff_iff, iff_false]; omega)
                have e17_1 : (w17.heap.size + 1 = B0) = False := (by simp only [eq_iff_iff, iff_false]; omega)
                have m17_1 : B0 < w17.heap.size + 1 := (by omega)
                have d17_2 : (B1 = w17.heap.size) = False := (by simp only [eq_iff_iff, iff_false]; omega)
                have e17_2 : (w17.heap.size = B1) = False := (by simp only [eq_iff_iff, iff_false]; omega)
                have m17_2 : B1 < w17.heap.size := (by omega)
                have d17_3 : (B1 = w17.heap.size + 1) = False := (by simp only [eq_iff_iff, iff_false]; omega)
                have e17_3 : (w17.heap.size + 1 = B1) = False := (by simp only [eq_iff_iff, iff_false]; omega)
                have m17_3 : B1 < w17.heap.size + 1 := (by omega)
                have d17_4 : (B2 = w17.heap.size) = False := (by simp only [eq_iff_iff, iff_false]; omega)
                have e17_4 : (w17.heap.size = B2) = False := (by simp only [eq_iff_iff, iff_false]; omega)
                have m17_4 : B2 < w17.heap.size := (by omega)
                have d17_5 : (B2 = w17.heap.size + 1) = False := (by simp only [eq_iff_iff, iff_false]; omega)
                have e17_5 : (w17.heap.size + 1 = B2) = False := (by simp only [eq_iff_iff, iff_false]; omega)
                have m17_5 : B2 < w17.heap.size + 1 := (by omega)
                have d17_6 : (B3 = w17.heap.size) = False := (by simp only [eq_iff_iff, iff_false]; omega)
                have e17_6 : (w17.heap.size = B3) = False := (by simp only [eq_iff_iff, iff_false]; omega)
                have m17_6 : B3 < w17.heap.size := (by omega)
                have d17_7 : (B3 = w17.heap.size + 1) = False := (by simp only [eq_iff_iff, iff_false]; omega)
                have e17_7 : (w17.heap.size + 1 = B3) = False := (by simp only [eq_iff_iff, iff_false]; omega)
                have m17_7 : B3 < w17.heap.size + 1 := (by omega)
                have d17_8 : (A = w17.heap.size) = False := (by simp only [eq_iff_iff, iff_false]; omega)
                have e17_8 : (w17.heap.size = A) = False := (by simp only [eq_iff_iff, iff_false]; omega)
                have m17_8 : A < w17.heap.size := (by omega)
                have d17_9 : (A = w17.heap.size + 1) = False := (by simp only [eq_iff_iff, iff_false]; omega)
                have e17_9 : (w17.heap.size + 1 = A) = False := (by simp only [eq_iff_iff, iff_false]; omega)
                have m17_9 : A < w17.heap.size + 1 := (by omega)
                have d17_10 : (B13 = w17.heap.size) = False := (by simp only [eq_iff_iff, iff_false]; omega)
                have e17_10 : (w17.heap.size = B13) = False := (by simp only [eq_iff_iff, iff_false]; omega)
                have m17_10 : B13 < w17.heap.size := (by omega)
                have d17_11 : (B13 = w17.heap.size + 1) = False := (by simp only [eq_iff_iff, iff_false]; omega)
                have e17_11 : (w17.heap.size + 1 = B13) = False := (by simp only [eq_iff_iff, iff_false]; omega)
                have m17_11 : B13 < w17.heap.size + 1 := (by omega)
                have d17_12 : (B14 = w17.heap.size) = False := (by simp only [eq_iff_iff, iff_false]; omega)
                have e17_12 : (w17.heap.size = B14) = False := (by simp only [eq_iff_iff, iff_false]; omega)
                have m17_12 : B14 < w17.heap.size := (by omega)
                have d17_13 : (B14 = w17.heap.size + 1) = False := (by simp only [eq_iff_iff, iff_false]; omega)
                have e17_13 : (w17.heap.size + 1 = B14) = False := (by simp only [eq_iff_iff, iff_false]; omega)
                have m17_13 : B14 < w17.heap.size + 1 := (by omega)
                have d17_14 : (B15 = w17.heap.size) = False := (by simp only [eq_iff_iff, iff_false]; omega)
                have e17_14 : (w17.heap.size = B15) = False := (by simp only [eq_iff_iff, iff_false]; omega)
                have m17_14 : B15 < w17.heap.size := (by omega)
                have d17_15 : (B15 = w17.heap.size + 1) = False := (by simp only [eq_iff_iff, iff_false]; omega)
                have e17_15 : (w17.heap.size + 1 = B15) = False := (by simp only [eq_iff_iff, iff_false]; omega)
                have m17_15 : B15 < w17.heap.size + 1 := (by omega)
                clear hb17
                go_wp2_with fail
                refine bodyPost_ret (v := .tuple #[.agg #[.int .u64 0, .int .u64 0, .int .u64 0, .int .u64 0], .int .i64 183]) (by simp only [results, Try.results16]; go_simp) rfl ⟨by rw [V1.out, E1.out] <;> rfl, ?_⟩
                exact (((((b17).setCell (by simp only []; omega) _).setCell (by simp only []; omega) _).setCell (by simp only []; omega) _).setCell (by simp only []; omega) _).alloc _
          · skip
            obtain ⟨cy, hcy⟩ : ∃ c, c = (all + a) / T256 := ⟨_, rfl⟩
            rw [← hcy] at a1
            obtain rfl : cy = 1 := by rw [hcy]; rw [T256_eq] at *; omega
            have hr : R = none := by have := hbb.out; rw [bb_wide hz (by rw [← hby]; omega)] at this; simpa using this.symm
            have V1 : Hid (V = 0) := HV.out.trans (by rw [hr]; rfl)
            have E1 : Hid (E = 183) := HE.out.trans (by rw [hr]; rfl)
            generalize mdV a x by_ = md at *
            generalize (all + a) % T256 = s at *
            generalize mdE a x by_ = me at *
            clear hr hbb hby hcy h5 hz hne hfi hk
            go_wp2_with fail
            refine (a1 _).mono ?_
            rintro e w18 ⟨rfl, hb18⟩
            have r18_0 : Box w18 B0 #[.int .u64 0, .int .u64 0, .int .u64 0, .int .u64 0] 24 := (r5_0).call hb18
            have r18_1 : Box w18 B1 #[.int .u64 (L f 0), .int .u64 (L f 1), .int .u64 (L f 2), .int .u64 (L f 3)] 24 := (r5_1).call hb18
            have r18_2 : Box w18 B2 #[.int .u64 (L x 0), .int .u64 (L x 1), .int .u64 (L x 2), .int .u64 (L x 3)] 24 := (r5_2).call hb18
            have r18_3 : Box w18 B3 #[.int .u64 (L all 0), .int .u64 (L all 1), .int .u64 (L all 2), .int .u64 (L all 3)] 24 := (r5_3).call hb18
            have r18_5 : Box w18 A #[.int .u64 (L a 0), .int .u64 (L a 1), .int .u64 (L a 2), .int .u64 (L a 3)] 24 := (r5_5).call hb18
            have b18 : Bl w w18 := Bl.trans (b5) hb18
            have z18 : wr.heap.size ≤ w18.heap.size := (by have := hb18.size; (try simp only [World.alloc, World.setCell, World.drew, Array.size_push, Array.size_modify] at this); omega)
            have y18 : w.heap.size ≤ w18.heap.size := b18.size
            clear r5_0 r5_0_c r5_0_f r5_0_l r5_1 r5_1_c r5_1_f r5_1_l r5_2 r5_2_c r5_2_f r5_2_l r5_3 r5_3_c r5_3_f r5_3_l r5_5 r5_5_c r5_5_f r5_5_l b5
            obtain ⟨r18_0_c, r18_0_f, r18_0_l⟩ := r18_0.tell
            obtain ⟨r18_1_c, r18_1_f, r18_1_l⟩ := r18_1.tell
            obtain ⟨r18_2_c, r18_2_f, r18_2_l⟩ := r18_2.tell
            obtain ⟨r18_3_c, r18_3_f, r18_3_l⟩ := r18_3.tell
            obtain ⟨r18_5_c, r18_5_f, r18_5_l⟩ := r18_5.tell
            have d18_0 : (B0 = w18.heap.size) = False := (by simp only [eq_iff_iff, iff_false]; omega)
            have e18_0 : (w18.heap.size = B0) = False := (by simp only [eq_iff_iff, iff_false]; omega)
            have m18_0 : B0 < w18.heap.size := (by omega)
            have d18_1 : (B0 = w18.heap.size + 1) = False := (by simp only [eq_iff_iff, iff_false]; omega)
            have e18_1 : (w18.heap.size + 1 = B0) = False := (by simp only [eq_iff_iff, iff_false]; omega)
            have m18_1 : B0 < w18.heap.size + 1 := (by omega)
            have d18_2 : (B1 = w18.heap.size) = False := (by simp only [eq_iff_iff, iff_false]; omega)
            have e18_2 : (w18.heap.size = B1) = False := (by simp only [eq_iff_iff, iff_false]; omega)
            have m18_2 : B1 < w18.heap.size := (by omega)
            have d18_3 : (B1 = w18.heap.size + 1) = False := (by simp only [eq_iff_iff, iff_false]; omega)
            have e18_3 : (w18.heap.size + 1 = B1) = False := (by simp only [eq_iff_iff, iff_false]; omega)
            have m18_3 : B1 < w18.heap.size + 1 := (by omega)
            have d18_4 : (B2 = w18.heap.size) = False := (by simp only [eq_iff_iff, iff_false]; omega)
            have e18_4 : (w18.heap.size = B2) = False := (by simp only [eq_iff_iff, iff_false]; omega)
            have m18_4 : B2 < w18.heap.size := (by omega)
            have d18_5 : (B2 = w18.heap.size + 1) = False := (by simp only [eq_iff_iff, iff_false]; omega)
            have e18_5 : (w18.heap.size + 1 = B2) = False := (by simp only [eq_iff_iff, iff_false]; omega)
            have m18_5 : B2 < w18.heap.size + 1 := (by omega)
            have d18_6 : (B3 = w18.heap.size) = False := (by simp only [eq_iff_iff, iff_false]; omega)
            have e18_6 : (w18.heap.size = B3) = False := (by simp only [eq_iff_iff, iff_false]; omega)
            have m18_6 : B3 < w18.heap.size := (by omega)
            have d18_7 : (B3 = w18.heap.size + 1) = False := (by simp only [eq_iff_iff, iff_false]; omega)
            have e18_7 : (w18.heap.size + 1 = B3) = False := (by simp only [eq_iff_iff, iff_false]; omega)
            have m18_7 : B3 < w18.heap.size + 1 := (by omega)
            have d18_8 : (A = w18.heap.size) = False := (by simp only [eq_iff_iff, iff_false]; omega)
            have e18_8 : (w18.heap.size = A) = False := (by simp only [eq_iff_iff, iff_false]; omega)
            have m18_8 : A < w18.heap.size := (by omega)
            have d18_9 : (A = w18.heap.size + 1) = False := (by simp only [eq_iff_iff, iff_false]; omega)
            have e18_9 : (w18.heap.size + 1 = A) = False := (by simp only [eq_iff_iff, iff_false]; omega)
            have m18_9 : A < w18.heap.size + 1 := (by omega)
            clear hb18
            go_wp2_with fail
            obtain ⟨w19, hw19⟩ : ∃ V : World, V = (w18.alloc (.cells #[.int .u64 (L s 0), .int .u64 (L s 1), .int .u64 (L s 2), .int .u64 (L s 3)] 24)) := ⟨_, rfl⟩
            rw [← hw19]
            have r19_0 : Box w19 B0 #[.int .u64 0, .int .u64 0, .int .u64 0, .int .u64 0] 24 := by rw [hw19]; exact (r18_0).alloc _
            have r19_1 : Box w19 B1 #[.int .u64 (L f 0), .int .u64 (L f 1), .int .u64 (L f 2), .int .u64 (L f 3)] 24 := by rw [hw19]; exact (r18_1).alloc _
            have r19_2 : Box w19 B2 #[.int .u64 (L x 0), .int .u64 (L x 1), .int .u64 (L x 2), .int .u64 (L x 3)] 24 := by rw [hw19]; exact (r18_2).alloc _
            have r19_3 : Box w19 B3 #[.int .u64 (L all 0), .int .u64 (L all 1), .int .u64 (L all 2), .int .u64 (L all 3)] 24 := by rw [hw19]; exact (r18_3).alloc _
            have r19_5 : Box w19 A #[.int .u64 (L a 0), .int .u64 (L a 1), .int .u64 (L a 2), .int .u64 (L a 3)] 24 := by rw [hw19]; exact (r18_5).alloc _
            have r19_17 : Box w19 w18.heap.size #[.int .u64 (L s 0), .int .u64 (L s 1), .int .u64 (L s 2), .int .u64 (L s 3)] 24 := by rw [hw19]; exact Box.new _ _ _ _ (by simp)
            have b19 : Bl w w19 := by rw [hw19]; exact (b18).alloc _
            have z19 : w18.heap.size + 1 ≤ w19.heap.size := (by rw [hw19]; simp only [World.alloc, World.setCell, World.drew, Array.size_push, Array.size_modify]; omega)
            have y19 : w.heap.size ≤ w19.heap.size := b19.size
            obtain ⟨B17, hB17⟩ : ∃ B, B = w18.heap.size := ⟨_, rfl⟩
            (try rw [← hB17]); rw [← hB17] at r19_17
            have lo17 : w.heap.size ≤ B17 := by omega
            have n17_0 : (B17 = B0) = False := (by simp only [eq_iff_iff, iff_false]; have := r18_0_l; omega)
            have n0_17 : (B0 = B17) = False := (by simp only [eq_iff_iff, iff_false]; have := r18_0_l; omega)
            have n17_1 : (B17 = B1) = False := (by simp only [eq_iff_iff, iff_false]; have := r18_1_l; omega)
            have n1_17 : (B1 = B17) = False := (by simp only [eq_iff_iff, iff_false]; have := r18_1_l; omega)
            have n17_2 : (B17 = B2) = False := (by simp only [eq_iff_iff, iff_false]; have := r18_2_l; omega)
            have n2_17 : (B2 = B17) = False := (by simp only [eq_iff_iff, iff_false]; have := r18_2_l; omega)
            have n17_3 : (B17 = B3) = False := (by simp only [eq_iff_iff, iff_false]; have := r18_3_l; omega)
            have n3_17 : (B3 = B17) = False := (by simp only [eq_iff_iff, iff_false]; have := r18_3_l; omega)
            have n17_5 : (B17 = A) = False := (by simp only [eq_iff_iff, iff_false]; have := r18_5_l; omega)
            have n5_17 : (A = B17) = False := (by simp only [eq_iff_iff, iff_false]; have := r18_5_l; omega)
            clear hB17
            clear r18_0 r18_0_c r18_0_f r18_0_l r18_1 r18_1_c r18_1_f r18_1_l r18_2 r18_2_c r18_2_f r18_2_l r18_3 r18_3_c r18_3_f r18_3_l r18_5 r18_5_c r18_5_f r18_5_l b18
            obtain ⟨r19_0_c, r19_0_f, r19_0_l⟩ := r19_0.tell
            obtain ⟨r19_1_c, r19_1_f, r19_1_l⟩ := r19_1.tell
            obtain ⟨r19_2_c, r19_2_f, r19_2_l⟩ := r19_2.tell
            obtain ⟨r19_3_c, r19_3_f, r19_3_l⟩ := r19_3.tell
            obtain ⟨r19_5_c, r19_5_f, r19_5_l⟩ := r19_5.tell
            obtain ⟨r19_17_c, r19_17_f, r19_17_l⟩ := r19_17.tell
            clear hw19
            refine wp_region_told_at (fun l0 D a' w' => ∃ (x40 : Value) (x41 : Value) (x42 : Value) (x43 : Value) (x39 : Value) (x44 : Value) (x45 : Value) (x13 : Value) (x14 : Value) (C7 : Nat) (C8 : Nat), a' = ⟨((((((((((l0).set 40 x40).set 41 x41).set 42 x42).set 43 x43).set 39 x39).set 44 x44).set 45 x45).set 13 x13).set 14 x14).toArray, []⟩ ∧ Bl w19 w' ∧ (D 0 → x40 = U f) ∧ (D 1 → x41 = .int .u64 i) ∧ (D 2 → x42 = U i) ∧ (D 3 → x43 = .tuple #[U 0, U by_]) ∧ (D 4 → x39 = .tuple #[U 0, U by_]) ∧ (D 5 → x44 = U 0) ∧ (D 6 → x45 = U by_) ∧ Blk D 7 9 w19 w' x13 C7 #[.int .u64 0, .int .u64 0, .int .u64 0, .int .u64 0] #[.int .u64 (L 0 0), .int .u64 (L 0 1), .int .u64 (L 0 2), .int .u64 (L 0 3)] 24 ∧ Blk D 8 10 w19 w' x14 C8 #[.int .u64 0, .int .u64 0, .int .u64 0, .int .u64 0] #[.int .u64 (L by_ 0), .int .u64 (L by_ 1), .int .u64 (L by_ 2), .int .u64 (L by_ 3)] 24 ∧ NeB D 7 8 C7 C8) (by kernel_rfl) (by kernel_rfl) ?_ ?_ ?_
            · exact fun l0 => ⟨l0.getD 40 undef, l0.getD 41 undef, l0.getD 42 undef, l0.getD 43 undef, l0.getD 39 undef, l0.getD 44 undef, l0.getD 45 undef, l0.getD 13 undef, l0.getD 14 undef, 0, 0, (by simp only [set_self]), (Bl.refl w19).drew, fun h => h.elim, fun h => h.elim, fun h => h.elim, fun h => h.elim, fun h => h.elim, fun h => h.elim, fun h => h.elim, Blk.start, Blk.start, NeB.start⟩
            · intro Inv hInv
              refine AllD.cons ?_ (AllD.cons ?_ (AllD.cons ?_ (AllD.cons ?_ (AllD.cons ?_ (AllD.cons ?_ (AllD.cons ?_ (AllD.cons ?_ (AllD.cons ?_ (AllD.cons ?_ (AllD.cons ?_ (AllD.nil)))))))))))
              · refine StepD.plain rfl rfl ?_
                intro D a' w' hn hp hI K hK
                obtain ⟨x40, x41, x42, x43, x39, x44, x45, x13, x14, C7, C8, ha, hbl, zf0, zf1, zf2, zf3, zf4, zf5, zf6, zg7, zg8, zn0_1⟩ := (hInv.out D a' w').1 hI
                subst ha; clear hI
                (try simp only [List.set_cons_zero, List.set_cons_succ])
                have bz := r19_1.call hbl
                obtain ⟨bc, bf, bl_⟩ := bz.tell
                go_simp
                exact hK.out _ _ ((hInv.out _ _ _).2 ⟨_, _, _, _, _, _, _, _, _, C7, C8, rfl, hbl, fun _ => (by first | rfl | go_num | (simp; done)), told_next zf1 (by decide), told_next zf2 (by decide), told_next zf3 (by decide), told_next zf4 (by decide), told_next zf5 (by decide), told_next zf6 (by decide), zg7.next (by decide) (by decide) (fun _ _ h => h), zg8.next (by decide) (by decide) (fun _ _ h => h), zn0_1.next (by decide) (by decide)⟩)
              · refine StepD.plain rfl rfl ?_
                intro D a' w' hn hp hI K hK
                obtain ⟨x40, x41, x42, x43, x39, x44, x45, x13, x14, C7, C8, ha, hbl, zf0, zf1, zf2, zf3, zf4, zf5, zf6, zg7, zg8, zn0_1⟩ := (hInv.out D a' w').1 hI
                subst ha; clear hI
                (try simp only [List.set_cons_zero, List.set_cons_succ])
                go_simp
                exact hK.out _ _ ((hInv.out _ _ _).2 ⟨_, _, _, _, _, _, _, _, _, C7, C8, rfl, hbl, told_next zf0 (by decide), fun _ => (by first | rfl | go_num | (simp; done)), told_next zf2 (by decide), told_next zf3 (by decide), told_next zf4 (by decide), told_next zf5 (by decide), told_next zf6 (by decide), zg7.next (by decide) (by decide) (fun _ _ h => h), zg8.next (by decide) (by decide) (fun _ _ h => h), zn0_1.next (by decide) (by decide)⟩)
              · refine StepD.plain rfl rfl ?_
                intro D a' w' hn hp hI K hK
                obtain ⟨x40, x41, x42, x43, x39, x44, x45, x13, x14, C7, C8, ha, hbl, zf0, zf1, zf2, zf3, zf4, zf5, zf6, zg7, zg8, zn0_1⟩ := (hInv.out D a' w').1 hI
                subst ha; clear hI
                (try simp only [List.set_cons_zero, List.set_cons_succ])
                obtain ⟨p2_1, _⟩ := hp
                have p2_1 : D 1 := p2_1 rfl
                have e1 := zf1 p2_1; subst e1
                go_simp
                refine (a2 _).mono ?_
                rintro e w2 ⟨rfl, hbc⟩
                go_wp2_with fail
                exact hK.out _ _ ((hInv.out _ _ _).2 ⟨_, _, _, _, _, _, _, _, _, C7, C8, rfl, hbl.trans hbc, told_next zf0 (by decide), fun _ => rfl, fun _ => (by first | rfl | go_num | (simp; done)), told_next zf3 (by decide), told_next zf4 (by decide), told_next zf5 (by decide), told_next zf6 (by decide), zg7.next (by decide) (by decide) (fun _ _ h => h.call hbc), zg8.next (by decide) (by decide) (fun _ _ h => h.call hbc), zn0_1.next (by decide) (by decide)⟩)
              · refine StepD.plain rfl rfl ?_
                intro D a' w' hn hp hI K hK
                obtain ⟨x40, x41, x42, x43, x39, x44, x45, x13, x14, C7, C8, ha, hbl, zf0, zf1, zf2, zf3, zf4, zf5, zf6, zg7, zg8, zn0_1⟩ := (hInv.out D a' w').1 hI
                subst ha; clear hI
                (try simp only [List.set_cons_zero, List.set_cons_succ])
                obtain ⟨p3_0, p3_2, _, _⟩ := hp
                have p3_0 : D 0 := p3_0 rfl
                have p3_2 : D 2 := p3_2 rfl
                have e0 := zf0 p3_0; subst e0
                have e2 := zf2 p3_2; subst e2
                go_simp
                refine (a3 _).mono ?_
                rintro e w2 ⟨rfl, hbc⟩
                go_wp2_with fail
                exact hK.out _ _ ((hInv.out _ _ _).2 ⟨_, _, _, _, _, _, _, _, _, C7, C8, rfl, hbl.trans hbc, fun _ => rfl, told_next zf1 (by decide), fun _ => rfl, fun _ => (by first | rfl | go_num | (simp; done)), told_next zf4 (by decide), told_next zf5 (by decide), told_next zf6 (by decide), zg7.next (by decide) (by decide) (fun _ _ h => h.call hbc), zg8.next (by decide) (by decide) (fun _ _ h => h.call hbc), zn0_1.next (by decide) (by decide)⟩)
              · refine StepD.plain rfl rfl ?_
                intro D a' w' hn hp hI K hK
                obtain ⟨x40, x41, x42, x43, x39, x44, x45, x13, x14, C7, C8, ha, hbl, zf0, zf1, zf2, zf3, zf4, zf5, zf6, zg7, zg8, zn0_1⟩ := (hInv.out D a' w').1 hI
                subst ha; clear hI
                (try simp only [List.set_cons_zero, List.set_cons_succ])
                obtain ⟨p4_3, _⟩ := hp
                have p4_3 : D 3 := p4_3 rfl
                have e3 := zf3 p4_3; subst e3
                go_simp
                exact hK.out _ _ ((hInv.out _ _ _).2 ⟨_, _, _, _, _, _, _, _, _, C7, C8, rfl, hbl, told_next zf0 (by decide), told_next zf1 (by decide), told_next zf2 (by decide), fun _ => rfl, fun _ => (by first | rfl | go_num | (simp; done)), told_next zf5 (by decide), told_next zf6 (by decide), zg7.next (by decide) (by decide) (fun _ _ h => h), zg8.next (by decide) (by decide) (fun _ _ h => h), zn0_1.next (by decide) (by decide)⟩)
              · refine StepD.plain rfl rfl ?_
                intro D a' w' hn hp hI K hK
                obtain ⟨x40, x41, x42, x43, x39, x44, x45, x13, x14, C7, C8, ha, hbl, zf0, zf1, zf2, zf3, zf4, zf5, zf6, zg7, zg8, zn0_1⟩ := (hInv.out D a' w').1 hI
                subst ha; clear hI
                (try simp only [List.set_cons_zero, List.set_cons_succ])
                obtain ⟨p5_4, _⟩ := hp
                have p5_4 : D 4 := p5_4 rfl
                have e4 := zf4 p5_4; subst e4
                go_simp
                exact hK.out _ _ ((hInv.out _ _ _).2 ⟨_, _, _, _, _, _, _, _, _, C7, C8, rfl, hbl, told_next zf0 (by decide), told_next zf1 (by decide), told_next zf2 (by decide), told_next zf3 (by decide), fun _ => rfl, fun _ => (by first | rfl | go_num | (simp; done)), told_next zf6 (by decide), zg7.next (by decide) (by decide) (fun _ _ h => h), zg8.next (by decide) (by decide) (fun _ _ h => h), zn0_1.next (by decide) (by decide)⟩)
              · refine StepD.plain rfl rfl ?_
                intro D a' w' hn hp hI K hK
                obtain ⟨x40, x41, x42, x43, x39, x44, x45, x13, x14, C7, C8, ha, hbl, zf0, zf1, zf2, zf3, zf4, zf5, zf6, zg7, zg8, zn0_1⟩ := (hInv.out D a' w').1 hI
                subst ha; clear hI
                (try simp only [List.set_cons_zero, List.set_cons_succ])
                obtain ⟨p6_4, _, _⟩ := hp
                have p6_4 : D 4 := p6_4 rfl
                have e4 := zf4 p6_4; subst e4
                go_simp
                exact hK.out _ _ ((hInv.out _ _ _).2 ⟨_, _, _, _, _, _, _, _, _, C7, C8, rfl, hbl, told_next zf0 (by decide), told_next zf1 (by decide), told_next zf2 (by decide), told_next zf3 (by decide), fun _ => rfl, told_next zf5 (by decide), fun _ => (by first | rfl | go_num | (simp; done)), zg7.next (by decide) (by decide) (fun _ _ h => h), zg8.next (by decide) (by decide) (fun _ _ h => h), zn0_1.next (by decide) (by decide)⟩)
              · refine StepD.plain rfl rfl ?_
                intro D a' w' hn hp hI K hK
                obtain ⟨x40, x41, x42, x43, x39, x44, x45, x13, x14, C7, C8, ha, hbl, zf0, zf1, zf2, zf3, zf4, zf5, zf6, zg7, zg8, zn0_1⟩ := (hInv.out D a' w').1 hI
                subst ha; clear hI
                (try simp only [List.set_cons_zero, List.set_cons_succ])
                go_simp
                exact hK.out _ _ ((hInv.out _ _ _).2 ⟨_, _, _, _, _, _, _, _, _, _, C8, rfl, hbl.alloc _, told_next zf0 (by decide), told_next zf1 (by decide), told_next zf2 (by decide), told_next zf3 (by decide), told_next zf4 (by decide), told_next zf5 (by decide), told_next zf6 (by decide), zg7.made hn (by decide) hbl.size, zg8.next (by decide) (by decide) (fun _ _ h => h.alloc _), NeB.right zg8 (by decide)⟩)
              · refine StepD.plain rfl rfl ?_
                intro D a' w' hn hp hI K hK
                obtain ⟨x40, x41, x42, x43, x39, x44, x45, x13, x14, C7, C8, ha, hbl, zf0, zf1, zf2, zf3, zf4, zf5, zf6, zg7, zg8, zn0_1⟩ := (hInv.out D a' w').1 hI
                subst ha; clear hI
                (try simp only [List.set_cons_zero, List.set_cons_succ])
                go_simp
                exact hK.out _ _ ((hInv.out _ _ _).2 ⟨_, _, _, _, _, _, _, _, _, C7, _, rfl, hbl.alloc _, told_next zf0 (by decide), told_next zf1 (by decide), told_next zf2 (by decide), told_next zf3 (by decide), told_next zf4 (by decide), told_next zf5 (by decide), told_next zf6 (by decide), zg7.next (by decide) (by decide) (fun _ _ h => h.alloc _), zg8.made hn (by decide) hbl.size, NeB.left zg7 (by decide)⟩)
              · refine StepD.plain rfl rfl ?_
                intro D a' w' hn hp hI K hK
                obtain ⟨x40, x41, x42, x43, x39, x44, x45, x13, x14, C7, C8, ha, hbl, zf0, zf1, zf2, zf3, zf4, zf5, zf6, zg7, zg8, zn0_1⟩ := (hInv.out D a' w').1 hI
                subst ha; clear hI
                (try simp only [List.set_cons_zero, List.set_cons_succ])
                obtain ⟨p9_7, p9_5, p9_3, p9_0, p9_1, p9_2, _, p9_4, _, _, _, p9_8, _⟩ := hp
                have p9_0 : D 0 := p9_0 rfl
                have p9_1 : D 1 := p9_1 rfl
                have p9_2 : D 2 := p9_2 rfl
                have p9_3 : D 3 := p9_3 rfl
                have p9_4 : D 4 := p9_4 rfl
                have p9_5 : D 5 := p9_5 rfl
                have p9_7 : D 7 := p9_7 rfl
                have p9_8 : D 8 := p9_8 rfl
                obtain ⟨e13, lw13, ha13, hz13⟩ := zg7.2 p9_7
                subst e13
                have bz := hz13 hn
                obtain ⟨bc, bf, bl_⟩ := bz.tell
                clear ha13 hz13
                have e5 := zf5 p9_5; subst e5
                go_simp
                have lwb : w19.heap.size ≤ C7 := lw13
                have far8 : ∀ (h : D 8), C8 ≠ C7 := fun h => (zn0_1 p9_7 h).symm
                exact hK.out _ _ ((hInv.out _ _ _).2 ⟨_, _, _, _, _, _, _, _, _, C7, C8, rfl, ((((hbl).setCell (by simp only []; omega) _).setCell (by simp only []; omega) _).setCell (by simp only []; omega) _).setCell (by simp only []; omega) _, told_next zf0 (by decide), told_next zf1 (by decide), told_next zf2 (by decide), told_next zf3 (by decide), told_next zf4 (by decide), fun _ => rfl, told_next zf6 (by decide), zg7.filled p9_7 hn (fun h => (((((h).set _ _).set _ _).set _ _).set _ _).cells rfl), zg8.next (by decide) (by decide) (fun hd _ h => ((((h).far _ _ (far8 hd)).far _ _ (far8 hd)).far _ _ (far8 hd)).far _ _ (far8 hd)), zn0_1.next (by decide) (by decide)⟩)
              · refine StepD.plain rfl rfl ?_
                intro D a' w' hn hp hI K hK
                obtain ⟨x40, x41, x42, x43, x39, x44, x45, x13, x14, C7, C8, ha, hbl, zf0, zf1, zf2, zf3, zf4, zf5, zf6, zg7, zg8, zn0_1⟩ := (hInv.out D a' w').1 hI
                subst ha; clear hI
                (try simp only [List.set_cons_zero, List.set_cons_succ])
                obtain ⟨p10_8, p10_6, p10_9, p10_0, p10_1, p10_2, p10_3, p10_4, p10_5, _, p10_7, _, _, _⟩ := hp
                have p10_0 : D 0 := p10_0 rfl
                have p10_1 : D 1 := p10_1 rfl
                have p10_2 : D 2 := p10_2 rfl
                have p10_3 : D 3 := p10_3 rfl
                have p10_4 : D 4 := p10_4 rfl
                have p10_5 : D 5 := p10_5 rfl
                have p10_6 : D 6 := p10_6 rfl
                have p10_7 : D 7 := p10_7 rfl
                have p10_8 : D 8 := p10_8 rfl
                have p10_9 : D 9 := p10_9 rfl
                obtain ⟨e14, lw14, ha14, hz14⟩ := zg8.2 p10_8
                subst e14
                have bz := hz14 hn
                obtain ⟨bc, bf, bl_⟩ := bz.tell
                clear ha14 hz14
                have e6 := zf6 p10_6; subst e6
                go_simp
                have lwb : w19.heap.size ≤ C8 := lw14
                have far7 : ∀ (h : D 7), C7 ≠ C8 := fun h => zn0_1 h p10_8
                exact hK.out _ _ ((hInv.out _ _ _).2 ⟨_, _, _, _, _, _, _, _, _, C7, C8, rfl, ((((hbl).setCell (by simp only []; omega) _).setCell (by simp only []; omega) _).setCell (by simp only []; omega) _).setCell (by simp only []; omega) _, told_next zf0 (by decide), told_next zf1 (by decide), told_next zf2 (by decide), told_next zf3 (by decide), told_next zf4 (by decide), told_next zf5 (by decide), fun _ => rfl, zg7.next (by decide) (by decide) (fun hd _ h => ((((h).far _ _ (far7 hd)).far _ _ (far7 hd)).far _ _ (far7 hd)).far _ _ (far7 hd)), zg8.filled p10_8 hn (fun h => (((((h).set _ _).set _ _).set _ _).set _ _).cells rfl), zn0_1.next (by decide) (by decide)⟩)
            · intro D a' w20 hall hI
              obtain ⟨x40, x41, x42, x43, x39, x44, x45, x13, x14, B18, B19, ha, hb20, zf0, zf1, zf2, zf3, zf4, zf5, zf6, zg7, zg8, zn0_1⟩ := hI
              subst ha
              (try simp only [List.set_cons_zero, List.set_cons_succ])
              have e := zf0 (hall 0 (by decide)); subst e
              have e := zf1 (hall 1 (by decide)); subst e
              have e := zf2 (hall 2 (by decide)); subst e
              have e := zf3 (hall 3 (by decide)); subst e
              have e := zf4 (hall 4 (by decide)); subst e
              have e := zf5 (hall 5 (by decide)); subst e
              have e := zf6 (hall 6 (by decide)); subst e
              obtain ⟨e, lw18, ha18, hz18⟩ := zg7.2 (hall 7 (by decide))
              subst e
              have q18 := ha18 (hall 9 (by decide))
              clear ha18 hz18 zg7
              obtain ⟨e, lw19, ha19, hz19⟩ := zg8.2 (hall 8 (by decide))
              subst e
              have q19 := ha19 (hall 10 (by decide))
              clear ha19 hz19 zg8
              have zn0_1 := zn0_1 (hall 7 (by decide)) (hall 8 (by decide))
              clear hall
              (try simp only [Act.put, List.setIfInBounds_toArray, List.set_cons_zero, List.set_cons_succ])
              have lo18 : w.heap.size ≤ B18 := (by have := y19; omega)
              have lo19 : w.heap.size ≤ B19 := (by have := y19; omega)
              have n18_0 : (B18 = B0) = False := (by simp only [eq_iff_iff, iff_false]; have := r19_0_l; omega)
              have n0_18 : (B0 = B18) = False := (by simp only [eq_iff_iff, iff_false]; have := r19_0_l; omega)
              have n18_1 : (B18 = B1) = False := (by simp only [eq_iff_iff, iff_false]; have := r19_1_l; omega)
              have n1_18 : (B1 = B18) = False := (by simp only [eq_iff_iff, iff_false]; have := r19_1_l; omega)
              have n18_2 : (B18 = B2) = False := (by simp only [eq_iff_iff, iff_false]; have := r19_2_l; omega)
              have n2_18 : (B2 = B18) = False := (by simp only [eq_iff_iff, iff_false]; have := r19_2_l; omega)
              have n18_3 : (B18 = B3) = False := (by simp only [eq_iff_iff, iff_false]; have := r19_3_l; omega)
              have n3_18 : (B3 = B18) = False := (by simp only [eq_iff_iff, iff_false]; have := r19_3_l; omega)
              have n18_5 : (B18 = A) = False := (by simp only [eq_iff_iff, iff_false]; have := r19_5_l; omega)
              have n5_18 : (A = B18) = False := (by simp only [eq_iff_iff, iff_false]; have := r19_5_l; omega)
              have n18_17 : (B18 = B17) = False := (by simp only [eq_iff_iff, iff_false]; have := r19_17_l; omega)
              have n17_18 : (B17 = B18) = False := (by simp only [eq_iff_iff, iff_false]; have := r19_17_l; omega)
              have n18_19 : (B18 = B19) = False := (by simp only [eq_iff_iff, iff_false]; omega)
              have n19_18 : (B19 = B18) = False := (by simp only [eq_iff_iff, iff_false]; omega)
              have n19_0 : (B19 = B0) = False := (by simp only [eq_iff_iff, iff_false]; have := r19_0_l; omega)
              have n0_19 : (B0 = B19) = False := (by simp only [eq_iff_iff, iff_false]; have := r19_0_l; omega)
              have n19_1 : (B19 = B1) = False := (by simp only [eq_iff_iff, iff_false]; have := r19_1_l; omega)
              have n1_19 : (B1 = B19) = False := (by simp only [eq_iff_iff, iff_false]; have := r19_1_l; omega)
              have n19_2 : (B19 = B2) = False := (by simp only [eq_iff_iff, iff_false]; have := r19_2_l; omega)
              have n2_19 : (B2 = B19) = False := (by simp only [eq_iff_iff, iff_false]; have := r19_2_l; omega)
              have n19_3 : (B19 = B3) = False := (by simp only [eq_iff_iff, iff_false]; have := r19_3_l; omega)
              have n3_19 : (B3 = B19) = False := (by simp only [eq_iff_iff, iff_false]; have := r19_3_l; omega)
              have n19_5 : (B19 = A) = False := (by simp only [eq_iff_iff, iff_false]; have := r19_5_l; omega)
              have n5_19 : (A = B19) = False := (by simp only [eq_iff_iff, iff_false]; have := r19_5_l; omega)
              have n19_17 : (B19 = B17) = False := (by simp only [eq_iff_iff, iff_false]; have := r19_17_l; omega)
              have n17_19 : (B17 = B19) = False := (by simp only [eq_iff_iff, iff_false]; have := r19_17_l; omega)
              have r20_0 : Box w20 B0 #[.int .u64 0, .int .u64 0, .int .u64 0, .int .u64 0] 24 := r19_0.call hb20
              have r20_1 : Box w20 B1 #[.int .u64 (L f 0), .int .u64 (L f 1), .int .u64 (L f 2), .int .u64 (L f 3)] 24 := r19_1.call hb20
              have r20_2 : Box w20 B2 #[.int .u64 (L x 0), .int .u64 (L x 1), .int .u64 (L x 2), .int .u64 (L x 3)] 24 := r19_2.call hb20
              have r20_3 : Box w20 B3 #[.int .u64 (L all 0), .int .u64 (L all 1), .int .u64 (L all 2), .int .u64 (L all 3)] 24 := r19_3.call hb20
              have r20_5 : Box w20 A #[.int .u64 (L a 0), .int .u64 (L a 1), .int .u64 (L a 2), .int .u64 (L a 3)] 24 := r19_5.call hb20
              have r20_17 : Box w20 B17 #[.int .u64 (L s 0), .int .u64 (L s 1), .int .u64 (L s 2), .int .u64 (L s 3)] 24 := r19_17.call hb20
              have r20_18 : Box w20 B18 #[.int .u64 (L 0 0), .int .u64 (L 0 1), .int .u64 (L 0 2), .int .u64 (L 0 3)] 24 := q18
              have r20_19 : Box w20 B19 #[.int .u64 (L by_ 0), .int .u64 (L by_ 1), .int .u64 (L by_ 2), .int .u64 (L by_ 3)] 24 := q19
              have b20 : Bl w w20 := Bl.trans b19 hb20
              have z20 : w19.heap.size ≤ w20.heap.size := (by have := hb20.size; omega)
              have y20 : w.heap.size ≤ w20.heap.size := b20.size
              clear r19_0 r19_0_c r19_0_f r19_0_l r19_1 r19_1_c r19_1_f r19_1_l r19_2 r19_2_c r19_2_f r19_2_l r19_3 r19_3_c r19_3_f r19_3_l r19_5 r19_5_c r19_5_f r19_5_l r19_17 r19_17_c r19_17_f r19_17_l b19
              obtain ⟨r20_0_c, r20_0_f, r20_0_l⟩ := r20_0.tell
              obtain ⟨r20_1_c, r20_1_f, r20_1_l⟩ := r20_1.tell
              obtain ⟨r20_2_c, r20_2_f, r20_2_l⟩ := r20_2.tell
              obtain ⟨r20_3_c, r20_3_f, r20_3_l⟩ := r20_3.tell
              obtain ⟨r20_5_c, r20_5_f, r20_5_l⟩ := r20_5.tell
              obtain ⟨r20_17_c, r20_17_f, r20_17_l⟩ := r20_17.tell
              obtain ⟨r20_18_c, r20_18_f, r20_18_l⟩ := r20_18.tell
              obtain ⟨r20_19_c, r20_19_f, r20_19_l⟩ := r20_19.tell
              clear hb20 lw18 lw19
              go_wp2_with fail
              refine (a4 _).mono ?_
              rintro e w21 ⟨rfl, hb21⟩
              have r21_0 : Box w21 B0 #[.int .u64 0, .int .u64 0, .int .u64 0, .int .u64 0] 24 := (r20_0).call hb21
              have r21_1 : Box w21 B1 #[.int .u64 (L f 0), .int .u64 (L f 1), .int .u64 (L f 2), .int .u64 (L f 3)] 24 := (r20_1).call hb21
              have r21_2 : Box w21 B2 #[.int .u64 (L x 0), .int .u64 (L x 1), .int .u64 (L x 2), .int .u64 (L x 3)] 24 := (r20_2).call hb21
              have r21_3 : Box w21 B3 #[.int .u64 (L all 0), .int .u64 (L all 1), .int .u64 (L all 2), .int .u64 (L all 3)] 24 := (r20_3).call hb21
              have r21_5 : Box w21 A #[.int .u64 (L a 0), .int .u64 (L a 1), .int .u64 (L a 2), .int .u64 (L a 3)] 24 := (r20_5).call hb21
              have r21_17 : Box w21 B17 #[.int .u64 (L s 0), .int .u64 (L s 1), .int .u64 (L s 2), .int .u64 (L s 3)] 24 := (r20_17).call hb21
              have r21_18 : Box w21 B18 #[.int .u64 (L 0 0), .int .u64 (L 0 1), .int .u64 (L 0 2), .int .u64 (L 0 3)] 24 := (r20_18).call hb21
              have r21_19 : Box w21 B19 #[.int .u64 (L by_ 0), .int .u64 (L by_ 1), .int .u64 (L by_ 2), .int .u64 (L by_ 3)] 24 := (r20_19).call hb21
              have b21 : Bl w w21 := Bl.trans (b20) hb21
              have z21 : w20.heap.size ≤ w21.heap.size := (by have := hb21.size; (try simp only [World.alloc, World.setCell, World.drew, Array.size_push, Array.size_modify] at this); omega)
              have y21 : w.heap.size ≤ w21.heap.size := b21.size
              clear r20_0 r20_0_c r20_0_f r20_0_l r20_1 r20_1_c r20_1_f r20_1_l r20_2 r20_2_c r20_2_f r20_2_l r20_3 r20_3_c r20_3_f r20_3_l r20_5 r20_5_c r20_5_f r20_5_l r20_17 r20_17_c r20_17_f r20_17_l r20_18 r20_18_c r20_18_f r20_18_l r20_19 r20_19_c r20_19_f r20_19_l b20
              obtain ⟨r21_0_c, r21_0_f, r21_0_l⟩ := r21_0.tell
              obtain ⟨r21_1_c, r21_1_f, r21_1_l⟩ := r21_1.tell
              obtain ⟨r21_2_c, r21_2_f, r21_2_l⟩ := r21_2.tell
              obtain ⟨r21_3_c, r21_3_f, r21_3_l⟩ := r21_3.tell
              obtain ⟨r21_5_c, r21_5_f, r21_5_l⟩ := r21_5.tell
              obtain ⟨r21_17_c, r21_17_f, r21_17_l⟩ := r21_17.tell
              obtain ⟨r21_18_c, r21_18_f, r21_18_l⟩ := r21_18.tell
              obtain ⟨r21_19_c, r21_19_f, r21_19_l⟩ := r21_19.tell
              have d21_0 : (B0 = w21.heap.size) = False := (by simp only [eq_iff_iff, iff_false]; omega)
              have e21_0 : (w21.heap.size = B0) = False := (by simp only [eq_iff_iff, iff_false]; omega)
              have m21_0 : B0 < w21.heap.size := (by omega)
              have d21_1 : (B0 = w21.heap.size + 1) = False := (by simp only [eq_iff_iff, iff_false]; omega)
              have e21_1 : (w21.heap.size + 1 = B0) = False := (by simp only [eq_iff_iff, iff_false]; omega)
              have m21_1 : B0 < w21.heap.size + 1 := (by omega)
              have d21_2 : (B1 = w21.heap.size) = False := (by simp only [eq_iff_iff, iff_false]; omega)
              have e21_2 : (w21.heap.size = B1) = False := (by simp only [eq_iff_iff, iff_false]; omega)
              have m21_2 : B1 < w21.heap.size := (by omega)
              have d21_3 : (B1 = w21.heap.size + 1) = False := (by simp only [eq_iff_iff, iff_false]; omega)
              have e21_3 : (w21.heap.size + 1 = B1) = False := (by simp only [eq_iff_iff, iff_false]; omega)
              have m21_3 : B1 < w21.heap.size + 1 := (by omega)
              have d21_4 : (B2 = w21.heap.size) = False := (by simp only [eq_iff_iff, iff_false]; omega)
              have e21_4 : (w21.heap.size = B2) = False := (by simp only [eq_iff_iff, iff_false]; omega)
              have m21_4 : B2 < w21.heap.size := (by omega)
              have d21_5 : (B2 = w21.heap.size + 1) = False := (by simp only [eq_iff_iff, iff_false]; omega)
              have e21_5 : (w21.heap.size + 1 = B2) = False := (by simp only [eq_iff_iff, iff_false]; omega)
              have m21_5 : B2 < w21.heap.size + 1 := (by omega)
              have d21_6 : (B3 = w21.heap.size) = False := (by simp only [eq_iff_iff, iff_false]; omega)
              have e21_6 : (w21.heap.size = B3) = False := (by simp only [eq_iff_iff, iff_false]; omega)
              have m21_6 : B3 < w21.heap.size := (by omega)
              have d21_7 : (B3 = w21.heap.size + 1) = False := (by simp only [eq_iff_iff, iff_false]; omega)
              have e21_7 : (w21.heap.size + 1 = B3) = False := (by simp only [eq_iff_iff, iff_false]; omega)
              have m21_7 : B3 < w21.heap.size + 1 := (by omega)
              have d21_8 : (A = w21.heap.size) = False := (by simp only [eq_iff_iff, iff_false]; omega)
              have e21_8 : (w21.heap.size = A) = False := (by simp only [eq_iff_iff, iff_false]; omega)
              have m21_8 : A < w21.heap.size := (by omega)
              have d21_9 : (A = w21.heap.size + 1) = False := (by simp only [eq_iff_iff, iff_false]; omega)
              have e21_9 : (w21.heap.size + 1 = A) = False := (by simp only [eq_iff_iff, iff_false]; omega)
              have m21_9 : A < w21.heap.size + 1 := (by omega)
              have d21_10 : (B17 = w21.heap.size) = False := (by simp only [eq_iff_iff, iff_false]; omega)
              have e21_10 : (w21.heap.size = B17) = False := (by simp only [eq_iff_iff, iff_false]; omega)
              have m21_10 : B17 < w21.heap.size := (by omega)
              have d21_11 : (B17 = w21.heap.size + 1) = False := (by simp only [eq_iff_iff, iff_false]; omega)
              have e21_11 : (w21.heap.size + 1 = B17) = False := (by simp only [eq_iff_iff, iff_false]; omega)
              have m21_11 : B17 < w21.heap.size + 1 := (by omega)
              have d21_12 : (B18 = w21.heap.size) = False := (by simp only [eq_iff_iff, iff_false]; omega)
              have e21_12 : (w21.heap.size = B18) = False := (by simp only [eq_iff_iff, iff_false]; omega)
              have m21_12 : B18 < w21.heap.size := (by omega)
              have d21_13 : (B18 = w21.heap.size + 1) = False := (by simp only [eq_iff_iff, iff_false]; omega)
              have e21_13 : (w21.heap.size + 1 = B18) = False := (by simp only [eq_iff_iff, iff_false]; omega)
              have m21_13 : B18 < w21.heap.size + 1 := (by omega)
              have d21_14 : (B19 = w21.heap.size) = False := (by simp only [eq_iff_iff, iff_false]; omega)
              have e21_14 : (w21.heap.size = B19) = False := (by simp only [eq_iff_iff, iff_false]; omega)
              have m21_14 : B19 < w21.heap.size := (by omega)
              have d21_15 : (B19 = w21.heap.size + 1) = False := (by simp only [eq_iff_iff, iff_false]; omega)
              have e21_15 : (w21.heap.size + 1 = B19) = False := (by simp only [eq_iff_iff, iff_false]; omega)
              have m21_15 : B19 < w21.heap.size + 1 := (by omega)
              clear hb21
              go_wp2_with fail
              refine bodyPost_ret (v := .tuple #[.agg #[.int .u64 0, .int .u64 0, .int .u64 0, .int .u64 0], .int .i64 183]) (by simp only [results, Try.results16]; go_simp) rfl ⟨by rw [V1.out, E1.out] <;> rfl, ?_⟩
              exact (((((b21).setCell (by simp only []; omega) _).setCell (by simp only []; omega) _).setCell (by simp only []; omega) _).setCell (by simp only []; omega) _).alloc _

end Go.Proofs.Ytcmjdmehooenkaa

