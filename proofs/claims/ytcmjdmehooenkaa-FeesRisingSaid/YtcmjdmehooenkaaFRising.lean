/- The statement FeesRising, for every input: no condition. -/
import Derived.Test.YtcmjdmehooenkaaNextE
import Derived.Test.YtcmjdmehooenkaaBlobB
import Derived.Test.YtcmjdmehooenkaaRow
set_option linter.unusedSimpArgs false
set_option linter.unusedVariables false
namespace Go.Proofs.Ytcmjdmehooenkaa
open Go Go.ChangeShapes Go.WideShapes Go.ChangeAt Go.RowKit

set_option maxHeartbeats 40000000 in
set_option maxRecDepth 100000 in
theorem walk0FeesRising (a : Nat) (ha : a < 18446744073709551616) (b : Nat) (hb : b < 18446744073709551616) (target : Nat) (htarget : target < 18446744073709551616) (fraction : Nat) (hfraction : fraction < 18446744073709551616) (w : World) :
    Calls Try.prog 6 #[.int .u64 a, .int .u64 b, .int .u64 target, .int .u64 fraction] w fun e w' => e = .returned (.bool true) ∧ Bl w w' := by
  go_enter Try.func6, Try.ntmps6
  by_cases hab : b < a
  · skip
    have b0 : decide (b < a) = true := by simpa using hab
    have hlh : b ≤ a := by omega
    have hg := guardU
    have j0 := fun w => blobbase_c 0 fraction (by omega) hfraction w
    have j1 := fun w => blobbase_c b fraction hb hfraction w
    have j2 := fun w => blobbase_c a fraction ha hfraction w
    have k1 := fun w => nextexcess_c b 0 target hb (by omega) htarget w
    have k2 := fun w => nextexcess_c a 0 target ha (by omega) htarget w
    have l0T := bbV_lt 0 fraction
    have l1T := bbV_lt b fraction
    have l2T := bbV_lt a fraction
    have x1 : neV b 0 target = (if b < target then 0 else b - target) ∧ neE b 0 target = 0 := by unfold neV neE; rw [Nat.add_zero]; split; exact ⟨rfl, rfl⟩; rw [if_pos (by omega), if_pos (by omega)]; exact ⟨rfl, rfl⟩
    have x2 : neV a 0 target = (if a < target then 0 else a - target) ∧ neE a 0 target = 0 := by unfold neV neE; rw [Nat.add_zero]; split; exact ⟨rfl, rfl⟩; rw [if_pos (by omega), if_pos (by omega)]; exact ⟨rfl, rfl⟩
    obtain ⟨x, hx⟩ : ∃ v, v = neV b 0 target := ⟨_, rfl⟩
    obtain ⟨y, hy⟩ : ∃ v, v = neV a 0 target := ⟨_, rfl⟩
    rw [← hx, x1.2] at k1
    rw [← hy, x2.2] at k2
    rw [x1.1] at hx
    rw [x2.1] at hy
    have bx : decide (y < x) = false := by refine decide_eq_false ?_; rw [hx, hy]; split <;> split <;> omega
    clear x1 x2 hy
    obtain ⟨v0, hv0⟩ : ∃ v, v = bbV 0 fraction := ⟨_, rfl⟩
    obtain ⟨v1, hv1⟩ : ∃ v, v = bbV b fraction := ⟨_, rfl⟩
    obtain ⟨v2, hv2⟩ : ∃ v, v = bbV a fraction := ⟨_, rfl⟩
    obtain ⟨e0, he0⟩ : ∃ v, v = bbE 0 fraction := ⟨_, rfl⟩
    obtain ⟨e1, he1⟩ : ∃ v, v = bbE b fraction := ⟨_, rfl⟩
    obtain ⟨e2, he2⟩ : ∃ v, v = bbE a fraction := ⟨_, rfl⟩
    rw [← hv0, ← he0] at j0
    rw [← hv1, ← he1] at j1
    rw [← hv2, ← he2] at j2
    rw [← hv0] at l0T
    rw [← hv1] at l1T
    rw [← hv2] at l2T
    have Hv0 := Lib.hid hv0; have Hv1 := Lib.hid hv1; have Hv2 := Lib.hid hv2; have He0 := Lib.hid he0; have He1 := Lib.hid he1; have He2 := Lib.hid he2; have Hx := Lib.hid hx
    clear hv0 hv1 hv2 he0 he1 he2 hx
    go_wp2_with fail
    refine (j0 _).mono ?_
    rintro e w1 ⟨rfl, hb1⟩
    have b1 : Bl w w1 := Bl.trans (Bl.refl w) hb1
    have z1 : w.heap.size ≤ w1.heap.size := (by have := hb1.size; (try simp only [World.alloc, World.setCell, World.drew, Array.size_push, Array.size_modify] at this); omega)
    have y1 : w.heap.size ≤ w1.heap.size := b1.size
    clear hb1
    go_wp2_with fail
    refine (j1 _).mono ?_
    rintro e w2 ⟨rfl, hb2⟩
    have r2_0 : Box w2 w1.heap.size #[.int .u64 (L v0 0), .int .u64 (L v0 1), .int .u64 (L v0 2), .int .u64 (L v0 3)] 24 := (Box.new _ _ _ _ (by simp)).call hb2
    have b2 : Bl w w2 := Bl.trans ((b1).alloc _) hb2
    have z2 : w1.heap.size + 1 ≤ w2.heap.size := (by have := hb2.size; (try simp only [World.alloc, World.setCell, World.drew, Array.size_push, Array.size_modify] at this); omega)
    have y2 : w.heap.size ≤ w2.heap.size := b2.size
    obtain ⟨B0, hB0⟩ : ∃ B, B = w1.heap.size := ⟨_, rfl⟩
    (try rw [← hB0]); rw [← hB0] at r2_0
    have lo0 : w.heap.size ≤ B0 := by omega
    clear hB0
    clear b1
    obtain ⟨r2_0_c, r2_0_f, r2_0_l⟩ := r2_0.tell
    have d2_0 : (B0 = w2.heap.size) = False := (by simp only [eq_iff_iff, iff_false]; omega)
    have e2_0 : (w2.heap.size = B0) = False := (by simp only [eq_iff_iff, iff_false]; omega)
    have m2_0 : B0 < w2.heap.size := (by omega)
    have d2_1 : (B0 = w2.heap.size + 1) = False := (by simp only [eq_iff_iff, iff_false]; omega)
    have e2_1 : (w2.heap.size + 1 = B0) = False := (by simp only [eq_iff_iff, iff_false]; omega)
    have m2_1 : B0 < w2.heap.size + 1 := (by omega)
    clear hb2
    go_wp2_with fail
    refine (j2 _).mono ?_
    rintro e w3 ⟨rfl, hb3⟩
    have r3_0 : Box w3 B0 #[.int .u64 (L v0 0), .int .u64 (L v0 1), .int .u64 (L v0 2), .int .u64 (L v0 3)] 24 := ((r2_0).alloc _).call hb3
    have r3_1 : Box w3 w2.heap.size #[.int .u64 (L v1 0), .int .u64 (L v1 1), .int .u64 (L v1 2), .int .u64 (L v1 3)] 24 := (Box.new _ _ _ _ (by simp)).call hb3
    have b3 : Bl w w3 := Bl.trans ((b2).alloc _) hb3
    have z3 : w2.heap.size + 1 ≤ w3.heap.size := (by have := hb3.size; (try simp only [World.alloc, World.setCell, World.drew, Array.size_push, Array.size_modify] at this); omega)
    have y3 : w.heap.size ≤ w3.heap.size := b3.size
    obtain ⟨B1, hB1⟩ : ∃ B, B = w2.heap.size := ⟨_, rfl⟩
    (try rw [← hB1]); rw [← hB1] at r3_1
    have lo1 : w.heap.size ≤ B1 := by omega
    have n1_0 : (B1 = B0) = False := (by simp only [eq_iff_iff, iff_false]; have := r2_0_l; omega)
    have n0_1 : (B0 = B1) = False := (by simp only [eq_iff_iff, iff_false]; have := r2_0_l; omega)
    clear hB1
    clear r2_0 r2_0_c r2_0_f r2_0_l b2
    obtain ⟨r3_0_c, r3_0_f, r3_0_l⟩ := r3_0.tell
    obtain ⟨r3_1_c, r3_1_f, r3_1_l⟩ := r3_1.tell
    have d3_0 : (B0 = w3.heap.size) = False := (by simp only [eq_iff_iff, iff_false]; omega)
    have e3_0 : (w3.heap.size = B0) = False := (by simp only [eq_iff_iff, iff_false]; omega)
    have m3_0 : B0 < w3.heap.size := (by omega)
    have d3_1 : (B0 = w3.heap.size + 1) = False := (by simp only [eq_iff_iff, iff_false]; omega)
    have e3_1 : (w3.heap.size + 1 = B0) = False := (by simp only [eq_iff_iff, iff_false]; omega)
    have m3_1 : B0 < w3.heap.size + 1 := (by omega)
    have d3_2 : (B1 = w3.heap.size) = False := (by simp only [eq_iff_iff, iff_false]; omega)
    have e3_2 : (w3.heap.size = B1) = False := (by simp only [eq_iff_iff, iff_false]; omega)
    have m3_2 : B1 < w3.heap.size := (by omega)
    have d3_3 : (B1 = w3.heap.size + 1) = False := (by simp only [eq_iff_iff, iff_false]; omega)
    have e3_3 : (w3.heap.size + 1 = B1) = False := (by simp only [eq_iff_iff, iff_false]; omega)
    have m3_3 : B1 < w3.heap.size + 1 := (by omega)
    clear hb3
    by_cases h0 : fraction = 0
    · skip
      have hv0 := Hv0.out; have hv1 := Hv1.out; have hv2 := Hv2.out; have he0 := He0.out; have he1 := He1.out; have he2 := He2.out
      clear Hv0 Hv1 Hv2 He0 He1 He2
      have g0 : e0 = 1 := by rw [he0]; exact if_pos h0
      have g1 : e1 = 1 := by rw [he1]; exact if_pos h0
      have g2 : e2 = 1 := by rw [he2]; exact if_pos h0
      subst g0
      subst g1
      subst g2
      clear hv0 hv1 hv2 he0 he1 he2 Hx
      have bo0 : ((fraction : Int) == 0) = true := by simp; omega
      have bo1 : (fraction == 0) = true := by simp; omega
      go_wp2_with fail
      refine bodyPost_ret (v := .bool true) (by simp only [results, Try.results6]; go_simp) rfl ⟨rfl, ?_⟩
      exact (b3).alloc _
    · skip
      have hv0 := Hv0.out; have hv1 := Hv1.out; have hv2 := Hv2.out; have he0 := He0.out; have he1 := He1.out; have he2 := He2.out
      clear Hv0 Hv1 Hv2 He0 He1 He2
      have hn := bb_none (f := fraction) (by omega) (by rw [T256_eq]; omega)
      have hr := bb_rise (f := fraction) hlh (by omega) (by rw [T256_eq]; omega)
      rw [← hv0, ← he0] at hn
      rw [← hv1, ← hv2, ← he1, ← he2] at hr
      have hr2 := (bb_rise (f := fraction) (Nat.le_refl a) (by omega) (by rw [T256_eq]; omega)).1
      rw [← he2] at hr2
      obtain ⟨hn1, rfl⟩ := hn
      have l1 : 1 < T256 := by rw [T256_eq]; omega
      have hq := fun w => run_eq_U l0T l1 w
      rw [decide_eq_true hn1, show U 1 = .agg #[.int .u64 1, .int .u64 0, .int .u64 0, .int .u64 0] from (U_small 1 (by omega)).symm] at hq
      clear hv0 hv1 hv2 he0 he1 he2 hn1
      have bo0 : ((fraction : Int) == 0) = false := by simp; omega
      have bo1 : (fraction == 0) = false := by simp; omega
      by_cases h2 : e2 = 0
      · skip
        subst h2
        obtain ⟨rfl, hle⟩ := hr.2 rfl
        have s4 := fun w => cmp_c v1 v2 l1T l2T w
        obtain ⟨c, hc⟩ : ∃ c, c = cmpI v1 v2 := ⟨_, rfl⟩
        rw [← hc] at s4
        have bz : decide (0 < c) = false := by rw [hc]; unfold cmpI; rcases Nat.lt_or_ge v1 v2 with h | h; simp [h]; simp [show v1 = v2 by omega]
        clear hc hr hr2
        go_wp2_with fail
        refine (s4 _).mono ?_
        rintro e w4 ⟨rfl, hb4⟩
        have b4 : Bl w w4 := Bl.trans ((b3).alloc _) hb4
        have z4 : w3.heap.size + 1 ≤ w4.heap.size := (by have := hb4.size; (try simp only [World.alloc, World.setCell, World.drew, Array.size_push, Array.size_modify] at this); omega)
        have y4 : w.heap.size ≤ w4.heap.size := b4.size
        clear r3_0 r3_0_c r3_0_f r3_0_l r3_1 r3_1_c r3_1_f r3_1_l b3
        clear hb4
        by_cases h5 : b < target
        · skip
          have hx := Hx.out
          clear Hx
          rw [if_pos h5] at hx
          subst hx
          have bo0 : decide (b < target) = true := by simp; omega
          go_wp2_with fail
          refine (k1 _).mono ?_
          rintro e w5 ⟨rfl, hb5⟩
          have b5 : Bl w w5 := Bl.trans (b4) hb5
          have z5 : w4.heap.size ≤ w5.heap.size := (by have := hb5.size; (try simp only [World.alloc, World.setCell, World.drew, Array.size_push, Array.size_modify] at this); omega)
          have y5 : w.heap.size ≤ w5.heap.size := b5.size
          clear b4
          clear hb5
          go_wp2_with fail
          refine (k2 _).mono ?_
          rintro e w6 ⟨rfl, hb6⟩
          have b6 : Bl w w6 := Bl.trans (b5) hb6
          have z6 : w5.heap.size ≤ w6.heap.size := (by have := hb6.size; (try simp only [World.alloc, World.setCell, World.drew, Array.size_push, Array.size_modify] at this); omega)
          have y6 : w.heap.size ≤ w6.heap.size := b6.size
          clear b5
          clear hb6
          go_wp2_with fail
          refine bodyPost_ret (v := .bool true) (by simp only [results, Try.results6]; go_simp) rfl ⟨rfl, ?_⟩
          exact b6
        · skip
          have hx := Hx.out
          clear Hx
          rw [if_neg h5] at hx
          have ex : (b : Int) - target = (x : Int) := by omega
          have wx : IntKind.u64.wrap (x : Int) = (x : Int) := by unfold IntKind.wrap; simp [IntKind.bits, IntKind.signed]; omega
          have b5 : decide (target ≤ b) = true := by simp; omega
          clear hx
          have bo0 : decide (b < target) = false := by simp; omega
          go_wp2_with fail
          refine (k1 _).mono ?_
          rintro e w7 ⟨rfl, hb7⟩
          have b7 : Bl w w7 := Bl.trans (b4) hb7
          have z7 : w4.heap.size ≤ w7.heap.size := (by have := hb7.size; (try simp only [World.alloc, World.setCell, World.drew, Array.size_push, Array.size_modify] at this); omega)
          have y7 : w.heap.size ≤ w7.heap.size := b7.size
          clear b4
          clear hb7
          go_wp2_with fail
          refine (k2 _).mono ?_
          rintro e w8 ⟨rfl, hb8⟩
          have b8 : Bl w w8 := Bl.trans (b7) hb8
          have z8 : w7.heap.size ≤ w8.heap.size := (by have := hb8.size; (try simp only [World.alloc, World.setCell, World.drew, Array.size_push, Array.size_modify] at this); omega)
          have y8 : w.heap.size ≤ w8.heap.size := b8.size
          clear b7
          clear hb8
          go_wp2_with fail
          refine bodyPost_ret (v := .bool true) (by simp only [results, Try.results6]; go_simp) rfl ⟨rfl, ?_⟩
          exact b8
      · skip
        obtain rfl := hr2.resolve_left h2
        have hr1 := hr.1
        clear hr hr2 h2
        by_cases h3 : e1 = 0
        · skip
          subst h3
          clear hr1
          by_cases h5 : b < target
          · skip
            have hx := Hx.out
            clear Hx
            rw [if_pos h5] at hx
            subst hx
            have bo0 : decide (b < target) = true := by simp; omega
            go_wp2_with fail
            refine (k1 _).mono ?_
            rintro e w9 ⟨rfl, hb9⟩
            have b9 : Bl w w9 := Bl.trans ((b3).alloc _) hb9
            have z9 : w3.heap.size + 1 ≤ w9.heap.size := (by have := hb9.size; (try simp only [World.alloc, World.setCell, World.drew, Array.size_push, Array.size_modify] at this); omega)
            have y9 : w.heap.size ≤ w9.heap.size := b9.size
            clear r3_0 r3_0_c r3_0_f r3_0_l r3_1 r3_1_c r3_1_f r3_1_l b3
            clear hb9
            go_wp2_with fail
            refine (k2 _).mono ?_
            rintro e w10 ⟨rfl, hb10⟩
            have b10 : Bl w w10 := Bl.trans (b9) hb10
            have z10 : w9.heap.size ≤ w10.heap.size := (by have := hb10.size; (try simp only [World.alloc, World.setCell, World.drew, Array.size_push, Array.size_modify] at this); omega)
            have y10 : w.heap.size ≤ w10.heap.size := b10.size
            clear b9
            clear hb10
            go_wp2_with fail
            refine bodyPost_ret (v := .bool true) (by simp only [results, Try.results6]; go_simp) rfl ⟨rfl, ?_⟩
            exact b10
          · skip
            have hx := Hx.out
            clear Hx
            rw [if_neg h5] at hx
            have ex : (b : Int) - target = (x : Int) := by omega
            have wx : IntKind.u64.wrap (x : Int) = (x : Int) := by unfold IntKind.wrap; simp [IntKind.bits, IntKind.signed]; omega
            have b5 : decide (target ≤ b) = true := by simp; omega
            clear hx
            have bo0 : decide (b < target) = false := by simp; omega
            go_wp2_with fail
            refine (k1 _).mono ?_
            rintro e w11 ⟨rfl, hb11⟩
            have b11 : Bl w w11 := Bl.trans ((b3).alloc _) hb11
            have z11 : w3.heap.size + 1 ≤ w11.heap.size := (by have := hb11.size; (try simp only [World.alloc, World.setCell, World.drew, Array.size_push, Array.size_modify] at this); omega)
            have y11 : w.heap.size ≤ w11.heap.size := b11.size
            clear r3_0 r3_0_c r3_0_f r3_0_l r3_1 r3_1_c r3_1_f r3_1_l b3
            clear hb11
            go_wp2_with fail
            refine (k2 _).mono ?_
            rintro e w12 ⟨rfl, hb12⟩
            have b12 : Bl w w12 := Bl.trans (b11) hb12
            have z12 : w11.heap.size ≤ w12.heap.size := (by have := hb12.size; (try simp only [World.alloc, World.setCell, World.drew, Array.size_push, Array.size_modify] at this); omega)
            have y12 : w.heap.size ≤ w12.heap.size := b12.size
            clear b11
            clear hb12
            go_wp2_with fail
            refine bodyPost_ret (v := .bool true) (by simp only [results, Try.results6]; go_simp) rfl ⟨rfl, ?_⟩
            exact b12
        · skip
          obtain rfl := hr1.resolve_left h3
          clear hr1 h3
          by_cases h5 : b < target
          · skip
            have hx := Hx.out
            clear Hx
            rw [if_pos h5] at hx
            subst hx
            have bo0 : decide (b < target) = true := by simp; omega
            go_wp2_with fail
            refine (k1 _).mono ?_
            rintro e w13 ⟨rfl, hb13⟩
            have b13 : Bl w w13 := Bl.trans ((b3).alloc _) hb13
            have z13 : w3.heap.size + 1 ≤ w13.heap.size := (by have := hb13.size; (try simp only [World.alloc, World.setCell, World.drew, Array.size_push, Array.size_modify] at this); omega)
            have y13 : w.heap.size ≤ w13.heap.size := b13.size
            clear r3_0 r3_0_c r3_0_f r3_0_l r3_1 r3_1_c r3_1_f r3_1_l b3
            clear hb13
            go_wp2_with fail
            refine (k2 _).mono ?_
            rintro e w14 ⟨rfl, hb14⟩
            have b14 : Bl w w14 := Bl.trans (b13) hb14
            have z14 : w13.heap.size ≤ w14.heap.size := (by have := hb14.size; (try simp only [World.alloc, World.setCell, World.drew, Array.size_push, Array.size_modify] at this); omega)
            have y14 : w.heap.size ≤ w14.heap.size := b14.size
            clear b13
            clear hb14
            go_wp2_with fail
            refine bodyPost_ret (v := .bool true) (by simp only [results, Try.results6]; go_simp) rfl ⟨rfl, ?_⟩
            exact b14
          · skip
            have hx := Hx.out
            clear Hx
            rw [if_neg h5] at hx
            have ex : (b : Int) - target = (x : Int) := by omega
            have wx : IntKind.u64.wrap (x : Int) = (x : Int) := by unfold IntKind.wrap; simp [IntKind.bits, IntKind.signed]; omega
            have b5 : decide (target ≤ b) = true := by simp; omega
            clear hx
            have bo0 : decide (b < target) = false := by simp; omega
            go_wp2_with fail
            refine (k1 _).mono ?_
            rintro e w15 ⟨rfl, hb15⟩
            have b15 : Bl w w15 := Bl.trans ((b3).alloc _) hb15
            have z15 : w3.heap.size + 1 ≤ w15.heap.size := (by have := hb15.size; (try simp only [World.alloc, World.setCell, World.drew, Array.size_push, Array.size_modify] at this); omega)
            have y15 : w.heap.size ≤ w15.heap.size := b15.size
            clear r3_0 r3_0_c r3_0_f r3_0_l r3_1 r3_1_c r3_1_f r3_1_l b3
            clear hb15
            go_wp2_with fail
            refine (k2 _).mono ?_
            rintro e w16 ⟨rfl, hb16⟩
            have b16 : Bl w w16 := Bl.trans (b15) hb16
            have z16 : w15.heap.size ≤ w16.heap.size := (by have := hb16.size; (try simp only [World.alloc, World.setCell, World.drew, Array.size_push, Array.size_modify] at this); omega)
            have y16 : w.heap.size ≤ w16.heap.size := b16.size
            clear b15
            clear hb16
            go_wp2_with fail
            refine bodyPost_ret (v := .bool true) (by simp only [results, Try.results6]; go_simp) rfl ⟨rfl, ?_⟩
            exact b16
  · skip
    have b0 : decide (b < a) = false := by simpa using hab
    have hlh : a ≤ b := by omega
    have hg := guardU
    have j0 := fun w => blobbase_c 0 fraction (by omega) hfraction w
    have j1 := fun w => blobbase_c a fraction ha hfraction w
    have j2 := fun w => blobbase_c b fraction hb hfraction w
    have k1 := fun w => nextexcess_c a 0 target ha (by omega) htarget w
    have k2 := fun w => nextexcess_c b 0 target hb (by omega) htarget w
    have l0T := bbV_lt 0 fraction
    have l1T := bbV_lt a fraction
    have l2T := bbV_lt b fraction
    have x1 : neV a 0 target = (if a < target then 0 else a - target) ∧ neE a 0 target = 0 := by unfold neV neE; rw [Nat.add_zero]; split; exact ⟨rfl, rfl⟩; rw [if_pos (by omega), if_pos (by omega)]; exact ⟨rfl, rfl⟩
    have x2 : neV b 0 target = (if b < target then 0 else b - target) ∧ neE b 0 target = 0 := by unfold neV neE; rw [Nat.add_zero]; split; exact ⟨rfl, rfl⟩; rw [if_pos (by omega), if_pos (by omega)]; exact ⟨rfl, rfl⟩
    obtain ⟨x, hx⟩ : ∃ v, v = neV a 0 target := ⟨_, rfl⟩
    obtain ⟨y, hy⟩ : ∃ v, v = neV b 0 target := ⟨_, rfl⟩
    rw [← hx, x1.2] at k1
    rw [← hy, x2.2] at k2
    rw [x1.1] at hx
    rw [x2.1] at hy
    have bx : decide (y < x) = false := by refine decide_eq_false ?_; rw [hx, hy]; split <;> split <;> omega
    clear x1 x2 hy
    obtain ⟨v0, hv0⟩ : ∃ v, v = bbV 0 fraction := ⟨_, rfl⟩
    obtain ⟨v1, hv1⟩ : ∃ v, v = bbV a fraction := ⟨_, rfl⟩
    obtain ⟨v2, hv2⟩ : ∃ v, v = bbV b fraction := ⟨_, rfl⟩
    obtain ⟨e0, he0⟩ : ∃ v, v = bbE 0 fraction := ⟨_, rfl⟩
    obtain ⟨e1, he1⟩ : ∃ v, v = bbE a fraction := ⟨_, rfl⟩
    obtain ⟨e2, he2⟩ : ∃ v, v = bbE b fraction := ⟨_, rfl⟩
    rw [← hv0, ← he0] at j0
    rw [← hv1, ← he1] at j1
    rw [← hv2, ← he2] at j2
    rw [← hv0] at l0T
    rw [← hv1] at l1T
    rw [← hv2] at l2T
    have Hv0 := Lib.hid hv0; have Hv1 := Lib.hid hv1; have Hv2 := Lib.hid hv2; have He0 := Lib.hid he0; have He1 := Lib.hid he1; have He2 := Lib.hid he2; have Hx := Lib.hid hx
    clear hv0 hv1 hv2 he0 he1 he2 hx
    go_wp2_with fail
    refine (j0 _).mono ?_
    rintro e w17 ⟨rfl, hb17⟩
    have b17 : Bl w w17 := Bl.trans (Bl.refl w) hb17
    have z17 : w.heap.size ≤ w17.heap.size := (by have := hb17.size; (try simp only [World.alloc, World.setCell, World.drew, Array.size_push, Array.size_modify] at this); omega)
    have y17 : w.heap.size ≤ w17.heap.size := b17.size
    clear hb17
    go_wp2_with fail
    refine (j1 _).mono ?_
    rintro e w18 ⟨rfl, hb18⟩
    have r18_3 : Box w18 w17.heap.size #[.int .u64 (L v0 0), .int .u64 (L v0 1), .int .u64 (L v0 2), .int .u64 (L v0 3)] 24 := (Box.new _ _ _ _ (by simp)).call hb18
    have b18 : Bl w w18 := Bl.trans ((b17).alloc _) hb18
    have z18 : w17.heap.size + 1 ≤ w18.heap.size := (by have := hb18.size; (try simp only [World.alloc, World.setCell, World.drew, Array.size_push, Array.size_modify] at this); omega)
    have y18 : w.heap.size ≤ w18.heap.size := b18.size
    obtain ⟨B3, hB3⟩ : ∃ B, B = w17.heap.size := ⟨_, rfl⟩
    (try rw [← hB3]); rw [← hB3] at r18_3
    have lo3 : w.heap.size ≤ B3 := by omega
    clear hB3
    clear b17
    obtain ⟨r18_3_c, r18_3_f, r18_3_l⟩ := r18_3.tell
    have d18_0 : (B3 = w18.heap.size) = False := (by simp only [eq_iff_iff, iff_false]; omega)
    have e18_0 : (w18.heap.size = B3) = False := (by simp only [eq_iff_iff, iff_false]; omega)
    have m18_0 : B3 < w18.heap.size := (by omega)
    have d18_1 : (B3 = w18.heap.size + 1) = False := (by simp only [eq_iff_iff, iff_false]; omega)
    have e18_1 : (w18.heap.size + 1 = B3) = False := (by simp only [eq_iff_iff, iff_false]; omega)
    have m18_1 : B3 < w18.heap.size + 1 := (by omega)
    clear hb18
    go_wp2_with fail
    refine (j2 _).mono ?_
    rintro e w19 ⟨rfl, hb19⟩
    have r19_3 : Box w19 B3 #[.int .u64 (L v0 0), .int .u64 (L v0 1), .int .u64 (L v0 2), .int .u64 (L v0 3)] 24 := ((r18_3).alloc _).call hb19
    have r19_4 : Box w19 w18.heap.size #[.int .u64 (L v1 0), .int .u64 (L v1 1), .int .u64 (L v1 2), .int .u64 (L v1 3)] 24 := (Box.new _ _ _ _ (by simp)).call hb19
    have b19 : Bl w w19 := Bl.trans ((b18).alloc _) hb19
    have z19 : w18.heap.size + 1 ≤ w19.heap.size := (by have := hb19.size; (try simp only [World.alloc, World.setCell, World.drew, Array.size_push, Array.size_modify] at this); omega)
    have y19 : w.heap.size ≤ w19.heap.size := b19.size
    obtain ⟨B4, hB4⟩ : ∃ B, B = w18.heap.size := ⟨_, rfl⟩
    (try rw [← hB4]); rw [← hB4] at r19_4
    have lo4 : w.heap.size ≤ B4 := by omega
    have n4_3 : (B4 = B3) = False := (by simp only [eq_iff_iff, iff_false]; have := r18_3_l; omega)
    have n3_4 : (B3 = B4) = False := (by simp only [eq_iff_iff, iff_false]; have := r18_3_l; omega)
    clear hB4
    clear r18_3 r18_3_c r18_3_f r18_3_l b18
    obtain ⟨r19_3_c, r19_3_f, r19_3_l⟩ := r19_3.tell
    obtain ⟨r19_4_c, r19_4_f, r19_4_l⟩ := r19_4.tell
    have d19_0 : (B3 = w19.heap.size) = False := (by simp only [eq_iff_iff, iff_false]; omega)
    have e19_0 : (w19.heap.size = B3) = False := (by simp only [eq_iff_iff, iff_false]; omega)
    have m19_0 : B3 < w19.heap.size := (by omega)
    have d19_1 : (B3 = w19.heap.size + 1) = False := (by simp only [eq_iff_iff, iff_false]; omega)
    have e19_1 : (w19.heap.size + 1 = B3) = False := (by simp only [eq_iff_iff, iff_false]; omega)
    have m19_1 : B3 < w19.heap.size + 1 := (by omega)
    have d19_2 : (B4 = w19.heap.size) = False := (by simp only [eq_iff_iff, iff_false]; omega)
    have e19_2 : (w19.heap.size = B4) = False := (by simp only [eq_iff_iff, iff_false]; omega)
    have m19_2 : B4 < w19.heap.size := (by omega)
    have d19_3 : (B4 = w19.heap.size + 1) = False := (by simp only [eq_iff_iff, iff_false]; omega)
    have e19_3 : (w19.heap.size + 1 = B4) = False := (by simp only [eq_iff_iff, iff_false]; omega)
    have m19_3 : B4 < w19.heap.size + 1 := (by omega)
    clear hb19
    by_cases h0 : fraction = 0
    · skip
      have hv0 := Hv0.out; have hv1 := Hv1.out; have hv2 := Hv2.out; have he0 := He0.out; have he1 := He1.out; have he2 := He2.out
      clear Hv0 Hv1 Hv2 He0 He1 He2
      have g0 : e0 = 1 := by rw [he0]; exact if_pos h0
      have g1 : e1 = 1 := by rw [he1]; exact if_pos h0
      have g2 : e2 = 1 := by rw [he2]; exact if_pos h0
      subst g0
      subst g1
      subst g2
      clear hv0 hv1 hv2 he0 he1 he2 Hx
      have bo0 : ((fraction : Int) == 0) = true := by simp; omega
      have bo1 : (fraction == 0) = true := by simp; omega
      go_wp2_with fail
      refine bodyPost_ret (v := .bool true) (by simp only [results, Try.results6]; go_simp) rfl ⟨rfl, ?_⟩
      exact (b19).alloc _
    · skip
      have hv0 := Hv0.out; have hv1 := Hv1.out; have hv2 := Hv2.out; have he0 := He0.out; have he1 := He1.out; have he2 := He2.out
      clear Hv0 Hv1 Hv2 He0 He1 He2
      have hn := bb_none (f := fraction) (by omega) (by rw [T256_eq]; omega)
      have hr := bb_rise (f := fraction) hlh (by omega) (by rw [T256_eq]; omega)
      rw [← hv0, ← he0] at hn
      rw [← hv1, ← hv2, ← he1, ← he2] at hr
      have hr2 := (bb_rise (f := fraction) (Nat.le_refl b) (by omega) (by rw [T256_eq]; omega)).1
      rw [← he2] at hr2
      obtain ⟨hn1, rfl⟩ := hn
      have l1 : 1 < T256 := by rw [T256_eq]; omega
      have hq := fun w => run_eq_U l0T l1 w
      rw [decide_eq_true hn1, show U 1 = .agg #[.int .u64 1, .int .u64 0, .int .u64 0, .int .u64 0] from (U_small 1 (by omega)).symm] at hq
      clear hv0 hv1 hv2 he0 he1 he2 hn1
      have bo0 : ((fraction : Int) == 0) = false := by simp; omega
      have bo1 : (fraction == 0) = false := by simp; omega
      by_cases h2 : e2 = 0
      · skip
        subst h2
        obtain ⟨rfl, hle⟩ := hr.2 rfl
        have s4 := fun w => cmp_c v1 v2 l1T l2T w
        obtain ⟨c, hc⟩ : ∃ c, c = cmpI v1 v2 := ⟨_, rfl⟩
        rw [← hc] at s4
        have bz : decide (0 < c) = false := by rw [hc]; unfold cmpI; rcases Nat.lt_or_ge v1 v2 with h | h; simp [h]; simp [show v1 = v2 by omega]
        clear hc hr hr2
        go_wp2_with fail
        refine (s4 _).mono ?_
        rintro e w20 ⟨rfl, hb20⟩
        have b20 : Bl w w20 := Bl.trans ((b19).alloc _) hb20
        have z20 : w19.heap.size + 1 ≤ w20.heap.size := (by have := hb20.size; (try simp only [World.alloc, World.setCell, World.drew, Array.size_push, Array.size_modify] at this); omega)
        have y20 : w.heap.size ≤ w20.heap.size := b20.size
        clear r19_3 r19_3_c r19_3_f r19_3_l r19_4 r19_4_c r19_4_f r19_4_l b19
        clear hb20
        by_cases h5 : a < target
        · skip
          have hx := Hx.out
          clear Hx
          rw [if_pos h5] at hx
          subst hx
          have bo0 : decide (a < target) = true := by simp; omega
          go_wp2_with fail
          refine (k1 _).mono ?_
          rintro e w21 ⟨rfl, hb21⟩
          have b21 : Bl w w21 := Bl.trans (b20) hb21
          have z21 : w20.heap.size ≤ w21.heap.size := (by have := hb21.size; (try simp only [World.alloc, World.setCell, World.drew, Array.size_push, Array.size_modify] at this); omega)
          have y21 : w.heap.size ≤ w21.heap.size := b21.size
          clear b20
          clear hb21
          go_wp2_with fail
          refine (k2 _).mono ?_
          rintro e w22 ⟨rfl, hb22⟩
          have b22 : Bl w w22 := Bl.trans (b21) hb22
          have z22 : w21.heap.size ≤ w22.heap.size := (by have := hb22.size; (try simp only [World.alloc, World.setCell, World.drew, Array.size_push, Array.size_modify] at this); omega)
          have y22 : w.heap.size ≤ w22.heap.size := b22.size
          clear b21
          clear hb22
          go_wp2_with fail
          refine bodyPost_ret (v := .bool true) (by simp only [results, Try.results6]; go_simp) rfl ⟨rfl, ?_⟩
          exact b22
        · skip
          have hx := Hx.out
          clear Hx
          rw [if_neg h5] at hx
          have ex : (a : Int) - target = (x : Int) := by omega
          have wx : IntKind.u64.wrap (x : Int) = (x : Int) := by unfold IntKind.wrap; simp [IntKind.bits, IntKind.signed]; omega
          have b5 : decide (target ≤ a) = true := by simp; omega
          clear hx
          have bo0 : decide (a < target) = false := by simp; omega
          go_wp2_with fail
          refine (k1 _).mono ?_
          rintro e w23 ⟨rfl, hb23⟩
          have b23 : Bl w w23 := Bl.trans (b20) hb23
          have z23 : w20.heap.size ≤ w23.heap.size := (by have := hb23.size; (try simp only [World.alloc, World.setCell, World.drew, Array.size_push, Array.size_modify] at this); omega)
          have y23 : w.heap.size ≤ w23.heap.size := b23.size
          clear b20
          clear hb23
          go_wp2_with fail
          refine (k2 _).mono ?_
          rintro e w24 ⟨rfl, hb24⟩
          have b24 : Bl w w24 := Bl.trans (b23) hb24
          have z24 : w23.heap.size ≤ w24.heap.size := (by have := hb24.size; (try simp only [World.alloc, World.setCell, World.drew, Array.size_push, Array.size_modify] at this); omega)
          have y24 : w.heap.size ≤ w24.heap.size := b24.size
          clear b23
          clear hb24
          go_wp2_with fail
          refine bodyPost_ret (v := .bool true) (by simp only [results, Try.results6]; go_simp) rfl ⟨rfl, ?_⟩
          exact b24
      · skip
        obtain rfl := hr2.resolve_left h2
        have hr1 := hr.1
        clear hr hr2 h2
        by_cases h3 : e1 = 0
        · skip
          subst h3
          clear hr1
          by_cases h5 : a < target
          · skip
            have hx := Hx.out
            clear Hx
            rw [if_pos h5] at hx
            subst hx
            have bo0 : decide (a < target) = true := by simp; omega
            go_wp2_with fail
            refine (k1 _).mono ?_
            rintro e w25 ⟨rfl, hb25⟩
            have b25 : Bl w w25 := Bl.trans ((b19).alloc _) hb25
            have z25 : w19.heap.size + 1 ≤ w25.heap.size := (by have := hb25.size; (try simp only [World.alloc, World.setCell, World.drew, Array.size_push, Array.size_modify] at this); omega)
            have y25 : w.heap.size ≤ w25.heap.size := b25.size
            clear r19_3 r19_3_c r19_3_f r19_3_l r19_4 r19_4_c r19_4_f r19_4_l b19
            clear hb25
            go_wp2_with fail
            refine (k2 _).mono ?_
            rintro e w26 ⟨rfl, hb26⟩
            have b26 : Bl w w26 := Bl.trans (b25) hb26
            have z26 : w25.heap.size ≤ w26.heap.size := (by have := hb26.size; (try simp only [World.alloc, World.setCell, World.drew, Array.size_push, Array.size_modify] at this); omega)
            have y26 : w.heap.size ≤ w26.heap.size := b26.size
            clear b25
            clear hb26
            go_wp2_with fail
            refine bodyPost_ret (v := .bool true) (by simp only [results, Try.results6]; go_simp) rfl ⟨rfl, ?_⟩
            exact b26
          · skip
            have hx := Hx.out
            clear Hx
            rw [if_neg h5] at hx
            have ex : (a : Int) - target = (x : Int) := by omega
            have wx : IntKind.u64.wrap (x : Int) = (x : Int) := by unfold IntKind.wrap; simp [IntKind.bits, IntKind.signed]; omega
            have b5 : decide (target ≤ a) = true := by simp; omega
            clear hx
            have bo0 : decide (a < target) = false := by simp; omega
            go_wp2_with fail
            refine (k1 _).mono ?_
            rintro e w27 ⟨rfl, hb27⟩
            have b27 : Bl w w27 := Bl.trans ((b19).alloc _) hb27
            have z27 : w19.heap.size + 1 ≤ w27.heap.size := (by have := hb27.size; (try simp only [World.alloc, World.setCell, World.drew, Array.size_push, Array.size_modify] at this); omega)
            have y27 : w.heap.size ≤ w27.heap.size := b27.size
            clear r19_3 r19_3_c r19_3_f r19_3_l r19_4 r19_4_c r19_4_f r19_4_l b19
            clear hb27
            go_wp2_with fail
            refine (k2 _).mono ?_
            rintro e w28 ⟨rfl, hb28⟩
            have b28 : Bl w w28 := Bl.trans (b27) hb28
            have z28 : w27.heap.size ≤ w28.heap.size := (by have := hb28.size; (try simp only [World.alloc, World.setCell, World.drew, Array.size_push, Array.size_modify] at this); omega)
            have y28 : w.heap.size ≤ w28.heap.size := b28.size
            clear b27
            clear hb28
            go_wp2_with fail
            refine bodyPost_ret (v := .bool true) (by simp only [results, Try.results6]; go_simp) rfl ⟨rfl, ?_⟩
            exact b28
        · skip
          obtain rfl := hr1.resolve_left h3
          clear hr1 h3
          by_cases h5 : a < target
          · skip
            have hx := Hx.out
            clear Hx
            rw [if_pos h5] at hx
            subst hx
            have bo0 : decide (a < target) = true := by simp; omega
            go_wp2_with fail
            refine (k1 _).mono ?_
            rintro e w29 ⟨rfl, hb29⟩
            have b29 : Bl w w29 := Bl.trans ((b19).alloc _) hb29
            have z29 : w19.heap.size + 1 ≤ w29.heap.size := (by have := hb29.size; (try simp only [World.alloc, World.setCell, World.drew, Array.size_push, Array.size_modify] at this); omega)
            have y29 : w.heap.size ≤ w29.heap.size := b29.size
            clear r19_3 r19_3_c r19_3_f r19_3_l r19_4 r19_4_c r19_4_f r19_4_l b19
            clear hb29
            go_wp2_with fail
            refine (k2 _).mono ?_
            rintro e w30 ⟨rfl, hb30⟩
            have b30 : Bl w w30 := Bl.trans (b29) hb30
            have z30 : w29.heap.size ≤ w30.heap.size := (by have := hb30.size; (try simp only [World.alloc, World.setCell, World.drew, Array.size_push, Array.size_modify] at this); omega)
            have y30 : w.heap.size ≤ w30.heap.size := b30.size
            clear b29
            clear hb30
            go_wp2_with fail
            refine bodyPost_ret (v := .bool true) (by simp only [results, Try.results6]; go_simp) rfl ⟨rfl, ?_⟩
            exact b30
          · skip
            have hx := Hx.out
            clear Hx
            rw [if_neg h5] at hx
            have ex : (a : Int) - target = (x : Int) := by omega
            have wx : IntKind.u64.wrap (x : Int) = (x : Int) := by unfold IntKind.wrap; simp [IntKind.bits, IntKind.signed]; omega
            have b5 : decide (target ≤ a) = true := by simp; omega
            clear hx
            have bo0 : decide (a < target) = false := by simp; omega
            go_wp2_with fail
            refine (k1 _).mono ?_
            rintro e w31 ⟨rfl, hb31⟩
            have b31 : Bl w w31 := Bl.trans ((b19).alloc _) hb31
            have z31 : w19.heap.size + 1 ≤ w31.heap.size := (by have := hb31.size; (try simp only [World.alloc, World.setCell, World.drew, Array.size_push, Array.size_modify] at this); omega)
            have y31 : w.heap.size ≤ w31.heap.size := b31.size
            clear r19_3 r19_3_c r19_3_f r19_3_l r19_4 r19_4_c r19_4_f r19_4_l b19
            clear hb31
            go_wp2_with fail
            refine (k2 _).mono ?_
            rintro e w32 ⟨rfl, hb32⟩
            have b32 : Bl w w32 := Bl.trans (b31) hb32
            have z32 : w31.heap.size ≤ w32.heap.size := (by have := hb32.size; (try simp only [World.alloc, World.setCell, World.drew, Array.size_push, Array.size_modify] at this); omega)
            have y32 : w.heap.size ≤ w32.heap.size := b32.size
            clear b31
            clear hb32
            go_wp2_with fail
            refine bodyPost_ret (v := .bool true) (by simp only [results, Try.results6]; go_simp) rfl ⟨rfl, ?_⟩
            exact b32

theorem walkFeesRising (a : Int) (b : Int) (target : Int) (fraction : Int) (ha : (Lit.int .u64 a).wf = true) (hb : (Lit.int .u64 b).wf = true) (htarget : (Lit.int .u64 target).wf = true) (hfraction : (Lit.int .u64 fraction).wf = true) (w : World) :
    Calls Try.prog 6 #[.int .u64 a, .int .u64 b, .int .u64 target, .int .u64 fraction] w fun e w' => e = .returned (.bool true) ∧ Bl w w' := by
  obtain ⟨za, ya⟩ := wf64 ha
  obtain ⟨a, rfl⟩ := Int.eq_ofNat_of_zero_le za
  obtain ⟨zb, yb⟩ := wf64 hb
  obtain ⟨b, rfl⟩ := Int.eq_ofNat_of_zero_le zb
  obtain ⟨ztarget, ytarget⟩ := wf64 htarget
  obtain ⟨target, rfl⟩ := Int.eq_ofNat_of_zero_le ztarget
  obtain ⟨zfraction, yfraction⟩ := wf64 hfraction
  obtain ⟨fraction, rfl⟩ := Int.eq_ofNat_of_zero_le zfraction
  exact walk0FeesRising a (by omega) b (by omega) target (by omega) fraction (by omega) w

set_option maxHeartbeats 1000000 in
set_option maxRecDepth 100000 in
theorem liftedFeesRising (os : Os) (started : os.Started) (H : Type) (enc : TypeId × Value → H) :
    ReturnsInHanded {} Try.checked os 6 .any (Rows.feesRisingSpec.pre6 enc Try.prog Try.f6 Rows.feesRisingRow.domain false) (Rows.feesRisingSpec.post enc Try.prog Try.f6 false true false false) := by
  refine returnsInHanded_of_change (C := Try.checked) own started (by kernel_rfl) Try.func6
    (ChangeSpec.witness6 (enc := enc) (C := Try.checked) false ⟨#[], #[.int .u64 0, .int .u64 0, .int .u64 0, .int .u64 0], []⟩ 8 (by kernel_rfl) (by kernel_rfl) (by kernel_rfl) (by kernel_rfl)) ?_
  intro W base args ds gs before hval0 hW hcnd _
  have hval : ∀ (j : Nat) t v, Try.f6.params[j]? = some t → args[j]? = some v → Value.okWide Try.prog W .any base t v := hval0
  have hW' := hW
  obtain ⟨p, q, hA0, hV, rfl, hfz, hnd⟩ := hW
  have hA : DataW.TrodAll enc Try.prog W 0 (fun _ => true) true Try.f6.params.toList args.toList ds p := hA0
  rw [Try.params6] at hA hval
  obtain ⟨v0, vs0, d0, ds0, p0, q0, hargs, rfl, rfl, h0, r0⟩ := trodAll_cons hA
  obtain ⟨v1, vs1, d1, ds1, p1, q1, rfl, rfl, rfl, h1, r1⟩ := trodAll_cons r0
  obtain ⟨v2, vs2, d2, ds2, p2, q2, rfl, rfl, rfl, h2, r2⟩ := trodAll_cons r1
  obtain ⟨v3, vs3, d3, ds3, p3, q3, rfl, rfl, rfl, h3, r3⟩ := trodAll_cons r2
  obtain ⟨rfl, rfl, rfl⟩ := trodAll_nil r3
  obtain rfl : args = #[v0, v1, v2, v3] := by cases args; simp_all
  obtain ⟨rfl, rfl⟩ := trodVars_none hV
  obtain ⟨a0, rfl, rfl, rfl, g0⟩ := open_int Try.underlying22 (hval 0 22 v0 rfl rfl) h0
  obtain ⟨a1, rfl, rfl, rfl, g1⟩ := open_int Try.underlying22 (hval 1 22 v1 rfl rfl) h1
  obtain ⟨a2, rfl, rfl, rfl, g2⟩ := open_int Try.underlying22 (hval 2 22 v2 rfl rfl) h2
  obtain ⟨a3, rfl, rfl, rfl, g3⟩ := open_int Try.underlying22 (hval 3 22 v3 rfl rfl) h3
  clear hA0 hval0
  refine (walkFeesRising a0 a1 a2 a3 g0 g1 g2 g3 W).mono fun e W' ⟨he, bel⟩ => ?_
  subst he
  exact ⟨_, rfl, _, _, _, [], _, [], hW', trodAll_mk1 (shut_bool Try.underlying4 _), (trodAll_cons_mk (shut_int Try.underlying22 g0) (trodAll_cons_mk (shut_int Try.underlying22 g1) (trodAll_cons_mk (shut_int Try.underlying22 g2) (trodAll_cons_mk (shut_int Try.underlying22 g3) trodAll_mk0)))), rfl, bel.out.frame _, fun h => by cases h⟩

theorem provedFeesRising : Rows.FeesRisingSaid :=
  OpenClaim.holds_of_wide 6 Try.f6 rfl rfl rfl rfl rfl rfl rfl ⟨rfl, rfl, rfl, rfl, rfl⟩ rfl rfl rfl rfl rfl (by kernel_rfl) Try.func6 (by kernel_rfl)
    (of_decide_eq_true (by kernel_rfl)) (by unfold Func.isWrapper; first | (rw [if_pos (by decide +kernel)]; kernel_rfl) | (rw [if_neg (by decide +kernel)]; exact ⟨rfl, rfl⟩))
    (fun os started H enc _ => liftedFeesRising os started H enc)
end Go.Proofs.Ytcmjdmehooenkaa

