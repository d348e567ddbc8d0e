/- The statement U256Rests, for every three numbers: no condition. -/
import Derived.Test.YthgnmpjcbicdhaaOver
import Derived.Test.YthgnmpjcbicdhaaRow
import Derived.Test.YthgnmpjcbicdhaaEqNo
set_option linter.unusedSimpArgs false
set_option linter.unusedVariables false
namespace Go.Proofs.Ythgnmpjcbicdhaa
open Go Go.ChangeShapes Go.WideShapes Go.ChangeAt Go.RowKit

set_option maxHeartbeats 4000000 in
set_option maxRecDepth 100000 in
theorem walkU256Rests (x y r : Nat) (hx : x < T256) (hy : y < T256) (hr : r < T256) (w : World) :
    Calls Try.prog 9 #[U x, U y, U r] w fun e w' => e = .returned (.bool true) ∧ Bl w w' := by
  have hg := guardU
  have qs := fun n w => run_eq_self n w
  have f0 := fun w => from_c 0 (by omega) w
  by_cases hy0 : y = 0
  · subst hy0
    have i1 := fun w => divmod_c x 0 hx hy w
    have i2 := fun w => reduce_c x r 0 hx hr hy w
    have i3 := fun w => muldiv_c x r 0 hx hr hy w
    have n1 := fun w => num_c 10 w
    rw [show eZ 0 = 10 from rfl] at i1 i2
    rw [show mdE x r 0 = 10 from rfl] at i3
    generalize x / 0 = q at *
    generalize dmR x 0 = t at *
    generalize rdV x r 0 = u at *
    generalize mdV x r 0 = v at *
    clear hx hy hr
    go_enter Try.func9, Try.ntmps9
    go_wp2_with fail
    refine (f0 _).mono ?_
    rintro e w1 ⟨rfl, hb1⟩
    have r1_0 : Box w1 (w.heap.size) #[.int .u64 (L (x) 0), .int .u64 (L (x) 1), .int .u64 (L (x) 2), .int .u64 (L (x) 3)] 24 := (((Box.new _ _ _ _ (by simp)).alloc _).alloc _).call hb1
    have r1_1 : Box w1 (w.heap.size + 1) #[.int .u64 (L (0) 0), .int .u64 (L (0) 1), .int .u64 (L (0) 2), .int .u64 (L (0) 3)] 24 := ((Box.new _ _ _ _ (by simp)).alloc _).call hb1
    have r1_2 : Box w1 (w.heap.size + 1 + 1) #[.int .u64 (L (r) 0), .int .u64 (L (r) 1), .int .u64 (L (r) 2), .int .u64 (L (r) 3)] 24 := (Box.new _ _ _ _ (by simp)).call hb1
    have b1 : Bl w w1 := Bl.trans ((((Bl.refl w).alloc _).alloc _).alloc _) hb1
    have z1 : w.heap.size + 1 + 1 + 1 ≤ w1.heap.size := (by have := hb1.size; (try simp only [World.alloc, World.setCell, World.drew, Array.size_push, Array.size_modify] at this); omega)
    have y1 : w.heap.size ≤ w1.heap.size := b1.size
    clear hb1
    obtain ⟨r1_0_c, r1_0_f, r1_0_l⟩ := r1_0.tell
    obtain ⟨r1_1_c, r1_1_f, r1_1_l⟩ := r1_1.tell
    obtain ⟨r1_2_c, r1_2_f, r1_2_l⟩ := r1_2.tell
    have n1_0 : (w.heap.size = w1.heap.size) = False := (by simp only [eq_iff_iff, iff_false]; omega)
    have m1_0 : (w1.heap.size = w.heap.size) = False := (by simp only [eq_iff_iff, iff_false]; omega)
    have l1_0 : w.heap.size < w1.heap.size := (by omega)
    have n1_1 : (w.heap.size = w1.heap.size + 1) = False := (by simp only [eq_iff_iff, iff_false]; omega)
    have m1_1 : (w1.heap.size + 1 = w.heap.size) = False := (by simp only [eq_iff_iff, iff_false]; omega)
    have l1_1 : w.heap.size < w1.heap.size + 1 := (by omega)
    have n1_2 : (w.heap.size = w1.heap.size + 1 + 1) = False := (by simp only [eq_iff_iff, iff_false]; omega)
    have m1_2 : (w1.heap.size + 1 + 1 = w.heap.size) = False := (by simp only [eq_iff_iff, iff_false]; omega)
    have l1_2 : w.heap.size < w1.heap.size + 1 + 1 := (by omega)
    have n1_3 : (w.heap.size + 1 = w1.heap.size) = False := (by simp only [eq_iff_iff, iff_false]; omega)
    have m1_3 : (w1.heap.size = w.heap.size + 1) = False := (by simp only [eq_iff_iff, iff_false]; omega)
    have l1_3 : w.heap.size + 1 < w1.heap.size := (by omega)
    have n1_4 : (w.heap.size + 1 + 1 = w1.heap.size) = False := (by simp only [eq_iff_iff, iff_false]; omega)
    have m1_4 : (w1.heap.size = w.heap.size + 1 + 1) = False := (by simp only [eq_iff_iff, iff_false]; omega)
    have l1_4 : w.heap.size + 1 + 1 < w1.heap.size := (by omega)
    go_wp2_with fail
    refine (i1 _).mono ?_
    rintro e w2 ⟨rfl, hb2⟩
    have r2_0 : Box w2 (w.heap.size) #[.int .u64 (L (x) 0), .int .u64 (L (x) 1), .int .u64 (L (x) 2), .int .u64 (L (x) 3)] 24 := ((r1_0).alloc _).call hb2
    have r2_1 : Box w2 (w.heap.size + 1) #[.int .u64 (L (0) 0), .int .u64 (L (0) 1), .int .u64 (L (0) 2), .int .u64 (L (0) 3)] 24 := ((r1_1).alloc _).call hb2
    have r2_2 : Box w2 (w.heap.size + 1 + 1) #[.int .u64 (L (r) 0), .int .u64 (L (r) 1), .int .u64 (L (r) 2), .int .u64 (L (r) 3)] 24 := ((r1_2).alloc _).call hb2
    have b2 : Bl w w2 := Bl.trans ((b1).alloc _) hb2
    have z2 : w1.heap.size + 1 ≤ w2.heap.size := (by have := hb2.size; (try simp only [World.alloc, World.setCell, World.drew, Array.size_push, Array.size_modify] at this); omega)
    have y2 : w.heap.size ≤ w2.heap.size := b2.size
    clear r1_0 r1_0_c r1_0_f r1_0_l r1_1 r1_1_c r1_1_f r1_1_l r1_2 r1_2_c r1_2_f r1_2_l hb2 b1
    obtain ⟨r2_0_c, r2_0_f, r2_0_l⟩ := r2_0.tell
    obtain ⟨r2_1_c, r2_1_f, r2_1_l⟩ := r2_1.tell
    obtain ⟨r2_2_c, r2_2_f, r2_2_l⟩ := r2_2.tell
    have n2_0 : (w.heap.size = w2.heap.size) = False := (by simp only [eq_iff_iff, iff_false]; omega)
    have m2_0 : (w2.heap.size = w.heap.size) = False := (by simp only [eq_iff_iff, iff_false]; omega)
    have l2_0 : w.heap.size < w2.heap.size := (by omega)
    have n2_1 : (w.heap.size = w2.heap.size + 1) = False := (by simp only [eq_iff_iff, iff_false]; omega)
    have m2_1 : (w2.heap.size + 1 = w.heap.size) = False := (by simp only [eq_iff_iff, iff_false]; omega)
    have l2_1 : w.heap.size < w2.heap.size + 1 := (by omega)
    have n2_2 : (w.heap.size = w2.heap.size + 1 + 1) = False := (by simp only [eq_iff_iff, iff_false]; omega)
    have m2_2 : (w2.heap.size + 1 + 1 = w.heap.size) = False := (by simp only [eq_iff_iff, iff_false]; omega)
    have l2_2 : w.heap.size < w2.heap.size + 1 + 1 := (by omega)
    have n2_3 : (w.heap.size = w2.heap.size + 1 + 1 + 1) = False := (by simp only [eq_iff_iff, iff_false]; omega)
    have m2_3 : (w2.heap.size + 1 + 1 + 1 = w.heap.size) = False := (by simp only [eq_iff_iff, iff_false]; omega)
    have l2_3 : w.heap.size < w2.heap.size + 1 + 1 + 1 := (by omega)
    have n2_4 : (w.heap.size + 1 = w2.heap.size) = False := (by simp only [eq_iff_iff, iff_false]; omega)
    have m2_4 : (w2.heap.size = w.heap.size + 1) = False := (by simp only [eq_iff_iff, iff_false]; omega)
    have l2_4 : w.heap.size + 1 < w2.heap.size := (by omega)
    have n2_5 : (w.heap.size + 1 + 1 = w2.heap.size) = False := (by simp only [eq_iff_iff, iff_false]; omega)
    have m2_5 : (w2.heap.size = w.heap.size + 1 + 1) = False := (by simp only [eq_iff_iff, iff_false]; omega)
    have l2_5 : w.heap.size + 1 + 1 < w2.heap.size := (by omega)
    go_wp2_with fail
    refine (i2 _).mono ?_
    rintro e w3 ⟨rfl, hb3⟩
    have r3_0 : Box w3 (w.heap.size) #[.int .u64 (L (x) 0), .int .u64 (L (x) 1), .int .u64 (L (x) 2), .int .u64 (L (x) 3)] 24 := (((r2_0).alloc _).alloc _).call hb3
    have r3_1 : Box w3 (w.heap.size + 1) #[.int .u64 (L (0) 0), .int .u64 (L (0) 1), .int .u64 (L (0) 2), .int .u64 (L (0) 3)] 24 := (((r2_1).alloc _).alloc _).call hb3
    have r3_2 : Box w3 (w.heap.size + 1 + 1) #[.int .u64 (L (r) 0), .int .u64 (L (r) 1), .int .u64 (L (r) 2), .int .u64 (L (r) 3)] 24 := (((r2_2).alloc _).alloc _).call hb3
    have b3 : Bl w w3 := Bl.trans (((b2).alloc _).alloc _) hb3
    have z3 : w2.heap.size + 1 + 1 ≤ w3.heap.size := (by have := hb3.size; (try simp only [World.alloc, World.setCell, World.drew, Array.size_push, Array.size_modify] at this); omega)
    have y3 : w.heap.size ≤ w3.heap.size := b3.size
    clear r2_0 r2_0_c r2_0_f r2_0_l r2_1 r2_1_c r2_1_f r2_1_l r2_2 r2_2_c r2_2_f r2_2_l hb3 b2
    obtain ⟨r3_0_c, r3_0_f, r3_0_l⟩ := r3_0.tell
    obtain ⟨r3_1_c, r3_1_f, r3_1_l⟩ := r3_1.tell
    obtain ⟨r3_2_c, r3_2_f, r3_2_l⟩ := r3_2.tell
    have n3_0 : (w.heap.size = w3.heap.size) = False := (by simp only [eq_iff_iff, iff_false]; omega)
    have m3_0 : (w3.heap.size = w.heap.size) = False := (by simp only [eq_iff_iff, iff_false]; omega)
    have l3_0 : w.heap.size < w3.heap.size := (by omega)
    have n3_1 : (w.heap.size = w3.heap.size + 1) = False := (by simp only [eq_iff_iff, iff_false]; omega)
    have m3_1 : (w3.heap.size + 1 = w.heap.size) = False := (by simp only [eq_iff_iff, iff_false]; omega)
    have l3_1 : w.heap.size < w3.heap.size + 1 := (by omega)
    have n3_2 : (w.heap.size = w3.heap.size + 1 + 1) = False := (by simp only [eq_iff_iff, iff_false]; omega)
    have m3_2 : (w3.heap.size + 1 + 1 = w.heap.size) = False := (by simp only [eq_iff_iff, iff_false]; omega)
    have l3_2 : w.heap.size < w3.heap.size + 1 + 1 := (by omega)
    have n3_3 : (w.heap.size + 1 = w3.heap.size) = False := (by simp only [eq_iff_iff, iff_false]; omega)
    have m3_3 : (w3.heap.size = w.heap.size + 1) = False := (by simp only [eq_iff_iff, iff_false]; omega)
    have l3_3 : w.heap.size + 1 < w3.heap.size := (by omega)
    have n3_4 : (w.heap.size + 1 + 1 = w3.heap.size) = False := (by simp only [eq_iff_iff, iff_false]; omega)
    have m3_4 : (w3.heap.size = w.heap.size + 1 + 1) = False := (by simp only [eq_iff_iff, iff_false]; omega)
    have l3_4 : w.heap.size + 1 + 1 < w3.heap.size := (by omega)
    go_wp2_with fail
    refine (i3 _).mono ?_
    rintro e w4 ⟨rfl, hb4⟩
    have b4 : Bl w w4 := Bl.trans ((b3).alloc _) hb4
    have z4 : w3.heap.size + 1 ≤ w4.heap.size := (by have := hb4.size; (try simp only [World.alloc, World.setCell, World.drew, Array.size_push, Array.size_modify] at this); omega)
    have y4 : w.heap.size ≤ w4.heap.size := b4.size
    clear r3_0 r3_0_c r3_0_f r3_0_l r3_1 r3_1_c r3_1_f r3_1_l r3_2 r3_2_c r3_2_f r3_2_l hb4 b3
    go_wp2_with fail
    refine (n1 _).mono ?_
    rintro e _ ⟨rfl, rfl⟩
    go_wp2_with fail
    refine (n1 _).mono ?_
    rintro e _ ⟨rfl, rfl⟩
    go_wp2_with fail
    refine (n1 _).mono ?_
    rintro e _ ⟨rfl, rfl⟩
    go_wp2_with fail
    refine bodyPost_ret (v := .bool true) (by simp only [results, Try.results9]; go_simp) rfl ⟨rfl, ?_⟩
    exact (b4).alloc _
  · have hyp : 0 < y := by omega
    obtain ⟨q, hq⟩ : ∃ q, q = x / y := ⟨_, rfl⟩
    obtain ⟨t, ht⟩ : ∃ t, t = x % y := ⟨_, rfl⟩
    have hxq : x = q * y + t := by rw [hq, ht, Nat.mul_comm]; exact (Nat.div_add_mod x y).symm
    have hty : t < y := by rw [ht]; exact Nat.mod_lt _ hyp
    have hqy : q * y < T256 := by omega
    have hqT : q < T256 := by rw [hq]; exact Nat.lt_of_le_of_lt (Nat.div_le_self _ _) hx
    have htT : t < T256 := by omega
    have i1 := fun w => divmod_c x y hx hy w
    rw [show dmR x y = x % y from if_neg hy0, show eZ y = 0 from if_neg hy0, ← hq, ← ht] at i1
    have i2 := fun w => mul_c q y hqT hy w
    rw [Nat.div_eq_of_lt hqy, Nat.mod_eq_of_lt hqy] at i2
    obtain ⟨p, hp⟩ : ∃ p, p = q * y := ⟨_, rfl⟩
    rw [← hp] at i2 hqy hxq
    have i3 := fun w => add_c p t hqy htT w
    rw [← hxq, Nat.div_eq_of_lt hx, Nat.mod_eq_of_lt hx] at i3
    have i4 := fun w => cmp_c t y htT hy w
    rw [cmpI_lt hty] at i4
    obtain ⟨l, hl⟩ : ∃ l, l = r % y := ⟨_, rfl⟩
    obtain ⟨rq, hrq⟩ : ∃ v, v = r / y := ⟨_, rfl⟩
    have hly : l < y := by rw [hl]; exact Nat.mod_lt _ hyp
    have hlT : l < T256 := by omega
    have i5 := fun w => divmod_c r y hr hy w
    rw [show dmR r y = r % y from if_neg hy0, show eZ y = 0 from if_neg hy0, ← hl, ← hrq] at i5
    obtain ⟨hi, hhi⟩ : ∃ v, v = x * y / T256 := ⟨_, rfl⟩
    obtain ⟨lo, hlo⟩ : ∃ v, v = x * y % T256 := ⟨_, rfl⟩
    have i6 := fun w => mul_c x y hx hy w
    rw [← hhi, ← hlo] at i6
    have lhi : hi < T256 := by rw [hhi]; exact mul_hi_lt hx hy
    have llo : lo < T256 := by rw [hlo]; exact mod_lt256 _
    obtain ⟨ma, hma⟩ : ∃ v, v = (lo + l) % T256 := ⟨_, rfl⟩
    obtain ⟨ov, hov⟩ : ∃ v, v = (lo + l) / T256 := ⟨_, rfl⟩
    have i7 := fun w => add_c lo l llo hlT w
    rw [← hma, ← hov] at i7
    have lma : ma < T256 := by rw [hma]; exact mod_lt256 _
    have hxy : x * y = hi * T256 + lo := by rw [hhi, hlo, Nat.mul_comm (x * y / T256)]; exact (Nat.div_add_mod _ _).symm
    have hsum : x * y + l = (hi + ov) * T256 + ma := by
      have h1 : lo + l = ov * T256 + ma := by rw [hov, hma, Nat.mul_comm ((lo + l) / T256)]; exact (Nat.div_add_mod _ _).symm
      rw [Nat.add_mul]; omega
    have hov1 : ov ≤ 1 := by rw [hov]; rw [T256_eq] at *; omega
    have ho64 : ov < 18446744073709551616 := by omega
    have hoT : ov < T256 := by rw [T256_eq]; omega
    have hhov : hi + ov < T256 := by
      have h2 : x * y + l < T256 * T256 := by
        have h3 : x * y ≤ (T256 - 1) * y := Nat.mul_le_mul_right _ (by omega)
        have h4 : (T256 - 1) * y + y = T256 * y := by rw [Nat.sub_mul, Nat.one_mul]; have : y ≤ T256 * y := Nat.le_mul_of_pos_left _ T256_pos; omega
        have h5 : T256 * y < T256 * T256 := Nat.mul_lt_mul_of_pos_left hy T256_pos
        omega
      rw [hsum] at h2
      have h6 : (hi + ov) * T256 < T256 * T256 := by omega
      exact Nat.lt_of_mul_lt_mul_right h6
    have f1 := fun w => from_c ov ho64 w
    have i8 := fun w => add_c hi ov lhi hoT w
    rw [Nat.mod_eq_of_lt hhov] at i8
    obtain ⟨hh, hhh⟩ : ∃ v, v = hi + ov := ⟨_, rfl⟩
    obtain ⟨c8, hc8⟩ : ∃ v, v = hh / T256 := ⟨_, rfl⟩
    rw [← hhh, ← hc8] at i8
    rw [← hhh] at hhov hsum
    have i9 := fun w => reduce_c hh ma y hhov lma hy w
    have e9 : rdV hh ma y = l := by
      unfold rdV; rw [if_neg hy0, ← hsum, Nat.add_comm, Nat.add_mul_mod_self_right, Nat.mod_eq_of_lt hly]
    rw [e9, show eZ y = 0 from if_neg hy0] at i9
    have i10 := fun w => muldiv_c x y y hx hy hy w
    have e10 : x * y / y = x := Nat.mul_div_cancel _ hyp
    rw [show mdV x y y = x by unfold mdV; rw [e10, if_pos hx], show mdE x y y = 0 by unfold mdE; rw [if_neg hy0, e10, if_pos hx]] at i10
    have HY := Lib.hid hy; have H0 := Lib.hid hy0
    have hyq := fun w => run_eq_no hy T256_pos hy0 w
    clear hx hr hyp hq ht hxq hty hqy hqT htT hp hl hrq hly hlT hhi hlo lhi llo hma hov lma hxy hsum hov1 ho64 hoT hhov hhh hc8 e9 e10 hy hy0
    go_enter Try.func9, Try.ntmps9
    go_wp2_with fail
    refine (f0 _).mono ?_
    rintro e w1 ⟨rfl, hb1⟩
    have r1_0 : Box w1 (w.heap.size) #[.int .u64 (L (x) 0), .int .u64 (L (x) 1), .int .u64 (L (x) 2), .int .u64 (L (x) 3)] 24 := (((Box.new _ _ _ _ (by simp)).alloc _).alloc _).call hb1
    have r1_1 : Box w1 (w.heap.size + 1) #[.int .u64 (L (y) 0), .int .u64 (L (y) 1), .int .u64 (L (y) 2), .int .u64 (L (y) 3)] 24 := ((Box.new _ _ _ _ (by simp)).alloc _).call hb1
    have r1_2 : Box w1 (w.heap.size + 1 + 1) #[.int .u64 (L (r) 0), .int .u64 (L (r) 1), .int .u64 (L (r) 2), .int .u64 (L (r) 3)] 24 := (Box.new _ _ _ _ (by simp)).call hb1
    have b1 : Bl w w1 := Bl.trans ((((Bl.refl w).alloc _).alloc _).alloc _) hb1
    have z1 : w.heap.size + 1 + 1 + 1 ≤ w1.heap.size := (by have := hb1.size; (try simp only [World.alloc, World.setCell, World.drew, Array.size_push, Array.size_modify] at this); omega)
    have y1 : w.heap.size ≤ w1.heap.size := b1.size
    clear hb1
    obtain ⟨r1_0_c, r1_0_f, r1_0_l⟩ := r1_0.tell
    obtain ⟨r1_1_c, r1_1_f, r1_1_l⟩ := r1_1.tell
    obtain ⟨r1_2_c, r1_2_f, r1_2_l⟩ := r1_2.tell
    have n1_0 : (w.heap.size = w1.heap.size) = False := (by simp only [eq_iff_iff, iff_false]; omega)
    have m1_0 : (w1.heap.size = w.heap.size) = False := (by simp only [eq_iff_iff, iff_false]; omega)
    have l1_0 : w.heap.size < w1.heap.size := (by omega)
    have n1_1 : (w.heap.size = w1.heap.size + 1) = False := (by simp only [eq_iff_iff, iff_false]; omega)
    have m1_1 : (w1.heap.size + 1 = w.heap.size) = False := (by simp only [eq_iff_iff, iff_false]; omega)
    have l1_1 : w.heap.size < w1.heap.size + 1 := (by omega)
    have n1_2 : (w.heap.size = w1.heap.size + 1 + 1) = False := (by simp only [eq_iff_iff, iff_false]; omega)
    have m1_2 : (w1.heap.size + 1 + 1 = w.heap.size) = False := (by simp only [eq_iff_iff, iff_false]; omega)
    have l1_2 : w.heap.size < w1.heap.size + 1 + 1 := (by omega)
    have n1_3 : (w.heap.size + 1 = w1.heap.size) = False := (by simp only [eq_iff_iff, iff_false]; omega)
    have m1_3 : (w1.heap.size = w.heap.size + 1) = False := (by simp only [eq_iff_iff, iff_false]; omega)
    have l1_3 : w.heap.size + 1 < w1.heap.size := (by omega)
    have n1_4 : (w.heap.size + 1 + 1 = w1.heap.size) = False := (by simp only [eq_iff_iff, iff_false]; omega)
    have m1_4 : (w1.heap.size = w.heap.size + 1 + 1) = False := (by simp only [eq_iff_iff, iff_false]; omega)
    have l1_4 : w.heap.size + 1 + 1 < w1.heap.size := (by omega)
    go_wp2_with fail
    refine (i1 _).mono ?_
    rintro e w2 ⟨rfl, hb2⟩
    have r2_0 : Box w2 (w.heap.size) #[.int .u64 (L (x) 0), .int .u64 (L (x) 1), .int .u64 (L (x) 2), .int .u64 (L (x) 3)] 24 := ((r1_0).alloc _).call hb2
    have r2_1 : Box w2 (w.heap.size + 1) #[.int .u64 (L (y) 0), .int .u64 (L (y) 1), .int .u64 (L (y) 2), .int .u64 (L (y) 3)] 24 := ((r1_1).alloc _).call hb2
    have r2_2 : Box w2 (w.heap.size + 1 + 1) #[.int .u64 (L (r) 0), .int .u64 (L (r) 1), .int .u64 (L (r) 2), .int .u64 (L (r) 3)] 24 := ((r1_2).alloc _).call hb2
    have r2_3 : Box w2 (w1.heap.size) #[.int .u64 (L (0) 0), .int .u64 (L (0) 1), .int .u64 (L (0) 2), .int .u64 (L (0) 3)] 24 := (Box.new _ _ _ _ (by simp)).call hb2
    have b2 : Bl w w2 := Bl.trans ((b1).alloc _) hb2
    have z2 : w1.heap.size + 1 ≤ w2.heap.size := (by have := hb2.size; (try simp only [World.alloc, World.setCell, World.drew, Array.size_push, Array.size_modify] at this); omega)
    have y2 : w.heap.size ≤ w2.heap.size := b2.size
    clear r1_0 r1_0_c r1_0_f r1_0_l r1_1 r1_1_c r1_1_f r1_1_l r1_2 r1_2_c r1_2_f r1_2_l hb2 b1
    obtain ⟨r2_0_c, r2_0_f, r2_0_l⟩ := r2_0.tell
    obtain ⟨r2_1_c, r2_1_f, r2_1_l⟩ := r2_1.tell
    obtain ⟨r2_2_c, r2_2_f, r2_2_l⟩ := r2_2.tell
    obtain ⟨r2_3_c, r2_3_f, r2_3_l⟩ := r2_3.tell
    have n2_0 : (w.heap.size = w2.heap.size) = False := (by simp only [eq_iff_iff, iff_false]; omega)
    have m2_0 : (w2.heap.size = w.heap.size) = False := (by simp only [eq_iff_iff, iff_false]; omega)
    have l2_0 : w.heap.size < w2.heap.size := (by omega)
    have n2_1 : (w.heap.size = w2.heap.size + 1) = False := (by simp only [eq_iff_iff, iff_false]; omega)
    have m2_1 : (w2.heap.size + 1 = w.heap.size) = False := (by simp only [eq_iff_iff, iff_false]; omega)
    have l2_1 : w.heap.size < w2.heap.size + 1 := (by omega)
    have n2_2 : (w.heap.size = w2.heap.size + 1 + 1) = False := (by simp only [eq_iff_iff, iff_false]; omega)
    have m2_2 : (w2.heap.size + 1 + 1 = w.heap.size) = False := (by simp only [eq_iff_iff, iff_false]; omega)
    have l2_2 : w.heap.size < w2.heap.size + 1 + 1 := (by omega)
    have n2_3 : (w.heap.size = w2.heap.size + 1 + 1 + 1) = False := (by simp only [eq_iff_iff, iff_false]; omega)
    have m2_3 : (w2.heap.size + 1 + 1 + 1 = w.heap.size) = False := (by simp only [eq_iff_iff, iff_false]; omega)
    have l2_3 : w.heap.size < w2.heap.size + 1 + 1 + 1 := (by omega)
    have n2_4 : (w.heap.size + 1 = w2.heap.size) = False := (by simp only [eq_iff_iff, iff_false]; omega)
    have m2_4 : (w2.heap.size = w.heap.size + 1) = False := (by simp only [eq_iff_iff, iff_false]; omega)
    have l2_4 : w.heap.size + 1 < w2.heap.size := (by omega)
    have n2_5 : (w.heap.size + 1 + 1 = w2.heap.size) = False := (by simp only [eq_iff_iff, iff_false]; omega)
    have m2_5 : (w2.heap.size = w.heap.size + 1 + 1) = False := (by simp only [eq_iff_iff, iff_false]; omega)
    have l2_5 : w.heap.size + 1 + 1 < w2.heap.size := (by omega)
    have n2_6 : (w1.heap.size = w2.heap.size) = False := (by simp only [eq_iff_iff, iff_false]; omega)
    have m2_6 : (w2.heap.size = w1.heap.size) = False := (by simp only [eq_iff_iff, iff_false]; omega)
    have l2_6 : w1.heap.size < w2.heap.size := (by omega)
    have n2_7 : (w1.heap.size = w2.heap.size + 1) = False := (by simp only [eq_iff_iff, iff_false]; omega)
    have m2_7 : (w2.heap.size + 1 = w1.heap.size) = False := (by simp only [eq_iff_iff, iff_false]; omega)
    have l2_7 : w1.heap.size < w2.heap.size + 1 := (by omega)
    have n2_8 : (w1.heap.size = w2.heap.size + 1 + 1) = False := (by simp only [eq_iff_iff, iff_false]; omega)
    have m2_8 : (w2.heap.size + 1 + 1 = w1.heap.size) = False := (by simp only [eq_iff_iff, iff_false]; omega)
    have l2_8 : w1.heap.size < w2.heap.size + 1 + 1 := (by omega)
    have n2_9 : (w1.heap.size = w2.heap.size + 1 + 1 + 1) = False := (by simp only [eq_iff_iff, iff_false]; omega)
    have m2_9 : (w2.heap.size + 1 + 1 + 1 = w1.heap.size) = False := (by simp only [eq_iff_iff, iff_false]; omega)
    have l2_9 : w1.heap.size < w2.heap.size + 1 + 1 + 1 := (by omega)
    go_wp2_with fail
    refine (i2 _).mono ?_
    rintro e w3 ⟨rfl, hb3⟩
    have r3_0 : Box w3 (w.heap.size) #[.int .u64 (L (x) 0), .int .u64 (L (x) 1), .int .u64 (L (x) 2), .int .u64 (L (x) 3)] 24 := (((r2_0).alloc _).alloc _).call hb3
    have r3_1 : Box w3 (w.heap.size + 1) #[.int .u64 (L (y) 0), .int .u64 (L (y) 1), .int .u64 (L (y) 2), .int .u64 (L (y) 3)] 24 := (((r2_1).alloc _).alloc _).call hb3
    have r3_2 : Box w3 (w.heap.size + 1 + 1) #[.int .u64 (L (r) 0), .int .u64 (L (r) 1), .int .u64 (L (r) 2), .int .u64 (L (r) 3)] 24 := (((r2_2).alloc _).alloc _).call hb3
    have r3_3 : Box w3 (w1.heap.size) #[.int .u64 (L (0) 0), .int .u64 (L (0) 1), .int .u64 (L (0) 2), .int .u64 (L (0) 3)] 24 := (((r2_3).alloc _).alloc _).call hb3
    have r3_5 : Box w3 (w2.heap.size + 1) #[.int .u64 (L (t) 0), .int .u64 (L (t) 1), .int .u64 (L (t) 2), .int .u64 (L (t) 3)] 24 := (Box.new _ _ _ _ (by simp)).call hb3
    have b3 : Bl w w3 := Bl.trans (((b2).alloc _).alloc _) hb3
    have z3 : w2.heap.size + 1 + 1 ≤ w3.heap.size := (by have := hb3.size; (try simp only [World.alloc, World.setCell, World.drew, Array.size_push, Array.size_modify] at this); omega)
    have y3 : w.heap.size ≤ w3.heap.size := b3.size
    clear r2_0 r2_0_c r2_0_f r2_0_l r2_1 r2_1_c r2_1_f r2_1_l r2_2 r2_2_c r2_2_f r2_2_l r2_3 r2_3_c r2_3_f r2_3_l hb3 b2
    obtain ⟨r3_0_c, r3_0_f, r3_0_l⟩ := r3_0.tell
    obtain ⟨r3_1_c, r3_1_f, r3_1_l⟩ := r3_1.tell
    obtain ⟨r3_2_c, r3_2_f, r3_2_l⟩ := r3_2.tell
    obtain ⟨r3_3_c, r3_3_f, r3_3_l⟩ := r3_3.tell
    obtain ⟨r3_5_c, r3_5_f, r3_5_l⟩ := r3_5.tell
    have n3_0 : (w.heap.size = w3.heap.size) = False := (by simp only [eq_iff_iff, iff_false]; omega)
    have m3_0 : (w3.heap.size = w.heap.size) = False := (by simp only [eq_iff_iff, iff_false]; omega)
    have l3_0 : w.heap.size < w3.heap.size := (by omega)
    have n3_1 : (w.heap.size = w3.heap.size + 1) = False := (by simp only [eq_iff_iff, iff_false]; omega)
    have m3_1 : (w3.heap.size + 1 = w.heap.size) = False := (by simp only [eq_iff_iff, iff_false]; omega)
    have l3_1 : w.heap.size < w3.heap.size + 1 := (by omega)
    have n3_2 : (w.heap.size = w3.heap.size + 1 + 1) = False := (by simp only [eq_iff_iff, iff_false]; omega)
    have m3_2 : (w3.heap.size + 1 + 1 = w.heap.size) = False := (by simp only [eq_iff_iff, iff_false]; omega)
    have l3_2 : w.heap.size < w3.heap.size + 1 + 1 := (by omega)
    have n3_3 : (w.heap.size = w3.heap.size + 1 + 1 + 1) = False := (by simp only [eq_iff_iff, iff_false]; omega)
    have m3_3 : (w3.heap.size + 1 + 1 + 1 = w.heap.size) = False := (by simp only [eq_iff_iff, iff_false]; omega)
    have l3_3 : w.heap.size < w3.heap.size + 1 + 1 + 1 := (by omega)
    have n3_4 : (w.heap.size + 1 = w3.heap.size) = False := (by simp only [eq_iff_iff, iff_false]; omega)
    have m3_4 : (w3.heap.size = w.heap.size + 1) = False := (by simp only [eq_iff_iff, iff_false]; omega)
    have l3_4 : w.heap.size + 1 < w3.heap.size := (by omega)
    have n3_5 : (w.heap.size + 1 + 1 = w3.heap.size) = False := (by simp only [eq_iff_iff, iff_false]; omega)
    have m3_5 : (w3.heap.size = w.heap.size + 1 + 1) = False := (by simp only [eq_iff_iff, iff_false]; omega)
    have l3_5 : w.heap.size + 1 + 1 < w3.heap.size := (by omega)
    have n3_6 : (w1.heap.size = w3.heap.size) = False := (by simp only [eq_iff_iff, iff_false]; omega)
    have m3_6 : (w3.heap.size = w1.heap.size) = False := (by simp only [eq_iff_iff, iff_false]; omega)
    have l3_6 : w1.heap.size < w3.heap.size := (by omega)
    have n3_7 : (w1.heap.size = w3.heap.size + 1) = False := (by simp only [eq_iff_iff, iff_false]; omega)
    have m3_7 : (w3.heap.size + 1 = w1.heap.size) = False := (by simp only [eq_iff_iff, iff_false]; omega)
    have l3_7 : w1.heap.size < w3.heap.size + 1 := (by omega)
    have n3_8 : (w1.heap.size = w3.heap.size + 1 + 1) = False := (by simp only [eq_iff_iff, iff_false]; omega)
    have m3_8 : (w3.heap.size + 1 + 1 = w1.heap.size) = False := (by simp only [eq_iff_iff, iff_false]; omega)
    have l3_8 : w1.heap.size < w3.heap.size + 1 + 1 := (by omega)
    have n3_9 : (w1.heap.size = w3.heap.size + 1 + 1 + 1) = False := (by simp only [eq_iff_iff, iff_false]; omega)
    have m3_9 : (w3.heap.size + 1 + 1 + 1 = w1.heap.size) = False := (by simp only [eq_iff_iff, iff_false]; omega)
    have l3_9 : w1.heap.size < w3.heap.size + 1 + 1 + 1 := (by omega)
    have n3_10 : (w2.heap.size = w3.heap.size) = False := (by simp only [eq_iff_iff, iff_false]; omega)
    have m3_10 : (w3.heap.size = w2.heap.size) = False := (by simp only [eq_iff_iff, iff_false]; omega)
    have l3_10 : w2.heap.size < w3.heap.size := (by omega)
    have n3_11 : (w2.heap.size = w3.heap.size + 1) = False := (by simp only [eq_iff_iff, iff_false]; omega)
    have m3_11 : (w3.heap.size + 1 = w2.heap.size) = False := (by simp only [eq_iff_iff, iff_false]; omega)
    have l3_11 : w2.heap.size < w3.heap.size + 1 := (by omega)
    have n3_12 : (w2.heap.size = w3.heap.size + 1 + 1) = False := (by simp only [eq_iff_iff, iff_false]; omega)
    have m3_12 : (w3.heap.size + 1 + 1 = w2.heap.size) = False := (by simp only [eq_iff_iff, iff_false]; omega)
    have l3_12 : w2.heap.size < w3.heap.size + 1 + 1 := (by omega)
    have n3_13 : (w2.heap.size + 1 = w3.heap.size) = False := (by simp only [eq_iff_iff, iff_false]; omega)
    have m3_13 : (w3.heap.size = w2.heap.size + 1) = False := (by simp only [eq_iff_iff, iff_false]; omega)
    have l3_13 : w2.heap.size + 1 < w3.heap.size := (by omega)
    go_wp2_with fail
    refine (i3 _).mono ?_
    rintro e w4 ⟨rfl, hb4⟩
    have r4_0 : Box w4 (w.heap.size) #[.int .u64 (L (x) 0), .int .u64 (L (x) 1), .int .u64 (L (x) 2), .int .u64 (L (x) 3)] 24 := (((r3_0).alloc _).alloc _).call hb4
    have r4_1 : Box w4 (w.heap.size + 1) #[.int .u64 (L (y) 0), .int .u64 (L (y) 1), .int .u64 (L (y) 2), .int .u64 (L (y) 3)] 24 := (((r3_1).alloc _).alloc _).call hb4
    have r4_2 : Box w4 (w.heap.size + 1 + 1) #[.int .u64 (L (r) 0), .int .u64 (L (r) 1), .int .u64 (L (r) 2), .int .u64 (L (r) 3)] 24 := (((r3_2).alloc _).alloc _).call hb4
    have r4_3 : Box w4 (w1.heap.size) #[.int .u64 (L (0) 0), .int .u64 (L (0) 1), .int .u64 (L (0) 2), .int .u64 (L (0) 3)] 24 := (((r3_3).alloc _).alloc _).call hb4
    have r4_5 : Box w4 (w2.heap.size + 1) #[.int .u64 (L (t) 0), .int .u64 (L (t) 1), .int .u64 (L (t) 2), .int .u64 (L (t) 3)] 24 := (((r3_5).alloc _).alloc _).call hb4
    have r4_6 : Box w4 (w3.heap.size) #[.int .u64 (L (0) 0), .int .u64 (L (0) 1), .int .u64 (L (0) 2), .int .u64 (L (0) 3)] 24 := ((Box.new _ _ _ _ (by simp)).alloc _).call hb4
    have b4 : Bl w w4 := Bl.trans (((b3).alloc _).alloc _) hb4
    have z4 : w3.heap.size + 1 + 1 ≤ w4.heap.size := (by have := hb4.size; (try simp only [World.alloc, World.setCell, World.drew, Array.size_push, Array.size_modify] at this); omega)
    have y4 : w.heap.size ≤ w4.heap.size := b4.size
    clear r3_0 r3_0_c r3_0_f r3_0_l r3_1 r3_1_c r3_1_f r3_1_l r3_2 r3_2_c r3_2_f r3_2_l r3_3 r3_3_c r3_3_f r3_3_l r3_5 r3_5_c r3_5_f r3_5_l hb4 b3
    obtain ⟨r4_0_c, r4_0_f, r4_0_l⟩ := r4_0.tell
    obtain ⟨r4_1_c, r4_1_f, r4_1_l⟩ := r4_1.tell
    obtain ⟨r4_2_c, r4_2_f, r4_2_l⟩ := r4_2.tell
    obtain ⟨r4_3_c, r4_3_f, r4_3_l⟩ := r4_3.tell
    obtain ⟨r4_5_c, r4_5_f, r4_5_l⟩ := r4_5.tell
    obtain ⟨r4_6_c, r4_6_f, r4_6_l⟩ := r4_6.tell
    have n4_0 : (w.heap.size = w4.heap.size) = False := (by simp only [eq_iff_iff, iff_false]; omega)
    have m4_0 : (w4.heap.size = w.heap.size) = False := (by simp only [eq_iff_iff, iff_false]; omega)
    have l4_0 : w.heap.size < w4.heap.size := (by omega)
    have n4_1 : (w.heap.size = w4.heap.size + 1) = False := (by simp only [eq_iff_iff, iff_false]; omega)
    have m4_1 : (w4.heap.size + 1 = w.heap.size) = False := (by simp only [eq_iff_iff, iff_false]; omega)
    have l4_1 : w.heap.size < w4.heap.size + 1 := (by omega)
    have n4_2 : (w.heap.size = w4.heap.size + 1 + 1) = False := (by simp only [eq_iff_iff, iff_false]; omega)
    have m4_2 : (w4.heap.size + 1 + 1 = w.heap.size) = False := (by simp only [eq_iff_iff, iff_false]; omega)
    have l4_2 : w.heap.size < w4.heap.size + 1 + 1 := (by omega)
    have n4_3 : (w.heap.size + 1 = w4.heap.size) = False := (by simp only [eq_iff_iff, iff_false]; omega)
    have m4_3 : (w4.heap.size = w.heap.size + 1) = False := (by simp only [eq_iff_iff, iff_false]; omega)
    have l4_3 : w.heap.size + 1 < w4.heap.size := (by omega)
    have n4_4 : (w.heap.size + 1 + 1 = w4.heap.size) = False := (by simp only [eq_iff_iff, iff_false]; omega)
    have m4_4 : (w4.heap.size = w.heap.size + 1 + 1) = False := (by simp only [eq_iff_iff, iff_false]; omega)
    have l4_4 : w.heap.size + 1 + 1 < w4.heap.size := (by omega)
    have n4_5 : (w1.heap.size = w4.heap.size) = False := (by simp only [eq_iff_iff, iff_false]; omega)
    have m4_5 : (w4.heap.size = w1.heap.size) = False := (by simp only [eq_iff_iff, iff_false]; omega)
    have l4_5 : w1.heap.size < w4.heap.size := (by omega)
    have n4_6 : (w1.heap.size = w4.heap.size + 1) = False := (by simp only [eq_iff_iff, iff_false]; omega)
    have m4_6 : (w4.heap.size + 1 = w1.heap.size) = False := (by simp only [eq_iff_iff, iff_false]; omega)
    have l4_6 : w1.heap.size < w4.heap.size + 1 := (by omega)
    have n4_7 : (w1.heap.size = w4.heap.size + 1 + 1) = False := (by simp only [eq_iff_iff, iff_false]; omega)
    have m4_7 : (w4.heap.size + 1 + 1 = w1.heap.size) = False := (by simp only [eq_iff_iff, iff_false]; omega)
    have l4_7 : w1.heap.size < w4.heap.size + 1 + 1 := (by omega)
    have n4_8 : (w2.heap.size = w4.heap.size) = False := (by simp only [eq_iff_iff, iff_false]; omega)
    have m4_8 : (w4.heap.size = w2.heap.size) = False := (by simp only [eq_iff_iff, iff_false]; omega)
    have l4_8 : w2.heap.size < w4.heap.size := (by omega)
    have n4_9 : (w2.heap.size = w4.heap.size + 1) = False := (by simp only [eq_iff_iff, iff_false]; omega)
    have m4_9 : (w4.heap.size + 1 = w2.heap.size) = False := (by simp only [eq_iff_iff, iff_false]; omega)
    have l4_9 : w2.heap.size < w4.heap.size + 1 := (by omega)
    have n4_10 : (w2.heap.size + 1 = w4.heap.size) = False := (by simp only [eq_iff_iff, iff_false]; omega)
    have m4_10 : (w4.heap.size = w2.heap.size + 1) = False := (by simp only [eq_iff_iff, iff_false]; omega)
    have l4_10 : w2.heap.size + 1 < w4.heap.size := (by omega)
    have n4_11 : (w3.heap.size = w4.heap.size) = False := (by simp only [eq_iff_iff, iff_false]; omega)
    have m4_11 : (w4.heap.size = w3.heap.size) = False := (by simp only [eq_iff_iff, iff_false]; omega)
    have l4_11 : w3.heap.size < w4.heap.size := (by omega)
    have n4_12 : (w3.heap.size = w4.heap.size + 1) = False := (by simp only [eq_iff_iff, iff_false]; omega)
    have m4_12 : (w4.heap.size + 1 = w3.heap.size) = False := (by simp only [eq_iff_iff, iff_false]; omega)
    have l4_12 : w3.heap.size < w4.heap.size + 1 := (by omega)
    have n4_13 : (w3.heap.size = w4.heap.size + 1 + 1) = False := (by simp only [eq_iff_iff, iff_false]; omega)
    have m4_13 : (w4.heap.size + 1 + 1 = w3.heap.size) = False := (by simp only [eq_iff_iff, iff_false]; omega)
    have l4_13 : w3.heap.size < w4.heap.size + 1 + 1 := (by omega)
    go_wp2_with fail
    refine (i4 _).mono ?_
    rintro e w5 ⟨rfl, hb5⟩
    have r5_0 : Box w5 (w.heap.size) #[.int .u64 (L (x) 0), .int .u64 (L (x) 1), .int .u64 (L (x) 2), .int .u64 (L (x) 3)] 24 := ((r4_0).alloc _).call hb5
    have r5_1 : Box w5 (w.heap.size + 1) #[.int .u64 (L (y) 0), .int .u64 (L (y) 1), .int .u64 (L (y) 2), .int .u64 (L (y) 3)] 24 := ((r4_1).alloc _).call hb5
    have r5_2 : Box w5 (w.heap.size + 1 + 1) #[.int .u64 (L (r) 0), .int .u64 (L (r) 1), .int .u64 (L (r) 2), .int .u64 (L (r) 3)] 24 := ((r4_2).alloc _).call hb5
    have r5_3 : Box w5 (w1.heap.size) #[.int .u64 (L (0) 0), .int .u64 (L (0) 1), .int .u64 (L (0) 2), .int .u64 (L (0) 3)] 24 := ((r4_3).alloc _).call hb5
    have r5_6 : Box w5 (w3.heap.size) #[.int .u64 (L (0) 0), .int .u64 (L (0) 1), .int .u64 (L (0) 2), .int .u64 (L (0) 3)] 24 := ((r4_6).alloc _).call hb5
    have r5_8 : Box w5 (w4.heap.size) #[.int .u64 (L (x) 0), .int .u64 (L (x) 1), .int .u64 (L (x) 2), .int .u64 (L (x) 3)] 24 := (Box.new _ _ _ _ (by simp)).call hb5
    have b5 : Bl w w5 := Bl.trans ((b4).alloc _) hb5
    have z5 : w4.heap.size + 1 ≤ w5.heap.size := (by have := hb5.size; (try simp only [World.alloc, World.setCell, World.drew, Array.size_push, Array.size_modify] at this); omega)
    have y5 : w.heap.size ≤ w5.heap.size := b5.size
    clear r4_0 r4_0_c r4_0_f r4_0_l r4_1 r4_1_c r4_1_f r4_1_l r4_2 r4_2_c r4_2_f r4_2_l r4_3 r4_3_c r4_3_f r4_3_l r4_5 r4_5_c r4_5_f r4_5_l r4_6 r4_6_c r4_6_f r4_6_l hb5 b4
    obtain ⟨r5_0_c, r5_0_f, r5_0_l⟩ := r5_0.tell
    obtain ⟨r5_1_c, r5_1_f, r5_1_l⟩ := r5_1.tell
    obtain ⟨r5_2_c, r5_2_f, r5_2_l⟩ := r5_2.tell
    obtain ⟨r5_3_c, r5_3_f, r5_3_l⟩ := r5_3.tell
    obtain ⟨r5_6_c, r5_6_f, r5_6_l⟩ := r5_6.tell
    obtain ⟨r5_8_c, r5_8_f, r5_8_l⟩ := r5_8.tell
    go_wp2_with fail
    refine (i5 _).mono ?_
    rintro e w6 ⟨rfl, hb6⟩
    have r6_0 : Box w6 (w.heap.size) #[.int .u64 (L (x) 0), .int .u64 (L (x) 1), .int .u64 (L (x) 2), .int .u64 (L (x) 3)] 24 := (r5_0).call hb6
    have r6_1 : Box w6 (w.heap.size + 1) #[.int .u64 (L (y) 0), .int .u64 (L (y) 1), .int .u64 (L (y) 2), .int .u64 (L (y) 3)] 24 := (r5_1).call hb6
    have b6 : Bl w w6 := Bl.trans (b5) hb6
    have z6 : w5.heap.size ≤ w6.heap.size := (by have := hb6.size; (try simp only [World.alloc, World.setCell, World.drew, Array.size_push, Array.size_modify] at this); omega)
    have y6 : w.heap.size ≤ w6.heap.size := b6.size
    clear r5_0 r5_0_c r5_0_f r5_0_l r5_1 r5_1_c r5_1_f r5_1_l r5_2 r5_2_c r5_2_f r5_2_l r5_3 r5_3_c r5_3_f r5_3_l r5_6 r5_6_c r5_6_f r5_6_l r5_8 r5_8_c r5_8_f r5_8_l hb6 b5
    obtain ⟨r6_0_c, r6_0_f, r6_0_l⟩ := r6_0.tell
    obtain ⟨r6_1_c, r6_1_f, r6_1_l⟩ := r6_1.tell
    have n6_0 : (w.heap.size = w6.heap.size) = False := (by simp only [eq_iff_iff, iff_false]; omega)
    have m6_0 : (w6.heap.size = w.heap.size) = False := (by simp only [eq_iff_iff, iff_false]; omega)
    have l6_0 : w.heap.size < w6.heap.size := (by omega)
    have n6_1 : (w.heap.size = w6.heap.size + 1) = False := (by simp only [eq_iff_iff, iff_false]; omega)
    have m6_1 : (w6.heap.size + 1 = w.heap.size) = False := (by simp only [eq_iff_iff, iff_false]; omega)
    have l6_1 : w.heap.size < w6.heap.size + 1 := (by omega)
    have n6_2 : (w.heap.size = w6.heap.size + 1 + 1) = False := (by simp only [eq_iff_iff, iff_false]; omega)
    have m6_2 : (w6.heap.size + 1 + 1 = w.heap.size) = False := (by simp only [eq_iff_iff, iff_false]; omega)
    have l6_2 : w.heap.size < w6.heap.size + 1 + 1 := (by omega)
    have n6_3 : (w.heap.size = w6.heap.size + 1 + 1 + 1) = False := (by simp only [eq_iff_iff, iff_false]; omega)
    have m6_3 : (w6.heap.size + 1 + 1 + 1 = w.heap.size) = False := (by simp only [eq_iff_iff, iff_false]; omega)
    have l6_3 : w.heap.size < w6.heap.size + 1 + 1 + 1 := (by omega)
    have n6_4 : (w.heap.size + 1 = w6.heap.size) = False := (by simp only [eq_iff_iff, iff_false]; omega)
    have m6_4 : (w6.heap.size = w.heap.size + 1) = False := (by simp only [eq_iff_iff, iff_false]; omega)
    have l6_4 : w.heap.size + 1 < w6.heap.size := (by omega)
    go_wp2_with fail
    refine (i6 _).mono ?_
    rintro e w7 ⟨rfl, hb7⟩
    have r7_0 : Box w7 (w.heap.size) #[.int .u64 (L (x) 0), .int .u64 (L (x) 1), .int .u64 (L (x) 2), .int .u64 (L (x) 3)] 24 := (((r6_0).alloc _).alloc _).call hb7
    have r7_1 : Box w7 (w.heap.size + 1) #[.int .u64 (L (y) 0), .int .u64 (L (y) 1), .int .u64 (L (y) 2), .int .u64 (L (y) 3)] 24 := (((r6_1).alloc _).alloc _).call hb7
    have r7_10 : Box w7 (w6.heap.size + 1) #[.int .u64 (L (l) 0), .int .u64 (L (l) 1), .int .u64 (L (l) 2), .int .u64 (L (l) 3)] 24 := (Box.new _ _ _ _ (by simp)).call hb7
    have b7 : Bl w w7 := Bl.trans (((b6).alloc _).alloc _) hb7
    have z7 : w6.heap.size + 1 + 1 ≤ w7.heap.size := (by have := hb7.size; (try simp only [World.alloc, World.setCell, World.drew, Array.size_push, Array.size_modify] at this); omega)
    have y7 : w.heap.size ≤ w7.heap.size := b7.size
    clear r6_0 r6_0_c r6_0_f r6_0_l r6_1 r6_1_c r6_1_f r6_1_l hb7 b6
    obtain ⟨r7_0_c, r7_0_f, r7_0_l⟩ := r7_0.tell
    obtain ⟨r7_1_c, r7_1_f, r7_1_l⟩ := r7_1.tell
    obtain ⟨r7_10_c, r7_10_f, r7_10_l⟩ := r7_10.tell
    have n7_0 : (w.heap.size = w7.heap.size) = False := (by simp only [eq_iff_iff, iff_false]; omega)
    have m7_0 : (w7.heap.size = w.heap.size) = False := (by simp only [eq_iff_iff, iff_false]; omega)
    have l7_0 : w.heap.size < w7.heap.size := (by omega)
    have n7_1 : (w.heap.size = w7.heap.size + 1) = False := (by simp only [eq_iff_iff, iff_false]; omega)
    have m7_1 : (w7.heap.size + 1 = w.heap.size) = False := (by simp only [eq_iff_iff, iff_false]; omega)
    have l7_1 : w.heap.size < w7.heap.size + 1 := (by omega)
    have n7_2 : (w.heap.size = w7.heap.size + 1 + 1) = False := (by simp only [eq_iff_iff, iff_false]; omega)
    have m7_2 : (w7.heap.size + 1 + 1 = w.heap.size) = False := (by simp only [eq_iff_iff, iff_false]; omega)
    have l7_2 : w.heap.size < w7.heap.size + 1 + 1 := (by omega)
    have n7_3 : (w.heap.size = w7.heap.size + 1 + 1 + 1) = False := (by simp only [eq_iff_iff, iff_false]; omega)
    have m7_3 : (w7.heap.size + 1 + 1 + 1 = w.heap.size) = False := (by simp only [eq_iff_iff, iff_false]; omega)
    have l7_3 : w.heap.size < w7.heap.size + 1 + 1 + 1 := (by omega)
    have n7_4 : (w.heap.size + 1 = w7.heap.size) = False := (by simp only [eq_iff_iff, iff_false]; omega)
    have m7_4 : (w7.heap.size = w.heap.size + 1) = False := (by simp only [eq_iff_iff, iff_false]; omega)
    have l7_4 : w.heap.size + 1 < w7.heap.size := (by omega)
    have n7_5 : (w6.heap.size = w7.heap.size) = False := (by simp only [eq_iff_iff, iff_false]; omega)
    have m7_5 : (w7.heap.size = w6.heap.size) = False := (by simp only [eq_iff_iff, iff_false]; omega)
    have l7_5 : w6.heap.size < w7.heap.size := (by omega)
    have n7_6 : (w6.heap.size = w7.heap.size + 1) = False := (by simp only [eq_iff_iff, iff_false]; omega)
    have m7_6 : (w7.heap.size + 1 = w6.heap.size) = False := (by simp only [eq_iff_iff, iff_false]; omega)
    have l7_6 : w6.heap.size < w7.heap.size + 1 := (by omega)
    have n7_7 : (w6.heap.size = w7.heap.size + 1 + 1) = False := (by simp only [eq_iff_iff, iff_false]; omega)
    have m7_7 : (w7.heap.size + 1 + 1 = w6.heap.size) = False := (by simp only [eq_iff_iff, iff_false]; omega)
    have l7_7 : w6.heap.size < w7.heap.size + 1 + 1 := (by omega)
    have n7_8 : (w6.heap.size + 1 = w7.heap.size) = False := (by simp only [eq_iff_iff, iff_false]; omega)
    have m7_8 : (w7.heap.size = w6.heap.size + 1) = False := (by simp only [eq_iff_iff, iff_false]; omega)
    have l7_8 : w6.heap.size + 1 < w7.heap.size := (by omega)
    go_wp2_with fail
    refine (i7 _).mono ?_
    rintro e w8 ⟨rfl, hb8⟩
    have r8_0 : Box w8 (w.heap.size) #[.int .u64 (L (x) 0), .int .u64 (L (x) 1), .int .u64 (L (x) 2), .int .u64 (L (x) 3)] 24 := (((r7_0).alloc _).alloc _).call hb8
    have r8_1 : Box w8 (w.heap.size + 1) #[.int .u64 (L (y) 0), .int .u64 (L (y) 1), .int .u64 (L (y) 2), .int .u64 (L (y) 3)] 24 := (((r7_1).alloc _).alloc _).call hb8
    have r8_10 : Box w8 (w6.heap.size + 1) #[.int .u64 (L (l) 0), .int .u64 (L (l) 1), .int .u64 (L (l) 2), .int .u64 (L (l) 3)] 24 := (((r7_10).alloc _).alloc _).call hb8
    have r8_11 : Box w8 (w7.heap.size) #[.int .u64 (L (hi) 0), .int .u64 (L (hi) 1), .int .u64 (L (hi) 2), .int .u64 (L (hi) 3)] 24 := ((Box.new _ _ _ _ (by simp)).alloc _).call hb8
    have b8 : Bl w w8 := Bl.trans (((b7).alloc _).alloc _) hb8
    have z8 : w7.heap.size + 1 + 1 ≤ w8.heap.size := (by have := hb8.size; (try simp only [World.alloc, World.setCell, World.drew, Array.size_push, Array.size_modify] at this); omega)
    have y8 : w.heap.size ≤ w8.heap.size := b8.size
    clear r7_0 r7_0_c r7_0_f r7_0_l r7_1 r7_1_c r7_1_f r7_1_l r7_10 r7_10_c r7_10_f r7_10_l hb8 b7
    obtain ⟨r8_0_c, r8_0_f, r8_0_l⟩ := r8_0.tell
    obtain ⟨r8_1_c, r8_1_f, r8_1_l⟩ := r8_1.tell
    obtain ⟨r8_10_c, r8_10_f, r8_10_l⟩ := r8_10.tell
    obtain ⟨r8_11_c, r8_11_f, r8_11_l⟩ := r8_11.tell
    have n8_0 : (w.heap.size = w8.heap.size) = False := (by simp only [eq_iff_iff, iff_false]; omega)
    have m8_0 : (w8.heap.size = w.heap.size) = False := (by simp only [eq_iff_iff, iff_false]; omega)
    have l8_0 : w.heap.size < w8.heap.size := (by omega)
    have n8_1 : (w.heap.size = w8.heap.size + 1) = False := (by simp only [eq_iff_iff, iff_false]; omega)
    have m8_1 : (w8.heap.size + 1 = w.heap.size) = False := (by simp only [eq_iff_iff, iff_false]; omega)
    have l8_1 : w.heap.size < w8.heap.size + 1 := (by omega)
    have n8_2 : (w.heap.size = w8.heap.size + 1 + 1) = False := (by simp only [eq_iff_iff, iff_false]; omega)
    have m8_2 : (w8.heap.size + 1 + 1 = w.heap.size) = False := (by simp only [eq_iff_iff, iff_false]; omega)
    have l8_2 : w.heap.size < w8.heap.size + 1 + 1 := (by omega)
    have n8_3 : (w.heap.size + 1 = w8.heap.size) = False := (by simp only [eq_iff_iff, iff_false]; omega)
    have m8_3 : (w8.heap.size = w.heap.size + 1) = False := (by simp only [eq_iff_iff, iff_false]; omega)
    have l8_3 : w.heap.size + 1 < w8.heap.size := (by omega)
    have n8_4 : (w6.heap.size = w8.heap.size) = False := (by simp only [eq_iff_iff, iff_false]; omega)
    have m8_4 : (w8.heap.size = w6.heap.size) = False := (by simp only [eq_iff_iff, iff_false]; omega)
    have l8_4 : w6.heap.size < w8.heap.size := (by omega)
    have n8_5 : (w6.heap.size = w8.heap.size + 1) = False := (by simp only [eq_iff_iff, iff_false]; omega)
    have m8_5 : (w8.heap.size + 1 = w6.heap.size) = False := (by simp only [eq_iff_iff, iff_false]; omega)
    have l8_5 : w6.heap.size < w8.heap.size + 1 := (by omega)
    have n8_6 : (w6.heap.size + 1 = w8.heap.size) = False := (by simp only [eq_iff_iff, iff_false]; omega)
    have m8_6 : (w8.heap.size = w6.heap.size + 1) = False := (by simp only [eq_iff_iff, iff_false]; omega)
    have l8_6 : w6.heap.size + 1 < w8.heap.size := (by omega)
    have n8_7 : (w7.heap.size = w8.heap.size) = False := (by simp only [eq_iff_iff, iff_false]; omega)
    have m8_7 : (w8.heap.size = w7.heap.size) = False := (by simp only [eq_iff_iff, iff_false]; omega)
    have l8_7 : w7.heap.size < w8.heap.size := (by omega)
    have n8_8 : (w7.heap.size = w8.heap.size + 1) = False := (by simp only [eq_iff_iff, iff_false]; omega)
    have m8_8 : (w8.heap.size + 1 = w7.heap.size) = False := (by simp only [eq_iff_iff, iff_false]; omega)
    have l8_8 : w7.heap.size < w8.heap.size + 1 := (by omega)
    have n8_9 : (w7.heap.size = w8.heap.size + 1 + 1) = False := (by simp only [eq_iff_iff, iff_false]; omega)
    have m8_9 : (w8.heap.size + 1 + 1 = w7.heap.size) = False := (by simp only [eq_iff_iff, iff_false]; omega)
    have l8_9 : w7.heap.size < w8.heap.size + 1 + 1 := (by omega)
    go_wp2_with fail
    go_region_with (first | (go_at_call 40; refine (f1 _).mono ?_; rintro e w9 ⟨rfl, hb9⟩; have r9_0 : Box w9 (w.heap.size) #[.int .u64 (L (x) 0), .int .u64 (L (x) 1), .int .u64 (L (x) 2), .int .u64 (L (x) 3)] 24 := (((r8_0).alloc _).drew).call hb9; have r9_1 : Box w9 (w.heap.size + 1) #[.int .u64 (L (y) 0), .int .u64 (L (y) 1), .int .u64 (L (y) 2), .int .u64 (L (y) 3)] 24 := (((r8_1).alloc _).drew).call hb9; have r9_10 : Box w9 (w6.heap.size + 1) #[.int .u64 (L (l) 0), .int .u64 (L (l) 1), .int .u64 (L (l) 2), .int .u64 (L (l) 3)] 24 := (((r8_10).alloc _).drew).call hb9; have r9_11 : Box w9 (w7.heap.size) #[.int .u64 (L (hi) 0), .int .u64 (L (hi) 1), .int .u64 (L (hi) 2), .int .u64 (L (hi) 3)] 24 := (((r8_11).alloc _).drew).call hb9; have r9_13 : Box w9 (w8.heap.size) #[.int .u64 (L (ma) 0), .int .u64 (L (ma) 1), .int .u64 (L (ma) 2), .int .u64 (L (ma) 3)] 24 := ((Box.new _ _ _ _ (by simp)).drew).call hb9; have b9 : Bl w w9 := Bl.trans (((b8).alloc _).drew) hb9; have z9 : w8.heap.size + 1 ≤ w9.heap.size := (by have := hb9.size; (try simp only [World.alloc, World.setCell, World.drew, Array.size_push, Array.size_modify] at this); omega); have y9 : w.heap.size ≤ w9.heap.size := b9.size; clear r8_0 r8_0_c r8_0_f r8_0_l r8_1 r8_1_c r8_1_f r8_1_l r8_10 r8_10_c r8_10_f r8_10_l r8_11 r8_11_c r8_11_f r8_11_l hb9 b8; obtain ⟨r9_0_c, r9_0_f, r9_0_l⟩ := r9_0.tell; obtain ⟨r9_1_c, r9_1_f, r9_1_l⟩ := r9_1.tell; obtain ⟨r9_10_c, r9_10_f, r9_10_l⟩ := r9_10.tell; obtain ⟨r9_11_c, r9_11_f, r9_11_l⟩ := r9_11.tell; obtain ⟨r9_13_c, r9_13_f, r9_13_l⟩ := r9_13.tell; skip) | (go_at_call 44; refine (i8 _).mono ?_; rintro e w10 ⟨rfl, hb10⟩; have r10_0 : Box w10 (w.heap.size) #[.int .u64 (L (x) 0), .int .u64 (L (x) 1), .int .u64 (L (x) 2), .int .u64 (L (x) 3)] 24 := (r9_0).call hb10; have r10_1 : Box w10 (w.heap.size + 1) #[.int .u64 (L (y) 0), .int .u64 (L (y) 1), .int .u64 (L (y) 2), .int .u64 (L (y) 3)] 24 := (r9_1).call hb10; have r10_10 : Box w10 (w6.heap.size + 1) #[.int .u64 (L (l) 0), .int .u64 (L (l) 1), .int .u64 (L (l) 2), .int .u64 (L (l) 3)] 24 := (r9_10).call hb10; have r10_11 : Box w10 (w7.heap.size) #[.int .u64 (L (hi) 0), .int .u64 (L (hi) 1), .int .u64 (L (hi) 2), .int .u64 (L (hi) 3)] 24 := (r9_11).call hb10; have r10_13 : Box w10 (w8.heap.size) #[.int .u64 (L (ma) 0), .int .u64 (L (ma) 1), .int .u64 (L (ma) 2), .int .u64 (L (ma) 3)] 24 := (r9_13).call hb10; have b10 : Bl w w10 := Bl.trans (b9) hb10; have z10 : w9.heap.size ≤ w10.heap.size := (by have := hb10.size; (try simp only [World.alloc, World.setCell, World.drew, Array.size_push, Array.size_modify] at this); omega); have y10 : w.heap.size ≤ w10.heap.size := b10.size; clear r9_0 r9_0_c r9_0_f r9_0_l r9_1 r9_1_c r9_1_f r9_1_l r9_10 r9_10_c r9_10_f r9_10_l r9_11 r9_11_c r9_11_f r9_11_l r9_13 r9_13_c r9_13_f r9_13_l hb10 b9; obtain ⟨r10_0_c, r10_0_f, r10_0_l⟩ := r10_0.tell; obtain ⟨r10_1_c, r10_1_f, r10_1_l⟩ := r10_1.tell; obtain ⟨r10_10_c, r10_10_f, r10_10_l⟩ := r10_10.tell; obtain ⟨r10_11_c, r10_11_f, r10_11_l⟩ := r10_11.tell; obtain ⟨r10_13_c, r10_13_f, r10_13_l⟩ := r10_13.tell; skip))
    all_goals
      go_wp2_with fail
      refine (i9 _).mono ?_
      rintro e w11 ⟨rfl, hb11⟩
      have r11_0 : Box w11 (w.heap.size) #[.int .u64 (L (x) 0), .int .u64 (L (x) 1), .int .u64 (L (x) 2), .int .u64 (L (x) 3)] 24 := (((((r10_0).far _ _ (by simp only []; omega)).far _ _ (by simp only []; omega)).far _ _ (by simp only []; omega)).far _ _ (by simp only []; omega)).call hb11
      have r11_1 : Box w11 (w.heap.size + 1) #[.int .u64 (L (y) 0), .int .u64 (L (y) 1), .int .u64 (L (y) 2), .int .u64 (L (y) 3)] 24 := (((((r10_1).far _ _ (by simp only []; omega)).far _ _ (by simp only []; omega)).far _ _ (by simp only []; omega)).far _ _ (by simp only []; omega)).call hb11
      have r11_10 : Box w11 (w6.heap.size + 1) #[.int .u64 (L (l) 0), .int .u64 (L (l) 1), .int .u64 (L (l) 2), .int .u64 (L (l) 3)] 24 := (((((r10_10).far _ _ (by simp only []; omega)).far _ _ (by simp only []; omega)).far _ _ (by simp only []; omega)).far _ _ (by simp only []; omega)).call hb11
      have b11 : Bl w w11 := Bl.trans (((((b10).setCell (by simp only []; omega) _).setCell (by simp only []; omega) _).setCell (by simp only []; omega) _).setCell (by simp only []; omega) _) hb11
      have z11 : w10.heap.size ≤ w11.heap.size := (by have := hb11.size; (try simp only [World.alloc, World.setCell, World.drew, Array.size_push, Array.size_modify] at this); omega)
      have y11 : w.heap.size ≤ w11.heap.size := b11.size
      clear r10_0 r10_0_c r10_0_f r10_0_l r10_1 r10_1_c r10_1_f r10_1_l r10_10 r10_10_c r10_10_f r10_10_l r10_11 r10_11_c r10_11_f r10_11_l r10_13 r10_13_c r10_13_f r10_13_l hb11 b10
      obtain ⟨r11_0_c, r11_0_f, r11_0_l⟩ := r11_0.tell
      obtain ⟨r11_1_c, r11_1_f, r11_1_l⟩ := r11_1.tell
      obtain ⟨r11_10_c, r11_10_f, r11_10_l⟩ := r11_10.tell
      have n11_0 : (w.heap.size = w11.heap.size) = False := (by simp only [eq_iff_iff, iff_false]; omega)
      have m11_0 : (w11.heap.size = w.heap.size) = False := (by simp only [eq_iff_iff, iff_false]; omega)
      have l11_0 : w.heap.size < w11.heap.size := (by omega)
      have n11_1 : (w.heap.size = w11.heap.size + 1) = False := (by simp only [eq_iff_iff, iff_false]; omega)
      have m11_1 : (w11.heap.size + 1 = w.heap.size) = False := (by simp only [eq_iff_iff, iff_false]; omega)
      have l11_1 : w.heap.size < w11.heap.size + 1 := (by omega)
      have n11_2 : (w.heap.size = w11.heap.size + 1 + 1) = False := (by simp only [eq_iff_iff, iff_false]; omega)
      have m11_2 : (w11.heap.size + 1 + 1 = w.heap.size) = False := (by simp only [eq_iff_iff, iff_false]; omega)
      have l11_2 : w.heap.size < w11.heap.size + 1 + 1 := (by omega)
      have n11_3 : (w.heap.size + 1 = w11.heap.size) = False := (by simp only [eq_iff_iff, iff_false]; omega)
      have m11_3 : (w11.heap.size = w.heap.size + 1) = False := (by simp only [eq_iff_iff, iff_false]; omega)
      have l11_3 : w.heap.size + 1 < w11.heap.size := (by omega)
      have n11_4 : (w6.heap.size = w11.heap.size) = False := (by simp only [eq_iff_iff, iff_false]; omega)
      have m11_4 : (w11.heap.size = w6.heap.size) = False := (by simp only [eq_iff_iff, iff_false]; omega)
      have l11_4 : w6.heap.size < w11.heap.size := (by omega)
      have n11_5 : (w6.heap.size = w11.heap.size + 1) = False := (by simp only [eq_iff_iff, iff_false]; omega)
      have m11_5 : (w11.heap.size + 1 = w6.heap.size) = False := (by simp only [eq_iff_iff, iff_false]; omega)
      have l11_5 : w6.heap.size < w11.heap.size + 1 := (by omega)
      have n11_6 : (w6.heap.size + 1 = w11.heap.size) = False := (by simp only [eq_iff_iff, iff_false]; omega)
      have m11_6 : (w11.heap.size = w6.heap.size + 1) = False := (by simp only [eq_iff_iff, iff_false]; omega)
      have l11_6 : w6.heap.size + 1 < w11.heap.size := (by omega)
      go_wp2_with fail
      refine (i10 _).mono ?_
      rintro e w12 ⟨rfl, hb12⟩
      have r12_0 : Box w12 (w.heap.size) #[.int .u64 (L (x) 0), .int .u64 (L (x) 1), .int .u64 (L (x) 2), .int .u64 (L (x) 3)] 24 := ((r11_0).alloc _).call hb12
      have r12_10 : Box w12 (w6.heap.size + 1) #[.int .u64 (L (l) 0), .int .u64 (L (l) 1), .int .u64 (L (l) 2), .int .u64 (L (l) 3)] 24 := ((r11_10).alloc _).call hb12
      have r12_14 : Box w12 (w11.heap.size) #[.int .u64 (L (l) 0), .int .u64 (L (l) 1), .int .u64 (L (l) 2), .int .u64 (L (l) 3)] 24 := (Box.new _ _ _ _ (by simp)).call hb12
      have b12 : Bl w w12 := Bl.trans ((b11).alloc _) hb12
      have z12 : w11.heap.size + 1 ≤ w12.heap.size := (by have := hb12.size; (try simp only [World.alloc, World.setCell, World.drew, Array.size_push, Array.size_modify] at this); omega)
      have y12 : w.heap.size ≤ w12.heap.size := b12.size
      clear r11_0 r11_0_c r11_0_f r11_0_l r11_1 r11_1_c r11_1_f r11_1_l r11_10 r11_10_c r11_10_f r11_10_l hb12 b11
      obtain ⟨r12_0_c, r12_0_f, r12_0_l⟩ := r12_0.tell
      obtain ⟨r12_10_c, r12_10_f, r12_10_l⟩ := r12_10.tell
      obtain ⟨r12_14_c, r12_14_f, r12_14_l⟩ := r12_14.tell
      have n12_0 : (w.heap.size = w12.heap.size) = False := (by simp only [eq_iff_iff, iff_false]; omega)
      have m12_0 : (w12.heap.size = w.heap.size) = False := (by simp only [eq_iff_iff, iff_false]; omega)
      have l12_0 : w.heap.size < w12.heap.size := (by omega)
      have n12_1 : (w.heap.size = w12.heap.size + 1) = False := (by simp only [eq_iff_iff, iff_false]; omega)
      have m12_1 : (w12.heap.size + 1 = w.heap.size) = False := (by simp only [eq_iff_iff, iff_false]; omega)
      have l12_1 : w.heap.size < w12.heap.size + 1 := (by omega)
      have n12_2 : (w.heap.size = w12.heap.size + 1 + 1) = False := (by simp only [eq_iff_iff, iff_false]; omega)
      have m12_2 : (w12.heap.size + 1 + 1 = w.heap.size) = False := (by simp only [eq_iff_iff, iff_false]; omega)
      have l12_2 : w.heap.size < w12.heap.size + 1 + 1 := (by omega)
      have n12_3 : (w11.heap.size = w12.heap.size) = False := (by simp only [eq_iff_iff, iff_false]; omega)
      have m12_3 : (w12.heap.size = w11.heap.size) = False := (by simp only [eq_iff_iff, iff_false]; omega)
      have l12_3 : w11.heap.size < w12.heap.size := (by omega)
      have n12_4 : (w11.heap.size = w12.heap.size + 1) = False := (by simp only [eq_iff_iff, iff_false]; omega)
      have m12_4 : (w12.heap.size + 1 = w11.heap.size) = False := (by simp only [eq_iff_iff, iff_false]; omega)
      have l12_4 : w11.heap.size < w12.heap.size + 1 := (by omega)
      have n12_5 : (w11.heap.size = w12.heap.size + 1 + 1) = False := (by simp only [eq_iff_iff, iff_false]; omega)
      have m12_5 : (w12.heap.size + 1 + 1 = w11.heap.size) = False := (by simp only [eq_iff_iff, iff_false]; omega)
      have l12_5 : w11.heap.size < w12.heap.size + 1 + 1 := (by omega)
      have n12_6 : (w6.heap.size = w12.heap.size) = False := (by simp only [eq_iff_iff, iff_false]; omega)
      have m12_6 : (w12.heap.size = w6.heap.size) = False := (by simp only [eq_iff_iff, iff_false]; omega)
      have l12_6 : w6.heap.size < w12.heap.size := (by omega)
      have n12_7 : (w6.heap.size = w12.heap.size + 1) = False := (by simp only [eq_iff_iff, iff_false]; omega)
      have m12_7 : (w12.heap.size + 1 = w6.heap.size) = False := (by simp only [eq_iff_iff, iff_false]; omega)
      have l12_7 : w6.heap.size < w12.heap.size + 1 := (by omega)
      have n12_8 : (w6.heap.size + 1 = w12.heap.size) = False := (by simp only [eq_iff_iff, iff_false]; omega)
      have m12_8 : (w12.heap.size = w6.heap.size + 1) = False := (by simp only [eq_iff_iff, iff_false]; omega)
      have l12_8 : w6.heap.size + 1 < w12.heap.size := (by omega)
      go_wp2_with fail
      refine bodyPost_ret (v := .bool true) (by simp only [results, Try.results9]; go_simp) rfl ⟨rfl, ?_⟩
      exact (b12).alloc _

set_option maxHeartbeats 1000000 in
set_option maxRecDepth 100000 in
theorem liftedU256Rests (os : Os) (started : os.Started) (H : Type) (enc : TypeId × Value → H) :
    ReturnsInHanded {} Try.checked os 9 .any (Rows.u256RestsSpec.pre6 enc Try.prog Try.f9 Rows.u256RestsRow.domain false) (Rows.u256RestsSpec.post enc Try.prog Try.f9 false true false false) := by
  refine returnsInHanded_of_change (C := Try.checked) own started (by kernel_rfl) Try.func9
    (ChangeSpec.witness6 (enc := enc) (C := Try.checked) false ⟨#[], #[.agg #[.int .u64 0, .int .u64 0, .int .u64 0, .int .u64 0], .agg #[.int .u64 0, .int .u64 0, .int .u64 0, .int .u64 0], .agg #[.int .u64 0, .int .u64 0, .int .u64 0, .int .u64 0]], []⟩ 8 (by kernel_rfl) (by kernel_rfl) (by kernel_rfl) (by kernel_rfl)) ?_
  intro W base args ds gs before hval0 hW hcnd _
  have hval : ∀ (j : Nat) t v, Try.f9.params[j]? = some t → args[j]? = some v → Value.okWide Try.prog W .any base t v := hval0
  have hW' := hW
  obtain ⟨p, q, hA0, hV, rfl, hfz, hnd⟩ := hW
  have hA : DataW.TrodAll enc Try.prog W 0 (fun _ => true) true Try.f9.params.toList args.toList ds p := hA0
  rw [Try.params9] at hA hval
  obtain ⟨v0, vs0, d0, ds0, p0, q0, hargs, rfl, rfl, h0, r0⟩ := trodAll_cons hA
  obtain ⟨v1, vs1, d1, ds1, p1, q1, rfl, rfl, rfl, h1, r1⟩ := trodAll_cons r0
  obtain ⟨v2, vs2, d2, ds2, p2, q2, rfl, rfl, rfl, h2, r2⟩ := trodAll_cons r1
  obtain ⟨rfl, rfl, rfl⟩ := trodAll_nil r2
  obtain rfl : args = #[v0, v1, v2] := by cases args; simp_all
  obtain ⟨rfl, rfl⟩ := trodVars_none hV
  have lt0 : ∀ x ∈ p0, x.block < W.heap.size := by obtain ⟨m, hm⟩ := h0; exact DataW.trod_lt m _ _ _ hm
  obtain ⟨a0, g0, rfl⟩ := open_U (hval 0 24 v0 rfl rfl) h0
  have lt1 : ∀ x ∈ p1, x.block < W.heap.size := by obtain ⟨m, hm⟩ := h1; exact DataW.trod_lt m _ _ _ hm
  obtain ⟨a1, g1, rfl⟩ := open_U (hval 1 24 v1 rfl rfl) h1
  have lt2 : ∀ x ∈ p2, x.block < W.heap.size := by obtain ⟨m, hm⟩ := h2; exact DataW.trod_lt m _ _ _ hm
  obtain ⟨a2, g2, rfl⟩ := open_U (hval 2 24 v2 rfl rfl) h2
  clear hA0 hval0
  refine (walkU256Rests a0 a1 a2 g0 g1 g2 W).mono fun e W' ⟨he, bel⟩ => ?_
  subst he
  exact ⟨_, rfl, _, _, _, [], _, [], hW', trodAll_mk1 (shut_bool Try.underlying4 _), (trodAll_cons_mk (Below.trod laidOut (by kernel_rfl) (of_decide_eq_true (by kernel_rfl)) h0 bel.out lt0) (trodAll_cons_mk (Below.trod laidOut (by kernel_rfl) (of_decide_eq_true (by kernel_rfl)) h1 bel.out lt1) (trodAll_cons_mk (Below.trod laidOut (by kernel_rfl) (of_decide_eq_true (by kernel_rfl)) h2 bel.out lt2) trodAll_mk0))), rfl, bel.out.frame _, fun h => by cases h⟩

theorem provedU256Rests : Rows.U256RestsSaid :=
  OpenClaim.holds_of_wide 9 Try.f9 rfl rfl rfl rfl rfl rfl rfl ⟨rfl, rfl, rfl, rfl, rfl⟩ rfl rfl rfl rfl rfl (by kernel_rfl) Try.func9 (by kernel_rfl)
    (of_decide_eq_true (by kernel_rfl)) (by unfold Func.isWrapper; first | (rw [if_pos (by decide +kernel)]; kernel_rfl) | (rw [if_neg (by decide +kernel)]; exact ⟨rfl, rfl⟩))
    (fun os started H enc _ => liftedU256Rests os started H enc)
end Go.Proofs.Ythgnmpjcbicdhaa
