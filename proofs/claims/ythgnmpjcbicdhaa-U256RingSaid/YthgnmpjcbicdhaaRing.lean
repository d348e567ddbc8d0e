/- The statement U256Ring, for every three numbers: no condition. -/
import Derived.Test.YthgnmpjcbicdhaaOver
import Derived.Test.YthgnmpjcbicdhaaRow
import Derived.Test.YthgnmpjcbicdhaaEqNo
set_option linter.unusedSimpArgs false
set_option linter.unusedVariables false
namespace Go.Proofs.Ythgnmpjcbicdhaa
open Go Go.ChangeShapes Go.WideShapes Go.ChangeAt Go.RowKit

set_option maxHeartbeats 2000000 in
set_option maxRecDepth 100000 in
theorem sum_c (x y : Nat) (hx : x < T256) (hy : y < T256) (w : World) :
    Calls Try.prog 41 #[U x, U y] w fun e w' => e = .returned (U ((x + y) % T256)) ∧ Bl w w' := by
  have hv := fun w => add_c x y hx hy w
  generalize (x + y) % T256 = s at *
  generalize (x + y) / T256 = c at *
  go_enter Try.func41, Try.ntmps41
  go_wp2_with fail
  refine (hv _).mono ?_
  rintro e w1 ⟨rfl, hb1⟩
  have r1_2 : Box w1 (w.heap.size + 1 + 1) #[.int .u64 0, .int .u64 0, .int .u64 0, .int .u64 0] 24 := (Box.new _ _ _ _ (by simp)).call hb1
  have b1 : Bl w w1 := Bl.trans ((((Bl.refl w).alloc _).alloc _).alloc _) hb1
  have z1 : w.heap.size + 1 + 1 + 1 ≤ w1.heap.size := (by have := hb1.size; (try simp only [World.alloc, World.setCell, World.drew, Array.size_push, Array.size_modify] at this); omega)
  have y1 : w.heap.size ≤ w1.heap.size := b1.size
  clear hb1
  obtain ⟨r1_2_c, r1_2_f, r1_2_l⟩ := r1_2.tell
  have n1_0 : (w.heap.size = w1.heap.size) = False := (by simp only [eq_iff_iff, iff_false]; omega)
  have m1_0 : (w1.heap.size = w.heap.size) = False := (by simp only [eq_iff_iff, iff_false]; omega)
  have l1_0 : w.heap.size < w1.heap.size := (by omega)
  have n1_1 : (w.heap.size + 1 = w1.heap.size) = False := (by simp only [eq_iff_iff, iff_false]; omega)
  have m1_1 : (w1.heap.size = w.heap.size + 1) = False := (by simp only [eq_iff_iff, iff_false]; omega)
  have l1_1 : w.heap.size + 1 < w1.heap.size := (by omega)
  have n1_2 : (w.heap.size + 1 + 1 = w1.heap.size) = False := (by simp only [eq_iff_iff, iff_false]; omega)
  have m1_2 : (w1.heap.size = w.heap.size + 1 + 1) = False := (by simp only [eq_iff_iff, iff_false]; omega)
  have l1_2 : w.heap.size + 1 + 1 < w1.heap.size := (by omega)
  go_wp2_with fail
  refine bodyPost_ret (v := U s) (by simp only [results, Try.results41]; go_simp) rfl ⟨rfl, ?_⟩
  exact (((((b1).setCell (by simp only []; omega) _).setCell (by simp only []; omega) _).setCell (by simp only []; omega) _).setCell (by simp only []; omega) _).alloc _

set_option maxHeartbeats 2000000 in
set_option maxRecDepth 100000 in
theorem low_c (x y : Nat) (hx : x < T256) (hy : y < T256) (w : World) :
    Calls Try.prog 42 #[U x, U y] w fun e w' => e = .returned (U (x * y % T256)) ∧ Bl w w' := by
  have hv := fun w => mul_c x y hx hy w
  generalize x * y % T256 = s at *
  generalize x * y / T256 = c at *
  go_enter Try.func42, Try.ntmps42
  go_wp2_with fail
  refine (hv _).mono ?_
  rintro e w1 ⟨rfl, hb1⟩
  have r1_2 : Box w1 (w.heap.size + 1 + 1) #[.int .u64 0, .int .u64 0, .int .u64 0, .int .u64 0] 24 := (Box.new _ _ _ _ (by simp)).call hb1
  have b1 : Bl w w1 := Bl.trans ((((Bl.refl w).alloc _).alloc _).alloc _) hb1
  have z1 : w.heap.size + 1 + 1 + 1 ≤ w1.heap.size := (by have := hb1.size; (try simp only [World.alloc, World.setCell, World.drew, Array.size_push, Array.size_modify] at this); omega)
  have y1 : w.heap.size ≤ w1.heap.size := b1.size
  clear hb1
  obtain ⟨r1_2_c, r1_2_f, r1_2_l⟩ := r1_2.tell
  have n1_0 : (w.heap.size = w1.heap.size) = False := (by simp only [eq_iff_iff, iff_false]; omega)
  have m1_0 : (w1.heap.size = w.heap.size) = False := (by simp only [eq_iff_iff, iff_false]; omega)
  have l1_0 : w.heap.size < w1.heap.size := (by omega)
  have n1_1 : (w.heap.size = w1.heap.size + 1) = False := (by simp only [eq_iff_iff, iff_false]; omega)
  have m1_1 : (w1.heap.size + 1 = w.heap.size) = False := (by simp only [eq_iff_iff, iff_false]; omega)
  have l1_1 : w.heap.size < w1.heap.size + 1 := (by omega)
  have n1_2 : (w.heap.size + 1 = w1.heap.size) = False := (by simp only [eq_iff_iff, iff_false]; omega)
  have m1_2 : (w1.heap.size = w.heap.size + 1) = False := (by simp only [eq_iff_iff, iff_false]; omega)
  have l1_2 : w.heap.size + 1 < w1.heap.size := (by omega)
  have n1_3 : (w.heap.size + 1 + 1 = w1.heap.size) = False := (by simp only [eq_iff_iff, iff_false]; omega)
  have m1_3 : (w1.heap.size = w.heap.size + 1 + 1) = False := (by simp only [eq_iff_iff, iff_false]; omega)
  have l1_3 : w.heap.size + 1 + 1 < w1.heap.size := (by omega)
  go_wp2_with fail
  refine bodyPost_ret (v := U s) (by simp only [results, Try.results42]; go_simp) rfl ⟨rfl, ?_⟩
  exact ((((((b1).setCell (by simp only []; omega) _).setCell (by simp only []; omega) _).setCell (by simp only []; omega) _).setCell (by simp only []; omega) _).alloc _).alloc _

theorem mod_eq (a b : Nat) (h : a = b) : a % T256 = b % T256 := by rw [h]
set_option maxHeartbeats 4000000 in
set_option maxRecDepth 100000 in
theorem walkU256Ring (x y z : Nat) (hx : x < T256) (hy : y < T256) (hz : z < T256) (w : World) :
    Calls Try.prog 5 #[U x, U y, U z] w fun e w' => e = .returned (.bool true) ∧ Bl w w' := by
  have hg := guardU
  have qs := fun n w => run_eq_self n w
  obtain ⟨xy, hxy⟩ : ∃ v, v = (x + y) % T256 := ⟨_, rfl⟩
  obtain ⟨yz, hyz⟩ : ∃ v, v = (y + z) % T256 := ⟨_, rfl⟩
  obtain ⟨pxy, hpxy⟩ : ∃ v, v = x * y % T256 := ⟨_, rfl⟩
  obtain ⟨pyz, hpyz⟩ : ∃ v, v = y * z % T256 := ⟨_, rfl⟩
  obtain ⟨pxz, hpxz⟩ : ∃ v, v = x * z % T256 := ⟨_, rfl⟩
  obtain ⟨a3, ha3⟩ : ∃ v, v = (xy + z) % T256 := ⟨_, rfl⟩
  obtain ⟨m3, hm3⟩ : ∃ v, v = pxy * z % T256 := ⟨_, rfl⟩
  obtain ⟨d3, hd3⟩ : ∃ v, v = x * yz % T256 := ⟨_, rfl⟩
  obtain ⟨d, hd⟩ : ∃ v, v = (x + T256 - y) % T256 := ⟨_, rfl⟩
  obtain ⟨bw, hbw⟩ : ∃ v : Nat, v = if x < y then 1 else 0 := ⟨_, rfl⟩
  obtain ⟨hi, hhi⟩ : ∃ v, v = x * y / T256 := ⟨_, rfl⟩
  have lxy : xy < T256 := by rw [hxy]; exact mod_lt256 _
  have lyz : yz < T256 := by rw [hyz]; exact mod_lt256 _
  have lpxy : pxy < T256 := by rw [hpxy]; exact mod_lt256 _
  have lpyz : pyz < T256 := by rw [hpyz]; exact mod_lt256 _
  have lpxz : pxz < T256 := by rw [hpxz]; exact mod_lt256 _
  have ld : d < T256 := by rw [hd]; exact mod_lt256 _
  have lhi : hi < T256 := by rw [hhi]; exact mul_hi_lt hx hy
  have l1 : 1 < T256 := by rw [T256_eq]; omega
  have f1 := fun w => from_c 1 (by omega) w
  have f0 := fun w => from_c 0 (by omega) w
  have sm1 := fun w => sum_c x y hx hy w
  have sm2 := fun w => sum_c y x hy hx w
  have sm3 := fun w => sum_c xy z lxy hz w
  have sm4 := fun w => sum_c y z hy hz w
  have sm5 := fun w => sum_c x yz hx lyz w
  have sm6 := fun w => sum_c pxy pxz lpxy lpxz w
  have sm7 := fun w => sum_c x 0 hx T256_pos w
  have p1 := fun w => low_c x y hx hy w
  have p2 := fun w => low_c y x hy hx w
  have p3 := fun w => low_c pxy z lpxy hz w
  have p4 := fun w => low_c y z hy hz w
  have p5 := fun w => low_c x pyz hx lpyz w
  have p6 := fun w => low_c x yz hx lyz w
  have p7 := fun w => low_c x z hx hz w
  have p8 := fun w => low_c x 1 hx l1 w
  have p9 := fun w => low_c x 0 hx T256_pos w
  have u1 := fun w => sub_c x y hx hy w
  have u2 := fun w => add_c d y ld hy w
  have u3 := fun w => cmp_c x y hx hy w
  have u4 := fun w => mul_c x y hx hy w
  rw [← hxy] at sm1
  rw [Nat.add_comm y x, ← hxy] at sm2
  rw [← ha3] at sm3
  rw [← hyz] at sm4
  have e5 : (x + yz) % T256 = a3 := by rw [ha3, hyz, hxy, Nat.add_mod_mod, Nat.mod_add_mod, Nat.add_assoc]
  rw [e5] at sm5
  have e6 : (pxy + pxz) % T256 = d3 := by rw [hd3, hpxy, hpxz, hyz, ← Nat.add_mod, ← Nat.mul_add, Nat.mul_mod_mod]
  rw [e6] at sm6
  rw [Nat.add_zero, Nat.mod_eq_of_lt hx] at sm7
  rw [← hpxy] at p1
  rw [Nat.mul_comm y x, ← hpxy] at p2
  rw [← hm3] at p3
  rw [← hpyz] at p4
  have e7 : x * pyz % T256 = m3 := by rw [hm3, hpyz, hpxy, Nat.mul_mod_mod, Nat.mod_mul_mod, Nat.mul_assoc]
  rw [e7] at p5
  rw [← hd3] at p6
  rw [← hpxz] at p7
  rw [Nat.mul_one, Nat.mod_eq_of_lt hx] at p8
  rw [Nat.mul_zero, Nat.zero_mod] at p9
  rw [← hd, ← hbw] at u1
  have e8 : (d + y) % T256 = x := by rw [hd, Nat.mod_add_mod, show x + T256 - y + y = x + T256 by omega, Nat.add_mod_right, Nat.mod_eq_of_lt hx]
  have e9 : (d + y) / T256 = bw := by
    rw [hbw, hd, T256_eq] at *
    split <;> omega
  rw [e8, e9] at u2
  rw [← hhi, ← hpxy] at u4
  obtain ⟨cv, hcv⟩ : ∃ c, c = cmpI x y := ⟨_, rfl⟩
  rw [← hcv] at u3
  obtain ⟨bb, hbb⟩ : ∃ b, b = decide (x < y) := ⟨_, rfl⟩
  have gg1 : ((bw : Int) == 1) = bb := by rw [hbb, hbw]; by_cases h : x < y <;> simp [h]
  have gg2 : decide (cv < 0) = bb := by rw [hbb, hcv]; unfold cmpI; by_cases h : x < y <;> simp [h] <;> split <;> decide
  have gg3 : decide ((1 : Int) < bw) = false := by rw [hbw]; split <;> decide
  have gg4 : decide (1 < bw) = false := by rw [hbw]; split <;> decide
  have hprod : x * y = hi * T256 + pxy := by rw [hhi, hpxy, Nat.mul_comm (x * y / T256)]; exact (Nat.div_add_mod _ _).symm
  have hcase : ((∀ w, (Op.equalIn 10000 24 (U hi) (U 0)).run Try.prog w = .ok true w) ∧ (∀ w, (Op.equalIn 10000 24 (U pxy) (U 0)).run Try.prog w = .ok true w) ∧ (∀ w, (Op.equalIn 10000 24 (U x) (U 0)).run Try.prog w = .ok true w)) ∨
      ((∀ w, (Op.equalIn 10000 24 (U hi) (U 0)).run Try.prog w = .ok true w) ∧ (∀ w, (Op.equalIn 10000 24 (U pxy) (U 0)).run Try.prog w = .ok true w) ∧ (∀ w, (Op.equalIn 10000 24 (U x) (U 0)).run Try.prog w = .ok false w) ∧ (∀ w, (Op.equalIn 10000 24 (U y) (U 0)).run Try.prog w = .ok true w)) ∨
      ((∀ w, (Op.equalIn 10000 24 (U hi) (U 0)).run Try.prog w = .ok false w) ∧ (∀ w, (Op.equalIn 10000 24 (U x) (U 0)).run Try.prog w = .ok false w) ∧ (∀ w, (Op.equalIn 10000 24 (U y) (U 0)).run Try.prog w = .ok false w)) ∨
      ((∀ w, (Op.equalIn 10000 24 (U hi) (U 0)).run Try.prog w = .ok true w) ∧ (∀ w, (Op.equalIn 10000 24 (U pxy) (U 0)).run Try.prog w = .ok false w) ∧ (∀ w, (Op.equalIn 10000 24 (U x) (U 0)).run Try.prog w = .ok false w) ∧ (∀ w, (Op.equalIn 10000 24 (U y) (U 0)).run Try.prog w = .ok false w)) := by
    have q := fun (n : Nat) (hn : n < T256) (w : World) => run_eq_U hn T256_pos w
    have T0 := T256_pos
    by_cases h1 : x = 0
    · subst h1
      have h2 : hi = 0 := by rw [hhi]; simp
      have h3 : pxy = 0 := by rw [hpxy]; simp
      subst h2 h3
      exact .inl ⟨qs 0, qs 0, qs 0⟩
    · by_cases h2 : y = 0
      · subst h2
        have h2 : hi = 0 := by rw [hhi]; simp
        have h3 : pxy = 0 := by rw [hpxy]; simp
        subst h2 h3
        exact .inr (.inl ⟨qs 0, qs 0, run_eq_no hx T256_pos h1, qs 0⟩)
      · by_cases h3 : hi = 0
        · have h4 : pxy ≠ 0 := by
            intro h4
            rw [h3, h4, Nat.zero_mul] at hprod
            rcases Nat.mul_eq_zero.1 hprod with h | h
            · exact h1 h
            · exact h2 h
          subst h3
          exact .inr (.inr (.inr ⟨qs 0, run_eq_no lpxy T256_pos h4, run_eq_no hx T256_pos h1, run_eq_no hy T256_pos h2⟩))
        · exact .inr (.inr (.inl ⟨run_eq_no lhi T256_pos h3, run_eq_no hx T256_pos h1, run_eq_no hy T256_pos h2⟩))
  have HC := Lib.hid hcase
  have L1 := Lib.hid l1
  clear hcase hprod hbb hcv e5 e6 e7 e8 e9 lxy lyz lpxy lpyz lpxz ld lhi l1 hxy hyz hpxy hpyz hpxz ha3 hm3 hd3 hd hbw hhi hx hy hz
  go_enter Try.func5, Try.ntmps5
  go_wp2_with fail
  refine (f1 _).mono ?_
  rintro e w1 ⟨rfl, hb1⟩
  have r1_0 : Box w1 (w.heap.size) #[.int .u64 (L (x) 0), .int .u64 (L (x) 1), .int .u64 (L (x) 2), .int .u64 (L (x) 3)] 24 := (((Box.new _ _ _ _ (by simp)).alloc _).alloc _).call hb1
  have r1_1 : Box w1 (w.heap.size + 1) #[.int .u64 (L (y) 0), .int .u64 (L (y) 1), .int .u64 (L (y) 2), .int .u64 (L (y) 3)] 24 := ((Box.new _ _ _ _ (by simp)).alloc _).call hb1
  have r1_2 : Box w1 (w.heap.size + 1 + 1) #[.int .u64 (L (z) 0), .int .u64 (L (z) 1), .int .u64 (L (z) 2), .int .u64 (L (z) 3)] 24 := (Box.new _ _ _ _ (by simp)).call hb1
  have b1 : Bl w w1 := Bl.trans ((((Bl.refl w).alloc _).alloc _).alloc _) hb1
  have z1 : w.heap.size + 1 + 1 + 1 ≤ w1.heap.size := (by have := hb1.size; (try simp only [World.alloc, World.setCell, World.drew, Array.size_push, Array.size_modify] at this); omega)
  have y1 : w.heap.size ≤ w1.heap.size := b1.size
  clear hb1
  obtain ⟨r1_0_c, r1_0_f, r1_0_l⟩ := r1_0.tell
  obtain ⟨r1_1_c, r1_1_f, r1_1_l⟩ := r1_1.tell
  obtain ⟨r1_2_c, r1_2_f, r1_2_l⟩ := r1_2.tell
  have n1_0 : (w.heap.size = w1.heap.size) = False := (by simp only [eq_iff_iff, iff_false]; omega)
  have m1_0 : (w1.heap.size = w.heap.size) = False := (by simp only [eq_iff_iff, iff_false]; omega)
  have l1_0 : w.heap.size < w1.heap.size := (by omega)
  have n1_1 : (w.heap.size = w1.heap.size + 1) = False := (by simp only [eq_iff_iff, iff_false]; omega)
  have m1_1 : (w1.heap.size + 1 = w.heap.size) = False := (by simp only [eq_iff_iff, iff_false]; omega)
  have l1_1 : w.heap.size < w1.heap.size + 1 := (by omega)
  have n1_2 : (w.heap.size = w1.heap.size + 1 + 1) = False := (by simp only [eq_iff_iff, iff_false]; omega)
  have m1_2 : (w1.heap.size + 1 + 1 = w.heap.size) = False := (by simp only [eq_iff_iff, iff_false]; omega)
  have l1_2 : w.heap.size < w1.heap.size + 1 + 1 := (by omega)
  have n1_3 : (w.heap.size + 1 = w1.heap.size) = False := (by simp only [eq_iff_iff, iff_false]; omega)
  have m1_3 : (w1.heap.size = w.heap.size + 1) = False := (by simp only [eq_iff_iff, iff_false]; omega)
  have l1_3 : w.heap.size + 1 < w1.heap.size := (by omega)
  have n1_4 : (w.heap.size + 1 + 1 = w1.heap.size) = False := (by simp only [eq_iff_iff, iff_false]; omega)
  have m1_4 : (w1.heap.size = w.heap.size + 1 + 1) = False := (by simp only [eq_iff_iff, iff_false]; omega)
  have l1_4 : w.heap.size + 1 + 1 < w1.heap.size := (by omega)
  go_wp2_with fail
  refine (f0 _).mono ?_
  rintro e w2 ⟨rfl, hb2⟩
  have r2_0 : Box w2 (w.heap.size) #[.int .u64 (L (x) 0), .int .u64 (L (x) 1), .int .u64 (L (x) 2), .int .u64 (L (x) 3)] 24 := ((r1_0).alloc _).call hb2
  have r2_1 : Box w2 (w.heap.size + 1) #[.int .u64 (L (y) 0), .int .u64 (L (y) 1), .int .u64 (L (y) 2), .int .u64 (L (y) 3)] 24 := ((r1_1).alloc _).call hb2
  have r2_2 : Box w2 (w.heap.size + 1 + 1) #[.int .u64 (L (z) 0), .int .u64 (L (z) 1), .int .u64 (L (z) 2), .int .u64 (L (z) 3)] 24 := ((r1_2).alloc _).call hb2
  have r2_3 : Box w2 (w1.heap.size) #[.int .u64 (L (1) 0), .int .u64 (L (1) 1), .int .u64 (L (1) 2), .int .u64 (L (1) 3)] 24 := (Box.new _ _ _ _ (by simp)).call hb2
  have b2 : Bl w w2 := Bl.trans ((b1).alloc _) hb2
  have z2 : w1.heap.size + 1 ≤ w2.heap.size := (by have := hb2.size; (try simp only [World.alloc, World.setCell, World.drew, Array.size_push, Array.size_modify] at this); omega)
  have y2 : w.heap.size ≤ w2.heap.size := b2.size
  clear r1_0 r1_0_c r1_0_f r1_0_l r1_1 r1_1_c r1_1_f r1_1_l r1_2 r1_2_c r1_2_f r1_2_l hb2 b1
  obtain ⟨r2_0_c, r2_0_f, r2_0_l⟩ := r2_0.tell
  obtain ⟨r2_1_c, r2_1_f, r2_1_l⟩ := r2_1.tell
  obtain ⟨r2_2_c, r2_2_f, r2_2_l⟩ := r2_2.tell
  obtain ⟨r2_3_c, r2_3_f, r2_3_l⟩ := r2_3.tell
  have n2_0 : (w.heap.size = w2.heap.size) = False := (by simp only [eq_iff_iff, iff_false]; omega)
  have m2_0 : (w2.heap.size = w.heap.size) = False := (by simp only [eq_iff_iff, iff_false]; omega)
  have l2_0 : w.heap.size < w2.heap.size := (by omega)
  have n2_1 : (w.heap.size = w2.heap.size + 1) = False := (by simp only [eq_iff_iff, iff_false]; omega)
  have m2_1 : (w2.heap.size + 1 = w.heap.size) = False := (by simp only [eq_iff_iff, iff_false]; omega)
  have l2_1 : w.heap.size < w2.heap.size + 1 := (by omega)
  have n2_2 : (w.heap.size = w2.heap.size + 1 + 1) = False := (by simp only [eq_iff_iff, iff_false]; omega)
  have m2_2 : (w2.heap.size + 1 + 1 = w.heap.size) = False := (by simp only [eq_iff_iff, iff_false]; omega)
  have l2_2 : w.heap.size < w2.heap.size + 1 + 1 := (by omega)
  have n2_3 : (w.heap.size + 1 = w2.heap.size) = False := (by simp only [eq_iff_iff, iff_false]; omega)
  have m2_3 : (w2.heap.size = w.heap.size + 1) = False := (by simp only [eq_iff_iff, iff_false]; omega)
  have l2_3 : w.heap.size + 1 < w2.heap.size := (by omega)
  have n2_4 : (w.heap.size + 1 + 1 = w2.heap.size) = False := (by simp only [eq_iff_iff, iff_false]; omega)
  have m2_4 : (w2.heap.size = w.heap.size + 1 + 1) = False := (by simp only [eq_iff_iff, iff_false]; omega)
  have l2_4 : w.heap.size + 1 + 1 < w2.heap.size := (by omega)
  have n2_5 : (w1.heap.size = w2.heap.size) = False := (by simp only [eq_iff_iff, iff_false]; omega)
  have m2_5 : (w2.heap.size = w1.heap.size) = False := (by simp only [eq_iff_iff, iff_false]; omega)
  have l2_5 : w1.heap.size < w2.heap.size := (by omega)
  have n2_6 : (w1.heap.size = w2.heap.size + 1) = False := (by simp only [eq_iff_iff, iff_false]; omega)
  have m2_6 : (w2.heap.size + 1 = w1.heap.size) = False := (by simp only [eq_iff_iff, iff_false]; omega)
  have l2_6 : w1.heap.size < w2.heap.size + 1 := (by omega)
  have n2_7 : (w1.heap.size = w2.heap.size + 1 + 1) = False := (by simp only [eq_iff_iff, iff_false]; omega)
  have m2_7 : (w2.heap.size + 1 + 1 = w1.heap.size) = False := (by simp only [eq_iff_iff, iff_false]; omega)
  have l2_7 : w1.heap.size < w2.heap.size + 1 + 1 := (by omega)
  go_wp2_with fail
  obtain ⟨w3, hw3⟩ : ∃ V : World, V = (w2.alloc (.cells #[.int .u64 (L (0) 0), .int .u64 (L (0) 1), .int .u64 (L (0) 2), .int .u64 (L (0) 3)] 24)) := ⟨_, rfl⟩
  have r3_0 : Box w3 (w.heap.size) #[.int .u64 (L (x) 0), .int .u64 (L (x) 1), .int .u64 (L (x) 2), .int .u64 (L (x) 3)] 24 := by rw [hw3]; exact (r2_0).alloc _
  have r3_1 : Box w3 (w.heap.size + 1) #[.int .u64 (L (y) 0), .int .u64 (L (y) 1), .int .u64 (L (y) 2), .int .u64 (L (y) 3)] 24 := by rw [hw3]; exact (r2_1).alloc _
  have r3_2 : Box w3 (w.heap.size + 1 + 1) #[.int .u64 (L (z) 0), .int .u64 (L (z) 1), .int .u64 (L (z) 2), .int .u64 (L (z) 3)] 24 := by rw [hw3]; exact (r2_2).alloc _
  have r3_3 : Box w3 (w1.heap.size) #[.int .u64 (L (1) 0), .int .u64 (L (1) 1), .int .u64 (L (1) 2), .int .u64 (L (1) 3)] 24 := by rw [hw3]; exact (r2_3).alloc _
  have r3_4 : Box w3 (w2.heap.size) #[.int .u64 (L (0) 0), .int .u64 (L (0) 1), .int .u64 (L (0) 2), .int .u64 (L (0) 3)] 24 := by rw [hw3]; exact Box.new _ _ _ _ (by simp)
  have b3 : Bl w w3 := by rw [hw3]; exact (b2).alloc _
  have z3 : w2.heap.size + 1 ≤ w3.heap.size := (by rw [hw3]; simp only [World.alloc, World.setCell, World.drew, Array.size_push, Array.size_modify]; omega)
  have y3 : w.heap.size ≤ w3.heap.size := b3.size
  rw [← hw3]
  clear r2_0 r2_0_c r2_0_f r2_0_l r2_1 r2_1_c r2_1_f r2_1_l r2_2 r2_2_c r2_2_f r2_2_l r2_3 r2_3_c r2_3_f r2_3_l hw3 b2
  obtain ⟨r3_0_c, r3_0_f, r3_0_l⟩ := r3_0.tell
  obtain ⟨r3_1_c, r3_1_f, r3_1_l⟩ := r3_1.tell
  obtain ⟨r3_2_c, r3_2_f, r3_2_l⟩ := r3_2.tell
  obtain ⟨r3_3_c, r3_3_f, r3_3_l⟩ := r3_3.tell
  obtain ⟨r3_4_c, r3_4_f, r3_4_l⟩ := r3_4.tell
  clear f1 f0
  have hk3 : ∀ V : World, Bl w3 V → (∀ o, V.cell? ⟨w.heap.size, o, none⟩ = #[.int .u64 (L (x) 0), .int .u64 (L (x) 1), .int .u64 (L (x) 2), .int .u64 (L (x) 3)][o]?) ∧ (∀ o, V.cell? ⟨w.heap.size + 1, o, none⟩ = #[.int .u64 (L (y) 0), .int .u64 (L (y) 1), .int .u64 (L (y) 2), .int .u64 (L (y) 3)][o]?) ∧ (∀ o, V.cell? ⟨w.heap.size + 1 + 1, o, none⟩ = #[.int .u64 (L (z) 0), .int .u64 (L (z) 1), .int .u64 (L (z) 2), .int .u64 (L (z) 3)][o]?) ∧ Bl w3 V := fun V hb => ⟨(r3_0.call hb).cell, (r3_1.call hb).cell, (r3_2.call hb).cell, hb⟩
  have s3_0 := hk3 _ (Bl.refl w3).drew
  refine wp_region_noPanic ?_
  refine wp_region_held_drew (S := fun V : World => (∀ o, V.cell? ⟨w.heap.size, o, none⟩ = #[.int .u64 (L (x) 0), .int .u64 (L (x) 1), .int .u64 (L (x) 2), .int .u64 (L (x) 3)][o]?) ∧ (∀ o, V.cell? ⟨w.heap.size + 1, o, none⟩ = #[.int .u64 (L (y) 0), .int .u64 (L (y) 1), .int .u64 (L (y) 2), .int .u64 (L (y) 3)][o]?) ∧ (∀ o, V.cell? ⟨w.heap.size + 1 + 1, o, none⟩ = #[.int .u64 (L (z) 0), .int .u64 (L (z) 1), .int .u64 (L (z) 2), .int .u64 (L (z) 3)][o]?) ∧ Bl w3 V) (by kernel_rfl) ?_ (fun hHeld => ?_)
  · exact s3_0
  refine wpAnyH_take (i := 0) (oi := { dst := some 17 , op := Go.Op.load 24 ( Go.Operand.tmp 3 ) , type := 24 , pos := "outright.go:26" , after := #[ ] , guard := none }) (v := ?_) rfl (by kernel_rfl) (by kernel_rfl) (by kernel_rfl) (fun _ _ _ h => h) (Or.inl ⟨by rfl, ?_⟩) (by assumption) ?_
  rotate_left
  · intro w hSw; (try dsimp only at hSw); go_simp; first | done | with_reducible rfl
  (try simp only [Act.put, List.setIfInBounds_toArray, List.set_cons_zero, List.set_cons_succ])
  refine wpAnyH_take (i := 1) (oi := { dst := some 18 , op := Go.Op.load 24 ( Go.Operand.tmp 4 ) , type := 24 , pos := "outright.go:26" , after := #[ ] , guard := none }) (v := ?_) rfl (by kernel_rfl) (by kernel_rfl) (by kernel_rfl) (fun _ _ _ h => h) (Or.inl ⟨by rfl, ?_⟩) (by assumption) ?_
  rotate_left
  · intro w hSw; (try dsimp only at hSw); go_simp; first | done | with_reducible rfl
  (try simp only [Act.put, List.setIfInBounds_toArray, List.set_cons_zero, List.set_cons_succ])
  refine wpAnyH_take (i := 3) (oi := { dst := some 20 , op := Go.Op.load 24 ( Go.Operand.tmp 4 ) , type := 24 , pos := "outright.go:26" , after := #[ ] , guard := none }) (v := ?_) rfl (by kernel_rfl) (by kernel_rfl) (by kernel_rfl) (fun _ _ _ h => h) (Or.inl ⟨by rfl, ?_⟩) (by assumption) ?_
  rotate_left
  · intro w hSw; (try dsimp only at hSw); go_simp; first | done | with_reducible rfl
  (try simp only [Act.put, List.setIfInBounds_toArray, List.set_cons_zero, List.set_cons_succ])
  refine wpAnyH_take (i := 4) (oi := { dst := some 21 , op := Go.Op.load 24 ( Go.Operand.tmp 3 ) , type := 24 , pos := "outright.go:26" , after := #[ ] , guard := none }) (v := ?_) rfl (by kernel_rfl) (by kernel_rfl) (by kernel_rfl) (fun _ _ _ h => h) (Or.inl ⟨by rfl, ?_⟩) (by assumption) ?_
  rotate_left
  · intro w hSw; (try dsimp only at hSw); go_simp; first | done | with_reducible rfl
  (try simp only [Act.put, List.setIfInBounds_toArray, List.set_cons_zero, List.set_cons_succ])
  refine wpAnyH_ready (rs := [2]) (by kernel_rfl) (by simp) ?_
  refine AllReadyH.cons (o := { dst := some 19 , op := Go.Op.call { callee := Go.Callee.value ( Go.Operand.func 41 ) , args := #[ Go.Operand.tmp 17 , Go.Operand.tmp 18 ] , argTypes := #[ 24 , 24 ] } , type := 24 , pos := "outright.go:26" , after := #[ { on := 0 , ground := Go.Ground.data } , { on := 1 , ground := Go.Ground.data } ] , guard := none }) rfl (fun K hK => ?_) AllReadyH.nil
  go_simp
  refine (sm1 _).mono ?_
  rintro e w4 ⟨rfl, hb4⟩
  have g4 := (Bl.refl w3).drew.trans hb4
  have s4 := hk3 _ g4
  go_wp2_with fail
  refine hK.out _ _ ?_ (fun hHeld => ?_)
  · exact s4
  clear hK K
  (try simp only [Act.put, List.setIfInBounds_toArray, List.set_cons_zero, List.set_cons_succ])
  refine wpAnyH_ready (rs := [5]) (by kernel_rfl) (by simp) ?_
  refine AllReadyH.cons (o := { dst := some 22 , op := Go.Op.call { callee := Go.Callee.value ( Go.Operand.func 41 ) , args := #[ Go.Operand.tmp 20 , Go.Operand.tmp 21 ] , argTypes := #[ 24 , 24 ] } , type := 24 , pos := "outright.go:26" , after := #[ { on := 3 , ground := Go.Ground.data } , { on := 4 , ground := Go.Ground.data } , { on := 2 , ground := Go.Ground.chain } ] , guard := none }) rfl (fun K hK => ?_) AllReadyH.nil
  go_simp
  refine (sm2 _).mono ?_
  rintro e w5 ⟨rfl, hb5⟩
  have g5 := g4.trans hb5
  have s5 := hk3 _ g5
  go_wp2_with fail
  refine hK.out _ _ ?_ (fun hHeld => ?_)
  · exact s5
  clear hK K
  (try simp only [Act.put, List.setIfInBounds_toArray, List.set_cons_zero, List.set_cons_succ])
  refine wpAnyH_take (i := 6) (oi := { dst := some 23 , op := Go.Op.binOp Go.BinOp.neq 24 ( Go.Operand.tmp 19 ) ( Go.Operand.tmp 22 ) 24 , type := 4 , pos := "outright.go:26" , after := #[ { on := 2 , ground := Go.Ground.data } , { on := 5 , ground := Go.Ground.data } ] , guard := none }) (v := ?_) rfl (by kernel_rfl) (by kernel_rfl) (by kernel_rfl) (fun _ _ _ h => h) (Or.inl ⟨by rfl, ?_⟩) (by assumption) ?_
  rotate_left
  · intro w hSw; refine run_neq_U (xy) _ _ _ _ _ _ _ _ ?_ ?_ w <;> rfl
  (try simp only [Act.put, List.setIfInBounds_toArray, List.set_cons_zero, List.set_cons_succ])
  refine wpAnyH_take (i := 7) (oi := { dst := some 24 , op := Go.Op.move ( Go.Operand.tmp 23 ) , type := 4 , pos := "outright.go:26" , after := #[ { on := 6 , ground := Go.Ground.data } , { on := 5 , ground := Go.Ground.chain } ] , guard := none }) (v := ?_) rfl (by kernel_rfl) (by kernel_rfl) (by kernel_rfl) (fun _ _ _ h => h) (Or.inl ⟨by rfl, ?_⟩) (by assumption) ?_
  rotate_left
  · intro w hSw; (try dsimp only at hSw); go_simp; first | done | with_reducible rfl
  (try simp only [Act.put, List.setIfInBounds_toArray, List.set_cons_zero, List.set_cons_succ])
  refine wpAnyH_take (i := 8) (oi := { dst := some 25 , op := Go.Op.load 24 ( Go.Operand.tmp 3 ) , type := 24 , pos := "outright.go:26" , after := #[ { on := 7 , ground := Go.Ground.guard } ] , guard := some ( 7 , false ) }) (v := ?_) rfl (by kernel_rfl) (by kernel_rfl) (by kernel_rfl) (fun _ _ _ h => h) (Or.inl ⟨by rfl, ?_⟩) (by assumption) ?_
  rotate_left
  · intro w hSw; (try dsimp only at hSw); go_simp; first | done | with_reducible rfl
  (try simp only [Act.put, List.setIfInBounds_toArray, List.set_cons_zero, List.set_cons_succ])
  refine wpAnyH_take (i := 9) (oi := { dst := some 26 , op := Go.Op.load 24 ( Go.Operand.tmp 4 ) , type := 24 , pos := "outright.go:26" , after := #[ { on := 7 , ground := Go.Ground.guard } ] , guard := some ( 7 , false ) }) (v := ?_) rfl (by kernel_rfl) (by kernel_rfl) (by kernel_rfl) (fun _ _ _ h => h) (Or.inl ⟨by rfl, ?_⟩) (by assumption) ?_
  rotate_left
  · intro w hSw; (try dsimp only at hSw); go_simp; first | done | with_reducible rfl
  (try simp only [Act.put, List.setIfInBounds_toArray, List.set_cons_zero, List.set_cons_succ])
  refine wpAnyH_take (i := 11) (oi := { dst := some 28 , op := Go.Op.load 24 ( Go.Operand.tmp 4 ) , type := 24 , pos := "outright.go:26" , after := #[ { on := 7 , ground := Go.Ground.guard } ] , guard := some ( 7 , false ) }) (v := ?_) rfl (by kernel_rfl) (by kernel_rfl) (by kernel_rfl) (fun _ _ _ h => h) (Or.inl ⟨by rfl, ?_⟩) (by assumption) ?_
  rotate_left
  · intro w hSw; (try dsimp only at hSw); go_simp; first | done | with_reducible rfl
  (try simp only [Act.put, List.setIfInBounds_toArray, List.set_cons_zero, List.set_cons_succ])
  refine wpAnyH_take (i := 12) (oi := { dst := some 29 , op := Go.Op.load 24 ( Go.Operand.tmp 3 ) , type := 24 , pos := "outright.go:26" , after := #[ { on := 7 , ground := Go.Ground.guard } ] , guard := some ( 7 , false ) }) (v := ?_) rfl (by kernel_rfl) (by kernel_rfl) (by kernel_rfl) (fun _ _ _ h => h) (Or.inl ⟨by rfl, ?_⟩) (by assumption) ?_
  rotate_left
  · intro w hSw; (try dsimp only at hSw); go_simp; first | done | with_reducible rfl
  (try simp only [Act.put, List.setIfInBounds_toArray, List.set_cons_zero, List.set_cons_succ])
  refine wpAnyH_ready (rs := [10]) (by kernel_rfl) (by simp) ?_
  refine AllReadyH.cons (o := { dst := some 27 , op := Go.Op.call { callee := Go.Callee.value ( Go.Operand.func 42 ) , args := #[ Go.Operand.tmp 25 , Go.Operand.tmp 26 ] , argTypes := #[ 24 , 24 ] } , type := 24 , pos := "outright.go:26" , after := #[ { on := 8 , ground := Go.Ground.data } , { on := 9 , ground := Go.Ground.data } , { on := 7 , ground := Go.Ground.chain } , { on := 7 , ground := Go.Ground.guard } ] , guard := some ( 7 , false ) }) rfl (fun K hK => ?_) AllReadyH.nil
  go_simp
  refine (p1 _).mono ?_
  rintro e w6 ⟨rfl, hb6⟩
  have g6 := g5.trans hb6
  have s6 := hk3 _ g6
  go_wp2_with fail
  refine hK.out _ _ ?_ (fun hHeld => ?_)
  · exact s6
  clear hK K
  (try simp only [Act.put, List.setIfInBounds_toArray, List.set_cons_zero, List.set_cons_succ])
  refine wpAnyH_ready (rs := [13]) (by kernel_rfl) (by simp) ?_
  refine AllReadyH.cons (o := { dst := some 30 , op := Go.Op.call { callee := Go.Callee.value ( Go.Operand.func 42 ) , args := #[ Go.Operand.tmp 28 , Go.Operand.tmp 29 ] , argTypes := #[ 24 , 24 ] } , type := 24 , pos := "outright.go:26" , after := #[ { on := 11 , ground := Go.Ground.data } , { on := 12 , ground := Go.Ground.data } , { on := 10 , ground := Go.Ground.chain } , { on := 7 , ground := Go.Ground.guard } ] , guard := some ( 7 , false ) }) rfl (fun K hK => ?_) AllReadyH.nil
  go_simp
  refine (p2 _).mono ?_
  rintro e w7 ⟨rfl, hb7⟩
  have g7 := g6.trans hb7
  have s7 := hk3 _ g7
  go_wp2_with fail
  refine hK.out _ _ ?_ (fun hHeld => ?_)
  · exact s7
  clear hK K
  (try simp only [Act.put, List.setIfInBounds_toArray, List.set_cons_zero, List.set_cons_succ])
  refine wpAnyH_take (i := 14) (oi := { dst := some 31 , op := Go.Op.binOp Go.BinOp.neq 24 ( Go.Operand.tmp 27 ) ( Go.Operand.tmp 30 ) 24 , type := 4 , pos := "outright.go:26" , after := #[ { on := 10 , ground := Go.Ground.data } , { on := 13 , ground := Go.Ground.data } , { on := 7 , ground := Go.Ground.guard } ] , guard := some ( 7 , false ) }) (v := ?_) rfl (by kernel_rfl) (by kernel_rfl) (by kernel_rfl) (fun _ _ _ h => h) (Or.inl ⟨by rfl, ?_⟩) (by assumption) ?_
  rotate_left
  · intro w hSw; refine run_neq_U (pxy) _ _ _ _ _ _ _ _ ?_ ?_ w <;> rfl
  (try simp only [Act.put, List.setIfInBounds_toArray, List.set_cons_zero, List.set_cons_succ])
  refine wpAnyH_take (i := 15) (oi := { dst := some 32 , op := Go.Op.pick ( Go.Operand.tmp 24 ) ( Go.Operand.const ( Go.Value.bool true ) ) ( Go.Operand.tmp 31 ) , type := 4 , pos := "outright.go:26" , after := #[ { on := 7 , ground := Go.Ground.data } , { on := 14 , ground := Go.Ground.data } ] , guard := none }) (v := ?_) rfl (by kernel_rfl) (by kernel_rfl) (by kernel_rfl) (fun _ _ _ h => h) (Or.inl ⟨by rfl, ?_⟩) (by assumption) ?_
  rotate_left
  · intro w hSw; (try dsimp only at hSw); go_simp; first | done | with_reducible rfl
  (try simp only [Act.put, List.setIfInBounds_toArray, List.set_cons_zero, List.set_cons_succ])
  refine wpAnyH_take (i := 16) (oi := { dst := some 33 , op := Go.Op.move ( Go.Operand.tmp 32 ) , type := 4 , pos := "outright.go:26" , after := #[ { on := 15 , ground := Go.Ground.data } , { on := 13 , ground := Go.Ground.chain } ] , guard := none }) (v := ?_) rfl (by kernel_rfl) (by kernel_rfl) (by kernel_rfl) (fun _ _ _ h => h) (Or.inl ⟨by rfl, ?_⟩) (by assumption) ?_
  rotate_left
  · intro w hSw; (try dsimp only at hSw); go_simp; first | done | with_reducible rfl
  (try simp only [Act.put, List.setIfInBounds_toArray, List.set_cons_zero, List.set_cons_succ])
  refine wpAnyH_take (i := 17) (oi := { dst := some 34 , op := Go.Op.load 24 ( Go.Operand.tmp 3 ) , type := 24 , pos := "outright.go:26" , after := #[ { on := 16 , ground := Go.Ground.guard } ] , guard := some ( 16 , false ) }) (v := ?_) rfl (by kernel_rfl) (by kernel_rfl) (by kernel_rfl) (fun _ _ _ h => h) (Or.inl ⟨by rfl, ?_⟩) (by assumption) ?_
  rotate_left
  · intro w hSw; (try dsimp only at hSw); go_simp; first | done | with_reducible rfl
  (try simp only [Act.put, List.setIfInBounds_toArray, List.set_cons_zero, List.set_cons_succ])
  refine wpAnyH_take (i := 18) (oi := { dst := some 35 , op := Go.Op.load 24 ( Go.Operand.tmp 4 ) , type := 24 , pos := "outright.go:26" , after := #[ { on := 16 , ground := Go.Ground.guard } ] , guard := some ( 16 , false ) }) (v := ?_) rfl (by kernel_rfl) (by kernel_rfl) (by kernel_rfl) (fun _ _ _ h => h) (Or.inl ⟨by rfl, ?_⟩) (by assumption) ?_
  rotate_left
  · intro w hSw; (try dsimp only at hSw); go_simp; first | done | with_reducible rfl
  (try simp only [Act.put, List.setIfInBounds_toArray, List.set_cons_zero, List.set_cons_succ])
  refine wpAnyH_take (i := 20) (oi := { dst := some 37 , op := Go.Op.load 24 ( Go.Operand.tmp 5 ) , type := 24 , pos := "outright.go:26" , after := #[ { on := 16 , ground := Go.Ground.guard } ] , guard := some ( 16 , false ) }) (v := ?_) rfl (by kernel_rfl) (by kernel_rfl) (by kernel_rfl) (fun _ _ _ h => h) (Or.inl ⟨by rfl, ?_⟩) (by assumption) ?_
  rotate_left
  · intro w hSw; (try dsimp only at hSw); go_simp; first | done | with_reducible rfl
  (try simp only [Act.put, List.setIfInBounds_toArray, List.set_cons_zero, List.set_cons_succ])
  refine wpAnyH_take (i := 22) (oi := { dst := some 39 , op := Go.Op.load 24 ( Go.Operand.tmp 3 ) , type := 24 , pos := "outright.go:26" , after := #[ { on := 16 , ground := Go.Ground.guard } ] , guard := some ( 16 , false ) }) (v := ?_) rfl (by kernel_rfl) (by kernel_rfl) (by kernel_rfl) (fun _ _ _ h => h) (Or.inl ⟨by rfl, ?_⟩) (by assumption) ?_
  rotate_left
  · intro w hSw; (try dsimp only at hSw); go_simp; first | done | with_reducible rfl
  (try simp only [Act.put, List.setIfInBounds_toArray, List.set_cons_zero, List.set_cons_succ])
  refine wpAnyH_take (i := 23) (oi := { dst := some 40 , op := Go.Op.load 24 ( Go.Operand.tmp 4 ) , type := 24 , pos := "outright.go:26" , after := #[ { on := 16 , ground := Go.Ground.guard } ] , guard := some ( 16 , false ) }) (v := ?_) rfl (by kernel_rfl) (by kernel_rfl) (by kernel_rfl) (fun _ _ _ h => h) (Or.inl ⟨by rfl, ?_⟩) (by assumption) ?_
  rotate_left
  · intro w hSw; (try dsimp only at hSw); go_simp; first | done | with_reducible rfl
  (try simp only [Act.put, List.setIfInBounds_toArray, List.set_cons_zero, List.set_cons_succ])
  refine wpAnyH_take (i := 24) (oi := { dst := some 41 , op := Go.Op.load 24 ( Go.Operand.tmp 5 ) , type := 24 , pos := "outright.go:26" , after := #[ { on := 16 , ground := Go.Ground.guard } ] , guard := some ( 16 , false ) }) (v := ?_) rfl (by kernel_rfl) (by kernel_rfl) (by kernel_rfl) (fun _ _ _ h => h) (Or.inl ⟨by rfl, ?_⟩) (by assumption) ?_
  rotate_left
  · intro w hSw; (try dsimp only at hSw); go_simp; first | done | with_reducible rfl
  (try simp only [Act.put, List.setIfInBounds_toArray, List.set_cons_zero, List.set_cons_succ])
  refine wpAnyH_ready (rs := [19]) (by kernel_rfl) (by simp) ?_
  refine AllReadyH.cons (o := { dst := some 36 , op := Go.Op.call { callee := Go.Callee.value ( Go.Operand.func 41 ) , args := #[ Go.Operand.tmp 34 , Go.Operand.tmp 35 ] , argTypes := #[ 24 , 24 ] } , type := 24 , pos := "outright.go:26" , after := #[ { on := 17 , ground := Go.Ground.data } , { on := 18 , ground := Go.Ground.data } , { on := 16 , ground := Go.Ground.chain } , { on := 16 , ground := Go.Ground.guard } ] , guard := some ( 16 , false ) }) rfl (fun K hK => ?_) AllReadyH.nil
  go_simp
  refine (sm1 _).mono ?_
  rintro e w8 ⟨rfl, hb8⟩
  have g8 := g7.trans hb8
  have s8 := hk3 _ g8
  go_wp2_with fail
  refine hK.out _ _ ?_ (fun hHeld => ?_)
  · exact s8
  clear hK K
  (try simp only [Act.put, List.setIfInBounds_toArray, List.set_cons_zero, List.set_cons_succ])
  refine wpAnyH_ready (rs := [21]) (by kernel_rfl) (by simp) ?_
  refine AllReadyH.cons (o := { dst := some 38 , op := Go.Op.call { callee := Go.Callee.value ( Go.Operand.func 41 ) , args := #[ Go.Operand.tmp 36 , Go.Operand.tmp 37 ] , argTypes := #[ 24 , 24 ] } , type := 24 , pos := "outright.go:26" , after := #[ { on := 19 , ground := Go.Ground.data } , { on := 20 , ground := Go.Ground.data } , { on := 19 , ground := Go.Ground.chain } , { on := 16 , ground := Go.Ground.guard } ] , guard := some ( 16 , false ) }) rfl (fun K hK => ?_) AllReadyH.nil
  go_simp
  refine (sm3 _).mono ?_
  rintro e w9 ⟨rfl, hb9⟩
  have g9 := g8.trans hb9
  have s9 := hk3 _ g9
  go_wp2_with fail
  refine hK.out _ _ ?_ (fun hHeld => ?_)
  · exact s9
  clear hK K
  (try simp only [Act.put, List.setIfInBounds_toArray, List.set_cons_zero, List.set_cons_succ])
  refine wpAnyH_ready (rs := [25]) (by kernel_rfl) (by simp) ?_
  refine AllReadyH.cons (o := { dst := some 42 , op := Go.Op.call { callee := Go.Callee.value ( Go.Operand.func 41 ) , args := #[ Go.Operand.tmp 40 , Go.Operand.tmp 41 ] , argTypes := #[ 24 , 24 ] } , type := 24 , pos := "outright.go:26" , after := #[ { on := 23 , ground := Go.Ground.data } , { on := 24 , ground := Go.Ground.data } , { on := 21 , ground := Go.Ground.chain } , { on := 16 , ground := Go.Ground.guard } ] , guard := some ( 16 , false ) }) rfl (fun K hK => ?_) AllReadyH.nil
  go_simp
  refine (sm4 _).mono ?_
  rintro e w10 ⟨rfl, hb10⟩
  have g10 := g9.trans hb10
  have s10 := hk3 _ g10
  go_wp2_with fail
  refine hK.out _ _ ?_ (fun hHeld => ?_)
  · exact s10
  clear hK K
  (try simp only [Act.put, List.setIfInBounds_toArray, List.set_cons_zero, List.set_cons_succ])
  refine wpAnyH_ready (rs := [26]) (by kernel_rfl) (by simp) ?_
  refine AllReadyH.cons (o := { dst := some 43 , op := Go.Op.call { callee := Go.Callee.value ( Go.Operand.func 41 ) , args := #[ Go.Operand.tmp 39 , Go.Operand.tmp 42 ] , argTypes := #[ 24 , 24 ] } , type := 24 , pos := "outright.go:26" , after := #[ { on := 22 , ground := Go.Ground.data } , { on := 25 , ground := Go.Ground.data } , { on := 25 , ground := Go.Ground.chain } , { on := 16 , ground := Go.Ground.guard } ] , guard := some ( 16 , false ) }) rfl (fun K hK => ?_) AllReadyH.nil
  go_simp
  refine (sm5 _).mono ?_
  rintro e w11 ⟨rfl, hb11⟩
  have g11 := g10.trans hb11
  have s11 := hk3 _ g11
  go_wp2_with fail
  refine hK.out _ _ ?_ (fun hHeld => ?_)
  · exact s11
  clear hK K
  (try simp only [Act.put, List.setIfInBounds_toArray, List.set_cons_zero, List.set_cons_succ])
  refine wpAnyH_take (i := 27) (oi := { dst := some 44 , op := Go.Op.binOp Go.BinOp.neq 24 ( Go.Operand.tmp 38 ) ( Go.Operand.tmp 43 ) 24 , type := 4 , pos := "outright.go:26" , after := #[ { on := 21 , ground := Go.Ground.data } , { on := 26 , ground := Go.Ground.data } , { on := 16 , ground := Go.Ground.guard } ] , guard := some ( 16 , false ) }) (v := ?_) rfl (by kernel_rfl) (by kernel_rfl) (by kernel_rfl) (fun _ _ _ h => h) (Or.inl ⟨by rfl, ?_⟩) (by assumption) ?_
  rotate_left
  · intro w hSw; refine run_neq_U (a3) _ _ _ _ _ _ _ _ ?_ ?_ w <;> rfl
  (try simp only [Act.put, List.setIfInBounds_toArray, List.set_cons_zero, List.set_cons_succ])
  refine wpAnyH_take (i := 28) (oi := { dst := some 45 , op := Go.Op.pick ( Go.Operand.tmp 33 ) ( Go.Operand.const ( Go.Value.bool true ) ) ( Go.Operand.tmp 44 ) , type := 4 , pos := "outright.go:26" , after := #[ { on := 16 , ground := Go.Ground.data } , { on := 27 , ground := Go.Ground.data } ] , guard := none }) (v := ?_) rfl (by kernel_rfl) (by kernel_rfl) (by kernel_rfl) (fun _ _ _ h => h) (Or.inl ⟨by rfl, ?_⟩) (by assumption) ?_
  rotate_left
  · intro w hSw; (try dsimp only at hSw); go_simp; first | done | with_reducible rfl
  (try simp only [Act.put, List.setIfInBounds_toArray, List.set_cons_zero, List.set_cons_succ])
  refine wpAnyH_take (i := 29) (oi := { dst := some 46 , op := Go.Op.move ( Go.Operand.tmp 45 ) , type := 4 , pos := "outright.go:26" , after := #[ { on := 28 , ground := Go.Ground.data } , { on := 26 , ground := Go.Ground.chain } ] , guard := none }) (v := ?_) rfl (by kernel_rfl) (by kernel_rfl) (by kernel_rfl) (fun _ _ _ h => h) (Or.inl ⟨by rfl, ?_⟩) (by assumption) ?_
  rotate_left
  · intro w hSw; (try dsimp only at hSw); go_simp; first | done | with_reducible rfl
  (try simp only [Act.put, List.setIfInBounds_toArray, List.set_cons_zero, List.set_cons_succ])
  refine wpAnyH_take (i := 30) (oi := { dst := some 47 , op := Go.Op.load 24 ( Go.Operand.tmp 3 ) , type := 24 , pos := "outright.go:26" , after := #[ { on := 29 , ground := Go.Ground.guard } ] , guard := some ( 29 , false ) }) (v := ?_) rfl (by kernel_rfl) (by kernel_rfl) (by kernel_rfl) (fun _ _ _ h => h) (Or.inl ⟨by rfl, ?_⟩) (by assumption) ?_
  rotate_left
  · intro w hSw; (try dsimp only at hSw); go_simp; first | done | with_reducible rfl
  (try simp only [Act.put, List.setIfInBounds_toArray, List.set_cons_zero, List.set_cons_succ])
  refine wpAnyH_take (i := 31) (oi := { dst := some 48 , op := Go.Op.load 24 ( Go.Operand.tmp 4 ) , type := 24 , pos := "outright.go:26" , after := #[ { on := 29 , ground := Go.Ground.guard } ] , guard := some ( 29 , false ) }) (v := ?_) rfl (by kernel_rfl) (by kernel_rfl) (by kernel_rfl) (fun _ _ _ h => h) (Or.inl ⟨by rfl, ?_⟩) (by assumption) ?_
  rotate_left
  · intro w hSw; (try dsimp only at hSw); go_simp; first | done | with_reducible rfl
  (try simp only [Act.put, List.setIfInBounds_toArray, List.set_cons_zero, List.set_cons_succ])
  refine wpAnyH_take (i := 33) (oi := { dst := some 50 , op := Go.Op.load 24 ( Go.Operand.tmp 5 ) , type := 24 , pos := "outright.go:26" , after := #[ { on := 29 , ground := Go.Ground.guard } ] , guard := some ( 29 , false ) }) (v := ?_) rfl (by kernel_rfl) (by kernel_rfl) (by kernel_rfl) (fun _ _ _ h => h) (Or.inl ⟨by rfl, ?_⟩) (by assumption) ?_
  rotate_left
  · intro w hSw; (try dsimp only at hSw); go_simp; first | done | with_reducible rfl
  (try simp only [Act.put, List.setIfInBounds_toArray, List.set_cons_zero, List.set_cons_succ])
  refine wpAnyH_take (i := 35) (oi := { dst := some 52 , op := Go.Op.load 24 ( Go.Operand.tmp 3 ) , type := 24 , pos := "outright.go:26" , after := #[ { on := 29 , ground := Go.Ground.guard } ] , guard := some ( 29 , false ) }) (v := ?_) rfl (by kernel_rfl) (by kernel_rfl) (by kernel_rfl) (fun _ _ _ h => h) (Or.inl ⟨by rfl, ?_⟩) (by assumption) ?_
  rotate_left
  · intro w hSw; (try dsimp only at hSw); go_simp; first | done | with_reducible rfl
  (try simp only [Act.put, List.setIfInBounds_toArray, List.set_cons_zero, List.set_cons_succ])
  refine wpAnyH_take (i := 36) (oi := { dst := some 53 , op := Go.Op.load 24 ( Go.Operand.tmp 4 ) , type := 24 , pos := "outright.go:26" , after := #[ { on := 29 , ground := Go.Ground.guard } ] , guard := some ( 29 , false ) }) (v := ?_) rfl (by kernel_rfl) (by kernel_rfl) (by kernel_rfl) (fun _ _ _ h => h) (Or.inl ⟨by rfl, ?_⟩) (by assumption) ?_
  rotate_left
  · intro w hSw; (try dsimp only at hSw); go_simp; first | done | with_reducible rfl
  (try simp only [Act.put, List.setIfInBounds_toArray, List.set_cons_zero, List.set_cons_succ])
  refine wpAnyH_take (i := 37) (oi := { dst := some 54 , op := Go.Op.load 24 ( Go.Operand.tmp 5 ) , type := 24 , pos := "outright.go:26" , after := #[ { on := 29 , ground := Go.Ground.guard } ] , guard := some ( 29 , false ) }) (v := ?_) rfl (by kernel_rfl) (by kernel_rfl) (by kernel_rfl) (fun _ _ _ h => h) (Or.inl ⟨by rfl, ?_⟩) (by assumption) ?_
  rotate_left
  · intro w hSw; (try dsimp only at hSw); go_simp; first | done | with_reducible rfl
  (try simp only [Act.put, List.setIfInBounds_toArray, List.set_cons_zero, List.set_cons_succ])
  refine wpAnyH_ready (rs := [32]) (by kernel_rfl) (by simp) ?_
  refine AllReadyH.cons (o := { dst := some 49 , op := Go.Op.call { callee := Go.Callee.value ( Go.Operand.func 42 ) , args := #[ Go.Operand.tmp 47 , Go.Operand.tmp 48 ] , argTypes := #[ 24 , 24 ] } , type := 24 , pos := "outright.go:26" , after := #[ { on := 30 , ground := Go.Ground.data } , { on := 31 , ground := Go.Ground.data } , { on := 29 , ground := Go.Ground.chain } , { on := 29 , ground := Go.Ground.guard } ] , guard := some ( 29 , false ) }) rfl (fun K hK => ?_) AllReadyH.nil
  go_simp
  refine (p1 _).mono ?_
  rintro e w12 ⟨rfl, hb12⟩
  have g12 := g11.trans hb12
  have s12 := hk3 _ g12
  go_wp2_with fail
  refine hK.out _ _ ?_ (fun hHeld => ?_)
  · exact s12
  clear hK K
  (try simp only [Act.put, List.setIfInBounds_toArray, List.set_cons_zero, List.set_cons_succ])
  refine wpAnyH_ready (rs := [34]) (by kernel_rfl) (by simp) ?_
  refine AllReadyH.cons (o := { dst := some 51 , op := Go.Op.call { callee := Go.Callee.value ( Go.Operand.func 42 ) , args := #[ Go.Operand.tmp 49 , Go.Operand.tmp 50 ] , argTypes := #[ 24 , 24 ] } , type := 24 , pos := "outright.go:26" , after := #[ { on := 32 , ground := Go.Ground.data } , { on := 33 , ground := Go.Ground.data } , { on := 32 , ground := Go.Ground.chain } , { on := 29 , ground := Go.Ground.guard } ] , guard := some ( 29 , false ) }) rfl (fun K hK => ?_) AllReadyH.nil
  go_simp
  refine (p3 _).mono ?_
  rintro e w13 ⟨rfl, hb13⟩
  have g13 := g12.trans hb13
  have s13 := hk3 _ g13
  go_wp2_with fail
  refine hK.out _ _ ?_ (fun hHeld => ?_)
  · exact s13
  clear hK K
  (try simp only [Act.put, List.setIfInBounds_toArray, List.set_cons_zero, List.set_cons_succ])
  refine wpAnyH_ready (rs := [38]) (by kernel_rfl) (by simp) ?_
  refine AllReadyH.cons (o := { dst := some 55 , op := Go.Op.call { callee := Go.Callee.value ( Go.Operand.func 42 ) , args := #[ Go.Operand.tmp 53 , Go.Operand.tmp 54 ] , argTypes := #[ 24 , 24 ] } , type := 24 , pos := "outright.go:26" , after := #[ { on := 36 , ground := Go.Ground.data } , { on := 37 , ground := Go.Ground.data } , { on := 34 , ground := Go.Ground.chain } , { on := 29 , ground := Go.Ground.guard } ] , guard := some ( 29 , false ) }) rfl (fun K hK => ?_) AllReadyH.nil
  go_simp
  refine (p4 _).mono ?_
  rintro e w14 ⟨rfl, hb14⟩
  have g14 := g13.trans hb14
  have s14 := hk3 _ g14
  go_wp2_with fail
  refine hK.out _ _ ?_ (fun hHeld => ?_)
  · exact s14
  clear hK K
  (try simp only [Act.put, List.setIfInBounds_toArray, List.set_cons_zero, List.set_cons_succ])
  refine wpAnyH_ready (rs := [39]) (by kernel_rfl) (by simp) ?_
  refine AllReadyH.cons (o := { dst := some 56 , op := Go.Op.call { callee := Go.Callee.value ( Go.Operand.func 42 ) , args := #[ Go.Operand.tmp 52 , Go.Operand.tmp 55 ] , argTypes := #[ 24 , 24 ] } , type := 24 , pos := "outright.go:26" , after := #[ { on := 35 , ground := Go.Ground.data } , { on := 38 , ground := Go.Ground.data } , { on := 38 , ground := Go.Ground.chain } , { on := 29 , ground := Go.Ground.guard } ] , guard := some ( 29 , false ) }) rfl (fun K hK => ?_) AllReadyH.nil
  go_simp
  refine (p5 _).mono ?_
  rintro e w15 ⟨rfl, hb15⟩
  have g15 := g14.trans hb15
  have s15 := hk3 _ g15
  go_wp2_with fail
  refine hK.out _ _ ?_ (fun hHeld => ?_)
  · exact s15
  clear hK K
  (try simp only [Act.put, List.setIfInBounds_toArray, List.set_cons_zero, List.set_cons_succ])
  refine wpAnyH_take (i := 40) (oi := { dst := some 57 , op := Go.Op.binOp Go.BinOp.neq 24 ( Go.Operand.tmp 51 ) ( Go.Operand.tmp 56 ) 24 , type := 4 , pos := "outright.go:26" , after := #[ { on := 34 , ground := Go.Ground.data } , { on := 39 , ground := Go.Ground.data } , { on := 29 , ground := Go.Ground.guard } ] , guard := some ( 29 , false ) }) (v := ?_) rfl (by kernel_rfl) (by kernel_rfl) (by kernel_rfl) (fun _ _ _ h => h) (Or.inl ⟨by rfl, ?_⟩) (by assumption) ?_
  rotate_left
  · intro w hSw; refine run_neq_U (m3) _ _ _ _ _ _ _ _ ?_ ?_ w <;> rfl
  (try simp only [Act.put, List.setIfInBounds_toArray, List.set_cons_zero, List.set_cons_succ])
  refine wpAnyH_take (i := 41) (oi := { dst := some 58 , op := Go.Op.pick ( Go.Operand.tmp 46 ) ( Go.Operand.const ( Go.Value.bool true ) ) ( Go.Operand.tmp 57 ) , type := 4 , pos := "outright.go:26" , after := #[ { on := 29 , ground := Go.Ground.data } , { on := 40 , ground := Go.Ground.data } ] , guard := none }) (v := ?_) rfl (by kernel_rfl) (by kernel_rfl) (by kernel_rfl) (fun _ _ _ h => h) (Or.inl ⟨by rfl, ?_⟩) (by assumption) ?_
  rotate_left
  · intro w hSw; (try dsimp only at hSw); go_simp; first | done | with_reducible rfl
  (try simp only [Act.put, List.setIfInBounds_toArray, List.set_cons_zero, List.set_cons_succ])
  refine wpAnyH_done (by kernel_rfl) ?_ _
  refine NoPanic.normal ?_
  have r15_0 := r3_0.call g15
  have r15_1 := r3_1.call g15
  have r15_2 := r3_2.call g15
  have r15_3 := r3_3.call g15
  have r15_4 := r3_4.call g15
  have b15 := b3.trans g15
  have z15 := g15.size
  have y15 : w.heap.size ≤ w15.heap.size := b15.size
  clear hk3 s3_0 r3_0 r3_0_c r3_0_f r3_0_l r3_1 r3_1_c r3_1_f r3_1_l r3_2 r3_2_c r3_2_f r3_2_l r3_3 r3_3_c r3_3_f r3_3_l r3_4 r3_4_c r3_4_f r3_4_l b3 hb4 g4 s4 hb5 g5 s5 hb6 g6 s6 hb7 g7 s7 hb8 g8 s8 hb9 g9 s9 hb10 g10 s10 hb11 g11 s11 hb12 g12 s12 hb13 g13 s13 hb14 g14 s14 hb15 g15 s15
  obtain ⟨r15_0_c, r15_0_f, r15_0_l⟩ := r15_0.tell
  obtain ⟨r15_1_c, r15_1_f, r15_1_l⟩ := r15_1.tell
  obtain ⟨r15_2_c, r15_2_f, r15_2_l⟩ := r15_2.tell
  obtain ⟨r15_3_c, r15_3_f, r15_3_l⟩ := r15_3.tell
  obtain ⟨r15_4_c, r15_4_f, r15_4_l⟩ := r15_4.tell
  go_wp2_with fail
  clear sm1 sm2 p2 sm3 sm5 p3 p4 p5
  have hk15 : ∀ V : World, Bl w15 V → (∀ o, V.cell? ⟨w.heap.size, o, none⟩ = #[.int .u64 (L (x) 0), .int .u64 (L (x) 1), .int .u64 (L (x) 2), .int .u64 (L (x) 3)][o]?) ∧ (∀ o, V.cell? ⟨w.heap.size + 1, o, none⟩ = #[.int .u64 (L (y) 0), .int .u64 (L (y) 1), .int .u64 (L (y) 2), .int .u64 (L (y) 3)][o]?) ∧ (∀ o, V.cell? ⟨w.heap.size + 1 + 1, o, none⟩ = #[.int .u64 (L (z) 0), .int .u64 (L (z) 1), .int .u64 (L (z) 2), .int .u64 (L (z) 3)][o]?) ∧ (∀ o, V.cell? ⟨w2.heap.size, o, none⟩ = #[.int .u64 (L (0) 0), .int .u64 (L (0) 1), .int .u64 (L (0) 2), .int .u64 (L (0) 3)][o]?) ∧ (∀ o, V.cell? ⟨w1.heap.size, o, none⟩ = #[.int .u64 (L (1) 0), .int .u64 (L (1) 1), .int .u64 (L (1) 2), .int .u64 (L (1) 3)][o]?) ∧ Bl w15 V := fun V hb => ⟨(r15_0.call hb).cell, (r15_1.call hb).cell, (r15_2.call hb).cell, (r15_4.call hb).cell, (r15_3.call hb).cell, hb⟩
  have s15_0 := hk15 _ (Bl.refl w15).drew
  refine wp_region_noPanic ?_
  refine wp_region_held_drew (S := fun V : World => (∀ o, V.cell? ⟨w.heap.size, o, none⟩ = #[.int .u64 (L (x) 0), .int .u64 (L (x) 1), .int .u64 (L (x) 2), .int .u64 (L (x) 3)][o]?) ∧ (∀ o, V.cell? ⟨w.heap.size + 1, o, none⟩ = #[.int .u64 (L (y) 0), .int .u64 (L (y) 1), .int .u64 (L (y) 2), .int .u64 (L (y) 3)][o]?) ∧ (∀ o, V.cell? ⟨w.heap.size + 1 + 1, o, none⟩ = #[.int .u64 (L (z) 0), .int .u64 (L (z) 1), .int .u64 (L (z) 2), .int .u64 (L (z) 3)][o]?) ∧ (∀ o, V.cell? ⟨w2.heap.size, o, none⟩ = #[.int .u64 (L (0) 0), .int .u64 (L (0) 1), .int .u64 (L (0) 2), .int .u64 (L (0) 3)][o]?) ∧ (∀ o, V.cell? ⟨w1.heap.size, o, none⟩ = #[.int .u64 (L (1) 0), .int .u64 (L (1) 1), .int .u64 (L (1) 2), .int .u64 (L (1) 3)][o]?) ∧ Bl w15 V) (by kernel_rfl) ?_ (fun hHeld => ?_)
  · exact s15_0
  refine wpAnyH_take (i := 0) (oi := { dst := some 59 , op := Go.Op.load 24 ( Go.Operand.tmp 3 ) , type := 24 , pos := "outright.go:29" , after := #[ ] , guard := none }) (v := ?_) rfl (by kernel_rfl) (by kernel_rfl) (by kernel_rfl) (fun _ _ _ h => h) (Or.inl ⟨by rfl, ?_⟩) (by assumption) ?_
  rotate_left
  · intro w hSw; (try dsimp only at hSw); go_simp; first | done | with_reducible rfl
  (try simp only [Act.put, List.setIfInBounds_toArray, List.set_cons_zero, List.set_cons_succ])
  refine wpAnyH_take (i := 1) (oi := { dst := some 60 , op := Go.Op.load 24 ( Go.Operand.tmp 4 ) , type := 24 , pos := "outright.go:29" , after := #[ ] , guard := none }) (v := ?_) rfl (by kernel_rfl) (by kernel_rfl) (by kernel_rfl) (fun _ _ _ h => h) (Or.inl ⟨by rfl, ?_⟩) (by assumption) ?_
  rotate_left
  · intro w hSw; (try dsimp only at hSw); go_simp; first | done | with_reducible rfl
  (try simp only [Act.put, List.setIfInBounds_toArray, List.set_cons_zero, List.set_cons_succ])
  refine wpAnyH_take (i := 2) (oi := { dst := some 61 , op := Go.Op.load 24 ( Go.Operand.tmp 5 ) , type := 24 , pos := "outright.go:29" , after := #[ ] , guard := none }) (v := ?_) rfl (by kernel_rfl) (by kernel_rfl) (by kernel_rfl) (fun _ _ _ h => h) (Or.inl ⟨by rfl, ?_⟩) (by assumption) ?_
  rotate_left
  · intro w hSw; (try dsimp only at hSw); go_simp; first | done | with_reducible rfl
  (try simp only [Act.put, List.setIfInBounds_toArray, List.set_cons_zero, List.set_cons_succ])
  refine wpAnyH_take (i := 5) (oi := { dst := some 64 , op := Go.Op.load 24 ( Go.Operand.tmp 3 ) , type := 24 , pos := "outright.go:29" , after := #[ ] , guard := none }) (v := ?_) rfl (by kernel_rfl) (by kernel_rfl) (by kernel_rfl) (fun _ _ _ h => h) (Or.inl ⟨by rfl, ?_⟩) (by assumption) ?_
  rotate_left
  · intro w hSw; (try dsimp only at hSw); go_simp; first | done | with_reducible rfl
  (try simp only [Act.put, List.setIfInBounds_toArray, List.set_cons_zero, List.set_cons_succ])
  refine wpAnyH_take (i := 6) (oi := { dst := some 65 , op := Go.Op.load 24 ( Go.Operand.tmp 4 ) , type := 24 , pos := "outright.go:29" , after := #[ ] , guard := none }) (v := ?_) rfl (by kernel_rfl) (by kernel_rfl) (by kernel_rfl) (fun _ _ _ h => h) (Or.inl ⟨by rfl, ?_⟩) (by assumption) ?_
  rotate_left
  · intro w hSw; (try dsimp only at hSw); go_simp; first | done | with_reducible rfl
  (try simp only [Act.put, List.setIfInBounds_toArray, List.set_cons_zero, List.set_cons_succ])
  refine wpAnyH_take (i := 8) (oi := { dst := some 67 , op := Go.Op.load 24 ( Go.Operand.tmp 3 ) , type := 24 , pos := "outright.go:29" , after := #[ ] , guard := none }) (v := ?_) rfl (by kernel_rfl) (by kernel_rfl) (by kernel_rfl) (fun _ _ _ h => h) (Or.inl ⟨by rfl, ?_⟩) (by assumption) ?_
  rotate_left
  · intro w hSw; (try dsimp only at hSw); go_simp; first | done | with_reducible rfl
  (try simp only [Act.put, List.setIfInBounds_toArray, List.set_cons_zero, List.set_cons_succ])
  refine wpAnyH_take (i := 9) (oi := { dst := some 68 , op := Go.Op.load 24 ( Go.Operand.tmp 5 ) , type := 24 , pos := "outright.go:29" , after := #[ ] , guard := none }) (v := ?_) rfl (by kernel_rfl) (by kernel_rfl) (by kernel_rfl) (fun _ _ _ h => h) (Or.inl ⟨by rfl, ?_⟩) (by assumption) ?_
  rotate_left
  · intro w hSw; (try dsimp only at hSw); go_simp; first | done | with_reducible rfl
  (try simp only [Act.put, List.setIfInBounds_toArray, List.set_cons_zero, List.set_cons_succ])
  refine wpAnyH_ready (rs := [3]) (by kernel_rfl) (by simp) ?_
  refine AllReadyH.cons (o := { dst := some 62 , op := Go.Op.call { callee := Go.Callee.value ( Go.Operand.func 41 ) , args := #[ Go.Operand.tmp 60 , Go.Operand.tmp 61 ] , argTypes := #[ 24 , 24 ] } , type := 24 , pos := "outright.go:29" , after := #[ { on := 1 , ground := Go.Ground.data } , { on := 2 , ground := Go.Ground.data } ] , guard := none }) rfl (fun K hK => ?_) AllReadyH.nil
  go_simp
  refine (sm4 _).mono ?_
  rintro e w16 ⟨rfl, hb16⟩
  have g16 := (Bl.refl w15).drew.trans hb16
  have s16 := hk15 _ g16
  go_wp2_with fail
  refine hK.out _ _ ?_ (fun hHeld => ?_)
  · exact s16
  clear hK K
  (try simp only [Act.put, List.setIfInBounds_toArray, List.set_cons_zero, List.set_cons_succ])
  refine wpAnyH_ready (rs := [4]) (by kernel_rfl) (by simp) ?_
  refine AllReadyH.cons (o := { dst := some 63 , op := Go.Op.call { callee := Go.Callee.value ( Go.Operand.func 42 ) , args := #[ Go.Operand.tmp 59 , Go.Operand.tmp 62 ] , argTypes := #[ 24 , 24 ] } , type := 24 , pos := "outright.go:29" , after := #[ { on := 0 , ground := Go.Ground.data } , { on := 3 , ground := Go.Ground.data } , { on := 3 , ground := Go.Ground.chain } ] , guard := none }) rfl (fun K hK => ?_) AllReadyH.nil
  go_simp
  refine (p6 _).mono ?_
  rintro e w17 ⟨rfl, hb17⟩
  have g17 := g16.trans hb17
  have s17 := hk15 _ g17
  go_wp2_with fail
  refine hK.out _ _ ?_ (fun hHeld => ?_)
  · exact s17
  clear hK K
  (try simp only [Act.put, List.setIfInBounds_toArray, List.set_cons_zero, List.set_cons_succ])
  refine wpAnyH_ready (rs := [7]) (by kernel_rfl) (by simp) ?_
  refine AllReadyH.cons (o := { dst := some 66 , op := Go.Op.call { callee := Go.Callee.value ( Go.Operand.func 42 ) , args := #[ Go.Operand.tmp 64 , Go.Operand.tmp 65 ] , argTypes := #[ 24 , 24 ] } , type := 24 , pos := "outright.go:29" , after := #[ { on := 5 , ground := Go.Ground.data } , { on := 6 , ground := Go.Ground.data } , { on := 4 , ground := Go.Ground.chain } ] , guard := none }) rfl (fun K hK => ?_) AllReadyH.nil
  go_simp
  refine (p1 _).mono ?_
  rintro e w18 ⟨rfl, hb18⟩
  have g18 := g17.trans hb18
  have s18 := hk15 _ g18
  go_wp2_with fail
  refine hK.out _ _ ?_ (fun hHeld => ?_)
  · exact s18
  clear hK K
  (try simp only [Act.put, List.setIfInBounds_toArray, List.set_cons_zero, List.set_cons_succ])
  refine wpAnyH_ready (rs := [10]) (by kernel_rfl) (by simp) ?_
  refine AllReadyH.cons (o := { dst := some 69 , op := Go.Op.call { callee := Go.Callee.value ( Go.Operand.func 42 ) , args := #[ Go.Operand.tmp 67 , Go.Operand.tmp 68 ] , argTypes := #[ 24 , 24 ] } , type := 24 , pos := "outright.go:29" , after := #[ { on := 8 , ground := Go.Ground.data } , { on := 9 , ground := Go.Ground.data } , { on := 7 , ground := Go.Ground.chain } ] , guard := none }) rfl (fun K hK => ?_) AllReadyH.nil
  go_simp
  refine (p7 _).mono ?_
  rintro e w19 ⟨rfl, hb19⟩
  have g19 := g18.trans hb19
  have s19 := hk15 _ g19
  go_wp2_with fail
  refine hK.out _ _ ?_ (fun hHeld => ?_)
  · exact s19
  clear hK K
  (try simp only [Act.put, List.setIfInBounds_toArray, List.set_cons_zero, List.set_cons_succ])
  refine wpAnyH_ready (rs := [11]) (by kernel_rfl) (by simp) ?_
  refine AllReadyH.cons (o := { dst := some 70 , op := Go.Op.call { callee := Go.Callee.value ( Go.Operand.func 41 ) , args := #[ Go.Operand.tmp 66 , Go.Operand.tmp 69 ] , argTypes := #[ 24 , 24 ] } , type := 24 , pos := "outright.go:29" , after := #[ { on := 7 , ground := Go.Ground.data } , { on := 10 , ground := Go.Ground.data } , { on := 10 , ground := Go.Ground.chain } ] , guard := none }) rfl (fun K hK => ?_) AllReadyH.nil
  go_simp
  refine (sm6 _).mono ?_
  rintro e w20 ⟨rfl, hb20⟩
  have g20 := g19.trans hb20
  have s20 := hk15 _ g20
  go_wp2_with fail
  refine hK.out _ _ ?_ (fun hHeld => ?_)
  · exact s20
  clear hK K
  (try simp only [Act.put, List.setIfInBounds_toArray, List.set_cons_zero, List.set_cons_succ])
  refine wpAnyH_take (i := 12) (oi := { dst := some 71 , op := Go.Op.binOp Go.BinOp.neq 24 ( Go.Operand.tmp 63 ) ( Go.Operand.tmp 70 ) 24 , type := 4 , pos := "outright.go:29" , after := #[ { on := 4 , ground := Go.Ground.data } , { on := 11 , ground := Go.Ground.data } ] , guard := none }) (v := ?_) rfl (by kernel_rfl) (by kernel_rfl) (by kernel_rfl) (fun _ _ _ h => h) (Or.inl ⟨by rfl, ?_⟩) (by assumption) ?_
  rotate_left
  · intro w hSw; refine run_neq_U (d3) _ _ _ _ _ _ _ _ ?_ ?_ w <;> rfl
  (try simp only [Act.put, List.setIfInBounds_toArray, List.set_cons_zero, List.set_cons_succ])
  refine wpAnyH_take (i := 13) (oi := { dst := some 72 , op := Go.Op.move ( Go.Operand.tmp 71 ) , type := 4 , pos := "outright.go:29" , after := #[ { on := 12 , ground := Go.Ground.data } , { on := 11 , ground := Go.Ground.chain } ] , guard := none }) (v := ?_) rfl (by kernel_rfl) (by kernel_rfl) (by kernel_rfl) (fun _ _ _ h => h) (Or.inl ⟨by rfl, ?_⟩) (by assumption) ?_
  rotate_left
  · intro w hSw; (try dsimp only at hSw); go_simp; first | done | with_reducible rfl
  (try simp only [Act.put, List.setIfInBounds_toArray, List.set_cons_zero, List.set_cons_succ])
  refine wpAnyH_take (i := 14) (oi := { dst := some 73 , op := Go.Op.load 24 ( Go.Operand.tmp 3 ) , type := 24 , pos := "outright.go:29" , after := #[ { on := 13 , ground := Go.Ground.guard } ] , guard := some ( 13 , false ) }) (v := ?_) rfl (by kernel_rfl) (by kernel_rfl) (by kernel_rfl) (fun _ _ _ h => h) (Or.inl ⟨by rfl, ?_⟩) (by assumption) ?_
  rotate_left
  · intro w hSw; (try dsimp only at hSw); go_simp; first | done | with_reducible rfl
  (try simp only [Act.put, List.setIfInBounds_toArray, List.set_cons_zero, List.set_cons_succ])
  refine wpAnyH_take (i := 15) (oi := { dst := some 74 , op := Go.Op.load 24 ( Go.Operand.tmp 8 ) , type := 24 , pos := "outright.go:29" , after := #[ { on := 13 , ground := Go.Ground.guard } ] , guard := some ( 13 , false ) }) (v := ?_) rfl (by kernel_rfl) (by kernel_rfl) (by kernel_rfl) (fun _ _ _ h => h) (Or.inl ⟨by rfl, ?_⟩) (by assumption) ?_
  rotate_left
  · intro w hSw; (try dsimp only at hSw); go_simp; first | done | with_reducible rfl
  (try simp only [Act.put, List.setIfInBounds_toArray, List.set_cons_zero, List.set_cons_succ])
  refine wpAnyH_take (i := 17) (oi := { dst := some 76 , op := Go.Op.load 24 ( Go.Operand.tmp 3 ) , type := 24 , pos := "outright.go:29" , after := #[ { on := 13 , ground := Go.Ground.guard } ] , guard := some ( 13 , false ) }) (v := ?_) rfl (by kernel_rfl) (by kernel_rfl) (by kernel_rfl) (fun _ _ _ h => h) (Or.inl ⟨by rfl, ?_⟩) (by assumption) ?_
  rotate_left
  · intro w hSw; (try dsimp only at hSw); go_simp; first | done | with_reducible rfl
  (try simp only [Act.put, List.setIfInBounds_toArray, List.set_cons_zero, List.set_cons_succ])
  refine wpAnyH_ready (rs := [16]) (by kernel_rfl) (by simp) ?_
  refine AllReadyH.cons (o := { dst := some 75 , op := Go.Op.call { callee := Go.Callee.value ( Go.Operand.func 41 ) , args := #[ Go.Operand.tmp 73 , Go.Operand.tmp 74 ] , argTypes := #[ 24 , 24 ] } , type := 24 , pos := "outright.go:29" , after := #[ { on := 14 , ground := Go.Ground.data } , { on := 15 , ground := Go.Ground.data } , { on := 13 , ground := Go.Ground.chain } , { on := 13 , ground := Go.Ground.guard } ] , guard := some ( 13 , false ) }) rfl (fun K hK => ?_) AllReadyH.nil
  go_simp
  refine (sm7 _).mono ?_
  rintro e w21 ⟨rfl, hb21⟩
  have g21 := g20.trans hb21
  have s21 := hk15 _ g21
  go_wp2_with fail
  refine hK.out _ _ ?_ (fun hHeld => ?_)
  · exact s21
  clear hK K
  (try simp only [Act.put, List.setIfInBounds_toArray, List.set_cons_zero, List.set_cons_succ])
  refine wpAnyH_take (i := 18) (oi := { dst := some 77 , op := Go.Op.binOp Go.BinOp.neq 24 ( Go.Operand.tmp 75 ) ( Go.Operand.tmp 76 ) 24 , type := 4 , pos := "outright.go:29" , after := #[ { on := 16 , ground := Go.Ground.data } , { on := 17 , ground := Go.Ground.data } , { on := 13 , ground := Go.Ground.guard } ] , guard := some ( 13 , false ) }) (v := ?_) rfl (by kernel_rfl) (by kernel_rfl) (by kernel_rfl) (fun _ _ _ h => h) (Or.inl ⟨by rfl, ?_⟩) (by assumption) ?_
  rotate_left
  · intro w hSw; refine run_neq_U (x) _ _ _ _ _ _ _ _ ?_ ?_ w <;> rfl
  (try simp only [Act.put, List.setIfInBounds_toArray, List.set_cons_zero, List.set_cons_succ])
  refine wpAnyH_take (i := 19) (oi := { dst := some 78 , op := Go.Op.pick ( Go.Operand.tmp 72 ) ( Go.Operand.const ( Go.Value.bool true ) ) ( Go.Operand.tmp 77 ) , type := 4 , pos := "outright.go:29" , after := #[ { on := 13 , ground := Go.Ground.data } , { on := 18 , ground := Go.Ground.data } ] , guard := none }) (v := ?_) rfl (by kernel_rfl) (by kernel_rfl) (by kernel_rfl) (fun _ _ _ h => h) (Or.inl ⟨by rfl, ?_⟩) (by assumption) ?_
  rotate_left
  · intro w hSw; (try dsimp only at hSw); go_simp; first | done | with_reducible rfl
  (try simp only [Act.put, List.setIfInBounds_toArray, List.set_cons_zero, List.set_cons_succ])
  refine wpAnyH_take (i := 20) (oi := { dst := some 79 , op := Go.Op.move ( Go.Operand.tmp 78 ) , type := 4 , pos := "outright.go:29" , after := #[ { on := 19 , ground := Go.Ground.data } , { on := 16 , ground := Go.Ground.chain } ] , guard := none }) (v := ?_) rfl (by kernel_rfl) (by kernel_rfl) (by kernel_rfl) (fun _ _ _ h => h) (Or.inl ⟨by rfl, ?_⟩) (by assumption) ?_
  rotate_left
  · intro w hSw; (try dsimp only at hSw); go_simp; first | done | with_reducible rfl
  (try simp only [Act.put, List.setIfInBounds_toArray, List.set_cons_zero, List.set_cons_succ])
  refine wpAnyH_take (i := 21) (oi := { dst := some 80 , op := Go.Op.load 24 ( Go.Operand.tmp 3 ) , type := 24 , pos := "outright.go:29" , after := #[ { on := 20 , ground := Go.Ground.guard } ] , guard := some ( 20 , false ) }) (v := ?_) rfl (by kernel_rfl) (by kernel_rfl) (by kernel_rfl) (fun _ _ _ h => h) (Or.inl ⟨by rfl, ?_⟩) (by assumption) ?_
  rotate_left
  · intro w hSw; (try dsimp only at hSw); go_simp; first | done | with_reducible rfl
  (try simp only [Act.put, List.setIfInBounds_toArray, List.set_cons_zero, List.set_cons_succ])
  refine wpAnyH_take (i := 22) (oi := { dst := some 81 , op := Go.Op.load 24 ( Go.Operand.tmp 7 ) , type := 24 , pos := "outright.go:29" , after := #[ { on := 20 , ground := Go.Ground.guard } ] , guard := some ( 20 , false ) }) (v := ?_) rfl (by kernel_rfl) (by kernel_rfl) (by kernel_rfl) (fun _ _ _ h => h) (Or.inl ⟨by rfl, ?_⟩) (by assumption) ?_
  rotate_left
  · intro w hSw; (try dsimp only at hSw); go_simp; first | done | with_reducible rfl
  (try simp only [Act.put, List.setIfInBounds_toArray, List.set_cons_zero, List.set_cons_succ])
  refine wpAnyH_take (i := 24) (oi := { dst := some 83 , op := Go.Op.load 24 ( Go.Operand.tmp 3 ) , type := 24 , pos := "outright.go:29" , after := #[ { on := 20 , ground := Go.Ground.guard } ] , guard := some ( 20 , false ) }) (v := ?_) rfl (by kernel_rfl) (by kernel_rfl) (by kernel_rfl) (fun _ _ _ h => h) (Or.inl ⟨by rfl, ?_⟩) (by assumption) ?_
  rotate_left
  · intro w hSw; (try dsimp only at hSw); go_simp; first | done | with_reducible rfl
  (try simp only [Act.put, List.setIfInBounds_toArray, List.set_cons_zero, List.set_cons_succ])
  refine wpAnyH_ready (rs := [23]) (by kernel_rfl) (by simp) ?_
  refine AllReadyH.cons (o := { dst := some 82 , op := Go.Op.call { callee := Go.Callee.value ( Go.Operand.func 42 ) , args := #[ Go.Operand.tmp 80 , Go.Operand.tmp 81 ] , argTypes := #[ 24 , 24 ] } , type := 24 , pos := "outright.go:29" , after := #[ { on := 21 , ground := Go.Ground.data } , { on := 22 , ground := Go.Ground.data } , { on := 20 , ground := Go.Ground.chain } , { on := 20 , ground := Go.Ground.guard } ] , guard := some ( 20 , false ) }) rfl (fun K hK => ?_) AllReadyH.nil
  go_simp
  refine (p8 _).mono ?_
  rintro e w22 ⟨rfl, hb22⟩
  have g22 := g21.trans hb22
  have s22 := hk15 _ g22
  go_wp2_with fail
  refine hK.out _ _ ?_ (fun hHeld => ?_)
  · exact s22
  clear hK K
  (try simp only [Act.put, List.setIfInBounds_toArray, List.set_cons_zero, List.set_cons_succ])
  refine wpAnyH_take (i := 25) (oi := { dst := some 84 , op := Go.Op.binOp Go.BinOp.neq 24 ( Go.Operand.tmp 82 ) ( Go.Operand.tmp 83 ) 24 , type := 4 , pos := "outright.go:29" , after := #[ { on := 23 , ground := Go.Ground.data } , { on := 24 , ground := Go.Ground.data } , { on := 20 , ground := Go.Ground.guard } ] , guard := some ( 20 , false ) }) (v := ?_) rfl (by kernel_rfl) (by kernel_rfl) (by kernel_rfl) (fun _ _ _ h => h) (Or.inl ⟨by rfl, ?_⟩) (by assumption) ?_
  rotate_left
  · intro w hSw; refine run_neq_U (x) _ _ _ _ _ _ _ _ ?_ ?_ w <;> rfl
  (try simp only [Act.put, List.setIfInBounds_toArray, List.set_cons_zero, List.set_cons_succ])
  refine wpAnyH_take (i := 26) (oi := { dst := some 85 , op := Go.Op.pick ( Go.Operand.tmp 79 ) ( Go.Operand.const ( Go.Value.bool true ) ) ( Go.Operand.tmp 84 ) , type := 4 , pos := "outright.go:29" , after := #[ { on := 20 , ground := Go.Ground.data } , { on := 25 , ground := Go.Ground.data } ] , guard := none }) (v := ?_) rfl (by kernel_rfl) (by kernel_rfl) (by kernel_rfl) (fun _ _ _ h => h) (Or.inl ⟨by rfl, ?_⟩) (by assumption) ?_
  rotate_left
  · intro w hSw; (try dsimp only at hSw); go_simp; first | done | with_reducible rfl
  (try simp only [Act.put, List.setIfInBounds_toArray, List.set_cons_zero, List.set_cons_succ])
  refine wpAnyH_take (i := 27) (oi := { dst := some 86 , op := Go.Op.move ( Go.Operand.tmp 85 ) , type := 4 , pos := "outright.go:29" , after := #[ { on := 26 , ground := Go.Ground.data } , { on := 23 , ground := Go.Ground.chain } ] , guard := none }) (v := ?_) rfl (by kernel_rfl) (by kernel_rfl) (by kernel_rfl) (fun _ _ _ h => h) (Or.inl ⟨by rfl, ?_⟩) (by assumption) ?_
  rotate_left
  · intro w hSw; (try dsimp only at hSw); go_simp; first | done | with_reducible rfl
  (try simp only [Act.put, List.setIfInBounds_toArray, List.set_cons_zero, List.set_cons_succ])
  refine wpAnyH_take (i := 28) (oi := { dst := some 87 , op := Go.Op.load 24 ( Go.Operand.tmp 3 ) , type := 24 , pos := "outright.go:29" , after := #[ { on := 27 , ground := Go.Ground.guard } ] , guard := some ( 27 , false ) }) (v := ?_) rfl (by kernel_rfl) (by kernel_rfl) (by kernel_rfl) (fun _ _ _ h => h) (Or.inl ⟨by rfl, ?_⟩) (by assumption) ?_
  rotate_left
  · intro w hSw; (try dsimp only at hSw); go_simp; first | done | with_reducible rfl
  (try simp only [Act.put, List.setIfInBounds_toArray, List.set_cons_zero, List.set_cons_succ])
  refine wpAnyH_take (i := 29) (oi := { dst := some 88 , op := Go.Op.load 24 ( Go.Operand.tmp 8 ) , type := 24 , pos := "outright.go:29" , after := #[ { on := 27 , ground := Go.Ground.guard } ] , guard := some ( 27 , false ) }) (v := ?_) rfl (by kernel_rfl) (by kernel_rfl) (by kernel_rfl) (fun _ _ _ h => h) (Or.inl ⟨by rfl, ?_⟩) (by assumption) ?_
  rotate_left
  · intro w hSw; (try dsimp only at hSw); go_simp; first | done | with_reducible rfl
  (try simp only [Act.put, List.setIfInBounds_toArray, List.set_cons_zero, List.set_cons_succ])
  refine wpAnyH_take (i := 31) (oi := { dst := some 90 , op := Go.Op.load 24 ( Go.Operand.tmp 8 ) , type := 24 , pos := "outright.go:29" , after := #[ { on := 27 , ground := Go.Ground.guard } ] , guard := some ( 27 , false ) }) (v := ?_) rfl (by kernel_rfl) (by kernel_rfl) (by kernel_rfl) (fun _ _ _ h => h) (Or.inl ⟨by rfl, ?_⟩) (by assumption) ?_
  rotate_left
  · intro w hSw; (try dsimp only at hSw); go_simp; first | done | with_reducible rfl
  (try simp only [Act.put, List.setIfInBounds_toArray, List.set_cons_zero, List.set_cons_succ])
  refine wpAnyH_ready (rs := [30]) (by kernel_rfl) (by simp) ?_
  refine AllReadyH.cons (o := { dst := some 89 , op := Go.Op.call { callee := Go.Callee.value ( Go.Operand.func 42 ) , args := #[ Go.Operand.tmp 87 , Go.Operand.tmp 88 ] , argTypes := #[ 24 , 24 ] } , type := 24 , pos := "outright.go:29" , after := #[ { on := 28 , ground := Go.Ground.data } , { on := 29 , ground := Go.Ground.data } , { on := 27 , ground := Go.Ground.chain } , { on := 27 , ground := Go.Ground.guard } ] , guard := some ( 27 , false ) }) rfl (fun K hK => ?_) AllReadyH.nil
  go_simp
  refine (p9 _).mono ?_
  rintro e w23 ⟨rfl, hb23⟩
  have g23 := g22.trans hb23
  have s23 := hk15 _ g23
  go_wp2_with fail
  refine hK.out _ _ ?_ (fun hHeld => ?_)
  · exact s23
  clear hK K
  (try simp only [Act.put, List.setIfInBounds_toArray, List.set_cons_zero, List.set_cons_succ])
  refine wpAnyH_take (i := 32) (oi := { dst := some 91 , op := Go.Op.binOp Go.BinOp.neq 24 ( Go.Operand.tmp 89 ) ( Go.Operand.tmp 90 ) 24 , type := 4 , pos := "outright.go:29" , after := #[ { on := 30 , ground := Go.Ground.data } , { on := 31 , ground := Go.Ground.data } , { on := 27 , ground := Go.Ground.guard } ] , guard := some ( 27 , false ) }) (v := ?_) rfl (by kernel_rfl) (by kernel_rfl) (by kernel_rfl) (fun _ _ _ h => h) (Or.inl ⟨by rfl, ?_⟩) (by assumption) ?_
  rotate_left
  · intro w hSw; refine run_neq_U (0) _ _ _ _ _ _ _ _ ?_ ?_ w <;> rfl
  (try simp only [Act.put, List.setIfInBounds_toArray, List.set_cons_zero, List.set_cons_succ])
  refine wpAnyH_take (i := 33) (oi := { dst := some 92 , op := Go.Op.pick ( Go.Operand.tmp 86 ) ( Go.Operand.const ( Go.Value.bool true ) ) ( Go.Operand.tmp 91 ) , type := 4 , pos := "outright.go:29" , after := #[ { on := 27 , ground := Go.Ground.data } , { on := 32 , ground := Go.Ground.data } ] , guard := none }) (v := ?_) rfl (by kernel_rfl) (by kernel_rfl) (by kernel_rfl) (fun _ _ _ h => h) (Or.inl ⟨by rfl, ?_⟩) (by assumption) ?_
  rotate_left
  · intro w hSw; (try dsimp only at hSw); go_simp; first | done | with_reducible rfl
  (try simp only [Act.put, List.setIfInBounds_toArray, List.set_cons_zero, List.set_cons_succ])
  refine wpAnyH_take (i := 34) (oi := { dst := some 93 , op := Go.Op.move ( Go.Operand.tmp 92 ) , type := 4 , pos := "outright.go:29" , after := #[ { on := 33 , ground := Go.Ground.data } , { on := 30 , ground := Go.Ground.chain } ] , guard := none }) (v := ?_) rfl (by kernel_rfl) (by kernel_rfl) (by kernel_rfl) (fun _ _ _ h => h) (Or.inl ⟨by rfl, ?_⟩) (by assumption) ?_
  rotate_left
  · intro w hSw; (try dsimp only at hSw); go_simp; first | done | with_reducible rfl
  (try simp only [Act.put, List.setIfInBounds_toArray, List.set_cons_zero, List.set_cons_succ])
  refine wpAnyH_take (i := 35) (oi := { dst := some 94 , op := Go.Op.load 24 ( Go.Operand.tmp 7 ) , type := 24 , pos := "outright.go:29" , after := #[ { on := 34 , ground := Go.Ground.guard } ] , guard := some ( 34 , false ) }) (v := ?_) rfl (by kernel_rfl) (by kernel_rfl) (by kernel_rfl) (fun _ _ _ h => h) (Or.inl ⟨by rfl, ?_⟩) (by assumption) ?_
  rotate_left
  · intro w hSw; (try dsimp only at hSw); go_simp; first | done | with_reducible rfl
  (try simp only [Act.put, List.setIfInBounds_toArray, List.set_cons_zero, List.set_cons_succ])
  refine wpAnyH_take (i := 36) (oi := { dst := some 95 , op := Go.Op.load 24 ( Go.Operand.tmp 8 ) , type := 24 , pos := "outright.go:29" , after := #[ { on := 34 , ground := Go.Ground.guard } ] , guard := some ( 34 , false ) }) (v := ?_) rfl (by kernel_rfl) (by kernel_rfl) (by kernel_rfl) (fun _ _ _ h => h) (Or.inl ⟨by rfl, ?_⟩) (by assumption) ?_
  rotate_left
  · intro w hSw; (try dsimp only at hSw); go_simp; first | done | with_reducible rfl
  (try simp only [Act.put, List.setIfInBounds_toArray, List.set_cons_zero, List.set_cons_succ])
  refine wpAnyH_take (i := 37) (oi := { dst := some 96 , op := Go.Op.binOp Go.BinOp.eql 24 ( Go.Operand.tmp 94 ) ( Go.Operand.tmp 95 ) 24 , type := 4 , pos := "outright.go:29" , after := #[ { on := 35 , ground := Go.Ground.data } , { on := 36 , ground := Go.Ground.data } , { on := 34 , ground := Go.Ground.guard } ] , guard := some ( 34 , false ) }) (v := ?_) rfl (by kernel_rfl) (by kernel_rfl) (by kernel_rfl) (fun _ _ _ h => h) (Or.inl ⟨by rfl, ?_⟩) (by assumption) ?_
  rotate_left
  · intro w hSw; refine run_eql_no 1 0 L1.out T256_pos (by decide) _ _ _ _ _ _ _ _ ?_ ?_ w <;> rfl
  (try simp only [Act.put, List.setIfInBounds_toArray, List.set_cons_zero, List.set_cons_succ])
  refine wpAnyH_take (i := 38) (oi := { dst := some 97 , op := Go.Op.pick ( Go.Operand.tmp 93 ) ( Go.Operand.const ( Go.Value.bool true ) ) ( Go.Operand.tmp 96 ) , type := 4 , pos := "outright.go:29" , after := #[ { on := 34 , ground := Go.Ground.data } , { on := 37 , ground := Go.Ground.data } ] , guard := none }) (v := ?_) rfl (by kernel_rfl) (by kernel_rfl) (by kernel_rfl) (fun _ _ _ h => h) (Or.inl ⟨by rfl, ?_⟩) (by assumption) ?_
  rotate_left
  · intro w hSw; (try dsimp only at hSw); go_simp; first | done | with_reducible rfl
  (try simp only [Act.put, List.setIfInBounds_toArray, List.set_cons_zero, List.set_cons_succ])
  refine wpAnyH_done (by kernel_rfl) ?_ _
  refine NoPanic.normal ?_
  have r23_0 := r15_0.call g23
  have r23_1 := r15_1.call g23
  have r23_4 := r15_4.call g23
  have b23 := b15.trans g23
  have z23 := g23.size
  have y23 : w.heap.size ≤ w23.heap.size := b23.size
  clear hk15 s15_0 r15_0 r15_0_c r15_0_f r15_0_l r15_1 r15_1_c r15_1_f r15_1_l r15_2 r15_2_c r15_2_f r15_2_l r15_3 r15_3_c r15_3_f r15_3_l r15_4 r15_4_c r15_4_f r15_4_l b15 hb16 g16 s16 hb17 g17 s17 hb18 g18 s18 hb19 g19 s19 hb20 g20 s20 hb21 g21 s21 hb22 g22 s22 hb23 g23 s23
  obtain ⟨r23_0_c, r23_0_f, r23_0_l⟩ := r23_0.tell
  obtain ⟨r23_1_c, r23_1_f, r23_1_l⟩ := r23_1.tell
  obtain ⟨r23_4_c, r23_4_f, r23_4_l⟩ := r23_4.tell
  go_wp2_with fail
  refine (u1 _).mono ?_
  rintro e w24 ⟨rfl, hb24⟩
  have r24_0 : Box w24 (w.heap.size) #[.int .u64 (L (x) 0), .int .u64 (L (x) 1), .int .u64 (L (x) 2), .int .u64 (L (x) 3)] 24 := (r23_0).call hb24
  have r24_1 : Box w24 (w.heap.size + 1) #[.int .u64 (L (y) 0), .int .u64 (L (y) 1), .int .u64 (L (y) 2), .int .u64 (L (y) 3)] 24 := (r23_1).call hb24
  have r24_4 : Box w24 (w2.heap.size) #[.int .u64 (L (0) 0), .int .u64 (L (0) 1), .int .u64 (L (0) 2), .int .u64 (L (0) 3)] 24 := (r23_4).call hb24
  have b24 : Bl w w24 := Bl.trans (b23) hb24
  have z24 : w23.heap.size ≤ w24.heap.size := (by have := hb24.size; (try simp only [World.alloc, World.setCell, World.drew, Array.size_push, Array.size_modify] at this); omega)
  have y24 : w.heap.size ≤ w24.heap.size := b24.size
  clear r23_0 r23_0_c r23_0_f r23_0_l r23_1 r23_1_c r23_1_f r23_1_l r23_4 r23_4_c r23_4_f r23_4_l hb24 b23
  obtain ⟨r24_0_c, r24_0_f, r24_0_l⟩ := r24_0.tell
  obtain ⟨r24_1_c, r24_1_f, r24_1_l⟩ := r24_1.tell
  obtain ⟨r24_4_c, r24_4_f, r24_4_l⟩ := r24_4.tell
  have n24_0 : (w.heap.size = w24.heap.size) = False := (by simp only [eq_iff_iff, iff_false]; omega)
  have m24_0 : (w24.heap.size = w.heap.size) = False := (by simp only [eq_iff_iff, iff_false]; omega)
  have l24_0 : w.heap.size < w24.heap.size := (by omega)
  have n24_1 : (w.heap.size = w24.heap.size + 1) = False := (by simp only [eq_iff_iff, iff_false]; omega)
  have m24_1 : (w24.heap.size + 1 = w.heap.size) = False := (by simp only [eq_iff_iff, iff_false]; omega)
  have l24_1 : w.heap.size < w24.heap.size + 1 := (by omega)
  have n24_2 : (w.heap.size = w24.heap.size + 1 + 1) = False := (by simp only [eq_iff_iff, iff_false]; omega)
  have m24_2 : (w24.heap.size + 1 + 1 = w.heap.size) = False := (by simp only [eq_iff_iff, iff_false]; omega)
  have l24_2 : w.heap.size < w24.heap.size + 1 + 1 := (by omega)
  have n24_3 : (w.heap.size + 1 = w24.heap.size) = False := (by simp only [eq_iff_iff, iff_false]; omega)
  have m24_3 : (w24.heap.size = w.heap.size + 1) = False := (by simp only [eq_iff_iff, iff_false]; omega)
  have l24_3 : w.heap.size + 1 < w24.heap.size := (by omega)
  have n24_4 : (w2.heap.size = w24.heap.size) = False := (by simp only [eq_iff_iff, iff_false]; omega)
  have m24_4 : (w24.heap.size = w2.heap.size) = False := (by simp only [eq_iff_iff, iff_false]; omega)
  have l24_4 : w2.heap.size < w24.heap.size := (by omega)
  have n24_5 : (w2.heap.size = w24.heap.size + 1) = False := (by simp only [eq_iff_iff, iff_false]; omega)
  have m24_5 : (w24.heap.size + 1 = w2.heap.size) = False := (by simp only [eq_iff_iff, iff_false]; omega)
  have l24_5 : w2.heap.size < w24.heap.size + 1 := (by omega)
  have n24_6 : (w2.heap.size = w24.heap.size + 1 + 1) = False := (by simp only [eq_iff_iff, iff_false]; omega)
  have m24_6 : (w24.heap.size + 1 + 1 = w2.heap.size) = False := (by simp only [eq_iff_iff, iff_false]; omega)
  have l24_6 : w2.heap.size < w24.heap.size + 1 + 1 := (by omega)
  go_wp2_with fail
  refine (u2 _).mono ?_
  rintro e w25 ⟨rfl, hb25⟩
  have r25_0 : Box w25 (w.heap.size) #[.int .u64 (L (x) 0), .int .u64 (L (x) 1), .int .u64 (L (x) 2), .int .u64 (L (x) 3)] 24 := ((r24_0).alloc _).call hb25
  have r25_1 : Box w25 (w.heap.size + 1) #[.int .u64 (L (y) 0), .int .u64 (L (y) 1), .int .u64 (L (y) 2), .int .u64 (L (y) 3)] 24 := ((r24_1).alloc _).call hb25
  have r25_4 : Box w25 (w2.heap.size) #[.int .u64 (L (0) 0), .int .u64 (L (0) 1), .int .u64 (L (0) 2), .int .u64 (L (0) 3)] 24 := ((r24_4).alloc _).call hb25
  have b25 : Bl w w25 := Bl.trans ((b24).alloc _) hb25
  have z25 : w24.heap.size + 1 ≤ w25.heap.size := (by have := hb25.size; (try simp only [World.alloc, World.setCell, World.drew, Array.size_push, Array.size_modify] at this); omega)
  have y25 : w.heap.size ≤ w25.heap.size := b25.size
  clear r24_0 r24_0_c r24_0_f r24_0_l r24_1 r24_1_c r24_1_f r24_1_l r24_4 r24_4_c r24_4_f r24_4_l hb25 b24
  obtain ⟨r25_0_c, r25_0_f, r25_0_l⟩ := r25_0.tell
  obtain ⟨r25_1_c, r25_1_f, r25_1_l⟩ := r25_1.tell
  obtain ⟨r25_4_c, r25_4_f, r25_4_l⟩ := r25_4.tell
  have n25_0 : (w.heap.size = w25.heap.size) = False := (by simp only [eq_iff_iff, iff_false]; omega)
  have m25_0 : (w25.heap.size = w.heap.size) = False := (by simp only [eq_iff_iff, iff_false]; omega)
  have l25_0 : w.heap.size < w25.heap.size := (by omega)
  have n25_1 : (w.heap.size = w25.heap.size + 1) = False := (by simp only [eq_iff_iff, iff_false]; omega)
  have m25_1 : (w25.heap.size + 1 = w.heap.size) = False := (by simp only [eq_iff_iff, iff_false]; omega)
  have l25_1 : w.heap.size < w25.heap.size + 1 := (by omega)
  have n25_2 : (w.heap.size = w25.heap.size + 1 + 1) = False := (by simp only [eq_iff_iff, iff_false]; omega)
  have m25_2 : (w25.heap.size + 1 + 1 = w.heap.size) = False := (by simp only [eq_iff_iff, iff_false]; omega)
  have l25_2 : w.heap.size < w25.heap.size + 1 + 1 := (by omega)
  have n25_3 : (w.heap.size + 1 = w25.heap.size) = False := (by simp only [eq_iff_iff, iff_false]; omega)
  have m25_3 : (w25.heap.size = w.heap.size + 1) = False := (by simp only [eq_iff_iff, iff_false]; omega)
  have l25_3 : w.heap.size + 1 < w25.heap.size := (by omega)
  have n25_4 : (w2.heap.size = w25.heap.size) = False := (by simp only [eq_iff_iff, iff_false]; omega)
  have m25_4 : (w25.heap.size = w2.heap.size) = False := (by simp only [eq_iff_iff, iff_false]; omega)
  have l25_4 : w2.heap.size < w25.heap.size := (by omega)
  have n25_5 : (w2.heap.size = w25.heap.size + 1) = False := (by simp only [eq_iff_iff, iff_false]; omega)
  have m25_5 : (w25.heap.size + 1 = w2.heap.size) = False := (by simp only [eq_iff_iff, iff_false]; omega)
  have l25_5 : w2.heap.size < w25.heap.size + 1 := (by omega)
  have n25_6 : (w2.heap.size = w25.heap.size + 1 + 1) = False := (by simp only [eq_iff_iff, iff_false]; omega)
  have m25_6 : (w25.heap.size + 1 + 1 = w2.heap.size) = False := (by simp only [eq_iff_iff, iff_false]; omega)
  have l25_6 : w2.heap.size < w25.heap.size + 1 + 1 := (by omega)
  go_wp2_with fail
  refine (u3 _).mono ?_
  rintro e w26 ⟨rfl, hb26⟩
  have r26_0 : Box w26 (w.heap.size) #[.int .u64 (L (x) 0), .int .u64 (L (x) 1), .int .u64 (L (x) 2), .int .u64 (L (x) 3)] 24 := ((r25_0).alloc _).call hb26
  have r26_1 : Box w26 (w.heap.size + 1) #[.int .u64 (L (y) 0), .int .u64 (L (y) 1), .int .u64 (L (y) 2), .int .u64 (L (y) 3)] 24 := ((r25_1).alloc _).call hb26
  have r26_4 : Box w26 (w2.heap.size) #[.int .u64 (L (0) 0), .int .u64 (L (0) 1), .int .u64 (L (0) 2), .int .u64 (L (0) 3)] 24 := ((r25_4).alloc _).call hb26
  have b26 : Bl w w26 := Bl.trans ((b25).alloc _) hb26
  have z26 : w25.heap.size + 1 ≤ w26.heap.size := (by have := hb26.size; (try simp only [World.alloc, World.setCell, World.drew, Array.size_push, Array.size_modify] at this); omega)
  have y26 : w.heap.size ≤ w26.heap.size := b26.size
  clear r25_0 r25_0_c r25_0_f r25_0_l r25_1 r25_1_c r25_1_f r25_1_l r25_4 r25_4_c r25_4_f r25_4_l hb26 b25
  obtain ⟨r26_0_c, r26_0_f, r26_0_l⟩ := r26_0.tell
  obtain ⟨r26_1_c, r26_1_f, r26_1_l⟩ := r26_1.tell
  obtain ⟨r26_4_c, r26_4_f, r26_4_l⟩ := r26_4.tell
  go_wp2_with fail
  refine (u4 _).mono ?_
  rintro e w27 ⟨rfl, hb27⟩
  have r27_0 : Box w27 (w.heap.size) #[.int .u64 (L (x) 0), .int .u64 (L (x) 1), .int .u64 (L (x) 2), .int .u64 (L (x) 3)] 24 := (r26_0).call hb27
  have r27_1 : Box w27 (w.heap.size + 1) #[.int .u64 (L (y) 0), .int .u64 (L (y) 1), .int .u64 (L (y) 2), .int .u64 (L (y) 3)] 24 := (r26_1).call hb27
  have r27_4 : Box w27 (w2.heap.size) #[.int .u64 (L (0) 0), .int .u64 (L (0) 1), .int .u64 (L (0) 2), .int .u64 (L (0) 3)] 24 := (r26_4).call hb27
  have b27 : Bl w w27 := Bl.trans (b26) hb27
  have z27 : w26.heap.size ≤ w27.heap.size := (by have := hb27.size; (try simp only [World.alloc, World.setCell, World.drew, Array.size_push, Array.size_modify] at this); omega)
  have y27 : w.heap.size ≤ w27.heap.size := b27.size
  clear r26_0 r26_0_c r26_0_f r26_0_l r26_1 r26_1_c r26_1_f r26_1_l r26_4 r26_4_c r26_4_f r26_4_l hb27 b26
  obtain ⟨r27_0_c, r27_0_f, r27_0_l⟩ := r27_0.tell
  obtain ⟨r27_1_c, r27_1_f, r27_1_l⟩ := r27_1.tell
  obtain ⟨r27_4_c, r27_4_f, r27_4_l⟩ := r27_4.tell
  have n27_0 : (w.heap.size = w27.heap.size) = False := (by simp only [eq_iff_iff, iff_false]; omega)
  have m27_0 : (w27.heap.size = w.heap.size) = False := (by simp only [eq_iff_iff, iff_false]; omega)
  have l27_0 : w.heap.size < w27.heap.size := (by omega)
  have n27_1 : (w.heap.size = w27.heap.size + 1) = False := (by simp only [eq_iff_iff, iff_false]; omega)
  have m27_1 : (w27.heap.size + 1 = w.heap.size) = False := (by simp only [eq_iff_iff, iff_false]; omega)
  have l27_1 : w.heap.size < w27.heap.size + 1 := (by omega)
  have n27_2 : (w.heap.size = w27.heap.size + 1 + 1) = False := (by simp only [eq_iff_iff, iff_false]; omega)
  have m27_2 : (w27.heap.size + 1 + 1 = w.heap.size) = False := (by simp only [eq_iff_iff, iff_false]; omega)
  have l27_2 : w.heap.size < w27.heap.size + 1 + 1 := (by omega)
  have n27_3 : (w.heap.size = w27.heap.size + 1 + 1 + 1) = False := (by simp only [eq_iff_iff, iff_false]; omega)
  have m27_3 : (w27.heap.size + 1 + 1 + 1 = w.heap.size) = False := (by simp only [eq_iff_iff, iff_false]; omega)
  have l27_3 : w.heap.size < w27.heap.size + 1 + 1 + 1 := (by omega)
  have n27_4 : (w.heap.size + 1 = w27.heap.size) = False := (by simp only [eq_iff_iff, iff_false]; omega)
  have m27_4 : (w27.heap.size = w.heap.size + 1) = False := (by simp only [eq_iff_iff, iff_false]; omega)
  have l27_4 : w.heap.size + 1 < w27.heap.size := (by omega)
  have n27_5 : (w2.heap.size = w27.heap.size) = False := (by simp only [eq_iff_iff, iff_false]; omega)
  have m27_5 : (w27.heap.size = w2.heap.size) = False := (by simp only [eq_iff_iff, iff_false]; omega)
  have l27_5 : w2.heap.size < w27.heap.size := (by omega)
  have n27_6 : (w2.heap.size = w27.heap.size + 1) = False := (by simp only [eq_iff_iff, iff_false]; omega)
  have m27_6 : (w27.heap.size + 1 = w2.heap.size) = False := (by simp only [eq_iff_iff, iff_false]; omega)
  have l27_6 : w2.heap.size < w27.heap.size + 1 := (by omega)
  have n27_7 : (w2.heap.size = w27.heap.size + 1 + 1) = False := (by simp only [eq_iff_iff, iff_false]; omega)
  have m27_7 : (w27.heap.size + 1 + 1 = w2.heap.size) = False := (by simp only [eq_iff_iff, iff_false]; omega)
  have l27_7 : w2.heap.size < w27.heap.size + 1 + 1 := (by omega)
  have n27_8 : (w2.heap.size = w27.heap.size + 1 + 1 + 1) = False := (by simp only [eq_iff_iff, iff_false]; omega)
  have m27_8 : (w27.heap.size + 1 + 1 + 1 = w2.heap.size) = False := (by simp only [eq_iff_iff, iff_false]; omega)
  have l27_8 : w2.heap.size < w27.heap.size + 1 + 1 + 1 := (by omega)
  go_wp2_with fail
  rcases HC.out with ⟨q1, q2, q3⟩ | ⟨q1, q2, q3, q4⟩ | ⟨q1, q3, q4⟩ | ⟨q1, q2, q3, q4⟩
  all_goals
    go_quiet (fail)
    go_wp2_with fail
    refine bodyPost_ret (v := .bool true) (by simp only [results, Try.results5]; go_simp) rfl ⟨rfl, ?_⟩
    exact (((b27).alloc _).alloc _).drewN _

set_option maxHeartbeats 1000000 in
set_option maxRecDepth 100000 in
theorem liftedU256Ring (os : Os) (started : os.Started) (H : Type) (enc : TypeId × Value → H) :
    ReturnsInHanded {} Try.checked os 5 .any (Rows.u256RingSpec.pre6 enc Try.prog Try.f5 Rows.u256RingRow.domain false) (Rows.u256RingSpec.post enc Try.prog Try.f5 false true false false) := by
  refine returnsInHanded_of_change (C := Try.checked) own started (by kernel_rfl) Try.func5
    (ChangeSpec.witness6 (enc := enc) (C := Try.checked) false ⟨#[], #[.agg #[.int .u64 0, .int .u64 0, .int .u64 0, .int .u64 0], .agg #[.int .u64 0, .int .u64 0, .int .u64 0, .int .u64 0], .agg #[.int .u64 0, .int .u64 0, .int .u64 0, .int .u64 0]], []⟩ 8 (by kernel_rfl) (by kernel_rfl) (by kernel_rfl) (by kernel_rfl)) ?_
  intro W base args ds gs before hval0 hW hcnd _
  have hval : ∀ (j : Nat) t v, Try.f5.params[j]? = some t → args[j]? = some v → Value.okWide Try.prog W .any base t v := hval0
  have hW' := hW
  obtain ⟨p, q, hA0, hV, rfl, hfz, hnd⟩ := hW
  have hA : DataW.TrodAll enc Try.prog W 0 (fun _ => true) true Try.f5.params.toList args.toList ds p := hA0
  rw [Try.params5] at hA hval
  obtain ⟨v0, vs0, d0, ds0, p0, q0, hargs, rfl, rfl, h0, r0⟩ := trodAll_cons hA
  obtain ⟨v1, vs1, d1, ds1, p1, q1, rfl, rfl, rfl, h1, r1⟩ := trodAll_cons r0
  obtain ⟨v2, vs2, d2, ds2, p2, q2, rfl, rfl, rfl, h2, r2⟩ := trodAll_cons r1
  obtain ⟨rfl, rfl, rfl⟩ := trodAll_nil r2
  obtain rfl : args = #[v0, v1, v2] := by cases args; simp_all
  obtain ⟨rfl, rfl⟩ := trodVars_none hV
  have lt0 : ∀ x ∈ p0, x.block < W.heap.size := by obtain ⟨m, hm⟩ := h0; exact DataW.trod_lt m _ _ _ hm
  obtain ⟨a0, g0, rfl⟩ := open_U (hval 0 24 v0 rfl rfl) h0
  have lt1 : ∀ x ∈ p1, x.block < W.heap.size := by obtain ⟨m, hm⟩ := h1; exact DataW.trod_lt m _ _ _ hm
  obtain ⟨a1, g1, rfl⟩ := open_U (hval 1 24 v1 rfl rfl) h1
  have lt2 : ∀ x ∈ p2, x.block < W.heap.size := by obtain ⟨m, hm⟩ := h2; exact DataW.trod_lt m _ _ _ hm
  obtain ⟨a2, g2, rfl⟩ := open_U (hval 2 24 v2 rfl rfl) h2
  clear hA0 hval0
  refine (walkU256Ring a0 a1 a2 g0 g1 g2 W).mono fun e W' ⟨he, bel⟩ => ?_
  subst he
  exact ⟨_, rfl, _, _, _, [], _, [], hW', trodAll_mk1 (shut_bool Try.underlying4 _), (trodAll_cons_mk (Below.trod laidOut (by kernel_rfl) (of_decide_eq_true (by kernel_rfl)) h0 bel.out lt0) (trodAll_cons_mk (Below.trod laidOut (by kernel_rfl) (of_decide_eq_true (by kernel_rfl)) h1 bel.out lt1) (trodAll_cons_mk (Below.trod laidOut (by kernel_rfl) (of_decide_eq_true (by kernel_rfl)) h2 bel.out lt2) trodAll_mk0))), rfl, bel.out.frame _, fun h => by cases h⟩

theorem provedU256Ring : Rows.U256RingSaid :=
  OpenClaim.holds_of_wide 5 Try.f5 rfl rfl rfl rfl rfl rfl rfl ⟨rfl, rfl, rfl, rfl, rfl⟩ rfl rfl rfl rfl rfl (by kernel_rfl) Try.func5 (by kernel_rfl)
    (of_decide_eq_true (by kernel_rfl)) (by unfold Func.isWrapper; first | (rw [if_pos (by decide +kernel)]; kernel_rfl) | (rw [if_neg (by decide +kernel)]; exact ⟨rfl, rfl⟩))
    (fun os started H enc _ => liftedU256Ring os started H enc)
end Go.Proofs.Ythgnmpjcbicdhaa
