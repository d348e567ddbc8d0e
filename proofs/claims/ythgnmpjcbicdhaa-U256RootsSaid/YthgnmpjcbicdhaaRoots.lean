/- The statement U256Roots, for every number: no condition. -/
import Derived.Test.YthgnmpjcbicdhaaRoot
import Derived.Test.YthgnmpjcbicdhaaOver
import Derived.Test.YthgnmpjcbicdhaaRow
import Derived.Test.YthgnmpjcbicdhaaEqNo
import Derived.Test.YthgnmpjcbicdhaaCuts
set_option linter.unusedSimpArgs false
set_option linter.unusedVariables false
namespace Go.Proofs.Ythgnmpjcbicdhaa
open Go Go.ChangeShapes Go.WideShapes Go.ChangeAt Go.RowKit

set_option maxHeartbeats 4000000 in
set_option maxRecDepth 100000 in
theorem walkU256Roots (x : Nat) (hx : x < T256) (w : World) :
    Calls Try.prog 6 #[U x] w fun e w' => e = .returned (.bool true) ∧ Bl w w' := by
  have hg := guardU
  have qs := fun n w => run_eq_self n w
  have hspec := rootN_spec x hx
  have hr128 := rootN_lt x
  have i1 := fun w => root_c x hx w
  generalize rootN x = r at *
  have hrT : r < T256 := Nat.lt_of_lt_of_le hr128 (by rw [T256_pow]; exact Nat.pow_le_pow_right (by omega) (by omega))
  have hn128 : r + 1 ≤ 2 ^ 128 := hr128
  have hnT : r + 1 < T256 := Nat.lt_of_le_of_lt hn128 (by rw [T256_pow]; exact Nat.pow_lt_pow_right (by omega) (by omega))
  have hsq := sq_lt hr128
  have l1 : 1 < T256 := by rw [T256_eq]; omega
  have i2 := fun w => mul_c r r hrT hrT w
  rw [Nat.div_eq_of_lt hsq, Nat.mod_eq_of_lt hsq] at i2
  have i3 := fun w => from_c 1 (by omega) w
  have i4 := fun w => add_c r 1 hrT l1 w
  rw [Nat.div_eq_of_lt hnT, Nat.mod_eq_of_lt hnT] at i4
  have i5 := fun w => mul_c (r + 1) (r + 1) hnT hnT w
  obtain ⟨n, hn⟩ : ∃ n, n = r + 1 := ⟨_, rfl⟩
  obtain ⟨s, hs⟩ : ∃ s, s = r * r := ⟨_, rfl⟩
  obtain ⟨hi, hhi⟩ : ∃ v, v = n * n / T256 := ⟨_, rfl⟩
  obtain ⟨lo, hlo⟩ : ∃ v, v = n * n % T256 := ⟨_, rfl⟩
  rw [← hn] at i4 i5 hspec
  rw [← hs] at i2 hspec hsq
  rw [← hhi, ← hlo] at i5
  have i0 := fun w => from_c 0 (by omega) w
  have i6 := fun w => cmp_c s x hsq hx w
  have hnn : n < T256 := by rw [hn]; exact hnT
  have lhi : hi < T256 := by rw [hhi]; exact mul_hi_lt hnn hnn
  have llo : lo < T256 := by rw [hlo]; exact mod_lt256 _
  have i7 := fun w => cmp_c lo x llo hx w
  obtain ⟨c1, hc1⟩ : ∃ c, c = cmpI s x := ⟨_, rfl⟩
  rw [← hc1] at i6
  have gg1 : decide (0 < c1) = false := by
    rw [hc1]; unfold cmpI; have := hspec.1
    split
    · rfl
    · split
      · rfl
      · omega
  by_cases h0 : hi = 0
  · have hle : x < lo := by
      have h1 : n * n = hi * T256 + lo := by rw [hhi, hlo, Nat.mul_comm (n * n / T256)]; exact (Nat.div_add_mod _ _).symm
      have h2 := hspec.2
      rw [h0, Nat.zero_mul, Nat.zero_add] at h1
      rw [h1] at h2; exact h2
    rw [cmpI_gt hle] at i7
    rw [h0] at i5
    clear h0 hle hhi hlo hs hn hc1 hspec hr128 hrT hn128 hnT hsq l1 hnn lhi llo hx
    go_enter Try.func6, Try.ntmps6
    go_wp2_with fail
    refine (i1 _).mono ?_
    rintro e w1 ⟨rfl, hb1⟩
    have r1_0 : Box w1 (w.heap.size) #[.int .u64 (L (x) 0), .int .u64 (L (x) 1), .int .u64 (L (x) 2), .int .u64 (L (x) 3)] 24 := (Box.new _ _ _ _ (by simp)).call hb1
    have b1 : Bl w w1 := Bl.trans ((Bl.refl w).alloc _) hb1
    have z1 : w.heap.size + 1 ≤ w1.heap.size := (by have := hb1.size; (try simp only [World.alloc, World.setCell, World.drew, Array.size_push, Array.size_modify] at this); omega)
    have y1 : w.heap.size ≤ w1.heap.size := b1.size
    clear hb1
    obtain ⟨r1_0_c, r1_0_f, r1_0_l⟩ := r1_0.tell
    have n1_0 : (w.heap.size = w1.heap.size) = False := (by simp only [eq_iff_iff, iff_false]; omega)
    have m1_0 : (w1.heap.size = w.heap.size) = False := (by simp only [eq_iff_iff, iff_false]; omega)
    have l1_0 : w.heap.size < w1.heap.size := (by omega)
    have n1_1 : (w.heap.size = w1.heap.size + 1) = False := (by simp only [eq_iff_iff, iff_false]; omega)
    have m1_1 : (w1.heap.size + 1 = w.heap.size) = False := (by simp only [eq_iff_iff, iff_false]; omega)
    have l1_1 : w.heap.size < w1.heap.size + 1 := (by omega)
    have n1_2 : (w.heap.size = w1.heap.size + 1 + 1) = False := (by simp only [eq_iff_iff, iff_false]; omega)
    have m1_2 : (w1.heap.size + 1 + 1 = w.heap.size) = False := (by simp only [eq_iff_iff, iff_false]; omega)
    have l1_2 : w.heap.size < w1.heap.size + 1 + 1 := (by omega)
    go_wp2_with fail
    refine (i2 _).mono ?_
    rintro e w2 ⟨rfl, hb2⟩
    have r2_0 : Box w2 (w.heap.size) #[.int .u64 (L (x) 0), .int .u64 (L (x) 1), .int .u64 (L (x) 2), .int .u64 (L (x) 3)] 24 := ((r1_0).alloc _).call hb2
    have r2_1 : Box w2 (w1.heap.size) #[.int .u64 (L (r) 0), .int .u64 (L (r) 1), .int .u64 (L (r) 2), .int .u64 (L (r) 3)] 24 := (Box.new _ _ _ _ (by simp)).call hb2
    have b2 : Bl w w2 := Bl.trans ((b1).alloc _) hb2
    have z2 : w1.heap.size + 1 ≤ w2.heap.size := (by have := hb2.size; (try simp only [World.alloc, World.setCell, World.drew, Array.size_push, Array.size_modify] at this); omega)
    have y2 : w.heap.size ≤ w2.heap.size := b2.size
    clear r1_0 r1_0_c r1_0_f r1_0_l hb2 b1
    obtain ⟨r2_0_c, r2_0_f, r2_0_l⟩ := r2_0.tell
    obtain ⟨r2_1_c, r2_1_f, r2_1_l⟩ := r2_1.tell
    have n2_0 : (w.heap.size = w2.heap.size) = False := (by simp only [eq_iff_iff, iff_false]; omega)
    have m2_0 : (w2.heap.size = w.heap.size) = False := (by simp only [eq_iff_iff, iff_false]; omega)
    have l2_0 : w.heap.size < w2.heap.size := (by omega)
    have n2_1 : (w.heap.size = w2.heap.size + 1) = False := (by simp only [eq_iff_iff, iff_false]; omega)
    have m2_1 : (w2.heap.size + 1 = w.heap.size) = False := (by simp only [eq_iff_iff, iff_false]; omega)
    have l2_1 : w.heap.size < w2.heap.size + 1 := (by omega)
    have n2_2 : (w.heap.size = w2.heap.size + 1 + 1) = False := (by simp only [eq_iff_iff, iff_false]; omega)
    have m2_2 : (w2.heap.size + 1 + 1 = w.heap.size) = False := (by simp only [eq_iff_iff, iff_false]; omega)
    have l2_2 : w.heap.size < w2.heap.size + 1 + 1 := (by omega)
    have n2_3 : (w.heap.size = w2.heap.size + 1 + 1 + 1) = False := (by simp only [eq_iff_iff, iff_false]; omega)
    have m2_3 : (w2.heap.size + 1 + 1 + 1 = w.heap.size) = False := (by simp only [eq_iff_iff, iff_false]; omega)
    have l2_3 : w.heap.size < w2.heap.size + 1 + 1 + 1 := (by omega)
    have n2_4 : (w1.heap.size = w2.heap.size) = False := (by simp only [eq_iff_iff, iff_false]; omega)
    have m2_4 : (w2.heap.size = w1.heap.size) = False := (by simp only [eq_iff_iff, iff_false]; omega)
    have l2_4 : w1.heap.size < w2.heap.size := (by omega)
    have n2_5 : (w1.heap.size = w2.heap.size + 1) = False := (by simp only [eq_iff_iff, iff_false]; omega)
    have m2_5 : (w2.heap.size + 1 = w1.heap.size) = False := (by simp only [eq_iff_iff, iff_false]; omega)
    have l2_5 : w1.heap.size < w2.heap.size + 1 := (by omega)
    have n2_6 : (w1.heap.size = w2.heap.size + 1 + 1) = False := (by simp only [eq_iff_iff, iff_false]; omega)
    have m2_6 : (w2.heap.size + 1 + 1 = w1.heap.size) = False := (by simp only [eq_iff_iff, iff_false]; omega)
    have l2_6 : w1.heap.size < w2.heap.size + 1 + 1 := (by omega)
    have n2_7 : (w1.heap.size = w2.heap.size + 1 + 1 + 1) = False := (by simp only [eq_iff_iff, iff_false]; omega)
    have m2_7 : (w2.heap.size + 1 + 1 + 1 = w1.heap.size) = False := (by simp only [eq_iff_iff, iff_false]; omega)
    have l2_7 : w1.heap.size < w2.heap.size + 1 + 1 + 1 := (by omega)
    go_wp2_with fail
    obtain ⟨w3, hw3⟩ : ∃ V : World, V = ((w2.alloc (.cells #[.int .u64 (L (0) 0), .int .u64 (L (0) 1), .int .u64 (L (0) 2), .int .u64 (L (0) 3)] 24)).alloc (.cells #[.int .u64 (L (s) 0), .int .u64 (L (s) 1), .int .u64 (L (s) 2), .int .u64 (L (s) 3)] 24)) := ⟨_, rfl⟩
    have r3_0 : Box w3 (w.heap.size) #[.int .u64 (L (x) 0), .int .u64 (L (x) 1), .int .u64 (L (x) 2), .int .u64 (L (x) 3)] 24 := by rw [hw3]; exact ((r2_0).alloc _).alloc _
    have r3_1 : Box w3 (w1.heap.size) #[.int .u64 (L (r) 0), .int .u64 (L (r) 1), .int .u64 (L (r) 2), .int .u64 (L (r) 3)] 24 := by rw [hw3]; exact ((r2_1).alloc _).alloc _
    have r3_2 : Box w3 (w2.heap.size) #[.int .u64 (L (0) 0), .int .u64 (L (0) 1), .int .u64 (L (0) 2), .int .u64 (L (0) 3)] 24 := by rw [hw3]; exact (Box.new _ _ _ _ (by simp)).alloc _
    have r3_3 : Box w3 (w2.heap.size + 1) #[.int .u64 (L (s) 0), .int .u64 (L (s) 1), .int .u64 (L (s) 2), .int .u64 (L (s) 3)] 24 := by rw [hw3]; exact Box.new _ _ _ _ (by simp)
    have b3 : Bl w w3 := by rw [hw3]; exact ((b2).alloc _).alloc _
    have z3 : w2.heap.size + 1 + 1 ≤ w3.heap.size := (by rw [hw3]; simp only [World.alloc, World.setCell, World.drew, Array.size_push, Array.size_modify]; omega)
    have y3 : w.heap.size ≤ w3.heap.size := b3.size
    rw [← hw3]
    clear r2_0 r2_0_c r2_0_f r2_0_l r2_1 r2_1_c r2_1_f r2_1_l hw3 b2
    obtain ⟨r3_0_c, r3_0_f, r3_0_l⟩ := r3_0.tell
    obtain ⟨r3_1_c, r3_1_f, r3_1_l⟩ := r3_1.tell
    obtain ⟨r3_2_c, r3_2_f, r3_2_l⟩ := r3_2.tell
    obtain ⟨r3_3_c, r3_3_f, r3_3_l⟩ := r3_3.tell
    clear i1 i2
    go_cut [6, 7] (fun v6 v7 wr => ∃ B2_0 : Nat, v6 = .pointer (some ⟨B2_0, 0, none⟩) ∧ v7 = .int .u64 0 ∧ Bl w3 wr ∧ Box wr (w.heap.size) #[.int .u64 (L (x) 0), .int .u64 (L (x) 1), .int .u64 (L (x) 2), .int .u64 (L (x) 3)] 24 ∧ Box wr (w1.heap.size) #[.int .u64 (L (r) 0), .int .u64 (L (r) 1), .int .u64 (L (r) 2), .int .u64 (L (r) 3)] 24 ∧ Box wr (w2.heap.size) #[.int .u64 (L (0) 0), .int .u64 (L (0) 1), .int .u64 (L (0) 2), .int .u64 (L (0) 3)] 24 ∧ Box wr (w2.heap.size + 1) #[.int .u64 (L (s) 0), .int .u64 (L (s) 1), .int .u64 (L (s) 2), .int .u64 (L (s) 3)] 24 ∧ Box wr (B2_0) #[.int .u64 (L (n) 0), .int .u64 (L (n) 1), .int .u64 (L (n) 2), .int .u64 (L (n) 3)] 24 ∧ w3.heap.size ≤ B2_0)
    case first =>
      go_region_with (first | (go_at_call 40; refine (i3 _).mono ?_; rintro e w4 ⟨rfl, hb4⟩; (try (first | (with_reducible have bx4_0 := Bl.new hb4) | (with_reducible have bx4_0 := Bl.newd hb4))); (try (first | (with_reducible have bx4_1 := Bl.new2 hb4) | (with_reducible have bx4_1 := Bl.new2d hb4))); (have bo4_1 : Box w4 (w1.heap.size) #[.int .u64 (L (r) 0), .int .u64 (L (r) 1), .int .u64 (L (r) 2), .int .u64 (L (r) 3)] 24 := (by repeat (first | (with_reducible assumption) | (with_reducible refine Box.call ?_ hb4) | (with_reducible apply Box.drew) | (with_reducible apply Box.alloc)))); (obtain ⟨oc4_1, of4_1, ol4_1⟩ := bo4_1.tell); (try obtain ⟨bc4_0, bf4_0, bl4_0⟩ := bx4_0.tell); (try obtain ⟨bc4_1, bf4_1, bl4_1⟩ := bx4_1.tell)) | (go_at_call 44; refine (i4 _).mono ?_; rintro e w5 ⟨rfl, hb5⟩; (try (first | (with_reducible have bx5_0 := Bl.new hb5) | (with_reducible have bx5_0 := Bl.newd hb5))); (try (first | (with_reducible have bx5_1 := Bl.new2 hb5) | (with_reducible have bx5_1 := Bl.new2d hb5))); (try (first | (with_reducible have bx5_2 := Bl.old hb5 bx4_0) | (with_reducible have bx5_2 := Bl.old1 hb5 bx4_0) | (with_reducible have bx5_2 := Bl.old2 hb5 bx4_0))); (try (first | (with_reducible have bx5_3 := Bl.old hb5 bx4_1) | (with_reducible have bx5_3 := Bl.old1 hb5 bx4_1) | (with_reducible have bx5_3 := Bl.old2 hb5 bx4_1))); (have bo5_1 : Box w5 (w1.heap.size) #[.int .u64 (L (r) 0), .int .u64 (L (r) 1), .int .u64 (L (r) 2), .int .u64 (L (r) 3)] 24 := (by repeat (first | (with_reducible assumption) | (with_reducible refine Box.call ?_ hb5) | (with_reducible refine Box.call ?_ hb4) | (with_reducible apply Box.drew) | (with_reducible apply Box.alloc)))); (obtain ⟨oc5_1, of5_1, ol5_1⟩ := bo5_1.tell); (try obtain ⟨bc5_0, bf5_0, bl5_0⟩ := bx5_0.tell); (try obtain ⟨bc5_1, bf5_1, bl5_1⟩ := bx5_1.tell); (try obtain ⟨bc5_2, bf5_2, bl5_2⟩ := bx5_2.tell); (try obtain ⟨bc5_3, bf5_3, bl5_3⟩ := bx5_3.tell)))
      all_goals
        go_wp2_with fail
        go_meet
        have q4 := hb4.size; have q5 := hb5.size
        (try simp only [World.alloc, World.drew, World.setCell, Array.size_push, Array.size_modify] at q4 q5)
        refine ⟨_, rfl, rfl, and_of (by (repeat (first | (with_reducible exact Bl.refl _) | (with_reducible assumption) | (with_reducible refine Bl.trans ?_ hb4) | (with_reducible refine Bl.trans ?_ hb5) | (with_reducible apply Bl.drew) | (with_reducible refine Bl.setCell ?_ (by simp only []; omega) _) | (with_reducible apply Bl.alloc)))) (fun hBL => ⟨r3_0.call hBL, r3_1.call hBL, r3_2.call hBL, r3_3.call hBL, ?_, ?_⟩)⟩
        · (repeat (first | (with_reducible assumption) | (with_reducible refine Box.new _ _ _ _ (by first | (with_reducible rfl) | (simp only [World.alloc, Array.size_push]; done))) | (with_reducible apply Box.drew) | (with_reducible refine Box.set4z (n) ?_) | (with_reducible refine Box.far ?_ _ _ (by simp only []; omega)) | (with_reducible refine Box.call ?_ hb4) | (with_reducible refine Box.call ?_ hb5) | (with_reducible apply Box.alloc)))
        · first | omega | (simp only [World.alloc, World.drew, World.setCell, Array.size_push, Array.size_modify]; omega)
    case rest =>
      obtain ⟨B2_0, rfl, rfl, hb6, r6_0, r6_1, r6_2, r6_3, r6_4, lo6_4⟩ := hcut
      obtain ⟨w6, hW6⟩ : ∃ W, W = wc := ⟨_, rfl⟩
      rw [← hW6] at r6_0 r6_1 r6_2 r6_3 r6_4 hb6 ⊢
      clear hW6
      have b6 := Bl.trans b3 hb6
      have z6 := hb6.size
      have y6 : w.heap.size ≤ w6.heap.size := b6.size
      clear r3_0 r3_0_c r3_0_f r3_0_l r3_1 r3_1_c r3_1_f r3_1_l r3_2 r3_2_c r3_2_f r3_2_l r3_3 r3_3_c r3_3_f r3_3_l hb6 b3
      obtain ⟨r6_0_c, r6_0_f, r6_0_l⟩ := r6_0.tell
      obtain ⟨r6_1_c, r6_1_f, r6_1_l⟩ := r6_1.tell
      obtain ⟨r6_2_c, r6_2_f, r6_2_l⟩ := r6_2.tell
      obtain ⟨r6_3_c, r6_3_f, r6_3_l⟩ := r6_3.tell
      obtain ⟨r6_4_c, r6_4_f, r6_4_l⟩ := r6_4.tell
      have n6_4_0 : (B2_0 = w.heap.size) = False := (by simp only [eq_iff_iff, iff_false]; omega)
      have m6_4_0 : (w.heap.size = B2_0) = False := (by simp only [eq_iff_iff, iff_false]; omega)
      have n6_4_1 : (B2_0 = w1.heap.size) = False := (by simp only [eq_iff_iff, iff_false]; omega)
      have m6_4_1 : (w1.heap.size = B2_0) = False := (by simp only [eq_iff_iff, iff_false]; omega)
      have n6_4_2 : (B2_0 = w2.heap.size) = False := (by simp only [eq_iff_iff, iff_false]; omega)
      have m6_4_2 : (w2.heap.size = B2_0) = False := (by simp only [eq_iff_iff, iff_false]; omega)
      have n6_4_3 : (B2_0 = w2.heap.size + 1) = False := (by simp only [eq_iff_iff, iff_false]; omega)
      have m6_4_3 : (w2.heap.size + 1 = B2_0) = False := (by simp only [eq_iff_iff, iff_false]; omega)
      go_wp2_with fail
      refine (i5 _).mono ?_
      rintro e w7 ⟨rfl, hb7⟩
      have r7_0 : Box w7 (w.heap.size) #[.int .u64 (L (x) 0), .int .u64 (L (x) 1), .int .u64 (L (x) 2), .int .u64 (L (x) 3)] 24 := (r6_0).call hb7
      have r7_2 : Box w7 (w2.heap.size) #[.int .u64 (L (0) 0), .int .u64 (L (0) 1), .int .u64 (L (0) 2), .int .u64 (L (0) 3)] 24 := (r6_2).call hb7
      have r7_3 : Box w7 (w2.heap.size + 1) #[.int .u64 (L (s) 0), .int .u64 (L (s) 1), .int .u64 (L (s) 2), .int .u64 (L (s) 3)] 24 := (r6_3).call hb7
      have b7 : Bl w w7 := Bl.trans (b6) hb7
      have z7 : w6.heap.size ≤ w7.heap.size := (by have := hb7.size; (try simp only [World.alloc, World.setCell, World.drew, Array.size_push, Array.size_modify] at this); omega)
      have y7 : w.heap.size ≤ w7.heap.size := b7.size
      clear r6_0 r6_0_c r6_0_f r6_0_l r6_1 r6_1_c r6_1_f r6_1_l r6_2 r6_2_c r6_2_f r6_2_l r6_3 r6_3_c r6_3_f r6_3_l r6_4 r6_4_c r6_4_f r6_4_l hb7 b6
      obtain ⟨r7_0_c, r7_0_f, r7_0_l⟩ := r7_0.tell
      obtain ⟨r7_2_c, r7_2_f, r7_2_l⟩ := r7_2.tell
      obtain ⟨r7_3_c, r7_3_f, r7_3_l⟩ := r7_3.tell
      have n7_0 : (w.heap.size = w7.heap.size) = False := (by simp only [eq_iff_iff, iff_false]; omega)
      have m7_0 : (w7.heap.size = w.heap.size) = False := (by simp only [eq_iff_iff, iff_false]; omega)
      have l7_0 : w.heap.size < w7.heap.size := (by omega)
      have n7_1 : (w.heap.size = w7.heap.size + 1) = False := (by simp only [eq_iff_iff, iff_false]; omega)
      have m7_1 : (w7.heap.size + 1 = w.heap.size) = False := (by simp only [eq_iff_iff, iff_false]; omega)
      have l7_1 : w.heap.size < w7.heap.size + 1 := (by omega)
      have n7_2 : (w.heap.size = w7.heap.size + 1 + 1) = False := (by simp only [eq_iff_iff, iff_false]; omega)
      have m7_2 : (w7.heap.size + 1 + 1 = w.heap.size) = False := (by simp only [eq_iff_iff, iff_false]; omega)
      have l7_2 : w.heap.size < w7.heap.size + 1 + 1 := (by omega)
      have n7_3 : (w.heap.size = w7.heap.size + 1 + 1 + 1) = False := (by simp only [eq_iff_iff, iff_false]; omega)
      have m7_3 : (w7.heap.size + 1 + 1 + 1 = w.heap.size) = False := (by simp only [eq_iff_iff, iff_false]; omega)
      have l7_3 : w.heap.size < w7.heap.size + 1 + 1 + 1 := (by omega)
      have n7_4 : (w2.heap.size = w7.heap.size) = False := (by simp only [eq_iff_iff, iff_false]; omega)
      have m7_4 : (w7.heap.size = w2.heap.size) = False := (by simp only [eq_iff_iff, iff_false]; omega)
      have l7_4 : w2.heap.size < w7.heap.size := (by omega)
      have n7_5 : (w2.heap.size = w7.heap.size + 1) = False := (by simp only [eq_iff_iff, iff_false]; omega)
      have m7_5 : (w7.heap.size + 1 = w2.heap.size) = False := (by simp only [eq_iff_iff, iff_false]; omega)
      have l7_5 : w2.heap.size < w7.heap.size + 1 := (by omega)
      have n7_6 : (w2.heap.size = w7.heap.size + 1 + 1) = False := (by simp only [eq_iff_iff, iff_false]; omega)
      have m7_6 : (w7.heap.size + 1 + 1 = w2.heap.size) = False := (by simp only [eq_iff_iff, iff_false]; omega)
      have l7_6 : w2.heap.size < w7.heap.size + 1 + 1 := (by omega)
      have n7_7 : (w2.heap.size = w7.heap.size + 1 + 1 + 1) = False := (by simp only [eq_iff_iff, iff_false]; omega)
      have m7_7 : (w7.heap.size + 1 + 1 + 1 = w2.heap.size) = False := (by simp only [eq_iff_iff, iff_false]; omega)
      have l7_7 : w2.heap.size < w7.heap.size + 1 + 1 + 1 := (by omega)
      have n7_8 : (w2.heap.size + 1 = w7.heap.size) = False := (by simp only [eq_iff_iff, iff_false]; omega)
      have m7_8 : (w7.heap.size = w2.heap.size + 1) = False := (by simp only [eq_iff_iff, iff_false]; omega)
      have l7_8 : w2.heap.size + 1 < w7.heap.size := (by omega)
      go_wp2_with fail
      obtain ⟨w8, hw8⟩ : ∃ V : World, V = ((w7.alloc (.cells #[.int .u64 (L (0) 0), .int .u64 (L (0) 1), .int .u64 (L (0) 2), .int .u64 (L (0) 3)] 24)).alloc (.cells #[.int .u64 (L (lo) 0), .int .u64 (L (lo) 1), .int .u64 (L (lo) 2), .int .u64 (L (lo) 3)] 24)) := ⟨_, rfl⟩
      have r8_0 : Box w8 (w.heap.size) #[.int .u64 (L (x) 0), .int .u64 (L (x) 1), .int .u64 (L (x) 2), .int .u64 (L (x) 3)] 24 := by rw [hw8]; exact ((r7_0).alloc _).alloc _
      have r8_1 : Box w8 (w2.heap.size) #[.int .u64 (L (0) 0), .int .u64 (L (0) 1), .int .u64 (L (0) 2), .int .u64 (L (0) 3)] 24 := by rw [hw8]; exact ((r7_2).alloc _).alloc _
      have r8_2 : Box w8 (w2.heap.size + 1) #[.int .u64 (L (s) 0), .int .u64 (L (s) 1), .int .u64 (L (s) 2), .int .u64 (L (s) 3)] 24 := by rw [hw8]; exact ((r7_3).alloc _).alloc _
      have r8_3 : Box w8 (w7.heap.size) #[.int .u64 (L (0) 0), .int .u64 (L (0) 1), .int .u64 (L (0) 2), .int .u64 (L (0) 3)] 24 := by rw [hw8]; exact (Box.new _ _ _ _ (by simp)).alloc _
      have r8_4 : Box w8 (w7.heap.size + 1) #[.int .u64 (L (lo) 0), .int .u64 (L (lo) 1), .int .u64 (L (lo) 2), .int .u64 (L (lo) 3)] 24 := by rw [hw8]; exact Box.new _ _ _ _ (by simp)
      have b8 : Bl w w8 := by rw [hw8]; exact ((b7).alloc _).alloc _
      have z8 : w7.heap.size + 1 + 1 ≤ w8.heap.size := (by rw [hw8]; simp only [World.alloc, World.setCell, World.drew, Array.size_push, Array.size_modify]; omega)
      have y8 : w.heap.size ≤ w8.heap.size := b8.size
      rw [← hw8]
      clear r7_0 r7_0_c r7_0_f r7_0_l r7_2 r7_2_c r7_2_f r7_2_l r7_3 r7_3_c r7_3_f r7_3_l hw8 b7
      obtain ⟨r8_0_c, r8_0_f, r8_0_l⟩ := r8_0.tell
      obtain ⟨r8_1_c, r8_1_f, r8_1_l⟩ := r8_1.tell
      obtain ⟨r8_2_c, r8_2_f, r8_2_l⟩ := r8_2.tell
      obtain ⟨r8_3_c, r8_3_f, r8_3_l⟩ := r8_3.tell
      obtain ⟨r8_4_c, r8_4_f, r8_4_l⟩ := r8_4.tell
      clear i3 i4 i5
      have hk8 : ∀ V : World, Bl w8 V → (∀ o, V.cell? ⟨w2.heap.size, o, none⟩ = #[.int .u64 (L (0) 0), .int .u64 (L (0) 1), .int .u64 (L (0) 2), .int .u64 (L (0) 3)][o]?) ∧ (∀ o, V.cell? ⟨w2.heap.size + 1, o, none⟩ = #[.int .u64 (L (s) 0), .int .u64 (L (s) 1), .int .u64 (L (s) 2), .int .u64 (L (s) 3)][o]?) ∧ (∀ o, V.cell? ⟨w.heap.size, o, none⟩ = #[.int .u64 (L (x) 0), .int .u64 (L (x) 1), .int .u64 (L (x) 2), .int .u64 (L (x) 3)][o]?) ∧ Bl w8 V := fun V hb => ⟨(r8_1.call hb).cell, (r8_2.call hb).cell, (r8_0.call hb).cell, hb⟩
      have s8_0 := hk8 _ (Bl.refl w8).drew
      refine wp_region_noPanic ?_
      refine wp_region_held_drew (S := fun V : World => (∀ o, V.cell? ⟨w2.heap.size, o, none⟩ = #[.int .u64 (L (0) 0), .int .u64 (L (0) 1), .int .u64 (L (0) 2), .int .u64 (L (0) 3)][o]?) ∧ (∀ o, V.cell? ⟨w2.heap.size + 1, o, none⟩ = #[.int .u64 (L (s) 0), .int .u64 (L (s) 1), .int .u64 (L (s) 2), .int .u64 (L (s) 3)][o]?) ∧ (∀ o, V.cell? ⟨w.heap.size, o, none⟩ = #[.int .u64 (L (x) 0), .int .u64 (L (x) 1), .int .u64 (L (x) 2), .int .u64 (L (x) 3)][o]?) ∧ Bl w8 V) (by kernel_rfl) ?_ (fun hHeld => ?_)
      · exact s8_0
      refine wpAnyH_take (i := 0) (oi := { dst := some 30 , op := Go.Op.load 24 ( Go.Operand.tmp 4 ) , type := 24 , pos := "outright.go:71" , after := #[ ] , guard := none }) (v := ?_) rfl (by kernel_rfl) (by kernel_rfl) (by kernel_rfl) (fun _ _ _ h => h) (Or.inl ⟨by rfl, ?_⟩) (by assumption) ?_
      rotate_left
      · intro w hSw; (try dsimp only at hSw); go_simp; first | done | with_reducible rfl
      (try simp only [Act.put, List.setIfInBounds_toArray, List.set_cons_zero, List.set_cons_succ])
      refine wpAnyH_ready (rs := [1]) (by kernel_rfl) (by simp) ?_
      refine AllReadyH.cons (o := { dst := some 31 , op := Go.Op.call { callee := Go.Callee.value ( Go.Operand.func 40 ) , args := #[ Go.Operand.const ( Go.Value.int Go.IntKind.u64 0 ) ] , argTypes := #[ 22 ] } , type := 24 , pos := "outright.go:71" , after := #[ ] , guard := none }) rfl (fun K hK => ?_) AllReadyH.nil
      go_simp
      refine (i0 _).mono ?_
      rintro e w9 ⟨rfl, hb9⟩
      have g9 := (Bl.refl w8).drew.trans hb9
      have s9 := hk8 _ g9
      go_wp2_with fail
      refine hK.out _ _ ?_ (fun hHeld => ?_)
      · exact s9
      clear hK K
      (try simp only [Act.put, List.setIfInBounds_toArray, List.set_cons_zero, List.set_cons_succ])
      refine wpAnyH_take (i := 2) (oi := { dst := some 32 , op := Go.Op.binOp Go.BinOp.neq 24 ( Go.Operand.tmp 30 ) ( Go.Operand.tmp 31 ) 24 , type := 4 , pos := "outright.go:71" , after := #[ { on := 0 , ground := Go.Ground.data } , { on := 1 , ground := Go.Ground.data } ] , guard := none }) (v := ?_) rfl (by kernel_rfl) (by kernel_rfl) (by kernel_rfl) (fun _ _ _ h => h) (Or.inl ⟨by rfl, ?_⟩) (by assumption) ?_
      rotate_left
      · intro w hSw; refine run_neq_U (0) _ _ _ _ _ _ _ _ ?_ ?_ w <;> rfl
      (try simp only [Act.put, List.setIfInBounds_toArray, List.set_cons_zero, List.set_cons_succ])
      refine wpAnyH_take (i := 3) (oi := { dst := some 33 , op := Go.Op.move ( Go.Operand.tmp 32 ) , type := 4 , pos := "outright.go:71" , after := #[ { on := 2 , ground := Go.Ground.data } , { on := 1 , ground := Go.Ground.chain } ] , guard := none }) (v := ?_) rfl (by kernel_rfl) (by kernel_rfl) (by kernel_rfl) (fun _ _ _ h => h) (Or.inl ⟨by rfl, ?_⟩) (by assumption) ?_
      rotate_left
      · intro w hSw; (try dsimp only at hSw); go_simp; first | done | with_reducible rfl
      (try simp only [Act.put, List.setIfInBounds_toArray, List.set_cons_zero, List.set_cons_succ])
      refine wpAnyH_take (i := 4) (oi := { dst := some 34 , op := Go.Op.load 24 ( Go.Operand.tmp 5 ) , type := 24 , pos := "outright.go:71" , after := #[ { on := 3 , ground := Go.Ground.guard } ] , guard := some ( 3 , false ) }) (v := ?_) rfl (by kernel_rfl) (by kernel_rfl) (by kernel_rfl) (fun _ _ _ h => h) (Or.inl ⟨by rfl, ?_⟩) (by assumption) ?_
      rotate_left
      · intro w hSw; (try dsimp only at hSw); go_simp; first | done | with_reducible rfl
      (try simp only [Act.put, List.setIfInBounds_toArray, List.set_cons_zero, List.set_cons_succ])
      refine wpAnyH_take (i := 5) (oi := { dst := some 35 , op := Go.Op.load 24 ( Go.Operand.tmp 1 ) , type := 24 , pos := "outright.go:71" , after := #[ { on := 3 , ground := Go.Ground.guard } ] , guard := some ( 3 , false ) }) (v := ?_) rfl (by kernel_rfl) (by kernel_rfl) (by kernel_rfl) (fun _ _ _ h => h) (Or.inl ⟨by rfl, ?_⟩) (by assumption) ?_
      rotate_left
      · intro w hSw; (try dsimp only at hSw); go_simp; first | done | with_reducible rfl
      (try simp only [Act.put, List.setIfInBounds_toArray, List.set_cons_zero, List.set_cons_succ])
      refine wpAnyH_ready (rs := [6]) (by kernel_rfl) (by simp) ?_
      refine AllReadyH.cons (o := { dst := some 36 , op := Go.Op.call { callee := Go.Callee.value ( Go.Operand.func 45 ) , args := #[ Go.Operand.tmp 34 , Go.Operand.tmp 35 ] , argTypes := #[ 24 , 24 ] } , type := 3 , pos := "outright.go:71" , after := #[ { on := 4 , ground := Go.Ground.data } , { on := 5 , ground := Go.Ground.data } , { on := 3 , ground := Go.Ground.chain } , { on := 3 , ground := Go.Ground.guard } ] , guard := some ( 3 , false ) }) rfl (fun K hK => ?_) AllReadyH.nil
      go_simp
      refine (i6 _).mono ?_
      rintro e w10 ⟨rfl, hb10⟩
      have g10 := g9.trans hb10
      have s10 := hk8 _ g10
      go_wp2_with fail
      refine hK.out _ _ ?_ (fun hHeld => ?_)
      · exact s10
      clear hK K
      (try simp only [Act.put, List.setIfInBounds_toArray, List.set_cons_zero, List.set_cons_succ])
      refine wpAnyH_take (i := 7) (oi := { dst := some 37 , op := Go.Op.binOp Go.BinOp.gtr 3 ( Go.Operand.tmp 36 ) ( Go.Operand.const ( Go.Value.int Go.IntKind.i64 0 ) ) 3 , type := 4 , pos := "outright.go:71" , after := #[ { on := 6 , ground := Go.Ground.data } , { on := 3 , ground := Go.Ground.guard } ] , guard := some ( 3 , false ) }) (v := ?_) rfl (by kernel_rfl) (by kernel_rfl) (by kernel_rfl) (fun _ _ _ h => h) (Or.inl ⟨by rfl, ?_⟩) (by assumption) ?_
      rotate_left
      · intro w hSw; (try dsimp only at hSw); go_simp; first | done | with_reducible rfl
      (try simp only [Act.put, List.setIfInBounds_toArray, List.set_cons_zero, List.set_cons_succ])
      refine wpAnyH_take (i := 8) (oi := { dst := some 38 , op := Go.Op.pick ( Go.Operand.tmp 33 ) ( Go.Operand.const ( Go.Value.bool true ) ) ( Go.Operand.tmp 37 ) , type := 4 , pos := "outright.go:71" , after := #[ { on := 3 , ground := Go.Ground.data } , { on := 7 , ground := Go.Ground.data } ] , guard := none }) (v := ?_) rfl (by kernel_rfl) (by kernel_rfl) (by kernel_rfl) (fun _ _ _ h => h) (Or.inl ⟨by rfl, ?_⟩) (by assumption) ?_
      rotate_left
      · intro w hSw; (try dsimp only at hSw); go_simp; first | done | with_reducible rfl
      (try simp only [Act.put, List.setIfInBounds_toArray, List.set_cons_zero, List.set_cons_succ])
      refine wpAnyH_take (i := 9) (oi := { dst := some 39 , op := Go.Op.move ( Go.Operand.tmp 38 ) , type := 4 , pos := "outright.go:71" , after := #[ { on := 8 , ground := Go.Ground.data } , { on := 6 , ground := Go.Ground.chain } ] , guard := none }) (v := ?_) rfl (by kernel_rfl) (by kernel_rfl) (by kernel_rfl) (fun _ _ _ h => h) (Or.inl ⟨by rfl, ?_⟩) (by assumption) ?_
      rotate_left
      · intro w hSw; (try dsimp only at hSw); go_simp; first | done | with_reducible rfl
      (try simp only [Act.put, List.setIfInBounds_toArray, List.set_cons_zero, List.set_cons_succ])
      refine wpAnyH_take (i := 10) (oi := { dst := some 40 , op := Go.Op.move ( Go.Operand.tmp 7 ) , type := 22 , pos := "outright.go:71" , after := #[ { on := 9 , ground := Go.Ground.guard } ] , guard := some ( 9 , false ) }) (v := ?_) rfl (by kernel_rfl) (by kernel_rfl) (by kernel_rfl) (fun _ _ _ h => h) (Or.inl ⟨by rfl, ?_⟩) (by assumption) ?_
      rotate_left
      · intro w hSw; (try dsimp only at hSw); go_simp; first | done | with_reducible rfl
      (try simp only [Act.put, List.setIfInBounds_toArray, List.set_cons_zero, List.set_cons_succ])
      refine wpAnyH_take (i := 11) (oi := { dst := some 41 , op := Go.Op.binOp Go.BinOp.neq 22 ( Go.Operand.tmp 40 ) ( Go.Operand.const ( Go.Value.int Go.IntKind.u64 0 ) ) 22 , type := 4 , pos := "outright.go:71" , after := #[ { on := 10 , ground := Go.Ground.data } , { on := 9 , ground := Go.Ground.guard } ] , guard := some ( 9 , false ) }) (v := ?_) rfl (by kernel_rfl) (by kernel_rfl) (by kernel_rfl) (fun _ _ _ h => h) (Or.inl ⟨by rfl, ?_⟩) (by assumption) ?_
      rotate_left
      · intro w hSw; (try dsimp only at hSw); go_simp; first | done | with_reducible rfl
      (try simp only [Act.put, List.setIfInBounds_toArray, List.set_cons_zero, List.set_cons_succ])
      refine wpAnyH_take (i := 12) (oi := { dst := some 42 , op := Go.Op.pick ( Go.Operand.tmp 39 ) ( Go.Operand.const ( Go.Value.bool true ) ) ( Go.Operand.tmp 41 ) , type := 4 , pos := "outright.go:71" , after := #[ { on := 9 , ground := Go.Ground.data } , { on := 11 , ground := Go.Ground.data } ] , guard := none }) (v := ?_) rfl (by kernel_rfl) (by kernel_rfl) (by kernel_rfl) (fun _ _ _ h => h) (Or.inl ⟨by rfl, ?_⟩) (by assumption) ?_
      rotate_left
      · intro w hSw; (try dsimp only at hSw); go_simp; first | done | with_reducible rfl
      (try simp only [Act.put, List.setIfInBounds_toArray, List.set_cons_zero, List.set_cons_succ])
      refine wpAnyH_done (by kernel_rfl) ?_ _
      refine NoPanic.normal ?_
      have r10_0 := r8_0.call g10
      have r10_5 := r8_3.call g10
      have r10_6 := r8_4.call g10
      have b10 := b8.trans g10
      have z10 := g10.size
      have y10 : w.heap.size ≤ w10.heap.size := b10.size
      clear hk8 s8_0 r8_0 r8_0_c r8_0_f r8_0_l r8_1 r8_1_c r8_1_f r8_1_l r8_2 r8_2_c r8_2_f r8_2_l r8_3 r8_3_c r8_3_f r8_3_l r8_4 r8_4_c r8_4_f r8_4_l b8 hb9 g9 s9 hb10 g10 s10
      obtain ⟨r10_0_c, r10_0_f, r10_0_l⟩ := r10_0.tell
      obtain ⟨r10_5_c, r10_5_f, r10_5_l⟩ := r10_5.tell
      obtain ⟨r10_6_c, r10_6_f, r10_6_l⟩ := r10_6.tell
      go_wp2_with fail
      clear i6
      have hk10 : ∀ V : World, Bl w10 V → (∀ o, V.cell? ⟨w7.heap.size, o, none⟩ = #[.int .u64 (L (0) 0), .int .u64 (L (0) 1), .int .u64 (L (0) 2), .int .u64 (L (0) 3)][o]?) ∧ (∀ o, V.cell? ⟨w7.heap.size + 1, o, none⟩ = #[.int .u64 (L (lo) 0), .int .u64 (L (lo) 1), .int .u64 (L (lo) 2), .int .u64 (L (lo) 3)][o]?) ∧ (∀ o, V.cell? ⟨w.heap.size, o, none⟩ = #[.int .u64 (L (x) 0), .int .u64 (L (x) 1), .int .u64 (L (x) 2), .int .u64 (L (x) 3)][o]?) ∧ Bl w10 V := fun V hb => ⟨(r10_5.call hb).cell, (r10_6.call hb).cell, (r10_0.call hb).cell, hb⟩
      have s10_0 := hk10 _ (Bl.refl w10).drew
      refine wp_region_noPanic ?_
      refine wp_region_held_drew (S := fun V : World => (∀ o, V.cell? ⟨w7.heap.size, o, none⟩ = #[.int .u64 (L (0) 0), .int .u64 (L (0) 1), .int .u64 (L (0) 2), .int .u64 (L (0) 3)][o]?) ∧ (∀ o, V.cell? ⟨w7.heap.size + 1, o, none⟩ = #[.int .u64 (L (lo) 0), .int .u64 (L (lo) 1), .int .u64 (L (lo) 2), .int .u64 (L (lo) 3)][o]?) ∧ (∀ o, V.cell? ⟨w.heap.size, o, none⟩ = #[.int .u64 (L (x) 0), .int .u64 (L (x) 1), .int .u64 (L (x) 2), .int .u64 (L (x) 3)][o]?) ∧ Bl w10 V) (by kernel_rfl) ?_ (fun hHeld => ?_)
      · exact s10_0
      refine wpAnyH_take (i := 0) (oi := { dst := some 43 , op := Go.Op.load 24 ( Go.Operand.tmp 8 ) , type := 24 , pos := "outright.go:74" , after := #[ ] , guard := none }) (v := ?_) rfl (by kernel_rfl) (by kernel_rfl) (by kernel_rfl) (fun _ _ _ h => h) (Or.inl ⟨by rfl, ?_⟩) (by assumption) ?_
      rotate_left
      · intro w hSw; (try dsimp only at hSw); go_simp; first | done | with_reducible rfl
      (try simp only [Act.put, List.setIfInBounds_toArray, List.set_cons_zero, List.set_cons_succ])
      refine wpAnyH_ready (rs := [1]) (by kernel_rfl) (by simp) ?_
      refine AllReadyH.cons (o := { dst := some 44 , op := Go.Op.call { callee := Go.Callee.value ( Go.Operand.func 40 ) , args := #[ Go.Operand.const ( Go.Value.int Go.IntKind.u64 0 ) ] , argTypes := #[ 22 ] } , type := 24 , pos := "outright.go:74" , after := #[ ] , guard := none }) rfl (fun K hK => ?_) AllReadyH.nil
      go_simp
      refine (i0 _).mono ?_
      rintro e w11 ⟨rfl, hb11⟩
      have g11 := (Bl.refl w10).drew.trans hb11
      have s11 := hk10 _ g11
      go_wp2_with fail
      refine hK.out _ _ ?_ (fun hHeld => ?_)
      · exact s11
      clear hK K
      (try simp only [Act.put, List.setIfInBounds_toArray, List.set_cons_zero, List.set_cons_succ])
      refine wpAnyH_take (i := 2) (oi := { dst := some 45 , op := Go.Op.binOp Go.BinOp.neq 24 ( Go.Operand.tmp 43 ) ( Go.Operand.tmp 44 ) 24 , type := 4 , pos := "outright.go:74" , after := #[ { on := 0 , ground := Go.Ground.data } , { on := 1 , ground := Go.Ground.data } ] , guard := none }) (v := ?_) rfl (by kernel_rfl) (by kernel_rfl) (by kernel_rfl) (fun _ _ _ h => h) (Or.inl ⟨by rfl, ?_⟩) (by assumption) ?_
      rotate_left
      · intro w hSw; refine run_neq_U (0) _ _ _ _ _ _ _ _ ?_ ?_ w <;> rfl
      (try simp only [Act.put, List.setIfInBounds_toArray, List.set_cons_zero, List.set_cons_succ])
      refine wpAnyH_take (i := 3) (oi := { dst := some 46 , op := Go.Op.move ( Go.Operand.tmp 45 ) , type := 4 , pos := "outright.go:74" , after := #[ { on := 2 , ground := Go.Ground.data } , { on := 1 , ground := Go.Ground.chain } ] , guard := none }) (v := ?_) rfl (by kernel_rfl) (by kernel_rfl) (by kernel_rfl) (fun _ _ _ h => h) (Or.inl ⟨by rfl, ?_⟩) (by assumption) ?_
      rotate_left
      · intro w hSw; (try dsimp only at hSw); go_simp; first | done | with_reducible rfl
      (try simp only [Act.put, List.setIfInBounds_toArray, List.set_cons_zero, List.set_cons_succ])
      refine wpAnyH_take (i := 4) (oi := { dst := some 47 , op := Go.Op.load 24 ( Go.Operand.tmp 9 ) , type := 24 , pos := "outright.go:74" , after := #[ { on := 3 , ground := Go.Ground.guard } ] , guard := some ( 3 , false ) }) (v := ?_) rfl (by kernel_rfl) (by kernel_rfl) (by kernel_rfl) (fun _ _ _ h => h) (Or.inl ⟨by rfl, ?_⟩) (by assumption) ?_
      rotate_left
      · intro w hSw; (try dsimp only at hSw); go_simp; first | done | with_reducible rfl
      (try simp only [Act.put, List.setIfInBounds_toArray, List.set_cons_zero, List.set_cons_succ])
      refine wpAnyH_take (i := 5) (oi := { dst := some 48 , op := Go.Op.load 24 ( Go.Operand.tmp 1 ) , type := 24 , pos := "outright.go:74" , after := #[ { on := 3 , ground := Go.Ground.guard } ] , guard := some ( 3 , false ) }) (v := ?_) rfl (by kernel_rfl) (by kernel_rfl) (by kernel_rfl) (fun _ _ _ h => h) (Or.inl ⟨by rfl, ?_⟩) (by assumption) ?_
      rotate_left
      · intro w hSw; (try dsimp only at hSw); go_simp; first | done | with_reducible rfl
      (try simp only [Act.put, List.setIfInBounds_toArray, List.set_cons_zero, List.set_cons_succ])
      refine wpAnyH_ready (rs := [6]) (by kernel_rfl) (by simp) ?_
      refine AllReadyH.cons (o := { dst := some 49 , op := Go.Op.call { callee := Go.Callee.value ( Go.Operand.func 45 ) , args := #[ Go.Operand.tmp 47 , Go.Operand.tmp 48 ] , argTypes := #[ 24 , 24 ] } , type := 3 , pos := "outright.go:74" , after := #[ { on := 4 , ground := Go.Ground.data } , { on := 5 , ground := Go.Ground.data } , { on := 3 , ground := Go.Ground.chain } , { on := 3 , ground := Go.Ground.guard } ] , guard := some ( 3 , false ) }) rfl (fun K hK => ?_) AllReadyH.nil
      go_simp
      refine (i7 _).mono ?_
      rintro e w12 ⟨rfl, hb12⟩
      have g12 := g11.trans hb12
      have s12 := hk10 _ g12
      go_wp2_with fail
      refine hK.out _ _ ?_ (fun hHeld => ?_)
      · exact s12
      clear hK K
      (try simp only [Act.put, List.setIfInBounds_toArray, List.set_cons_zero, List.set_cons_succ])
      refine wpAnyH_take (i := 7) (oi := { dst := some 50 , op := Go.Op.binOp Go.BinOp.gtr 3 ( Go.Operand.tmp 49 ) ( Go.Operand.const ( Go.Value.int Go.IntKind.i64 0 ) ) 3 , type := 4 , pos := "outright.go:74" , after := #[ { on := 6 , ground := Go.Ground.data } , { on := 3 , ground := Go.Ground.guard } ] , guard := some ( 3 , false ) }) (v := ?_) rfl (by kernel_rfl) (by kernel_rfl) (by kernel_rfl) (fun _ _ _ h => h) (Or.inl ⟨by rfl, ?_⟩) (by assumption) ?_
      rotate_left
      · intro w hSw; (try dsimp only at hSw); go_simp; first | done | with_reducible rfl
      (try simp only [Act.put, List.setIfInBounds_toArray, List.set_cons_zero, List.set_cons_succ])
      refine wpAnyH_take (i := 8) (oi := { dst := some 51 , op := Go.Op.pick ( Go.Operand.tmp 46 ) ( Go.Operand.const ( Go.Value.bool true ) ) ( Go.Operand.tmp 50 ) , type := 4 , pos := "outright.go:74" , after := #[ { on := 3 , ground := Go.Ground.data } , { on := 7 , ground := Go.Ground.data } ] , guard := none }) (v := ?_) rfl (by kernel_rfl) (by kernel_rfl) (by kernel_rfl) (fun _ _ _ h => h) (Or.inl ⟨by rfl, ?_⟩) (by assumption) ?_
      rotate_left
      · intro w hSw; (try dsimp only at hSw); go_simp; first | done | with_reducible rfl
      (try simp only [Act.put, List.setIfInBounds_toArray, List.set_cons_zero, List.set_cons_succ])
      refine wpAnyH_take (i := 9) (oi := { dst := some 2 , op := Go.Op.assign ( Go.Operand.tmp 51 ) , type := 4 , pos := "outright.go:74" , after := #[ { on := 8 , ground := Go.Ground.data } , { on := 6 , ground := Go.Ground.chain } , { on := 0 , ground := Go.Ground.phase } , { on := 1 , ground := Go.Ground.phase } , { on := 2 , ground := Go.Ground.phase } , { on := 3 , ground := Go.Ground.phase } , { on := 4 , ground := Go.Ground.phase } , { on := 5 , ground := Go.Ground.phase } , { on := 6 , ground := Go.Ground.phase } , { on := 7 , ground := Go.Ground.phase } , { on := 8 , ground := Go.Ground.phase } ] , guard := none }) (v := ?_) rfl (by kernel_rfl) (by kernel_rfl) (by kernel_rfl) (fun _ _ _ h => h) (Or.inl ⟨by rfl, ?_⟩) (by assumption) ?_
      rotate_left
      · intro w hSw; (try dsimp only at hSw); go_simp; first | done | with_reducible rfl
      (try simp only [Act.put, List.setIfInBounds_toArray, List.set_cons_zero, List.set_cons_succ])
      refine wpAnyH_done (by kernel_rfl) ?_ _
      refine NoPanic.normal ?_
      have b12 := b10.trans g12
      have z12 := g12.size
      have y12 : w.heap.size ≤ w12.heap.size := b12.size
      clear hk10 s10_0 r10_0 r10_0_c r10_0_f r10_0_l r10_5 r10_5_c r10_5_f r10_5_l r10_6 r10_6_c r10_6_f r10_6_l b10 hb11 g11 s11 hb12 g12 s12
      go_wp2_with fail
      refine bodyPost_ret (v := .bool true) (by simp only [results, Try.results6]; go_simp) rfl ⟨rfl, ?_⟩
      exact b12
  · have HH := Lib.hid lhi; have H0 := Lib.hid h0
    clear h0 hhi hlo hs hn hc1 hspec hr128 hrT hn128 hnT hsq l1 hnn lhi llo hx
    go_enter Try.func6, Try.ntmps6
    go_wp2_with fail
    refine (i1 _).mono ?_
    rintro e w1 ⟨rfl, hb1⟩
    have r1_0 : Box w1 (w.heap.size) #[.int .u64 (L (x) 0), .int .u64 (L (x) 1), .int .u64 (L (x) 2), .int .u64 (L (x) 3)] 24 := (Box.new _ _ _ _ (by simp)).call hb1
    have b1 : Bl w w1 := Bl.trans ((Bl.refl w).alloc _) hb1
    have z1 : w.heap.size + 1 ≤ w1.heap.size := (by have := hb1.size; (try simp only [World.alloc, World.setCell, World.drew, Array.size_push, Array.size_modify] at this); omega)
    have y1 : w.heap.size ≤ w1.heap.size := b1.size
    clear hb1
    obtain ⟨r1_0_c, r1_0_f, r1_0_l⟩ := r1_0.tell
    have n1_0 : (w.heap.size = w1.heap.size) = False := (by simp only [eq_iff_iff, iff_false]; omega)
    have m1_0 : (w1.heap.size = w.heap.size) = False := (by simp only [eq_iff_iff, iff_false]; omega)
    have l1_0 : w.heap.size < w1.heap.size := (by omega)
    have n1_1 : (w.heap.size = w1.heap.size + 1) = False := (by simp only [eq_iff_iff, iff_false]; omega)
    have m1_1 : (w1.heap.size + 1 = w.heap.size) = False := (by simp only [eq_iff_iff, iff_false]; omega)
    have l1_1 : w.heap.size < w1.heap.size + 1 := (by omega)
    have n1_2 : (w.heap.size = w1.heap.size + 1 + 1) = False := (by simp only [eq_iff_iff, iff_false]; omega)
    have m1_2 : (w1.heap.size + 1 + 1 = w.heap.size) = False := (by simp only [eq_iff_iff, iff_false]; omega)
    have l1_2 : w.heap.size < w1.heap.size + 1 + 1 := (by omega)
    go_wp2_with fail
    refine (i2 _).mono ?_
    rintro e w2 ⟨rfl, hb2⟩
    have r2_0 : Box w2 (w.heap.size) #[.int .u64 (L (x) 0), .int .u64 (L (x) 1), .int .u64 (L (x) 2), .int .u64 (L (x) 3)] 24 := ((r1_0).alloc _).call hb2
    have r2_1 : Box w2 (w1.heap.size) #[.int .u64 (L (r) 0), .int .u64 (L (r) 1), .int .u64 (L (r) 2), .int .u64 (L (r) 3)] 24 := (Box.new _ _ _ _ (by simp)).call hb2
    have b2 : Bl w w2 := Bl.trans ((b1).alloc _) hb2
    have z2 : w1.heap.size + 1 ≤ w2.heap.size := (by have := hb2.size; (try simp only [World.alloc, World.setCell, World.drew, Array.size_push, Array.size_modify] at this); omega)
    have y2 : w.heap.size ≤ w2.heap.size := b2.size
    clear r1_0 r1_0_c r1_0_f r1_0_l hb2 b1
    obtain ⟨r2_0_c, r2_0_f, r2_0_l⟩ := r2_0.tell
    obtain ⟨r2_1_c, r2_1_f, r2_1_l⟩ := r2_1.tell
    have n2_0 : (w.heap.size = w2.heap.size) = False := (by simp only [eq_iff_iff, iff_false]; omega)
    have m2_0 : (w2.heap.size = w.heap.size) = False := (by simp only [eq_iff_iff, iff_false]; omega)
    have l2_0 : w.heap.size < w2.heap.size := (by omega)
    have n2_1 : (w.heap.size = w2.heap.size + 1) = False := (by simp only [eq_iff_iff, iff_false]; omega)
    have m2_1 : (w2.heap.size + 1 = w.heap.size) = False := (by simp only [eq_iff_iff, iff_false]; omega)
    have l2_1 : w.heap.size < w2.heap.size + 1 := (by omega)
    have n2_2 : (w.heap.size = w2.heap.size + 1 + 1) = False := (by simp only [eq_iff_iff, iff_false]; omega)
    have m2_2 : (w2.heap.size + 1 + 1 = w.heap.size) = False := (by simp only [eq_iff_iff, iff_false]; omega)
    have l2_2 : w.heap.size < w2.heap.size + 1 + 1 := (by omega)
    have n2_3 : (w.heap.size = w2.heap.size + 1 + 1 + 1) = False := (by simp only [eq_iff_iff, iff_false]; omega)
    have m2_3 : (w2.heap.size + 1 + 1 + 1 = w.heap.size) = False := (by simp only [eq_iff_iff, iff_false]; omega)
    have l2_3 : w.heap.size < w2.heap.size + 1 + 1 + 1 := (by omega)
    have n2_4 : (w1.heap.size = w2.heap.size) = False := (by simp only [eq_iff_iff, iff_false]; omega)
    have m2_4 : (w2.heap.size = w1.heap.size) = False := (by simp only [eq_iff_iff, iff_false]; omega)
    have l2_4 : w1.heap.size < w2.heap.size := (by omega)
    have n2_5 : (w1.heap.size = w2.heap.size + 1) = False := (by simp only [eq_iff_iff, iff_false]; omega)
    have m2_5 : (w2.heap.size + 1 = w1.heap.size) = False := (by simp only [eq_iff_iff, iff_false]; omega)
    have l2_5 : w1.heap.size < w2.heap.size + 1 := (by omega)
    have n2_6 : (w1.heap.size = w2.heap.size + 1 + 1) = False := (by simp only [eq_iff_iff, iff_false]; omega)
    have m2_6 : (w2.heap.size + 1 + 1 = w1.heap.size) = False := (by simp only [eq_iff_iff, iff_false]; omega)
    have l2_6 : w1.heap.size < w2.heap.size + 1 + 1 := (by omega)
    have n2_7 : (w1.heap.size = w2.heap.size + 1 + 1 + 1) = False := (by simp only [eq_iff_iff, iff_false]; omega)
    have m2_7 : (w2.heap.size + 1 + 1 + 1 = w1.heap.size) = False := (by simp only [eq_iff_iff, iff_false]; omega)
    have l2_7 : w1.heap.size < w2.heap.size + 1 + 1 + 1 := (by omega)
    go_wp2_with fail
    obtain ⟨w3, hw3⟩ : ∃ V : World, V = ((w2.alloc (.cells #[.int .u64 (L (0) 0), .int .u64 (L (0) 1), .int .u64 (L (0) 2), .int .u64 (L (0) 3)] 24)).alloc (.cells #[.int .u64 (L (s) 0), .int .u64 (L (s) 1), .int .u64 (L (s) 2), .int .u64 (L (s) 3)] 24)) := ⟨_, rfl⟩
    have r3_0 : Box w3 (w.heap.size) #[.int .u64 (L (x) 0), .int .u64 (L (x) 1), .int .u64 (L (x) 2), .int .u64 (L (x) 3)] 24 := by rw [hw3]; exact ((r2_0).alloc _).alloc _
    have r3_1 : Box w3 (w1.heap.size) #[.int .u64 (L (r) 0), .int .u64 (L (r) 1), .int .u64 (L (r) 2), .int .u64 (L (r) 3)] 24 := by rw [hw3]; exact ((r2_1).alloc _).alloc _
    have r3_2 : Box w3 (w2.heap.size) #[.int .u64 (L (0) 0), .int .u64 (L (0) 1), .int .u64 (L (0) 2), .int .u64 (L (0) 3)] 24 := by rw [hw3]; exact (Box.new _ _ _ _ (by simp)).alloc _
    have r3_3 : Box w3 (w2.heap.size + 1) #[.int .u64 (L (s) 0), .int .u64 (L (s) 1), .int .u64 (L (s) 2), .int .u64 (L (s) 3)] 24 := by rw [hw3]; exact Box.new _ _ _ _ (by simp)
    have b3 : Bl w w3 := by rw [hw3]; exact ((b2).alloc _).alloc _
    have z3 : w2.heap.size + 1 + 1 ≤ w3.heap.size := (by rw [hw3]; simp only [World.alloc, World.setCell, World.drew, Array.size_push, Array.size_modify]; omega)
    have y3 : w.heap.size ≤ w3.heap.size := b3.size
    rw [← hw3]
    clear r2_0 r2_0_c r2_0_f r2_0_l r2_1 r2_1_c r2_1_f r2_1_l hw3 b2
    obtain ⟨r3_0_c, r3_0_f, r3_0_l⟩ := r3_0.tell
    obtain ⟨r3_1_c, r3_1_f, r3_1_l⟩ := r3_1.tell
    obtain ⟨r3_2_c, r3_2_f, r3_2_l⟩ := r3_2.tell
    obtain ⟨r3_3_c, r3_3_f, r3_3_l⟩ := r3_3.tell
    clear i1 i2
    go_cut [6, 7] (fun v6 v7 wr => ∃ B4_0 : Nat, v6 = .pointer (some ⟨B4_0, 0, none⟩) ∧ v7 = .int .u64 0 ∧ Bl w3 wr ∧ Box wr (w.heap.size) #[.int .u64 (L (x) 0), .int .u64 (L (x) 1), .int .u64 (L (x) 2), .int .u64 (L (x) 3)] 24 ∧ Box wr (w1.heap.size) #[.int .u64 (L (r) 0), .int .u64 (L (r) 1), .int .u64 (L (r) 2), .int .u64 (L (r) 3)] 24 ∧ Box wr (w2.heap.size) #[.int .u64 (L (0) 0), .int .u64 (L (0) 1), .int .u64 (L (0) 2), .int .u64 (L (0) 3)] 24 ∧ Box wr (w2.heap.size + 1) #[.int .u64 (L (s) 0), .int .u64 (L (s) 1), .int .u64 (L (s) 2), .int .u64 (L (s) 3)] 24 ∧ Box wr (B4_0) #[.int .u64 (L (n) 0), .int .u64 (L (n) 1), .int .u64 (L (n) 2), .int .u64 (L (n) 3)] 24 ∧ w3.heap.size ≤ B4_0)
    case first =>
      go_region_with (first | (go_at_call 40; refine (i3 _).mono ?_; rintro e w4 ⟨rfl, hb4⟩; (try (first | (with_reducible have bx4_0 := Bl.new hb4) | (with_reducible have bx4_0 := Bl.newd hb4))); (try (first | (with_reducible have bx4_1 := Bl.new2 hb4) | (with_reducible have bx4_1 := Bl.new2d hb4))); (have bo4_1 : Box w4 (w1.heap.size) #[.int .u64 (L (r) 0), .int .u64 (L (r) 1), .int .u64 (L (r) 2), .int .u64 (L (r) 3)] 24 := (by repeat (first | (with_reducible assumption) | (with_reducible refine Box.call ?_ hb4) | (with_reducible apply Box.drew) | (with_reducible apply Box.alloc)))); (obtain ⟨oc4_1, of4_1, ol4_1⟩ := bo4_1.tell); (try obtain ⟨bc4_0, bf4_0, bl4_0⟩ := bx4_0.tell); (try obtain ⟨bc4_1, bf4_1, bl4_1⟩ := bx4_1.tell)) | (go_at_call 44; refine (i4 _).mono ?_; rintro e w5 ⟨rfl, hb5⟩; (try (first | (with_reducible have bx5_0 := Bl.new hb5) | (with_reducible have bx5_0 := Bl.newd hb5))); (try (first | (with_reducible have bx5_1 := Bl.new2 hb5) | (with_reducible have bx5_1 := Bl.new2d hb5))); (try (first | (with_reducible have bx5_2 := Bl.old hb5 bx4_0) | (with_reducible have bx5_2 := Bl.old1 hb5 bx4_0) | (with_reducible have bx5_2 := Bl.old2 hb5 bx4_0))); (try (first | (with_reducible have bx5_3 := Bl.old hb5 bx4_1) | (with_reducible have bx5_3 := Bl.old1 hb5 bx4_1) | (with_reducible have bx5_3 := Bl.old2 hb5 bx4_1))); (have bo5_1 : Box w5 (w1.heap.size) #[.int .u64 (L (r) 0), .int .u64 (L (r) 1), .int .u64 (L (r) 2), .int .u64 (L (r) 3)] 24 := (by repeat (first | (with_reducible assumption) | (with_reducible refine Box.call ?_ hb5) | (with_reducible refine Box.call ?_ hb4) | (with_reducible apply Box.drew) | (with_reducible apply Box.alloc)))); (obtain ⟨oc5_1, of5_1, ol5_1⟩ := bo5_1.tell); (try obtain ⟨bc5_0, bf5_0, bl5_0⟩ := bx5_0.tell); (try obtain ⟨bc5_1, bf5_1, bl5_1⟩ := bx5_1.tell); (try obtain ⟨bc5_2, bf5_2, bl5_2⟩ := bx5_2.tell); (try obtain ⟨bc5_3, bf5_3, bl5_3⟩ := bx5_3.tell)))
      all_goals
        go_wp2_with fail
        go_meet
        have q4 := hb4.size; have q5 := hb5.size
        (try simp only [World.alloc, World.drew, World.setCell, Array.size_push, Array.size_modify] at q4 q5)
        refine ⟨_, rfl, rfl, and_of (by (repeat (first | (with_reducible exact Bl.refl _) | (with_reducible assumption) | (with_reducible refine Bl.trans ?_ hb4) | (with_reducible refine Bl.trans ?_ hb5) | (with_reducible apply Bl.drew) | (with_reducible refine Bl.setCell ?_ (by simp only []; omega) _) | (with_reducible apply Bl.alloc)))) (fun hBL => ⟨r3_0.call hBL, r3_1.call hBL, r3_2.call hBL, r3_3.call hBL, ?_, ?_⟩)⟩
        · (repeat (first | (with_reducible assumption) | (with_reducible refine Box.new _ _ _ _ (by first | (with_reducible rfl) | (simp only [World.alloc, Array.size_push]; done))) | (with_reducible apply Box.drew) | (with_reducible refine Box.set4z (n) ?_) | (with_reducible refine Box.far ?_ _ _ (by simp only []; omega)) | (with_reducible refine Box.call ?_ hb4) | (with_reducible refine Box.call ?_ hb5) | (with_reducible apply Box.alloc)))
        · first | omega | (simp only [World.alloc, World.drew, World.setCell, Array.size_push, Array.size_modify]; omega)
    case rest =>
      obtain ⟨B4_0, rfl, rfl, hb6, r6_0, r6_1, r6_2, r6_3, r6_4, lo6_4⟩ := hcut
      obtain ⟨w6, hW6⟩ : ∃ W, W = wc := ⟨_, rfl⟩
      rw [← hW6] at r6_0 r6_1 r6_2 r6_3 r6_4 hb6 ⊢
      clear hW6
      have b6 := Bl.trans b3 hb6
      have z6 := hb6.size
      have y6 : w.heap.size ≤ w6.heap.size := b6.size
      clear r3_0 r3_0_c r3_0_f r3_0_l r3_1 r3_1_c r3_1_f r3_1_l r3_2 r3_2_c r3_2_f r3_2_l r3_3 r3_3_c r3_3_f r3_3_l hb6 b3
      obtain ⟨r6_0_c, r6_0_f, r6_0_l⟩ := r6_0.tell
      obtain ⟨r6_1_c, r6_1_f, r6_1_l⟩ := r6_1.tell
      obtain ⟨r6_2_c, r6_2_f, r6_2_l⟩ := r6_2.tell
      obtain ⟨r6_3_c, r6_3_f, r6_3_l⟩ := r6_3.tell
      obtain ⟨r6_4_c, r6_4_f, r6_4_l⟩ := r6_4.tell
      have n6_4_0 : (B4_0 = w.heap.size) = False := (by simp only [eq_iff_iff, iff_false]; omega)
      have m6_4_0 : (w.heap.size = B4_0) = False := (by simp only [eq_iff_iff, iff_false]; omega)
      have n6_4_1 : (B4_0 = w1.heap.size) = False := (by simp only [eq_iff_iff, iff_false]; omega)
      have m6_4_1 : (w1.heap.size = B4_0) = False := (by simp only [eq_iff_iff, iff_false]; omega)
      have n6_4_2 : (B4_0 = w2.heap.size) = False := (by simp only [eq_iff_iff, iff_false]; omega)
      have m6_4_2 : (w2.heap.size = B4_0) = False := (by simp only [eq_iff_iff, iff_false]; omega)
      have n6_4_3 : (B4_0 = w2.heap.size + 1) = False := (by simp only [eq_iff_iff, iff_false]; omega)
      have m6_4_3 : (w2.heap.size + 1 = B4_0) = False := (by simp only [eq_iff_iff, iff_false]; omega)
      go_wp2_with fail
      refine (i5 _).mono ?_
      rintro e w7 ⟨rfl, hb7⟩
      have r7_0 : Box w7 (w.heap.size) #[.int .u64 (L (x) 0), .int .u64 (L (x) 1), .int .u64 (L (x) 2), .int .u64 (L (x) 3)] 24 := (r6_0).call hb7
      have r7_2 : Box w7 (w2.heap.size) #[.int .u64 (L (0) 0), .int .u64 (L (0) 1), .int .u64 (L (0) 2), .int .u64 (L (0) 3)] 24 := (r6_2).call hb7
      have r7_3 : Box w7 (w2.heap.size + 1) #[.int .u64 (L (s) 0), .int .u64 (L (s) 1), .int .u64 (L (s) 2), .int .u64 (L (s) 3)] 24 := (r6_3).call hb7
      have b7 : Bl w w7 := Bl.trans (b6) hb7
      have z7 : w6.heap.size ≤ w7.heap.size := (by have := hb7.size; (try simp only [World.alloc, World.setCell, World.drew, Array.size_push, Array.size_modify] at this); omega)
      have y7 : w.heap.size ≤ w7.heap.size := b7.size
      clear r6_0 r6_0_c r6_0_f r6_0_l r6_1 r6_1_c r6_1_f r6_1_l r6_2 r6_2_c r6_2_f r6_2_l r6_3 r6_3_c r6_3_f r6_3_l r6_4 r6_4_c r6_4_f r6_4_l hb7 b6
      obtain ⟨r7_0_c, r7_0_f, r7_0_l⟩ := r7_0.tell
      obtain ⟨r7_2_c, r7_2_f, r7_2_l⟩ := r7_2.tell
      obtain ⟨r7_3_c, r7_3_f, r7_3_l⟩ := r7_3.tell
      have n7_0 : (w.heap.size = w7.heap.size) = False := (by simp only [eq_iff_iff, iff_false]; omega)
      have m7_0 : (w7.heap.size = w.heap.size) = False := (by simp only [eq_iff_iff, iff_false]; omega)
      have l7_0 : w.heap.size < w7.heap.size := (by omega)
      have n7_1 : (w.heap.size = w7.heap.size + 1) = False := (by simp only [eq_iff_iff, iff_false]; omega)
      have m7_1 : (w7.heap.size + 1 = w.heap.size) = False := (by simp only [eq_iff_iff, iff_false]; omega)
      have l7_1 : w.heap.size < w7.heap.size + 1 := (by omega)
      have n7_2 : (w.heap.size = w7.heap.size + 1 + 1) = False := (by simp only [eq_iff_iff, iff_false]; omega)
      have m7_2 : (w7.heap.size + 1 + 1 = w.heap.size) = False := (by simp only [eq_iff_iff, iff_false]; omega)
      have l7_2 : w.heap.size < w7.heap.size + 1 + 1 := (by omega)
      have n7_3 : (w.heap.size = w7.heap.size + 1 + 1 + 1) = False := (by simp only [eq_iff_iff, iff_false]; omega)
      have m7_3 : (w7.heap.size + 1 + 1 + 1 = w.heap.size) = False := (by simp only [eq_iff_iff, iff_false]; omega)
      have l7_3 : w.heap.size < w7.heap.size + 1 + 1 + 1 := (by omega)
      have n7_4 : (w2.heap.size = w7.heap.size) = False := (by simp only [eq_iff_iff, iff_false]; omega)
      have m7_4 : (w7.heap.size = w2.heap.size) = False := (by simp only [eq_iff_iff, iff_false]; omega)
      have l7_4 : w2.heap.size < w7.heap.size := (by omega)
      have n7_5 : (w2.heap.size = w7.heap.size + 1) = False := (by simp only [eq_iff_iff, iff_false]; omega)
      have m7_5 : (w7.heap.size + 1 = w2.heap.size) = False := (by simp only [eq_iff_iff, iff_false]; omega)
      have l7_5 : w2.heap.size < w7.heap.size + 1 := (by omega)
      have n7_6 : (w2.heap.size = w7.heap.size + 1 + 1) = False := (by simp only [eq_iff_iff, iff_false]; omega)
      have m7_6 : (w7.heap.size + 1 + 1 = w2.heap.size) = False := (by simp only [eq_iff_iff, iff_false]; omega)
      have l7_6 : w2.heap.size < w7.heap.size + 1 + 1 := (by omega)
      have n7_7 : (w2.heap.size = w7.heap.size + 1 + 1 + 1) = False := (by simp only [eq_iff_iff, iff_false]; omega)
      have m7_7 : (w7.heap.size + 1 + 1 + 1 = w2.heap.size) = False := (by simp only [eq_iff_iff, iff_false]; omega)
      have l7_7 : w2.heap.size < w7.heap.size + 1 + 1 + 1 := (by omega)
      have n7_8 : (w2.heap.size + 1 = w7.heap.size) = False := (by simp only [eq_iff_iff, iff_false]; omega)
      have m7_8 : (w7.heap.size = w2.heap.size + 1) = False := (by simp only [eq_iff_iff, iff_false]; omega)
      have l7_8 : w2.heap.size + 1 < w7.heap.size := (by omega)
      go_wp2_with fail
      obtain ⟨w8, hw8⟩ : ∃ V : World, V = ((w7.alloc (.cells #[.int .u64 (L (hi) 0), .int .u64 (L (hi) 1), .int .u64 (L (hi) 2), .int .u64 (L (hi) 3)] 24)).alloc (.cells #[.int .u64 (L (lo) 0), .int .u64 (L (lo) 1), .int .u64 (L (lo) 2), .int .u64 (L (lo) 3)] 24)) := ⟨_, rfl⟩
      have r8_0 : Box w8 (w.heap.size) #[.int .u64 (L (x) 0), .int .u64 (L (x) 1), .int .u64 (L (x) 2), .int .u64 (L (x) 3)] 24 := by rw [hw8]; exact ((r7_0).alloc _).alloc _
      have r8_1 : Box w8 (w2.heap.size) #[.int .u64 (L (0) 0), .int .u64 (L (0) 1), .int .u64 (L (0) 2), .int .u64 (L (0) 3)] 24 := by rw [hw8]; exact ((r7_2).alloc _).alloc _
      have r8_2 : Box w8 (w2.heap.size + 1) #[.int .u64 (L (s) 0), .int .u64 (L (s) 1), .int .u64 (L (s) 2), .int .u64 (L (s) 3)] 24 := by rw [hw8]; exact ((r7_3).alloc _).alloc _
      have r8_3 : Box w8 (w7.heap.size) #[.int .u64 (L (hi) 0), .int .u64 (L (hi) 1), .int .u64 (L (hi) 2), .int .u64 (L (hi) 3)] 24 := by rw [hw8]; exact (Box.new _ _ _ _ (by simp)).alloc _
      have b8 : Bl w w8 := by rw [hw8]; exact ((b7).alloc _).alloc _
      have z8 : w7.heap.size + 1 + 1 ≤ w8.heap.size := (by rw [hw8]; simp only [World.alloc, World.setCell, World.drew, Array.size_push, Array.size_modify]; omega)
      have y8 : w.heap.size ≤ w8.heap.size := b8.size
      rw [← hw8]
      clear r7_0 r7_0_c r7_0_f r7_0_l r7_2 r7_2_c r7_2_f r7_2_l r7_3 r7_3_c r7_3_f r7_3_l hw8 b7
      obtain ⟨r8_0_c, r8_0_f, r8_0_l⟩ := r8_0.tell
      obtain ⟨r8_1_c, r8_1_f, r8_1_l⟩ := r8_1.tell
      obtain ⟨r8_2_c, r8_2_f, r8_2_l⟩ := r8_2.tell
      obtain ⟨r8_3_c, r8_3_f, r8_3_l⟩ := r8_3.tell
      clear i3 i4 i5
      have hk8 : ∀ V : World, Bl w8 V → (∀ o, V.cell? ⟨w2.heap.size, o, none⟩ = #[.int .u64 (L (0) 0), .int .u64 (L (0) 1), .int .u64 (L (0) 2), .int .u64 (L (0) 3)][o]?) ∧ (∀ o, V.cell? ⟨w2.heap.size + 1, o, none⟩ = #[.int .u64 (L (s) 0), .int .u64 (L (s) 1), .int .u64 (L (s) 2), .int .u64 (L (s) 3)][o]?) ∧ (∀ o, V.cell? ⟨w.heap.size, o, none⟩ = #[.int .u64 (L (x) 0), .int .u64 (L (x) 1), .int .u64 (L (x) 2), .int .u64 (L (x) 3)][o]?) ∧ Bl w8 V := fun V hb => ⟨(r8_1.call hb).cell, (r8_2.call hb).cell, (r8_0.call hb).cell, hb⟩
      have s8_0 := hk8 _ (Bl.refl w8).drew
      refine wp_region_noPanic ?_
      refine wp_region_held_drew (S := fun V : World => (∀ o, V.cell? ⟨w2.heap.size, o, none⟩ = #[.int .u64 (L (0) 0), .int .u64 (L (0) 1), .int .u64 (L (0) 2), .int .u64 (L (0) 3)][o]?) ∧ (∀ o, V.cell? ⟨w2.heap.size + 1, o, none⟩ = #[.int .u64 (L (s) 0), .int .u64 (L (s) 1), .int .u64 (L (s) 2), .int .u64 (L (s) 3)][o]?) ∧ (∀ o, V.cell? ⟨w.heap.size, o, none⟩ = #[.int .u64 (L (x) 0), .int .u64 (L (x) 1), .int .u64 (L (x) 2), .int .u64 (L (x) 3)][o]?) ∧ Bl w8 V) (by kernel_rfl) ?_ (fun hHeld => ?_)
      · exact s8_0
      refine wpAnyH_take (i := 0) (oi := { dst := some 30 , op := Go.Op.load 24 ( Go.Operand.tmp 4 ) , type := 24 , pos := "outright.go:71" , after := #[ ] , guard := none }) (v := ?_) rfl (by kernel_rfl) (by kernel_rfl) (by kernel_rfl) (fun _ _ _ h => h) (Or.inl ⟨by rfl, ?_⟩) (by assumption) ?_
      rotate_left
      · intro w hSw; (try dsimp only at hSw); go_simp; first | done | with_reducible rfl
      (try simp only [Act.put, List.setIfInBounds_toArray, List.set_cons_zero, List.set_cons_succ])
      refine wpAnyH_ready (rs := [1]) (by kernel_rfl) (by simp) ?_
      refine AllReadyH.cons (o := { dst := some 31 , op := Go.Op.call { callee := Go.Callee.value ( Go.Operand.func 40 ) , args := #[ Go.Operand.const ( Go.Value.int Go.IntKind.u64 0 ) ] , argTypes := #[ 22 ] } , type := 24 , pos := "outright.go:71" , after := #[ ] , guard := none }) rfl (fun K hK => ?_) AllReadyH.nil
      go_simp
      refine (i0 _).mono ?_
      rintro e w9 ⟨rfl, hb9⟩
      have g9 := (Bl.refl w8).drew.trans hb9
      have s9 := hk8 _ g9
      go_wp2_with fail
      refine hK.out _ _ ?_ (fun hHeld => ?_)
      · exact s9
      clear hK K
      (try simp only [Act.put, List.setIfInBounds_toArray, List.set_cons_zero, List.set_cons_succ])
      refine wpAnyH_take (i := 2) (oi := { dst := some 32 , op := Go.Op.binOp Go.BinOp.neq 24 ( Go.Operand.tmp 30 ) ( Go.Operand.tmp 31 ) 24 , type := 4 , pos := "outright.go:71" , after := #[ { on := 0 , ground := Go.Ground.data } , { on := 1 , ground := Go.Ground.data } ] , guard := none }) (v := ?_) rfl (by kernel_rfl) (by kernel_rfl) (by kernel_rfl) (fun _ _ _ h => h) (Or.inl ⟨by rfl, ?_⟩) (by assumption) ?_
      rotate_left
      · intro w hSw; refine run_neq_U (0) _ _ _ _ _ _ _ _ ?_ ?_ w <;> rfl
      (try simp only [Act.put, List.setIfInBounds_toArray, List.set_cons_zero, List.set_cons_succ])
      refine wpAnyH_take (i := 3) (oi := { dst := some 33 , op := Go.Op.move ( Go.Operand.tmp 32 ) , type := 4 , pos := "outright.go:71" , after := #[ { on := 2 , ground := Go.Ground.data } , { on := 1 , ground := Go.Ground.chain } ] , guard := none }) (v := ?_) rfl (by kernel_rfl) (by kernel_rfl) (by kernel_rfl) (fun _ _ _ h => h) (Or.inl ⟨by rfl, ?_⟩) (by assumption) ?_
      rotate_left
      · intro w hSw; (try dsimp only at hSw); go_simp; first | done | with_reducible rfl
      (try simp only [Act.put, List.setIfInBounds_toArray, List.set_cons_zero, List.set_cons_succ])
      refine wpAnyH_take (i := 4) (oi := { dst := some 34 , op := Go.Op.load 24 ( Go.Operand.tmp 5 ) , type := 24 , pos := "outright.go:71" , after := #[ { on := 3 , ground := Go.Ground.guard } ] , guard := some ( 3 , false ) }) (v := ?_) rfl (by kernel_rfl) (by kernel_rfl) (by kernel_rfl) (fun _ _ _ h => h) (Or.inl ⟨by rfl, ?_⟩) (by assumption) ?_
      rotate_left
      · intro w hSw; (try dsimp only at hSw); go_simp; first | done | with_reducible rfl
      (try simp only [Act.put, List.setIfInBounds_toArray, List.set_cons_zero, List.set_cons_succ])
      refine wpAnyH_take (i := 5) (oi := { dst := some 35 , op := Go.Op.load 24 ( Go.Operand.tmp 1 ) , type := 24 , pos := "outright.go:71" , after := #[ { on := 3 , ground := Go.Ground.guard } ] , guard := some ( 3 , false ) }) (v := ?_) rfl (by kernel_rfl) (by kernel_rfl) (by kernel_rfl) (fun _ _ _ h => h) (Or.inl ⟨by rfl, ?_⟩) (by assumption) ?_
      rotate_left
      · intro w hSw; (try dsimp only at hSw); go_simp; first | done | with_reducible rfl
      (try simp only [Act.put, List.setIfInBounds_toArray, List.set_cons_zero, List.set_cons_succ])
      refine wpAnyH_ready (rs := [6]) (by kernel_rfl) (by simp) ?_
      refine AllReadyH.cons (o := { dst := some 36 , op := Go.Op.call { callee := Go.Callee.value ( Go.Operand.func 45 ) , args := #[ Go.Operand.tmp 34 , Go.Operand.tmp 35 ] , argTypes := #[ 24 , 24 ] } , type := 3 , pos := "outright.go:71" , after := #[ { on := 4 , ground := Go.Ground.data } , { on := 5 , ground := Go.Ground.data } , { on := 3 , ground := Go.Ground.chain } , { on := 3 , ground := Go.Ground.guard } ] , guard := some ( 3 , false ) }) rfl (fun K hK => ?_) AllReadyH.nil
      go_simp
      refine (i6 _).mono ?_
      rintro e w10 ⟨rfl, hb10⟩
      have g10 := g9.trans hb10
      have s10 := hk8 _ g10
      go_wp2_with fail
      refine hK.out _ _ ?_ (fun hHeld => ?_)
      · exact s10
      clear hK K
      (try simp only [Act.put, List.setIfInBounds_toArray, List.set_cons_zero, List.set_cons_succ])
      refine wpAnyH_take (i := 7) (oi := { dst := some 37 , op := Go.Op.binOp Go.BinOp.gtr 3 ( Go.Operand.tmp 36 ) ( Go.Operand.const ( Go.Value.int Go.IntKind.i64 0 ) ) 3 , type := 4 , pos := "outright.go:71" , after := #[ { on := 6 , ground := Go.Ground.data } , { on := 3 , ground := Go.Ground.guard } ] , guard := some ( 3 , false ) }) (v := ?_) rfl (by kernel_rfl) (by kernel_rfl) (by kernel_rfl) (fun _ _ _ h => h) (Or.inl ⟨by rfl, ?_⟩) (by assumption) ?_
      rotate_left
      · intro w hSw; (try dsimp only at hSw); go_simp; first | done | with_reducible rfl
      (try simp only [Act.put, List.setIfInBounds_toArray, List.set_cons_zero, List.set_cons_succ])
      refine wpAnyH_take (i := 8) (oi := { dst := some 38 , op := Go.Op.pick ( Go.Operand.tmp 33 ) ( Go.Operand.const ( Go.Value.bool true ) ) ( Go.Operand.tmp 37 ) , type := 4 , pos := "outright.go:71" , after := #[ { on := 3 , ground := Go.Ground.data } , { on := 7 , ground := Go.Ground.data } ] , guard := none }) (v := ?_) rfl (by kernel_rfl) (by kernel_rfl) (by kernel_rfl) (fun _ _ _ h => h) (Or.inl ⟨by rfl, ?_⟩) (by assumption) ?_
      rotate_left
      · intro w hSw; (try dsimp only at hSw); go_simp; first | done | with_reducible rfl
      (try simp only [Act.put, List.setIfInBounds_toArray, List.set_cons_zero, List.set_cons_succ])
      refine wpAnyH_take (i := 9) (oi := { dst := some 39 , op := Go.Op.move ( Go.Operand.tmp 38 ) , type := 4 , pos := "outright.go:71" , after := #[ { on := 8 , ground := Go.Ground.data } , { on := 6 , ground := Go.Ground.chain } ] , guard := none }) (v := ?_) rfl (by kernel_rfl) (by kernel_rfl) (by kernel_rfl) (fun _ _ _ h => h) (Or.inl ⟨by rfl, ?_⟩) (by assumption) ?_
      rotate_left
      · intro w hSw; (try dsimp only at hSw); go_simp; first | done | with_reducible rfl
      (try simp only [Act.put, List.setIfInBounds_toArray, List.set_cons_zero, List.set_cons_succ])
      refine wpAnyH_take (i := 10) (oi := { dst := some 40 , op := Go.Op.move ( Go.Operand.tmp 7 ) , type := 22 , pos := "outright.go:71" , after := #[ { on := 9 , ground := Go.Ground.guard } ] , guard := some ( 9 , false ) }) (v := ?_) rfl (by kernel_rfl) (by kernel_rfl) (by kernel_rfl) (fun _ _ _ h => h) (Or.inl ⟨by rfl, ?_⟩) (by assumption) ?_
      rotate_left
      · intro w hSw; (try dsimp only at hSw); go_simp; first | done | with_reducible rfl
      (try simp only [Act.put, List.setIfInBounds_toArray, List.set_cons_zero, List.set_cons_succ])
      refine wpAnyH_take (i := 11) (oi := { dst := some 41 , op := Go.Op.binOp Go.BinOp.neq 22 ( Go.Operand.tmp 40 ) ( Go.Operand.const ( Go.Value.int Go.IntKind.u64 0 ) ) 22 , type := 4 , pos := "outright.go:71" , after := #[ { on := 10 , ground := Go.Ground.data } , { on := 9 , ground := Go.Ground.guard } ] , guard := some ( 9 , false ) }) (v := ?_) rfl (by kernel_rfl) (by kernel_rfl) (by kernel_rfl) (fun _ _ _ h => h) (Or.inl ⟨by rfl, ?_⟩) (by assumption) ?_
      rotate_left
      · intro w hSw; (try dsimp only at hSw); go_simp; first | done | with_reducible rfl
      (try simp only [Act.put, List.setIfInBounds_toArray, List.set_cons_zero, List.set_cons_succ])
      refine wpAnyH_take (i := 12) (oi := { dst := some 42 , op := Go.Op.pick ( Go.Operand.tmp 39 ) ( Go.Operand.const ( Go.Value.bool true ) ) ( Go.Operand.tmp 41 ) , type := 4 , pos := "outright.go:71" , after := #[ { on := 9 , ground := Go.Ground.data } , { on := 11 , ground := Go.Ground.data } ] , guard := none }) (v := ?_) rfl (by kernel_rfl) (by kernel_rfl) (by kernel_rfl) (fun _ _ _ h => h) (Or.inl ⟨by rfl, ?_⟩) (by assumption) ?_
      rotate_left
      · intro w hSw; (try dsimp only at hSw); go_simp; first | done | with_reducible rfl
      (try simp only [Act.put, List.setIfInBounds_toArray, List.set_cons_zero, List.set_cons_succ])
      refine wpAnyH_done (by kernel_rfl) ?_ _
      refine NoPanic.normal ?_
      have r10_5 := r8_3.call g10
      have b10 := b8.trans g10
      have z10 := g10.size
      have y10 : w.heap.size ≤ w10.heap.size := b10.size
      clear hk8 s8_0 r8_0 r8_0_c r8_0_f r8_0_l r8_1 r8_1_c r8_1_f r8_1_l r8_2 r8_2_c r8_2_f r8_2_l r8_3 r8_3_c r8_3_f r8_3_l b8 hb9 g9 s9 hb10 g10 s10
      obtain ⟨r10_5_c, r10_5_f, r10_5_l⟩ := r10_5.tell
      go_wp2_with fail
      clear i6
      have hk10 : ∀ V : World, Bl w10 V → (∀ o, V.cell? ⟨w7.heap.size, o, none⟩ = #[.int .u64 (L (hi) 0), .int .u64 (L (hi) 1), .int .u64 (L (hi) 2), .int .u64 (L (hi) 3)][o]?) ∧ Bl w10 V := fun V hb => ⟨(r10_5.call hb).cell, hb⟩
      have s10_0 := hk10 _ (Bl.refl w10).drew
      refine wp_region_noPanic ?_
      refine wp_region_held_drew (S := fun V : World => (∀ o, V.cell? ⟨w7.heap.size, o, none⟩ = #[.int .u64 (L (hi) 0), .int .u64 (L (hi) 1), .int .u64 (L (hi) 2), .int .u64 (L (hi) 3)][o]?) ∧ Bl w10 V) (by kernel_rfl) ?_ (fun hHeld => ?_)
      · exact s10_0
      refine wpAnyH_take (i := 0) (oi := { dst := some 43 , op := Go.Op.load 24 ( Go.Operand.tmp 8 ) , type := 24 , pos := "outright.go:74" , after := #[ ] , guard := none }) (v := ?_) rfl (by kernel_rfl) (by kernel_rfl) (by kernel_rfl) (fun _ _ _ h => h) (Or.inl ⟨by rfl, ?_⟩) (by assumption) ?_
      rotate_left
      · intro w hSw; (try dsimp only at hSw); go_simp; first | done | with_reducible rfl
      (try simp only [Act.put, List.setIfInBounds_toArray, List.set_cons_zero, List.set_cons_succ])
      refine wpAnyH_ready (rs := [1]) (by kernel_rfl) (by simp) ?_
      refine AllReadyH.cons (o := { dst := some 44 , op := Go.Op.call { callee := Go.Callee.value ( Go.Operand.func 40 ) , args := #[ Go.Operand.const ( Go.Value.int Go.IntKind.u64 0 ) ] , argTypes := #[ 22 ] } , type := 24 , pos := "outright.go:74" , after := #[ ] , guard := none }) rfl (fun K hK => ?_) AllReadyH.nil
      go_simp
      refine (i0 _).mono ?_
      rintro e w11 ⟨rfl, hb11⟩
      have g11 := (Bl.refl w10).drew.trans hb11
      have s11 := hk10 _ g11
      go_wp2_with fail
      refine hK.out _ _ ?_ (fun hHeld => ?_)
      · exact s11
      clear hK K
      (try simp only [Act.put, List.setIfInBounds_toArray, List.set_cons_zero, List.set_cons_succ])
      refine wpAnyH_take (i := 2) (oi := { dst := some 45 , op := Go.Op.binOp Go.BinOp.neq 24 ( Go.Operand.tmp 43 ) ( Go.Operand.tmp 44 ) 24 , type := 4 , pos := "outright.go:74" , after := #[ { on := 0 , ground := Go.Ground.data } , { on := 1 , ground := Go.Ground.data } ] , guard := none }) (v := ?_) rfl (by kernel_rfl) (by kernel_rfl) (by kernel_rfl) (fun _ _ _ h => h) (Or.inl ⟨by rfl, ?_⟩) (by assumption) ?_
      rotate_left
      · intro w hSw; refine run_neq_no hi 0 HH.out T256_pos H0.out _ _ _ _ _ _ _ _ ?_ ?_ w <;> rfl
      (try simp only [Act.put, List.setIfInBounds_toArray, List.set_cons_zero, List.set_cons_succ])
      refine wpAnyH_take (i := 3) (oi := { dst := some 46 , op := Go.Op.move ( Go.Operand.tmp 45 ) , type := 4 , pos := "outright.go:74" , after := #[ { on := 2 , ground := Go.Ground.data } , { on := 1 , ground := Go.Ground.chain } ] , guard := none }) (v := ?_) rfl (by kernel_rfl) (by kernel_rfl) (by kernel_rfl) (fun _ _ _ h => h) (Or.inl ⟨by rfl, ?_⟩) (by assumption) ?_
      rotate_left
      · intro w hSw; (try dsimp only at hSw); go_simp; first | done | with_reducible rfl
      (try simp only [Act.put, List.setIfInBounds_toArray, List.set_cons_zero, List.set_cons_succ])
      refine wpAnyH_take (i := 4) (oi := { dst := some 47 , op := Go.Op.load 24 ( Go.Operand.tmp 9 ) , type := 24 , pos := "outright.go:74" , after := #[ { on := 3 , ground := Go.Ground.guard } ] , guard := some ( 3 , false ) }) (v := undef) rfl (by kernel_rfl) (by kernel_rfl) (by kernel_rfl) (fun _ _ _ h => h) (Or.inr ⟨by rfl, rfl⟩) (by assumption) ?_
      (try simp only [Act.put, List.setIfInBounds_toArray, List.set_cons_zero, List.set_cons_succ])
      refine wpAnyH_take (i := 5) (oi := { dst := some 48 , op := Go.Op.load 24 ( Go.Operand.tmp 1 ) , type := 24 , pos := "outright.go:74" , after := #[ { on := 3 , ground := Go.Ground.guard } ] , guard := some ( 3 , false ) }) (v := undef) rfl (by kernel_rfl) (by kernel_rfl) (by kernel_rfl) (fun _ _ _ h => h) (Or.inr ⟨by rfl, rfl⟩) (by assumption) ?_
      (try simp only [Act.put, List.setIfInBounds_toArray, List.set_cons_zero, List.set_cons_succ])
      refine wpAnyH_take (i := 6) (oi := { dst := some 49 , op := Go.Op.call { callee := Go.Callee.value ( Go.Operand.func 45 ) , args := #[ Go.Operand.tmp 47 , Go.Operand.tmp 48 ] , argTypes := #[ 24 , 24 ] } , type := 3 , pos := "outright.go:74" , after := #[ { on := 4 , ground := Go.Ground.data } , { on := 5 , ground := Go.Ground.data } , { on := 3 , ground := Go.Ground.chain } , { on := 3 , ground := Go.Ground.guard } ] , guard := some ( 3 , false ) }) (v := undef) rfl (by kernel_rfl) (by kernel_rfl) (by kernel_rfl) (fun _ _ _ h => h) (Or.inr ⟨by rfl, rfl⟩) (by assumption) ?_
      (try simp only [Act.put, List.setIfInBounds_toArray, List.set_cons_zero, List.set_cons_succ])
      refine wpAnyH_take (i := 7) (oi := { dst := some 50 , op := Go.Op.binOp Go.BinOp.gtr 3 ( Go.Operand.tmp 49 ) ( Go.Operand.const ( Go.Value.int Go.IntKind.i64 0 ) ) 3 , type := 4 , pos := "outright.go:74" , after := #[ { on := 6 , ground := Go.Ground.data } , { on := 3 , ground := Go.Ground.guard } ] , guard := some ( 3 , false ) }) (v := undef) rfl (by kernel_rfl) (by kernel_rfl) (by kernel_rfl) (fun _ _ _ h => h) (Or.inr ⟨by rfl, rfl⟩) (by assumption) ?_
      (try simp only [Act.put, List.setIfInBounds_toArray, List.set_cons_zero, List.set_cons_succ])
      refine wpAnyH_take (i := 8) (oi := { dst := some 51 , op := Go.Op.pick ( Go.Operand.tmp 46 ) ( Go.Operand.const ( Go.Value.bool true ) ) ( Go.Operand.tmp 50 ) , type := 4 , pos := "outright.go:74" , after := #[ { on := 3 , ground := Go.Ground.data } , { on := 7 , ground := Go.Ground.data } ] , guard := none }) (v := ?_) rfl (by kernel_rfl) (by kernel_rfl) (by kernel_rfl) (fun _ _ _ h => h) (Or.inl ⟨by rfl, ?_⟩) (by assumption) ?_
      rotate_left
      · intro w hSw; (try dsimp only at hSw); go_simp; first | done | with_reducible rfl
      (try simp only [Act.put, List.setIfInBounds_toArray, List.set_cons_zero, List.set_cons_succ])
      refine wpAnyH_take (i := 9) (oi := { dst := some 2 , op := Go.Op.assign ( Go.Operand.tmp 51 ) , type := 4 , pos := "outright.go:74" , after := #[ { on := 8 , ground := Go.Ground.data } , { on := 6 , ground := Go.Ground.chain } , { on := 0 , ground := Go.Ground.phase } , { on := 1 , ground := Go.Ground.phase } , { on := 2 , ground := Go.Ground.phase } , { on := 3 , ground := Go.Ground.phase } , { on := 4 , ground := Go.Ground.phase } , { on := 5 , ground := Go.Ground.phase } , { on := 6 , ground := Go.Ground.phase } , { on := 7 , ground := Go.Ground.phase } , { on := 8 , ground := Go.Ground.phase } ] , guard := none }) (v := ?_) rfl (by kernel_rfl) (by kernel_rfl) (by kernel_rfl) (fun _ _ _ h => h) (Or.inl ⟨by rfl, ?_⟩) (by assumption) ?_
      rotate_left
      · intro w hSw; (try dsimp only at hSw); go_simp; first | done | with_reducible rfl
      (try simp only [Act.put, List.setIfInBounds_toArray, List.set_cons_zero, List.set_cons_succ])
      refine wpAnyH_done (by kernel_rfl) ?_ _
      refine NoPanic.normal ?_
      have b11 := b10.trans g11
      have z11 := g11.size
      have y11 : w.heap.size ≤ w11.heap.size := b11.size
      clear hk10 s10_0 r10_5 r10_5_c r10_5_f r10_5_l b10 hb11 g11 s11
      go_wp2_with fail
      refine bodyPost_ret (v := .bool true) (by simp only [results, Try.results6]; go_simp) rfl ⟨rfl, ?_⟩
      exact b11

set_option maxHeartbeats 1000000 in
set_option maxRecDepth 100000 in
theorem liftedU256Roots (os : Os) (started : os.Started) (H : Type) (enc : TypeId × Value → H) :
    ReturnsInHanded {} Try.checked os 6 .any (Rows.u256RootsSpec.pre6 enc Try.prog Try.f6 Rows.u256RootsRow.domain false) (Rows.u256RootsSpec.post enc Try.prog Try.f6 false true false false) := by
  refine returnsInHanded_of_change (C := Try.checked) own started (by kernel_rfl) Try.func6
    (ChangeSpec.witness6 (enc := enc) (C := Try.checked) false ⟨#[], #[.agg #[.int .u64 0, .int .u64 0, .int .u64 0, .int .u64 0]], []⟩ 8 (by kernel_rfl) (by kernel_rfl) (by kernel_rfl) (by kernel_rfl)) ?_
  intro W base args ds gs before hval0 hW hcnd _
  have hval : ∀ (j : Nat) t v, Try.f6.params[j]? = some t → args[j]? = some v → Value.okWide Try.prog W .any base t v := hval0
  have hW' := hW
  obtain ⟨p, q, hA0, hV, rfl, hfz, hnd⟩ := hW
  have hA : DataW.TrodAll enc Try.prog W 0 (fun _ => true) true Try.f6.params.toList args.toList ds p := hA0
  rw [Try.params6] at hA hval
  obtain ⟨v0, vs0, d0, ds0, p0, q0, hargs, rfl, rfl, h0, r0⟩ := trodAll_cons hA
  obtain ⟨rfl, rfl, rfl⟩ := trodAll_nil r0
  obtain rfl : args = #[v0] := by cases args; simp_all
  obtain ⟨rfl, rfl⟩ := trodVars_none hV
  have lt0 : ∀ x ∈ p0, x.block < W.heap.size := by obtain ⟨m, hm⟩ := h0; exact DataW.trod_lt m _ _ _ hm
  obtain ⟨a0, g0, rfl⟩ := open_U (hval 0 24 v0 rfl rfl) h0
  clear hA0 hval0
  refine (walkU256Roots a0 g0 W).mono fun e W' ⟨he, bel⟩ => ?_
  subst he
  exact ⟨_, rfl, _, _, _, [], _, [], hW', trodAll_mk1 (shut_bool Try.underlying4 _), (trodAll_cons_mk (Below.trod laidOut (by kernel_rfl) (of_decide_eq_true (by kernel_rfl)) h0 bel.out lt0) trodAll_mk0), rfl, bel.out.frame _, fun h => by cases h⟩

theorem provedU256Roots : Rows.U256RootsSaid :=
  OpenClaim.holds_of_wide 6 Try.f6 rfl rfl rfl rfl rfl rfl rfl ⟨rfl, rfl, rfl, rfl, rfl⟩ rfl rfl rfl rfl rfl (by kernel_rfl) Try.func6 (by kernel_rfl)
    (of_decide_eq_true (by kernel_rfl)) (by unfold Func.isWrapper; first | (rw [if_pos (by decide +kernel)]; kernel_rfl) | (rw [if_neg (by decide +kernel)]; exact ⟨rfl, rfl⟩))
    (fun os started H enc _ => liftedU256Roots os started H enc)
end Go.Proofs.Ythgnmpjcbicdhaa
