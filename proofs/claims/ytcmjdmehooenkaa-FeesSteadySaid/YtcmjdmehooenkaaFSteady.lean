/- The statement FeesSteady, for every input: no condition. -/
import Derived.Test.YtcmjdmehooenkaaNextB
import Derived.Test.YtcmjdmehooenkaaRow
set_option linter.unusedSimpArgs false
set_option linter.unusedVariables false
namespace Go.Proofs.Ytcmjdmehooenkaa
open Go Go.ChangeShapes Go.WideShapes Go.ChangeAt Go.RowKit

theorem cmpI_le {a b : Nat} (h : a ≤ b) : decide (cmpI a b ≤ 0) = true := by
  unfold cmpI
  rcases Nat.lt_or_ge a b with h1 | h1
  · simp [h1]
  · have : a = b := by omega
    simp [this]
set_option maxHeartbeats 40000000 in
set_option maxRecDepth 100000 in
theorem walk0FeesSteady (base : Nat) (hbase : base < T256) (limit : Nat) (hlimit : limit < 18446744073709551616) (used : Nat) (hused : used < 18446744073709551616) (w : World) :
    Calls Try.prog 4 #[U base, .int .u64 limit, .int .u64 used] w fun e w' => e = .returned (.bool true) ∧ Bl w w' := by
  go_enter Try.func4, Try.ntmps4
  have hg := guardU
  have qs := fun n w => run_eq_self n w
  have i1 := fun w => nextbase_c base limit used hbase hlimit hused w
  have haT := nbV_lt (limit := limit) (used := used) hbase
  obtain ⟨a, ha⟩ : ∃ a, a = nbV base limit used := ⟨_, rfl⟩
  obtain ⟨e, he⟩ : ∃ e, e = nbE base limit used := ⟨_, rfl⟩
  rw [← ha, ← he] at i1
  rw [← ha] at haT
  unfold nbV at ha
  unfold nbE at he
  obtain ⟨tg, htg⟩ : ∃ tg, tg = limit / 2 := ⟨_, rfl⟩
  have ht2 : (limit : Int) / 2 = (tg : Int) := by omega
  rw [← htg] at ha he
  have htb : 2 * tg ≤ limit ∧ limit ≤ 2 * tg + 1 := by omega
  clear htg
  go_wp2_with fail
  refine (i1 _).mono ?_
  rintro e w1 ⟨rfl, hb1⟩
  have r1_0 : Box w1 w.heap.size #[.int .u64 (L base 0), .int .u64 (L base 1), .int .u64 (L base 2), .int .u64 (L base 3)] 24 := (Box.new _ _ _ _ (by simp)).call hb1
  have b1 : Bl w w1 := Bl.trans ((Bl.refl w).alloc _) hb1
  have z1 : w.heap.size + 1 ≤ w1.heap.size := (by have := hb1.size; (try simp only [World.alloc, World.setCell, World.drew, Array.size_push, Array.size_modify] at this); omega)
  have y1 : w.heap.size ≤ w1.heap.size := b1.size
  obtain ⟨B0, hB0⟩ : ∃ B, B = w.heap.size := ⟨_, rfl⟩
  (try rw [← hB0]); rw [← hB0] at r1_0
  have lo0 : w.heap.size ≤ B0 := by omega
  clear hB0
  obtain ⟨r1_0_c, r1_0_f, r1_0_l⟩ := r1_0.tell
  have d1_0 : (B0 = w1.heap.size) = False := (by simp only [eq_iff_iff, iff_false]; omega)
  have e1_0 : (w1.heap.size = B0) = False := (by simp only [eq_iff_iff, iff_false]; omega)
  have m1_0 : B0 < w1.heap.size := (by omega)
  have d1_1 : (B0 = w1.heap.size + 1) = False := (by simp only [eq_iff_iff, iff_false]; omega)
  have e1_1 : (w1.heap.size + 1 = B0) = False := (by simp only [eq_iff_iff, iff_false]; omega)
  have m1_1 : B0 < w1.heap.size + 1 := (by omega)
  clear hb1
  by_cases h0 : limit < 2
  · skip
    have h00 : tg = 0 := by omega
    rw [if_pos h00] at he
    subst he
    clear ha
    have bo0 : decide (limit < 2) = true := by simp; omega
    have bo1 : decide ((limit : Int) < 2) = true := by simp; omega
    go_wp2_with fail
    refine bodyPost_ret (v := .bool true) (by simp only [results, Try.results4]; go_simp) rfl ⟨rfl, ?_⟩
    exact (b1).alloc _
  · skip
    have bo0 : decide (limit < 2) = false := by simp; omega
    have bo1 : decide ((limit : Int) < 2) = false := by simp; omega
    by_cases h1 : limit < used
    · skip
      rw [if_neg (by omega : ¬ tg = 0), if_pos h1] at he
      subst he
      clear ha
      have bp0 : decide (limit < used) = true := by simpa using h1
      go_wp2_with fail
      refine bodyPost_ret (v := .bool true) (by simp only [results, Try.results4]; go_simp) rfl ⟨rfl, ?_⟩
      exact (b1).alloc _
    · skip
      have h2 : ¬ tg = 0 := by omega
      rw [if_neg h2, if_neg h1] at ha he
      have bq0 : decide (limit < used) = false := by simp; omega
      obtain ⟨g8, hg8⟩ : ∃ v, v = base / 8 := ⟨_, rfl⟩
      have s1 := fun w => shr_c base hbase 3 w
      rw [show shlZ base (-3) = g8 by rw [shlZ_neg base hbase (-3) (by omega) (by omega), hg8]; rfl] at s1
      have hg8T : g8 + 1 < T256 := by rw [T256_eq] at *; omega
      have s2 := fun w => add_c g8 1 (by omega) (by rw [T256_eq]; omega) w
      rw [Nat.mod_eq_of_lt hg8T, Nat.div_eq_of_lt hg8T, show U 1 = .agg #[.int .u64 1, .int .u64 0, .int .u64 0, .int .u64 0] from (U_small 1 (by omega)).symm] at s2
      obtain ⟨st, hst⟩ : ∃ v, v = g8 + 1 := ⟨_, rfl⟩
      rw [← hst] at s2 hg8T
      by_cases h3 : used = tg
      · skip
        rw [if_neg (by omega), if_pos h3] at ha he
        subst he
        have hq := fun w => run_eq_U haT hbase w
        rw [decide_eq_true ha] at hq
        clear ha hg8 hst
        have bo0 : (used == tg) = true := by simp; omega
        have bo1 : ((used : Int) == (tg : Int)) = true := by simp; omega
        go_wp2_with fail
        refine (s1 _).mono ?_
        rintro e w2 ⟨rfl, hb2⟩
        have r2_0 : Box w2 B0 #[.int .u64 (L base 0), .int .u64 (L base 1), .int .u64 (L base 2), .int .u64 (L base 3)] 24 := ((r1_0).alloc _).call hb2
        have r2_1 : Box w2 w1.heap.size #[.int .u64 (L a 0), .int .u64 (L a 1), .int .u64 (L a 2), .int .u64 (L a 3)] 24 := (Box.new _ _ _ _ (by simp)).call hb2
        have b2 : Bl w w2 := Bl.trans ((b1).alloc _) hb2
        have z2 : w1.heap.size + 1 ≤ w2.heap.size := (by have := hb2.size; (try simp only [World.alloc, World.setCell, World.drew, Array.size_push, Array.size_modify] at this); omega)
        have y2 : w.heap.size ≤ w2.heap.size := b2.size
        obtain ⟨B1, hB1⟩ : ∃ B, B = w1.heap.size := ⟨_, rfl⟩
        (try rw [← hB1]); rw [← hB1] at r2_1
        have lo1 : w.heap.size ≤ B1 := by omega
        have n1_0 : (B1 = B0) = False := (by simp only [eq_iff_iff, iff_false]; have := r1_0_l; omega)
        have n0_1 : (B0 = B1) = False := (by simp only [eq_iff_iff, iff_false]; have := r1_0_l; omega)
        clear hB1
        clear r1_0 r1_0_c r1_0_f r1_0_l b1
        obtain ⟨r2_0_c, r2_0_f, r2_0_l⟩ := r2_0.tell
        obtain ⟨r2_1_c, r2_1_f, r2_1_l⟩ := r2_1.tell
        have d2_0 : (B0 = w2.heap.size) = False := (by simp only [eq_iff_iff, iff_false]; omega)
        have e2_0 : (w2.heap.size = B0) = False := (by simp only [eq_iff_iff, iff_false]; omega)
        have m2_0 : B0 < w2.heap.size := (by omega)
        have d2_1 : (B0 = w2.heap.size + 1) = False := (by simp only [eq_iff_iff, iff_false]; omega)
        have e2_1 : (w2.heap.size + 1 = B0) = False := (by simp only [eq_iff_iff, iff_false]; omega)
        have m2_1 : B0 < w2.heap.size + 1 := (by omega)
        have d2_2 : (B1 = w2.heap.size) = False := (by simp only [eq_iff_iff, iff_false]; omega)
        have e2_2 : (w2.heap.size = B1) = False := (by simp only [eq_iff_iff, iff_false]; omega)
        have m2_2 : B1 < w2.heap.size := (by omega)
        have d2_3 : (B1 = w2.heap.size + 1) = False := (by simp only [eq_iff_iff, iff_false]; omega)
        have e2_3 : (w2.heap.size + 1 = B1) = False := (by simp only [eq_iff_iff, iff_false]; omega)
        have m2_3 : B1 < w2.heap.size + 1 := (by omega)
        clear hb2
        go_wp2_with fail
        refine (s2 _).mono ?_
        rintro e w3 ⟨rfl, hb3⟩
        have r3_0 : Box w3 B0 #[.int .u64 (L base 0), .int .u64 (L base 1), .int .u64 (L base 2), .int .u64 (L base 3)] 24 := ((r2_0).alloc _).call hb3
        have r3_1 : Box w3 B1 #[.int .u64 (L a 0), .int .u64 (L a 1), .int .u64 (L a 2), .int .u64 (L a 3)] 24 := ((r2_1).alloc _).call hb3
        have r3_2 : Box w3 w2.heap.size #[.int .u64 (L g8 0), .int .u64 (L g8 1), .int .u64 (L g8 2), .int .u64 (L g8 3)] 24 := (Box.new _ _ _ _ (by simp)).call hb3
        have b3 : Bl w w3 := Bl.trans ((b2).alloc _) hb3
        have z3 : w2.heap.size + 1 ≤ w3.heap.size := (by have := hb3.size; (try simp only [World.alloc, World.setCell, World.drew, Array.size_push, Array.size_modify] at this); omega)
        have y3 : w.heap.size ≤ w3.heap.size := b3.size
        obtain ⟨B2, hB2⟩ : ∃ B, B = w2.heap.size := ⟨_, rfl⟩
        (try rw [← hB2]); rw [← hB2] at r3_2
        have lo2 : w.heap.size ≤ B2 := by omega
        have n2_0 : (B2 = B0) = False := (by simp only [eq_iff_iff, iff_false]; have := r2_0_l; omega)
        have n0_2 : (B0 = B2) = False := (by simp only [eq_iff_iff, iff_false]; have := r2_0_l; omega)
        have n2_1 : (B2 = B1) = False := (by simp only [eq_iff_iff, iff_false]; have := r2_1_l; omega)
        have n1_2 : (B1 = B2) = False := (by simp only [eq_iff_iff, iff_false]; have := r2_1_l; omega)
        clear hB2
        clear r2_0 r2_0_c r2_0_f r2_0_l r2_1 r2_1_c r2_1_f r2_1_l b2
        obtain ⟨r3_0_c, r3_0_f, r3_0_l⟩ := r3_0.tell
        obtain ⟨r3_1_c, r3_1_f, r3_1_l⟩ := r3_1.tell
        obtain ⟨r3_2_c, r3_2_f, r3_2_l⟩ := r3_2.tell
        have d3_0 : (B0 = w3.heap.size) = False := (by simp only [eq_iff_iff, iff_false]; omega)
        have e3_0 : (w3.heap.size = B0) = False := (by simp only [eq_iff_iff, iff_false]; omega)
        have m3_0 : B0 < w3.heap.size := (by omega)
        have d3_1 : (B0 = w3.heap.size + 1) = False := (by simp only [eq_iff_iff, iff_false]; omega)
        have e3_1 : (w3.heap.size + 1 = B0) = False := (by simp only [eq_iff_iff, iff_false]; omega)
        have m3_1 : B0 < w3.heap.size + 1 := (by omega)
        have d3_2 : (B1 = w3.heap.size) = False := (by simp only [eq_iff_iff, iff_false]; omega)
        have e3_2 : (w3.heap.size = B1) = False := (by simp only [eq_iff_iff, iff_false]; omega)
        have m3_2 : B1 < w3.heap.size := (by omega)
        have d3_3 : (B1 = w3.heap.size + 1) = False := (by simp only [eq_iff_iff, iff_false]; omega)
        have e3_3 : (w3.heap.size + 1 = B1) = False := (by simp only [eq_iff_iff, iff_false]; omega)
        have m3_3 : B1 < w3.heap.size + 1 := (by omega)
        have d3_4 : (B2 = w3.heap.size) = False := (by simp only [eq_iff_iff, iff_false]; omega)
        have e3_4 : (w3.heap.size = B2) = False := (by simp only [eq_iff_iff, iff_false]; omega)
        have m3_4 : B2 < w3.heap.size := (by omega)
        have d3_5 : (B2 = w3.heap.size + 1) = False := (by simp only [eq_iff_iff, iff_false]; omega)
        have e3_5 : (w3.heap.size + 1 = B2) = False := (by simp only [eq_iff_iff, iff_false]; omega)
        have m3_5 : B2 < w3.heap.size + 1 := (by omega)
        clear hb3
        go_wp2_with fail
        refine bodyPost_ret (v := .bool true) (by simp only [results, Try.results4]; go_simp) rfl ⟨rfl, ?_⟩
        exact (b3).alloc _
      · skip
        by_cases h4 : used < tg
        · skip
          rw [if_pos h4] at ha he
          subst he
          obtain ⟨d, hd⟩ : ∃ d, d = stepN base (tg - used) tg := ⟨_, rfl⟩
          rw [← hd] at ha
          have hd8 : d ≤ g8 := by rw [hd, hg8]; exact stepN_eighth hbase (by omega) (by omega)
          have hdb : d ≤ base := by rw [hg8] at hd8; have := Nat.div_le_self base 8; omega
          have s3 := fun w => sub_c base a hbase haT w
          rw [show (base + T256 - a) % T256 = d by rw [show base + T256 - a = d + T256 by omega, Nat.add_mod_right, Nat.mod_eq_of_lt (by omega)], if_neg (by omega : ¬ base < a)] at s3
          have s4 := fun w => cmp_c d g8 (by omega) (by omega) w
          obtain ⟨c, hc⟩ : ∃ c, c = cmpI d g8 := ⟨_, rfl⟩
          rw [← hc] at s4
          have bz : decide (c ≤ 0) = true := by rw [hc]; exact cmpI_le hd8
          clear hd hg8 hst ha hc
          have bo0 : (used == tg) = false := by simp; omega
          have bo1 : ((used : Int) == (tg : Int)) = false := by simp; omega
          have bo2 : decide (used < tg) = true := by simp; omega
          go_wp2_with fail
          refine (s1 _).mono ?_
          rintro e w4 ⟨rfl, hb4⟩
          have r4_0 : Box w4 B0 #[.int .u64 (L base 0), .int .u64 (L base 1), .int .u64 (L base 2), .int .u64 (L base 3)] 24 := ((r1_0).alloc _).call hb4
          have r4_1 : Box w4 w1.heap.size #[.int .u64 (L a 0), .int .u64 (L a 1), .int .u64 (L a 2), .int .u64 (L a 3)] 24 := (Box.new _ _ _ _ (by simp)).call hb4
          have b4 : Bl w w4 := Bl.trans ((b1).alloc _) hb4
          have z4 : w1.heap.size + 1 ≤ w4.heap.size := (by have := hb4.size; (try simp only [World.alloc, World.setCell, World.drew, Array.size_push, Array.size_modify] at this); omega)
          have y4 : w.heap.size ≤ w4.heap.size := b4.size
          obtain ⟨B1, hB1⟩ : ∃ B, B = w1.heap.size := ⟨_, rfl⟩
          (try rw [← hB1]); rw [← hB1] at r4_1
          have lo1 : w.heap.size ≤ B1 := by omega
          have n1_0 : (B1 = B0) = False := (by simp only [eq_iff_iff, iff_false]; have := r1_0_l; omega)
          have n0_1 : (B0 = B1) = False := (by simp only [eq_iff_iff, iff_false]; have := r1_0_l; omega)
          clear hB1
          clear r1_0 r1_0_c r1_0_f r1_0_l b1
          obtain ⟨r4_0_c, r4_0_f, r4_0_l⟩ := r4_0.tell
          obtain ⟨r4_1_c, r4_1_f, r4_1_l⟩ := r4_1.tell
          have d4_0 : (B0 = w4.heap.size) = False := (by simp only [eq_iff_iff, iff_false]; omega)
          have e4_0 : (w4.heap.size = B0) = False := (by simp only [eq_iff_iff, iff_false]; omega)
          have m4_0 : B0 < w4.heap.size := (by omega)
          have d4_1 : (B0 = w4.heap.size + 1) = False := (by simp only [eq_iff_iff, iff_false]; omega)
          have e4_1 : (w4.heap.size + 1 = B0) = False := (by simp only [eq_iff_iff, iff_false]; omega)
          have m4_1 : B0 < w4.heap.size + 1 := (by omega)
          have d4_2 : (B1 = w4.heap.size) = False := (by simp only [eq_iff_iff, iff_false]; omega)
          have e4_2 : (w4.heap.size = B1) = False := (by simp only [eq_iff_iff, iff_false]; omega)
          have m4_2 : B1 < w4.heap.size := (by omega)
          have d4_3 : (B1 = w4.heap.size + 1) = False := (by simp only [eq_iff_iff, iff_false]; omega)
          have e4_3 : (w4.heap.size + 1 = B1) = False := (by simp only [eq_iff_iff, iff_false]; omega)
          have m4_3 : B1 < w4.heap.size + 1 := (by omega)
          clear hb4
          go_wp2_with fail
          refine (s2 _).mono ?_
          rintro e w5 ⟨rfl, hb5⟩
          have r5_0 : Box w5 B0 #[.int .u64 (L base 0), .int .u64 (L base 1), .int .u64 (L base 2), .int .u64 (L base 3)] 24 := ((r4_0).alloc _).call hb5
          have r5_1 : Box w5 B1 #[.int .u64 (L a 0), .int .u64 (L a 1), .int .u64 (L a 2), .int .u64 (L a 3)] 24 := ((r4_1).alloc _).call hb5
          have r5_4 : Box w5 w4.heap.size #[.int .u64 (L g8 0), .int .u64 (L g8 1), .int .u64 (L g8 2), .int .u64 (L g8 3)] 24 := (Box.new _ _ _ _ (by simp)).call hb5
          have b5 : Bl w w5 := Bl.trans ((b4).alloc _) hb5
          have z5 : w4.heap.size + 1 ≤ w5.heap.size := (by have := hb5.size; (try simp only [World.alloc, World.setCell, World.drew, Array.size_push, Array.size_modify] at this); omega)
          have y5 : w.heap.size ≤ w5.heap.size := b5.size
          obtain ⟨B4, hB4⟩ : ∃ B, B = w4.heap.size := ⟨_, rfl⟩
          (try rw [← hB4]); rw [← hB4] at r5_4
          have lo4 : w.heap.size ≤ B4 := by omega
          have n4_0 : (B4 = B0) = False := (by simp only [eq_iff_iff, iff_false]; have := r4_0_l; omega)
          have n0_4 : (B0 = B4) = False := (by simp only [eq_iff_iff, iff_false]; have := r4_0_l; omega)
          have n4_1 : (B4 = B1) = False := (by simp only [eq_iff_iff, iff_false]; have := r4_1_l; omega)
          have n1_4 : (B1 = B4) = False := (by simp only [eq_iff_iff, iff_false]; have := r4_1_l; omega)
          clear hB4
          clear r4_0 r4_0_c r4_0_f r4_0_l r4_1 r4_1_c r4_1_f r4_1_l b4
          obtain ⟨r5_0_c, r5_0_f, r5_0_l⟩ := r5_0.tell
          obtain ⟨r5_1_c, r5_1_f, r5_1_l⟩ := r5_1.tell
          obtain ⟨r5_4_c, r5_4_f, r5_4_l⟩ := r5_4.tell
          have d5_0 : (B0 = w5.heap.size) = False := (by simp only [eq_iff_iff, iff_false]; omega)
          have e5_0 : (w5.heap.size = B0) = False := (by simp only [eq_iff_iff, iff_false]; omega)
          have m5_0 : B0 < w5.heap.size := (by omega)
          have d5_1 : (B0 = w5.heap.size + 1) = False := (by simp only [eq_iff_iff, iff_false]; omega)
          have e5_1 : (w5.heap.size + 1 = B0) = False := (by simp only [eq_iff_iff, iff_false]; omega)
          have m5_1 : B0 < w5.heap.size + 1 := (by omega)
          have d5_2 : (B1 = w5.heap.size) = False := (by simp only [eq_iff_iff, iff_false]; omega)
          have e5_2 : (w5.heap.size = B1) = False := (by simp only [eq_iff_iff, iff_false]; omega)
          have m5_2 : B1 < w5.heap.size := (by omega)
          have d5_3 : (B1 = w5.heap.size + 1) = False := (by simp only [eq_iff_iff, iff_false]; omega)
          have e5_3 : (w5.heap.size + 1 = B1) = False := (by simp only [eq_iff_iff, iff_false]; omega)
          have m5_3 : B1 < w5.heap.size + 1 := (by omega)
          have d5_4 : (B4 = w5.heap.size) = False := (by simp only [eq_iff_iff, iff_false]; omega)
          have e5_4 : (w5.heap.size = B4) = False := (by simp only [eq_iff_iff, iff_false]; omega)
          have m5_4 : B4 < w5.heap.size := (by omega)
          have d5_5 : (B4 = w5.heap.size + 1) = False := (by simp only [eq_iff_iff, iff_false]; omega)
          have e5_5 : (w5.heap.size + 1 = B4) = False := (by simp only [eq_iff_iff, iff_false]; omega)
          have m5_5 : B4 < w5.heap.size + 1 := (by omega)
          clear hb5
          go_wp2_with fail
          refine (s3 _).mono ?_
          rintro e w6 ⟨rfl, hb6⟩
          have r6_0 : Box w6 B0 #[.int .u64 (L base 0), .int .u64 (L base 1), .int .u64 (L base 2), .int .u64 (L base 3)] 24 := ((r5_0).alloc _).call hb6
          have r6_1 : Box w6 B1 #[.int .u64 (L a 0), .int .u64 (L a 1), .int .u64 (L a 2), .int .u64 (L a 3)] 24 := ((r5_1).alloc _).call hb6
          have r6_4 : Box w6 B4 #[.int .u64 (L g8 0), .int .u64 (L g8 1), .int .u64 (L g8 2), .int .u64 (L g8 3)] 24 := ((r5_4).alloc _).call hb6
          have r6_5 : Box w6 w5.heap.size #[.int .u64 (L st 0), .int .u64 (L st 1), .int .u64 (L st 2), .int .u64 (L st 3)] 24 := (Box.new _ _ _ _ (by simp)).call hb6
          have b6 : Bl w w6 := Bl.trans ((b5).alloc _) hb6
          have z6 : w5.heap.size + 1 ≤ w6.heap.size := (by have := hb6.size; (try simp only [World.alloc, World.setCell, World.drew, Array.size_push, Array.size_modify] at this); omega)
          have y6 : w.heap.size ≤ w6.heap.size := b6.size
          obtain ⟨B5, hB5⟩ : ∃ B, B = w5.heap.size := ⟨_, rfl⟩
          (try rw [← hB5]); rw [← hB5] at r6_5
          have lo5 : w.heap.size ≤ B5 := by omega
          have n5_0 : (B5 = B0) = False := (by simp only [eq_iff_iff, iff_false]; have := r5_0_l; omega)
          have n0_5 : (B0 = B5) = False := (by simp only [eq_iff_iff, iff_false]; have := r5_0_l; omega)
          have n5_1 : (B5 = B1) = False := (by simp only [eq_iff_iff, iff_false]; have := r5_1_l; omega)
          have n1_5 : (B1 = B5) = False := (by simp only [eq_iff_iff, iff_false]; have := r5_1_l; omega)
          have n5_4 : (B5 = B4) = False := (by simp only [eq_iff_iff, iff_false]; have := r5_4_l; omega)
          have n4_5 : (B4 = B5) = False := (by simp only [eq_iff_iff, iff_false]; have := r5_4_l; omega)
          clear hB5
          clear r5_0 r5_0_c r5_0_f r5_0_l r5_1 r5_1_c r5_1_f r5_1_l r5_4 r5_4_c r5_4_f r5_4_l b5
          obtain ⟨r6_0_c, r6_0_f, r6_0_l⟩ := r6_0.tell
          obtain ⟨r6_1_c, r6_1_f, r6_1_l⟩ := r6_1.tell
          obtain ⟨r6_4_c, r6_4_f, r6_4_l⟩ := r6_4.tell
          obtain ⟨r6_5_c, r6_5_f, r6_5_l⟩ := r6_5.tell
          have d6_0 : (B0 = w6.heap.size) = False := (by simp only [eq_iff_iff, iff_false]; omega)
          have e6_0 : (w6.heap.size = B0) = False := (by simp only [eq_iff_iff, iff_false]; omega)
          have m6_0 : B0 < w6.heap.size := (by omega)
          have d6_1 : (B0 = w6.heap.size + 1) = False := (by simp only [eq_iff_iff, iff_false]; omega)
          have e6_1 : (w6.heap.size + 1 = B0) = False := (by simp only [eq_iff_iff, iff_false]; omega)
          have m6_1 : B0 < w6.heap.size + 1 := (by omega)
          have d6_2 : (B1 = w6.heap.size) = False := (by simp only [eq_iff_iff, iff_false]; omega)
          have e6_2 : (w6.heap.size = B1) = False := (by simp only [eq_iff_iff, iff_false]; omega)
          have m6_2 : B1 < w6.heap.size := (by omega)
          have d6_3 : (B1 = w6.heap.size + 1) = False := (by simp only [eq_iff_iff, iff_false]; omega)
          have e6_3 : (w6.heap.size + 1 = B1) = False := (by simp only [eq_iff_iff, iff_false]; omega)
          have m6_3 : B1 < w6.heap.size + 1 := (by omega)
          have d6_4 : (B4 = w6.heap.size) = False := (by simp only [eq_iff_iff, iff_false]; omega)
          have e6_4 : (w6.heap.size = B4) = False := (by simp only [eq_iff_iff, iff_false]; omega)
          have m6_4 : B4 < w6.heap.size := (by omega)
          have d6_5 : (B4 = w6.heap.size + 1) = False := (by simp only [eq_iff_iff, iff_false]; omega)
          have e6_5 : (w6.heap.size + 1 = B4) = False := (by simp only [eq_iff_iff, iff_false]; omega)
          have m6_5 : B4 < w6.heap.size + 1 := (by omega)
          have d6_6 : (B5 = w6.heap.size) = False := (by simp only [eq_iff_iff, iff_false]; omega)
          have e6_6 : (w6.heap.size = B5) = False := (by simp only [eq_iff_iff, iff_false]; omega)
          have m6_6 : B5 < w6.heap.size := (by omega)
          have d6_7 : (B5 = w6.heap.size + 1) = False := (by simp only [eq_iff_iff, iff_false]; omega)
          have e6_7 : (w6.heap.size + 1 = B5) = False := (by simp only [eq_iff_iff, iff_false]; omega)
          have m6_7 : B5 < w6.heap.size + 1 := (by omega)
          clear hb6
          go_wp2_with fail
          refine (s4 _).mono ?_
          rintro e w7 ⟨rfl, hb7⟩
          have r7_0 : Box w7 B0 #[.int .u64 (L base 0), .int .u64 (L base 1), .int .u64 (L base 2), .int .u64 (L base 3)] 24 := ((r6_0).alloc _).call hb7
          have r7_1 : Box w7 B1 #[.int .u64 (L a 0), .int .u64 (L a 1), .int .u64 (L a 2), .int .u64 (L a 3)] 24 := ((r6_1).alloc _).call hb7
          have r7_5 : Box w7 B5 #[.int .u64 (L st 0), .int .u64 (L st 1), .int .u64 (L st 2), .int .u64 (L st 3)] 24 := ((r6_5).alloc _).call hb7
          have b7 : Bl w w7 := Bl.trans ((b6).alloc _) hb7
          have z7 : w6.heap.size + 1 ≤ w7.heap.size := (by have := hb7.size; (try simp only [World.alloc, World.setCell, World.drew, Array.size_push, Array.size_modify] at this); omega)
          have y7 : w.heap.size ≤ w7.heap.size := b7.size
          clear r6_0 r6_0_c r6_0_f r6_0_l r6_1 r6_1_c r6_1_f r6_1_l r6_4 r6_4_c r6_4_f r6_4_l r6_5 r6_5_c r6_5_f r6_5_l b6
          obtain ⟨r7_0_c, r7_0_f, r7_0_l⟩ := r7_0.tell
          obtain ⟨r7_1_c, r7_1_f, r7_1_l⟩ := r7_1.tell
          obtain ⟨r7_5_c, r7_5_f, r7_5_l⟩ := r7_5.tell
          clear hb7
          go_wp2_with fail
          refine bodyPost_ret (v := .bool true) (by simp only [results, Try.results4]; go_simp) rfl ⟨rfl, ?_⟩
          exact b7
        · skip
          rw [if_neg h4, if_neg h3] at ha he
          obtain ⟨D, hD⟩ : ∃ D, D = nbD base used tg := ⟨_, rfl⟩
          rw [← hD] at ha he
          have bo0 : (used == tg) = false := by simp; omega
          have bo1 : ((used : Int) == (tg : Int)) = false := by simp; omega
          have bo2 : decide (used < tg) = false := by simp; omega
          by_cases h5 : base + D < T256
          · skip
            rw [if_pos h5] at ha he
            subst he
            have hD1 : 1 ≤ D := by rw [hD]; unfold nbD; split <;> omega
            have s3 := fun w => sub_c a base haT hbase w
            rw [show (a + T256 - base) % T256 = D by rw [show a + T256 - base = D + T256 by omega, Nat.add_mod_right, Nat.mod_eq_of_lt (by omega)], if_neg (by omega : ¬ a < base)] at s3
            have hDT : D < T256 := by omega
            have hq := fun w => run_eq_U hDT T256_pos w
            rw [← U_zero, decide_eq_false (by omega)] at hq
            by_cases h6 : limit % 2 = 1
            · skip
              clear ha hg8 hst hD
              have bo0 : ((limit : Int) % 2 == 1) = true := by simp; omega
              have bo1 : (limit % 2 == 1) = true := by simp; omega
              go_wp2_with fail
              refine (s1 _).mono ?_
              rintro e w8 ⟨rfl, hb8⟩
              have r8_0 : Box w8 B0 #[.int .u64 (L base 0), .int .u64 (L base 1), .int .u64 (L base 2), .int .u64 (L base 3)] 24 := ((r1_0).alloc _).call hb8
              have r8_1 : Box w8 w1.heap.size #[.int .u64 (L a 0), .int .u64 (L a 1), .int .u64 (L a 2), .int .u64 (L a 3)] 24 := (Box.new _ _ _ _ (by simp)).call hb8
              have b8 : Bl w w8 := Bl.trans ((b1).alloc _) hb8
              have z8 : w1.heap.size + 1 ≤ w8.heap.size := (by have := hb8.size; (try simp only [World.alloc, World.setCell, World.drew, Array.size_push, Array.size_modify] at this); omega)
              have y8 : w.heap.size ≤ w8.heap.size := b8.size
              obtain ⟨B1, hB1⟩ : ∃ B, B = w1.heap.size := ⟨_, rfl⟩
              (try rw [← hB1]); rw [← hB1] at r8_1
              have lo1 : w.heap.size ≤ B1 := by omega
              have n1_0 : (B1 = B0) = False := (by simp only [eq_iff_iff, iff_false]; have := r1_0_l; omega)
              have n0_1 : (B0 = B1) = False := (by simp only [eq_iff_iff, iff_false]; have := r1_0_l; omega)
              clear hB1
              clear r1_0 r1_0_c r1_0_f r1_0_l b1
              obtain ⟨r8_0_c, r8_0_f, r8_0_l⟩ := r8_0.tell
              obtain ⟨r8_1_c, r8_1_f, r8_1_l⟩ := r8_1.tell
              have d8_0 : (B0 = w8.heap.size) = False := (by simp only [eq_iff_iff, iff_false]; omega)
              have e8_0 : (w8.heap.size = B0) = False := (by simp only [eq_iff_iff, iff_false]; omega)
              have m8_0 : B0 < w8.heap.size := (by omega)
              have d8_1 : (B0 = w8.heap.size + 1) = False := (by simp only [eq_iff_iff, iff_false]; omega)
              have e8_1 : (w8.heap.size + 1 = B0) = False := (by simp only [eq_iff_iff, iff_false]; omega)
              have m8_1 : B0 < w8.heap.size + 1 := (by omega)
              have d8_2 : (B1 = w8.heap.size) = False := (by simp only [eq_iff_iff, iff_false]; omega)
              have e8_2 : (w8.heap.size = B1) = False := (by simp only [eq_iff_iff, iff_false]; omega)
              have m8_2 : B1 < w8.heap.size := (by omega)
              have d8_3 : (B1 = w8.heap.size + 1) = False := (by simp only [eq_iff_iff, iff_false]; omega)
              have e8_3 : (w8.heap.size + 1 = B1) = False := (by simp only [eq_iff_iff, iff_false]; omega)
              have m8_3 : B1 < w8.heap.size + 1 := (by omega)
              clear hb8
              go_wp2_with fail
              refine (s2 _).mono ?_
              rintro e w9 ⟨rfl, hb9⟩
              have r9_0 : Box w9 B0 #[.int .u64 (L base 0), .int .u64 (L base 1), .int .u64 (L base 2), .int .u64 (L base 3)] 24 := ((r8_0).alloc _).call hb9
              have r9_1 : Box w9 B1 #[.int .u64 (L a 0), .int .u64 (L a 1), .int .u64 (L a 2), .int .u64 (L a 3)] 24 := ((r8_1).alloc _).call hb9
              have r9_7 : Box w9 w8.heap.size #[.int .u64 (L g8 0), .int .u64 (L g8 1), .int .u64 (L g8 2), .int .u64 (L g8 3)] 24 := (Box.new _ _ _ _ (by simp)).call hb9
              have b9 : Bl w w9 := Bl.trans ((b8).alloc _) hb9
              have z9 : w8.heap.size + 1 ≤ w9.heap.size := (by have := hb9.size; (try simp only [World.alloc, World.setCell, World.drew, Array.size_push, Array.size_modify] at this); omega)
              have y9 : w.heap.size ≤ w9.heap.size := b9.size
              obtain ⟨B7, hB7⟩ : ∃ B, B = w8.heap.size := ⟨_, rfl⟩
              (try rw [← hB7]); rw [← hB7] at r9_7
              have lo7 : w.heap.size ≤ B7 := by omega
              have n7_0 : (B7 = B0) = False := (by simp only [eq_iff_iff, iff_false]; have := r8_0_l; omega)
              have n0_7 : (B0 = B7) = False := (by simp only [eq_iff_iff, iff_false]; have := r8_0_l; omega)
              have n7_1 : (B7 = B1) = False := (by simp only [eq_iff_iff, iff_false]; have := r8_1_l; omega)
              have n1_7 : (B1 = B7) = False := (by simp only [eq_iff_iff, iff_false]; have := r8_1_l; omega)
              clear hB7
              clear r8_0 r8_0_c r8_0_f r8_0_l r8_1 r8_1_c r8_1_f r8_1_l b8
              obtain ⟨r9_0_c, r9_0_f, r9_0_l⟩ := r9_0.tell
              obtain ⟨r9_1_c, r9_1_f, r9_1_l⟩ := r9_1.tell
              obtain ⟨r9_7_c, r9_7_f, r9_7_l⟩ := r9_7.tell
              have d9_0 : (B0 = w9.heap.size) = False := (by simp only [eq_iff_iff, iff_false]; omega)
              have e9_0 : (w9.heap.size = B0) = False := (by simp only [eq_iff_iff, iff_false]; omega)
              have m9_0 : B0 < w9.heap.size := (by omega)
              have d9_1 : (B0 = w9.heap.size + 1) = False := (by simp only [eq_iff_iff, iff_false]; omega)
              have e9_1 : (w9.heap.size + 1 = B0) = False := (by simp only [eq_iff_iff, iff_false]; omega)
              have m9_1 : B0 < w9.heap.size + 1 := (by omega)
              have d9_2 : (B1 = w9.heap.size) = False := (by simp only [eq_iff_iff, iff_false]; omega)
              have e9_2 : (w9.heap.size = B1) = False := (by simp only [eq_iff_iff, iff_false]; omega)
              have m9_2 : B1 < w9.heap.size := (by omega)
              have d9_3 : (B1 = w9.heap.size + 1) = False := (by simp only [eq_iff_iff, iff_false]; omega)
              have e9_3 : (w9.heap.size + 1 = B1) = False := (by simp only [eq_iff_iff, iff_false]; omega)
              have m9_3 : B1 < w9.heap.size + 1 := (by omega)
              have d9_4 : (B7 = w9.heap.size) = False := (by simp only [eq_iff_iff, iff_false]; omega)
              have e9_4 : (w9.heap.size = B7) = False := (by simp only [eq_iff_iff, iff_false]; omega)
              have m9_4 : B7 < w9.heap.size := (by omega)
              have d9_5 : (B7 = w9.heap.size + 1) = False := (by simp only [eq_iff_iff, iff_false]; omega)
              have e9_5 : (w9.heap.size + 1 = B7) = False := (by simp only [eq_iff_iff, iff_false]; omega)
              have m9_5 : B7 < w9.heap.size + 1 := (by omega)
              clear hb9
              go_wp2_with fail
              refine (s3 _).mono ?_
              rintro e w10 ⟨rfl, hb10⟩
              have r10_8 : Box w10 w9.heap.size #[.int .u64 (L st 0), .int .u64 (L st 1), .int .u64 (L st 2), .int .u64 (L st 3)] 24 := (Box.new _ _ _ _ (by simp)).call hb10
              have b10 : Bl w w10 := Bl.trans ((b9).alloc _) hb10
              have z10 : w9.heap.size + 1 ≤ w10.heap.size := (by have := hb10.size; (try simp only [World.alloc, World.setCell, World.drew, Array.size_push, Array.size_modify] at this); omega)
              have y10 : w.heap.size ≤ w10.heap.size := b10.size
              obtain ⟨B8, hB8⟩ : ∃ B, B = w9.heap.size := ⟨_, rfl⟩
              (try rw [← hB8]); rw [← hB8] at r10_8
              have lo8 : w.heap.size ≤ B8 := by omega
              clear hB8
              clear r9_0 r9_0_c r9_0_f r9_0_l r9_1 r9_1_c r9_1_f r9_1_l r9_7 r9_7_c r9_7_f r9_7_l b9
              obtain ⟨r10_8_c, r10_8_f, r10_8_l⟩ := r10_8.tell
              have d10_0 : (B8 = w10.heap.size) = False := (by simp only [eq_iff_iff, iff_false]; omega)
              have e10_0 : (w10.heap.size = B8) = False := (by simp only [eq_iff_iff, iff_false]; omega)
              have m10_0 : B8 < w10.heap.size := (by omega)
              have d10_1 : (B8 = w10.heap.size + 1) = False := (by simp only [eq_iff_iff, iff_false]; omega)
              have e10_1 : (w10.heap.size + 1 = B8) = False := (by simp only [eq_iff_iff, iff_false]; omega)
              have m10_1 : B8 < w10.heap.size + 1 := (by omega)
              clear hb10
              go_wp2_with fail
              refine bodyPost_ret (v := .bool true) (by simp only [results, Try.results4]; go_simp) rfl ⟨rfl, ?_⟩
              exact (b10).alloc _
            · skip
              have hDs : D ≤ st := by
                have h8 : stepN base (used - tg) tg ≤ g8 := by rw [hg8]; exact stepN_eighth hbase (by omega) (by omega)
                rw [hD]; unfold nbD; split <;> omega
              have s4 := fun w => cmp_c D st hDT hg8T w
              obtain ⟨c, hc⟩ : ∃ c, c = cmpI D st := ⟨_, rfl⟩
              rw [← hc] at s4
              have bz : decide (c ≤ 0) = true := by rw [hc]; exact cmpI_le hDs
              clear ha hg8 hst hD hc
              have bo0 : ((limit : Int) % 2 == 1) = false := by simp; omega
              have bo1 : (limit % 2 == 1) = false := by simp; omega
              go_wp2_with fail
              refine (s1 _).mono ?_
              rintro e w11 ⟨rfl, hb11⟩
              have r11_0 : Box w11 B0 #[.int .u64 (L base 0), .int .u64 (L base 1), .int .u64 (L base 2), .int .u64 (L base 3)] 24 := ((r1_0).alloc _).call hb11
              have r11_1 : Box w11 w1.heap.size #[.int .u64 (L a 0), .int .u64 (L a 1), .int .u64 (L a 2), .int .u64 (L a 3)] 24 := (Box.new _ _ _ _ (by simp)).call hb11
              have b11 : Bl w w11 := Bl.trans ((b1).alloc _) hb11
              have z11 : w1.heap.size + 1 ≤ w11.heap.size := (by have := hb11.size; (try simp only [World.alloc, World.setCell, World.drew, Array.size_push, Array.size_modify] at this); omega)
              have y11 : w.heap.size ≤ w11.heap.size := b11.size
              obtain ⟨B1, hB1⟩ : ∃ B, B = w1.heap.size := ⟨_, rfl⟩
              (try rw [← hB1]); rw [← hB1] at r11_1
              have lo1 : w.heap.size ≤ B1 := by omega
              have n1_0 : (B1 = B0) = False := (by simp only [eq_iff_iff, iff_false]; have := r1_0_l; omega)
              have n0_1 : (B0 = B1) = False := (by simp only [eq_iff_iff, iff_false]; have := r1_0_l; omega)
              clear hB1
              clear r1_0 r1_0_c r1_0_f r1_0_l b1
              obtain ⟨r11_0_c, r11_0_f, r11_0_l⟩ := r11_0.tell
              obtain ⟨r11_1_c, r11_1_f, r11_1_l⟩ := r11_1.tell
              have d11_0 : (B0 = w11.heap.size) = False := (by simp only [eq_iff_iff, iff_false]; omega)
              have e11_0 : (w11.heap.size = B0) = False := (by simp only [eq_iff_iff, iff_false]; omega)
              have m11_0 : B0 < w11.heap.size := (by omega)
              have d11_1 : (B0 = w11.heap.size + 1) = False := (by simp only [eq_iff_iff, iff_false]; omega)
              have e11_1 : (w11.heap.size + 1 = B0) = False := (by simp only [eq_iff_iff, iff_false]; omega)
              have m11_1 : B0 < w11.heap.size + 1 := (by omega)
              have d11_2 : (B1 = w11.heap.size) = False := (by simp only [eq_iff_iff, iff_false]; omega)
              have e11_2 : (w11.heap.size = B1) = False := (by simp only [eq_iff_iff, iff_false]; omega)
              have m11_2 : B1 < w11.heap.size := (by omega)
              have d11_3 : (B1 = w11.heap.size + 1) = False := (by simp only [eq_iff_iff, iff_false]; omega)
              have e11_3 : (w11.heap.size + 1 = B1) = False := (by simp only [eq_iff_iff, iff_false]; omega)
              have m11_3 : B1 < w11.heap.size + 1 := (by omega)
              clear hb11
              go_wp2_with fail
              refine (s2 _).mono ?_
              rintro e w12 ⟨rfl, hb12⟩
              have r12_0 : Box w12 B0 #[.int .u64 (L base 0), .int .u64 (L base 1), .int .u64 (L base 2), .int .u64 (L base 3)] 24 := ((r11_0).alloc _).call hb12
              have r12_1 : Box w12 B1 #[.int .u64 (L a 0), .int .u64 (L a 1), .int .u64 (L a 2), .int .u64 (L a 3)] 24 := ((r11_1).alloc _).call hb12
              have r12_10 : Box w12 w11.heap.size #[.int .u64 (L g8 0), .int .u64 (L g8 1), .int .u64 (L g8 2), .int .u64 (L g8 3)] 24 := (Box.new _ _ _ _ (by simp)).call hb12
              have b12 : Bl w w12 := Bl.trans ((b11).alloc _) hb12
              have z12 : w11.heap.size + 1 ≤ w12.heap.size := (by have := hb12.size; (try simp only [World.alloc, World.setCell, World.drew, Array.size_push, Array.size_modify] at this); omega)
              have y12 : w.heap.size ≤ w12.heap.size := b12.size
              obtain ⟨B10, hB10⟩ : ∃ B, B = w11.heap.size := ⟨_, rfl⟩
              (try rw [← hB10]); rw [← hB10] at r12_10
              have lo10 : w.heap.size ≤ B10 := by omega
              have n10_0 : (B10 = B0) = False := (by simp only [eq_iff_iff, iff_false]; have := r11_0_l; omega)
              have n0_10 : (B0 = B10) = False := (by simp only [eq_iff_iff, iff_false]; have := r11_0_l; omega)
              have n10_1 : (B10 = B1) = False := (by simp only [eq_iff_iff, iff_false]; have := r11_1_l; omega)
              have n1_10 : (B1 = B10) = False := (by simp only [eq_iff_iff, iff_false]; have := r11_1_l; omega)
              clear hB10
              clear r11_0 r11_0_c r11_0_f r11_0_l r11_1 r11_1_c r11_1_f r11_1_l b11
              obtain ⟨r12_0_c, r12_0_f, r12_0_l⟩ := r12_0.tell
              obtain ⟨r12_1_c, r12_1_f, r12_1_l⟩ := r12_1.tell
              obtain ⟨r12_10_c, r12_10_f, r12_10_l⟩ := r12_10.tell
              have d12_0 : (B0 = w12.heap.size) = False := (by simp only [eq_iff_iff, iff_false]; omega)
              have e12_0 : (w12.heap.size = B0) = False := (by simp only [eq_iff_iff, iff_false]; omega)
              have m12_0 : B0 < w12.heap.size := (by omega)
              have d12_1 : (B0 = w12.heap.size + 1) = False := (by simp only [eq_iff_iff, iff_false]; omega)
              have e12_1 : (w12.heap.size + 1 = B0) = False := (by simp only [eq_iff_iff, iff_false]; omega)
              have m12_1 : B0 < w12.heap.size + 1 := (by omega)
              have d12_2 : (B1 = w12.heap.size) = False := (by simp only [eq_iff_iff, iff_false]; omega)
              have e12_2 : (w12.heap.size = B1) = False := (by simp only [eq_iff_iff, iff_false]; omega)
              have m12_2 : B1 < w12.heap.size := (by omega)
              have d12_3 : (B1 = w12.heap.size + 1) = False := (by simp only [eq_iff_iff, iff_false]; omega)
              have e12_3 : (w12.heap.size + 1 = B1) = False := (by simp only [eq_iff_iff, iff_false]; omega)
              have m12_3 : B1 < w12.heap.size + 1 := (by omega)
              have d12_4 : (B10 = w12.heap.size) = False := (by simp only [eq_iff_iff, iff_false]; omega)
              have e12_4 : (w12.heap.size = B10) = False := (by simp only [eq_iff_iff, iff_false]; omega)
              have m12_4 : B10 < w12.heap.size := (by omega)
              have d12_5 : (B10 = w12.heap.size + 1) = False := (by simp only [eq_iff_iff, iff_false]; omega)
              have e12_5 : (w12.heap.size + 1 = B10) = False := (by simp only [eq_iff_iff, iff_false]; omega)
              have m12_5 : B10 < w12.heap.size + 1 := (by omega)
              clear hb12
              go_wp2_with fail
              refine (s3 _).mono ?_
              rintro e w13 ⟨rfl, hb13⟩
              have r13_11 : Box w13 w12.heap.size #[.int .u64 (L st 0), .int .u64 (L st 1), .int .u64 (L st 2), .int .u64 (L st 3)] 24 := (Box.new _ _ _ _ (by simp)).call hb13
              have b13 : Bl w w13 := Bl.trans ((b12).alloc _) hb13
              have z13 : w12.heap.size + 1 ≤ w13.heap.size := (by have := hb13.size; (try simp only [World.alloc, World.setCell, World.drew, Array.size_push, Array.size_modify] at this); omega)
              have y13 : w.heap.size ≤ w13.heap.size := b13.size
              obtain ⟨B11, hB11⟩ : ∃ B, B = w12.heap.size := ⟨_, rfl⟩
              (try rw [← hB11]); rw [← hB11] at r13_11
              have lo11 : w.heap.size ≤ B11 := by omega
              clear hB11
              clear r12_0 r12_0_c r12_0_f r12_0_l r12_1 r12_1_c r12_1_f r12_1_l r12_10 r12_10_c r12_10_f r12_10_l b12
              obtain ⟨r13_11_c, r13_11_f, r13_11_l⟩ := r13_11.tell
              have d13_0 : (B11 = w13.heap.size) = False := (by simp only [eq_iff_iff, iff_false]; omega)
              have e13_0 : (w13.heap.size = B11) = False := (by simp only [eq_iff_iff, iff_false]; omega)
              have m13_0 : B11 < w13.heap.size := (by omega)
              have d13_1 : (B11 = w13.heap.size + 1) = False := (by simp only [eq_iff_iff, iff_false]; omega)
              have e13_1 : (w13.heap.size + 1 = B11) = False := (by simp only [eq_iff_iff, iff_false]; omega)
              have m13_1 : B11 < w13.heap.size + 1 := (by omega)
              clear hb13
              go_wp2_with fail
              refine (s4 _).mono ?_
              rintro e w14 ⟨rfl, hb14⟩
              have b14 : Bl w w14 := Bl.trans ((b13).alloc _) hb14
              have z14 : w13.heap.size + 1 ≤ w14.heap.size := (by have := hb14.size; (try simp only [World.alloc, World.setCell, World.drew, Array.size_push, Array.size_modify] at this); omega)
              have y14 : w.heap.size ≤ w14.heap.size := b14.size
              clear r13_11 r13_11_c r13_11_f r13_11_l b13
              clear hb14
              go_wp2_with fail
              refine bodyPost_ret (v := .bool true) (by simp only [results, Try.results4]; go_simp) rfl ⟨rfl, ?_⟩
              exact b14
          · skip
            rw [if_neg h5] at he
            subst he
            clear ha hg8 hst hD
            go_wp2_with fail
            refine (s1 _).mono ?_
            rintro e w15 ⟨rfl, hb15⟩
            have r15_0 : Box w15 B0 #[.int .u64 (L base 0), .int .u64 (L base 1), .int .u64 (L base 2), .int .u64 (L base 3)] 24 := ((r1_0).alloc _).call hb15
            have r15_1 : Box w15 w1.heap.size #[.int .u64 (L a 0), .int .u64 (L a 1), .int .u64 (L a 2), .int .u64 (L a 3)] 24 := (Box.new _ _ _ _ (by simp)).call hb15
            have b15 : Bl w w15 := Bl.trans ((b1).alloc _) hb15
            have z15 : w1.heap.size + 1 ≤ w15.heap.size := (by have := hb15.size; (try simp only [World.alloc, World.setCell, World.drew, Array.size_push, Array.size_modify] at this); omega)
            have y15 : w.heap.size ≤ w15.heap.size := b15.size
            obtain ⟨B1, hB1⟩ : ∃ B, B = w1.heap.size := ⟨_, rfl⟩
            (try rw [← hB1]); rw [← hB1] at r15_1
            have lo1 : w.heap.size ≤ B1 := by omega
            have n1_0 : (B1 = B0) = False := (by simp only [eq_iff_iff, iff_false]; have := r1_0_l; omega)
            have n0_1 : (B0 = B1) = False := (by simp only [eq_iff_iff, iff_false]; have := r1_0_l; omega)
            clear hB1
            clear r1_0 r1_0_c r1_0_f r1_0_l b1
            obtain ⟨r15_0_c, r15_0_f, r15_0_l⟩ := r15_0.tell
            obtain ⟨r15_1_c, r15_1_f, r15_1_l⟩ := r15_1.tell
            have d15_0 : (B0 = w15.heap.size) = False := (by simp only [eq_iff_iff, iff_false]; omega)
            have e15_0 : (w15.heap.size = B0) = False := (by simp only [eq_iff_iff, iff_false]; omega)
            have m15_0 : B0 < w15.heap.size := (by omega)
            have d15_1 : (B0 = w15.heap.size + 1) = False := (by simp only [eq_iff_iff, iff_false]; omega)
            have e15_1 : (w15.heap.size + 1 = B0) = False := (by simp only [eq_iff_iff, iff_false]; omega)
            have m15_1 : B0 < w15.heap.size + 1 := (by omega)
            have d15_2 : (B1 = w15.heap.size) = False := (by simp only [eq_iff_iff, iff_false]; omega)
            have e15_2 : (w15.heap.size = B1) = False := (by simp only [eq_iff_iff, iff_false]; omega)
            have m15_2 : B1 < w15.heap.size := (by omega)
            have d15_3 : (B1 = w15.heap.size + 1) = False := (by simp only [eq_iff_iff, iff_false]; omega)
            have e15_3 : (w15.heap.size + 1 = B1) = False := (by simp only [eq_iff_iff, iff_false]; omega)
            have m15_3 : B1 < w15.heap.size + 1 := (by omega)
            clear hb15
            go_wp2_with fail
            refine (s2 _).mono ?_
            rintro e w16 ⟨rfl, hb16⟩
            have r16_0 : Box w16 B0 #[.int .u64 (L base 0), .int .u64 (L base 1), .int .u64 (L base 2), .int .u64 (L base 3)] 24 := ((r15_0).alloc _).call hb16
            have r16_1 : Box w16 B1 #[.int .u64 (L a 0), .int .u64 (L a 1), .int .u64 (L a 2), .int .u64 (L a 3)] 24 := ((r15_1).alloc _).call hb16
            have r16_13 : Box w16 w15.heap.size #[.int .u64 (L g8 0), .int .u64 (L g8 1), .int .u64 (L g8 2), .int .u64 (L g8 3)] 24 := (Box.new _ _ _ _ (by simp)).call hb16
            have b16 : Bl w w16 := Bl.trans ((b15).alloc _) hb16
            have z16 : w15.heap.size + 1 ≤ w16.heap.size := (by have := hb16.size; (try simp only [World.alloc, World.setCell, World.drew, Array.size_push, Array.size_modify] at this); omega)
            have y16 : w.heap.size ≤ w16.heap.size := b16.size
            obtain ⟨B13, hB13⟩ : ∃ B, B = w15.heap.size := ⟨_, rfl⟩
            (try rw [← hB13]); rw [← hB13] at r16_13
            have lo13 : w.heap.size ≤ B13 := by omega
            have n13_0 : (B13 = B0) = False := (by simp only [eq_iff_iff, iff_false]; have := r15_0_l; omega)
            have n0_13 : (B0 = B13) = False := (by simp only [eq_iff_iff, iff_false]; have := r15_0_l; omega)
            have n13_1 : (B13 = B1) = False := (by simp only [eq_iff_iff, iff_false]; have := r15_1_l; omega)
            have n1_13 : (B1 = B13) = False := (by simp only [eq_iff_iff, iff_false]; have := r15_1_l; omega)
            clear hB13
            clear r15_0 r15_0_c r15_0_f r15_0_l r15_1 r15_1_c r15_1_f r15_1_l b15
            obtain ⟨r16_0_c, r16_0_f, r16_0_l⟩ := r16_0.tell
            obtain ⟨r16_1_c, r16_1_f, r16_1_l⟩ := r16_1.tell
            obtain ⟨r16_13_c, r16_13_f, r16_13_l⟩ := r16_13.tell
            have d16_0 : (B0 = w16.heap.size) = False := (by simp only [eq_iff_iff, iff_false]; omega)
            have e16_0 : (w16.heap.size = B0) = False := (by simp only [eq_iff_iff, iff_false]; omega)
            have m16_0 : B0 < w16.heap.size := (by omega)
            have d16_1 : (B0 = w16.heap.size + 1) = False := (by simp only [eq_iff_iff, iff_false]; omega)
            have e16_1 : (w16.heap.size + 1 = B0) = False := (by simp only [eq_iff_iff, iff_false]; omega)
            have m16_1 : B0 < w16.heap.size + 1 := (by omega)
            have d16_2 : (B1 = w16.heap.size) = False := (by simp only [eq_iff_iff, iff_false]; omega)
            have e16_2 : (w16.heap.size = B1) = False := (by simp only [eq_iff_iff, iff_false]; omega)
            have m16_2 : B1 < w16.heap.size := (by omega)
            have d16_3 : (B1 = w16.heap.size + 1) = False := (by simp only [eq_iff_iff, iff_false]; omega)
            have e16_3 : (w16.heap.size + 1 = B1) = False := (by simp only [eq_iff_iff, iff_false]; omega)
            have m16_3 : B1 < w16.heap.size + 1 := (by omega)
            have d16_4 : (B13 = w16.heap.size) = False := (by simp only [eq_iff_iff, iff_false]; omega)
            have e16_4 : (w16.heap.size = B13) = False := (by simp only [eq_iff_iff, iff_false]; omega)
            have m16_4 : B13 < w16.heap.size := (by omega)
            have d16_5 : (B13 = w16.heap.size + 1) = False := (by simp only [eq_iff_iff, iff_false]; omega)
            have e16_5 : (w16.heap.size + 1 = B13) = False := (by simp only [eq_iff_iff, iff_false]; omega)
            have m16_5 : B13 < w16.heap.size + 1 := (by omega)
            clear hb16
            go_wp2_with fail
            refine bodyPost_ret (v := .bool true) (by simp only [results, Try.results4]; go_simp) rfl ⟨rfl, ?_⟩
            exact (b16).alloc _

theorem walkFeesSteady (base : Nat) (limit : Int) (used : Int) (hbase : base < T256) (hlimit : (Lit.int .u64 limit).wf = true) (hused : (Lit.int .u64 used).wf = true) (w : World) :
    Calls Try.prog 4 #[U base, .int .u64 limit, .int .u64 used] w fun e w' => e = .returned (.bool true) ∧ Bl w w' := by
  obtain ⟨zlimit, ylimit⟩ := wf64 hlimit
  obtain ⟨limit, rfl⟩ := Int.eq_ofNat_of_zero_le zlimit
  obtain ⟨zused, yused⟩ := wf64 hused
  obtain ⟨used, rfl⟩ := Int.eq_ofNat_of_zero_le zused
  exact walk0FeesSteady base hbase limit (by omega) used (by omega) w

set_option maxHeartbeats 1000000 in
set_option maxRecDepth 100000 in
theorem liftedFeesSteady (os : Os) (started : os.Started) (H : Type) (enc : TypeId × Value → H) :
    ReturnsInHanded {} Try.checked os 4 .any (Rows.feesSteadySpec.pre6 enc Try.prog Try.f4 Rows.feesSteadyRow.domain false) (Rows.feesSteadySpec.post enc Try.prog Try.f4 false true false false) := by
  refine returnsInHanded_of_change (C := Try.checked) own started (by kernel_rfl) Try.func4
    (ChangeSpec.witness6 (enc := enc) (C := Try.checked) false ⟨#[], #[.agg #[.int .u64 0, .int .u64 0, .int .u64 0, .int .u64 0], .int .u64 0, .int .u64 0], []⟩ 8 (by kernel_rfl) (by kernel_rfl) (by kernel_rfl) (by kernel_rfl)) ?_
  intro W base args ds gs before hval0 hW hcnd _
  have hval : ∀ (j : Nat) t v, Try.f4.params[j]? = some t → args[j]? = some v → Value.okWide Try.prog W .any base t v := hval0
  have hW' := hW
  obtain ⟨p, q, hA0, hV, rfl, hfz, hnd⟩ := hW
  have hA : DataW.TrodAll enc Try.prog W 0 (fun _ => true) true Try.f4.params.toList args.toList ds p := hA0
  rw [Try.params4] at hA hval
  obtain ⟨v0, vs0, d0, ds0, p0, q0, hargs, rfl, rfl, h0, r0⟩ := trodAll_cons hA
  obtain ⟨v1, vs1, d1, ds1, p1, q1, rfl, rfl, rfl, h1, r1⟩ := trodAll_cons r0
  obtain ⟨v2, vs2, d2, ds2, p2, q2, rfl, rfl, rfl, h2, r2⟩ := trodAll_cons r1
  obtain ⟨rfl, rfl, rfl⟩ := trodAll_nil r2
  obtain rfl : args = #[v0, v1, v2] := by cases args; simp_all
  obtain ⟨rfl, rfl⟩ := trodVars_none hV
  have lt0 : ∀ x ∈ p0, x.block < W.heap.size := by obtain ⟨m, hm⟩ := h0; exact DataW.trod_lt m _ _ _ hm
  obtain ⟨a0, g0, rfl⟩ := open_U (hval 0 24 v0 rfl rfl) h0
  obtain ⟨a1, rfl, rfl, rfl, g1⟩ := open_int Try.underlying22 (hval 1 22 v1 rfl rfl) h1
  obtain ⟨a2, rfl, rfl, rfl, g2⟩ := open_int Try.underlying22 (hval 2 22 v2 rfl rfl) h2
  clear hA0 hval0
  refine (walkFeesSteady a0 a1 a2 g0 g1 g2 W).mono fun e W' ⟨he, bel⟩ => ?_
  subst he
  exact ⟨_, rfl, _, _, _, [], _, [], hW', trodAll_mk1 (shut_bool Try.underlying4 _), (trodAll_cons_mk (Below.trod laidOut (by kernel_rfl) (of_decide_eq_true (by kernel_rfl)) h0 bel.out lt0) (trodAll_cons_mk (shut_int Try.underlying22 g1) (trodAll_cons_mk (shut_int Try.underlying22 g2) trodAll_mk0))), rfl, bel.out.frame _, fun h => by cases h⟩

theorem provedFeesSteady : Rows.FeesSteadySaid :=
  OpenClaim.holds_of_wide 4 Try.f4 rfl rfl rfl rfl rfl rfl rfl ⟨rfl, rfl, rfl, rfl, rfl⟩ rfl rfl rfl rfl rfl (by kernel_rfl) Try.func4 (by kernel_rfl)
    (of_decide_eq_true (by kernel_rfl)) (by unfold Func.isWrapper; first | (rw [if_pos (by decide +kernel)]; kernel_rfl) | (rw [if_neg (by decide +kernel)]; exact ⟨rfl, rfl⟩))
    (fun os started H enc _ => liftedFeesSteady os started H enc)
end Go.Proofs.Ytcmjdmehooenkaa

