/- The document's Shl and Shr, bit by bit; u256.Shl and Shr by every count. -/
import Derived.Test.YthgnmpjcbicdhaaBit
import Derived.Test.YthgnmpjcbicdhaaShl
import Derived.Test.YthgnmpjcbicdhaaShr
import Derived.Test.YthgnmpjcbicdhaaTwice
import Derived.Test.YthgnmpjcbicdhaaNumA
set_option linter.unusedSimpArgs false
set_option linter.unusedVariables false
namespace Go.Proofs.Ythgnmpjcbicdhaa
open Go Go.RowKit

structure SMem (w wr : World) (a y : Nat) : Prop where
  x : Box wr w.heap.size (UC a) 24
  z : Box wr (w.heap.size + 1) (UC 0) 24
  y : Box wr (w.heap.size + 1 + 1) (UC y) 24
  bl : Bl w wr
theorem SMem.call {w wr w' : World} {a y : Nat} (d : SMem w wr a y) (h : Bl wr w') : SMem w w' a y := ⟨d.x.call h, d.z.call h, d.y.call h, d.bl.trans h⟩
theorem SMem.put {w wr : World} {a y : Nat} (d : SMem w wr a y) (v : Nat) : SMem w (put4 wr (w.heap.size + 1 + 1) v) a v :=
  ⟨d.x.put4_far _ _ (by omega), d.z.put4_far _ _ (by omega), d.y.put4 v, d.bl.put4 (by omega) v⟩

set_option maxHeartbeats 2000000 in
set_option maxRecDepth 100000 in
theorem rshl_in (a : Nat) (ha : a < T256) (n : Int) (h0 : -255 ≤ n) (h1 : n ≤ 255) (w : World) :
    Calls Try.prog 33 #[U a, .int .i64 n] w fun e w' => e = .returned (U (shlZ a n)) ∧ Bl w w' := by
  have hK := shlK_full a n ha h0 h1 256 rfl
  rw [← hK]
  clear hK
  have d0 : decide (n < -255) = false := by simp; omega
  have d1 : decide (255 < n) = false := by simp; omega
  go_enter Try.func33, Try.ntmps33
  go_wp2_with fail
  go_loopw [6] (fun t wr => ∃ k : Nat, k ≤ 256 ∧ t = .int .i64 k ∧ SMem w wr a (shlK a n k)) (fun t _ => (256 - intOf t).toNat)
  case atStart =>
    refine ⟨0, by omega, rfl, ?_, ?_, ?_, ?_⟩
    · exact ((Box.new _ _ _ _ (by simp)).alloc _).alloc _
    · exact (Box.new _ _ _ _ (by simp)).alloc _
    · show Box _ _ (UC 0) _; exact Box.new _ _ _ _ (by simp)
    · repeat (first | apply Bl.alloc | exact Bl.refl _)
  case round =>
    obtain ⟨k, hk, rfl, mem⟩ := hrel
    by_cases hk0 : k = 256
    · subst hk0
      obtain ⟨z1, z2, z3⟩ := mem.z.tell
      obtain ⟨y1, y2, y3⟩ := mem.y.tell
      unfold UC at z1 y1
      go_wp2_with fail
      refine bodyPost_ret (v := U (shlK a n 256)) (by simp [results, Try.results33, go_sem, z1]) rfl ⟨rfl, ?_⟩
      iterate 4 refine Bl.setCell ?_ (by simp only []; omega) _
      exact mem.bl
    · have hlt : k < 256 := by omega
      have hb := fun w => rbit_c a ((k : Int) - n) w
      obtain ⟨Y, hY⟩ : ∃ Y, Y = shlK a n k := ⟨_, rfl⟩
      rw [← hY] at mem
      have HY := Lib.hid hY; clear hY
      obtain ⟨x1, x2, x3⟩ := mem.x.tell
      obtain ⟨y1, y2, y3⟩ := mem.y.tell
      unfold UC at x1 y1
      rcases bitI_01 a ((k : Int) - n) with hbit | hbit
      · rw [hbit] at hb
        have hs : shlK a n (k + 1) = shlK a n k := by show (if _ then _ else _) = _; rw [if_neg (by omega)]
        have HS := Lib.hid hs; have HB := Lib.hid hbit; have HK := Lib.hid hk0
        clear hs hbit hk0
        go_wp2_with fail
        refine (hb _).mono ?_
        rintro e w1 ⟨rfl, hb1⟩
        go_wp2_with fail
        go_roundw
        case rel => exact ⟨k + 1, by omega, by go_num, by rw [HS.out, ← HY.out]; exact mem.call hb1⟩
        case measure => simp [intOf]; omega
      · rw [hbit] at hb
        have hs : shlK a n (k + 1) = shlK a n k ||| 2 ^ k := by show (if _ then _ else _) = _; rw [if_pos hbit]
        have HS := Lib.hid hs; have HB := Lib.hid hbit; have HK := Lib.hid hk0
        clear hs hbit hk0
        have hw := fun w => with_c Y k (by omega) (by omega) w
        simp only [Int.toNat_natCast] at hw
        go_wp2_with fail
        refine (hb _).mono ?_
        rintro e w1 ⟨rfl, hb1⟩
        have mem1 := mem.call hb1
        clear x1 x2 x3 y1 y2 y3
        obtain ⟨x1, x2, x3⟩ := mem1.x.tell
        obtain ⟨y1, y2, y3⟩ := mem1.y.tell
        unfold UC at x1 y1
        go_wp2_with fail
        refine (hw _).mono ?_
        rintro e w2 ⟨rfl, hb2⟩
        have mem2 := mem1.call hb2
        clear x1 x2 x3 y1 y2 y3
        obtain ⟨y1, y2, y3⟩ := mem2.y.tell
        unfold UC at y1
        go_wp2_with fail
        go_roundw
        case rel => exact ⟨k + 1, by omega, by go_num, by rw [HS.out, ← HY.out]; exact mem2.put _⟩
        case measure => simp [intOf]; omega

theorem rshl_out (a : Nat) (n : Int) (h : n < -255 ∨ 255 < n) (w : World) :
    Calls Try.prog 33 #[U a, .int .i64 n] w fun e w' => e = .returned (U 0) ∧ Bl w w' := by
  rw [← U_zero]
  have e : (decide (n < -255) = true) ∨ (decide (n < -255) = false ∧ decide (255 < n) = true) := by
    by_cases h2 : n < -255
    · left; simpa using h2
    · right; simp; omega
  rcases e with e | ⟨e, e2⟩
  all_goals
    go_enter Try.func33, Try.ntmps33
    go_wp2_with fail
    refine bodyPost_ret (v := .agg #[.int .u64 0, .int .u64 0, .int .u64 0, .int .u64 0]) (by simp [results, Try.results33, go_sem]) rfl ⟨rfl, ?_⟩
    repeat (first | exact Bl.refl _ | apply Bl.drew | apply Bl.alloc)
theorem shlZ_out (a : Nat) (n : Int) (h : n < -255 ∨ 255 < n) : shlZ a n = 0 := if_pos h
theorem rshl_c (a : Nat) (ha : a < T256) (n : Int) (w : World) :
    Calls Try.prog 33 #[U a, .int .i64 n] w fun e w' => e = .returned (U (shlZ a n)) ∧ Bl w w' := by
  by_cases h : n < -255 ∨ 255 < n
  · rw [shlZ_out a n h]; exact rshl_out a n h w
  · exact rshl_in a ha n (by omega) (by omega) w

theorem rshr_c (a : Nat) (ha : a < T256) (n : Int) (w : World) :
    Calls Try.prog 35 #[U a, .int .i64 n] w fun e w' => e = .returned (U (shlZ a (-n))) ∧ Bl w w' := by
  by_cases h : n < -255 ∨ 255 < n
  · rw [shlZ_out a (-n) (by omega), ← U_zero]
    have e : (decide (n < -255) = true) ∨ (decide (n < -255) = false ∧ decide (255 < n) = true) := by
      by_cases h2 : n < -255
      · left; simpa using h2
      · right; simp; omega
    rcases e with e | ⟨e, e2⟩
    all_goals
      go_enter Try.func35, Try.ntmps35
      go_wp2_with fail
      refine bodyPost_ret (v := .agg #[.int .u64 0, .int .u64 0, .int .u64 0, .int .u64 0]) (by simp [results, Try.results35, go_sem]) rfl ⟨rfl, ?_⟩
      repeat (first | exact Bl.refl _ | apply Bl.drew | apply Bl.alloc)
  · have d0 : decide (n < -255) = false := by simp; omega
    have d1 : decide (255 < n) = false := by simp; omega
    have hs := fun w => rshl_c a ha (-n) w
    generalize shlZ a (-n) = y at *
    go_enter Try.func35, Try.ntmps35
    go_wp2_with fail
    refine (hs _).mono ?_
    rintro e w1 ⟨rfl, hb1⟩
    have hz : Box w1 (w.heap.size + 1) #[.int .u64 0, .int .u64 0, .int .u64 0, .int .u64 0] 24 := (Box.new _ _ _ _ (by simp)).call hb1
    obtain ⟨z1, z2, z3⟩ := hz.tell
    have b1 : Bl w w1 := Bl.trans (((Bl.refl w).alloc _).alloc _) hb1
    go_wp2_with fail
    refine bodyPost_ret (v := U y) (by simp only [results, Try.results35]; go_simp) rfl ⟨rfl, ?_⟩
    iterate 4 refine Bl.setCell ?_ (by simp only []; omega) _
    exact b1

theorem shl_out (a : Nat) (n : Int) (h : n < -255 ∨ 255 < n) (w : World) :
    Calls Try.prog 32 #[U a, .int .i64 n] w fun e w' => e = .returned (U 0) ∧ Bl w w' := by
  rw [← U_zero]
  have e : (decide (255 < n) = true) ∨ (decide (255 < n) = false ∧ decide (n < -255) = true) := by
    by_cases h2 : 255 < n
    · left; simpa using h2
    · right; simp; omega
  rcases e with e | ⟨e, e2⟩
  all_goals
    go_enter Try.func32, Try.ntmps32
    go_wp2_with fail
    refine bodyPost_ret (v := .agg #[.int .u64 0, .int .u64 0, .int .u64 0, .int .u64 0]) (by simp [results, Try.results32, go_sem]) rfl ⟨rfl, ?_⟩
    repeat (first | exact Bl.refl _ | apply Bl.drew | apply Bl.alloc)
theorem shr_out' (a : Nat) (n : Int) (h : n < -255 ∨ 255 < n) (w : World) :
    Calls Try.prog 34 #[U a, .int .i64 n] w fun e w' => e = .returned (U 0) ∧ Bl w w' := by
  rw [← U_zero]
  have e : (decide (255 < n) = true) ∨ (decide (255 < n) = false ∧ decide (n < -255) = true) := by
    by_cases h2 : 255 < n
    · left; simpa using h2
    · right; simp; omega
  rcases e with e | ⟨e, e2⟩
  all_goals
    go_enter Try.func34, Try.ntmps34
    go_wp2_with fail
    refine bodyPost_ret (v := .agg #[.int .u64 0, .int .u64 0, .int .u64 0, .int .u64 0]) (by simp [results, Try.results34, go_sem]) rfl ⟨rfl, ?_⟩
    repeat (first | exact Bl.refl _ | apply Bl.drew | apply Bl.alloc)
theorem shlZ_pos (a : Nat) (n : Int) (h0 : 0 ≤ n) (h1 : n ≤ 255) : shlZ a n = a * 2 ^ n.toNat % T256 := by unfold shlZ; rw [if_neg (by omega), if_neg (by omega)]
theorem shlZ_neg (a : Nat) (ha : a < T256) (n : Int) (h0 : n ≤ 0) (h1 : -255 ≤ n) : shlZ a n = a / 2 ^ (-n).toNat := by
  unfold shlZ; rw [if_neg (by omega)]
  by_cases h : n = 0
  · subst h; simp [Nat.mod_eq_of_lt ha]
  · rw [if_pos (by omega)]
theorem shl_c (a : Nat) (ha : a < T256) (n : Int) (w : World) :
    Calls Try.prog 32 #[U a, .int .i64 n] w fun e w' => e = .returned (U (shlZ a n)) ∧ Bl w w' := by
  by_cases h : n < -255 ∨ 255 < n
  · rw [shlZ_out a n h]; exact shl_out a n h w
  · by_cases hn : n < 0
    · have d0 : decide (255 < n) = false := by simp; omega
      have d1 : decide (n < -255) = false := by simp; omega
      have d2 : decide (n < 0) = true := by simp; omega
      have hs := fun w => shr_pos a ha (-n) (by omega) (by omega) w
      rw [shlZ_neg a ha n (by omega) (by omega)]
      generalize a / 2 ^ (-n).toNat = y at *
      go_enter Try.func32, Try.ntmps32
      go_wp2_with fail
      refine (hs _).mono ?_
      rintro e w1 ⟨rfl, hb1⟩
      have hz : Box w1 (w.heap.size + 1) #[.int .u64 0, .int .u64 0, .int .u64 0, .int .u64 0] 24 := (Box.new _ _ _ _ (by simp)).call hb1
      obtain ⟨z1, z2, z3⟩ := hz.tell
      have b1 : Bl w w1 := Bl.trans (((Bl.refl w).alloc _).alloc _) hb1
      go_wp2_with fail
      refine bodyPost_ret (v := U y) (by simp only [results, Try.results32]; go_simp) rfl ⟨rfl, ?_⟩
      iterate 4 refine Bl.setCell ?_ (by simp only []; omega) _
      exact b1
    · rw [shlZ_pos a n (by omega) (by omega)]; exact shl_pos a ha n (by omega) (by omega) w
theorem shr_c (a : Nat) (ha : a < T256) (n : Int) (w : World) :
    Calls Try.prog 34 #[U a, .int .i64 n] w fun e w' => e = .returned (U (shlZ a (-n))) ∧ Bl w w' := by
  by_cases h : n < -255 ∨ 255 < n
  · rw [shlZ_out a (-n) (by omega)]; exact shr_out' a n h w
  · by_cases hn : n < 0
    · have d0 : decide (255 < n) = false := by simp; omega
      have d1 : decide (n < -255) = false := by simp; omega
      have d2 : decide (n < 0) = true := by simp; omega
      have hs := fun w => shl_pos a ha (-n) (by omega) (by omega) w
      rw [shlZ_pos a (-n) (by omega) (by omega)]
      generalize a * 2 ^ (-n).toNat % T256 = y at *
      go_enter Try.func34, Try.ntmps34
      go_wp2_with fail
      refine (hs _).mono ?_
      rintro e w1 ⟨rfl, hb1⟩
      have hz : Box w1 (w.heap.size + 1) #[.int .u64 0, .int .u64 0, .int .u64 0, .int .u64 0] 24 := (Box.new _ _ _ _ (by simp)).call hb1
      obtain ⟨z1, z2, z3⟩ := hz.tell
      have b1 : Bl w w1 := Bl.trans (((Bl.refl w).alloc _).alloc _) hb1
      go_wp2_with fail
      refine bodyPost_ret (v := U y) (by simp only [results, Try.results34]; go_simp) rfl ⟨rfl, ?_⟩
      iterate 4 refine Bl.setCell ?_ (by simp only []; omega) _
      exact b1
    · rw [shlZ_neg a ha (-n) (by omega) (by omega), show (- -n) = n from by omega]; exact shr_pos a ha n (by omega) (by omega) w
end Go.Proofs.Ythgnmpjcbicdhaa

