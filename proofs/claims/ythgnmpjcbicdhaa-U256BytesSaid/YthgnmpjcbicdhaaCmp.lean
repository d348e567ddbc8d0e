/- u256.From, Small, Cmp and the document's; num. -/
import Derived.Test.YthgnmpjcbicdhaaAdd
import Derived.Test.YthgnmpjcbicdhaaArrEq
set_option linter.unusedSimpArgs false
set_option linter.unusedVariables false
namespace Go.Proofs.Ythgnmpjcbicdhaa
open Go Go.RowKit

theorem info22 : (Try.prog.info? 22).map (fun i => (i.zero, i.size, i.bytes)) = some (some (.int .u64 0), 1, 8) := by kernel_rfl
theorem guardU : Try.prog.eqGuardType Try.prog.depth 24 = false := by kernel_rfl

/-- '==' of two numbers. -/
theorem run_eq_U {a b : Nat} (ha : a < T256) (hb : b < T256) (w : World) : (Op.equalIn 10000 24 (U a) (U b)).run Try.prog w = .ok (decide (a = b)) w := by
  obtain ⟨i, hi, _, hs, _⟩ := info_parts info22
  have h := run_equalIn_arr (P := Try.prog) 9998 24 22 4 .u64 .u64 i Try.underlying24 Try.underlying22 hi hs [L a 0, L a 1, L a 2, L a 3] [L b 0, L b 1, L b 2, L b 3] rfl rfl w
  have e : decide ([L a 0, L a 1, L a 2, L a 3] = [L b 0, L b 1, L b 2, L b 3]) = decide (a = b) := by
    rw [← U_beq ha hb, Bool.eq_iff_iff]
    simp [and_assoc]
  rw [e] at h
  exact h

theorem cmp_c (a b : Nat) (ha : a < T256) (hb : b < T256) (w : World) :
    Calls Try.prog 45 #[U a, U b] w fun e w' => e = .returned (.int .i64 (cmpI a b)) ∧ Bl w w' := by
  have hq := fun w => run_eq_U ha hb w
  have hg := guardU
  by_cases hab : a = b
  · have hd : decide (a = b) = true := by simpa using hab
    simp only [hd] at hq
    rw [cmpI_eq hab]
    clear hab hd
    go_enter Try.func45, Try.ntmps45
    go_wp2_with fail
    go_ret
    exact ⟨rfl, by repeat (first | exact Bl.refl _ | apply Bl.drew | apply Bl.alloc)⟩
  · have hd : decide (a = b) = false := by simpa using hab
    simp only [hd] at hq
    have hs := sub_c a b ha hb
    by_cases hlt : a < b
    · rw [cmpI_lt hlt]
      simp only [hlt, if_true] at hs
      clear hab hd hlt
      go_enter Try.func45, Try.ntmps45
      go_wp2_with fail
      refine (hs _).mono ?_
      rintro e w1 ⟨rfl, hb1⟩
      go_wp2_with fail
      go_ret
      exact ⟨rfl, by repeat (first | exact Bl.refl _ | apply Bl.drew | apply Bl.alloc | refine Bl.trans ?_ (by assumption))⟩
    · rw [cmpI_gt (by omega)]
      simp only [hlt, if_false] at hs
      clear hab hd hlt
      go_enter Try.func45, Try.ntmps45
      go_wp2_with fail
      refine (hs _).mono ?_
      rintro e w1 ⟨rfl, hb1⟩
      go_wp2_with fail
      go_ret
      exact ⟨rfl, by repeat (first | exact Bl.refl _ | apply Bl.drew | apply Bl.alloc | refine Bl.trans ?_ (by assumption))⟩

theorem from_c (v : Nat) (h : v < 18446744073709551616) (w : World) :
    Calls Try.prog 40 #[.int .u64 v] w fun e w' => e = .returned (U v) ∧ Bl w w' := by
  rw [← U_small v h]
  clear h
  go_enter Try.func40, Try.ntmps40
  go_wp2_with fail
  exact bodyPost_ret (v := .agg #[.int .u64 (v : Int), .int .u64 0, .int .u64 0, .int .u64 0]) (by simp [results, Try.results40, go_sem]) rfl ⟨rfl, by repeat (first | exact Bl.refl _ | apply Bl.drew | apply Bl.alloc)⟩

/-- What Small tells. -/
def smV (a : Nat) : Int := if a < 18446744073709551616 then a else 0
def smE (a : Nat) : Int := if a < 18446744073709551616 then 0 else 11
theorem small_c (a : Nat) (ha : a < T256) (w : World) :
    Calls Try.prog 57 #[U a] w fun e w' => e = .returned (.tuple #[.int .u64 (smV a), .int .i64 (smE a)]) ∧ Bl w w' := by
  have hq := fun w => run_eq_U ha (show a % 18446744073709551616 < T256 by rw [T256_eq]; omega) w
  rw [← U_low] at hq
  have hg := guardU
  by_cases h : a < 18446744073709551616
  · have hd : decide (a = a % 18446744073709551616) = true := by simp; omega
    simp only [hd] at hq
    have e1 : smV a = L a 0 := by unfold smV; rw [if_pos h, L0]; omega
    have e2 : smE a = 0 := by unfold smE; rw [if_pos h]
    rw [e1, e2]
    clear hd h ha e1 e2
    go_enter Try.func57, Try.ntmps57
    go_wp2_with fail
    go_ret2
    exact ⟨rfl, by repeat (first | exact Bl.refl _ | apply Bl.drew | apply Bl.alloc)⟩
  · have hd : decide (a = a % 18446744073709551616) = false := by simp; omega
    simp only [hd] at hq
    have e1 : smV a = 0 := by unfold smV; rw [if_neg h]
    have e2 : smE a = 11 := by unfold smE; rw [if_neg h]
    rw [e1, e2]
    clear hd h ha e1 e2
    go_enter Try.func57, Try.ntmps57
    go_wp2_with fail
    go_ret2
    exact ⟨rfl, by repeat (first | exact Bl.refl _ | apply Bl.drew | apply Bl.alloc)⟩

theorem rcmp_c (a b : Nat) (ha : a < T256) (hb : b < T256) (w : World) :
    Calls Try.prog 53 #[U a, U b] w fun e w' => e = .returned (.int .i64 (cmpI a b)) ∧ Bl w w' := by
  rw [cmpI_limbs ha hb]
  clear ha hb
  unfold U
  generalize L a 0 = x0; generalize L a 1 = x1; generalize L a 2 = x2; generalize L a 3 = x3
  generalize L b 0 = y0; generalize L b 1 = y1; generalize L b 2 = y2; generalize L b 3 = y3
  go_enter Try.func53, Try.ntmps53
  go_wp2_with fail
  refine wp_loop_rounds 5 ?_
  iterate 4
    rw [rounds_succ]
    go_wp2_with fail
    go_region
    go_wp2_with fail
    · go_ret
      exact ⟨by simp [*], by repeat (first | exact Bl.refl _ | apply Bl.drew | apply Bl.alloc)⟩
    go_region
    go_wp2_with fail
    · go_ret
      exact ⟨by simp [*], by repeat (first | exact Bl.refl _ | apply Bl.drew | apply Bl.alloc)⟩
  rw [rounds_succ]
  go_wp2_with fail
  go_ret
  exact ⟨by simp [*], by repeat (first | exact Bl.refl _ | apply Bl.drew | apply Bl.alloc)⟩

theorem rfrom_c (v : Nat) (h : v < 18446744073709551616) (w : World) :
    Calls Try.prog 59 #[.int .u64 v] w fun e w' => e = .returned (U v) ∧ Bl w w' := by
  rw [← U_small v h]
  clear h
  go_enter Try.func59, Try.ntmps59
  go_wp2_with fail
  exact bodyPost_ret (v := .agg #[.int .u64 (v : Int), .int .u64 0, .int .u64 0, .int .u64 0]) (by simp [results, Try.results59, go_sem]) rfl ⟨rfl, by repeat (first | exact Bl.refl _ | apply Bl.drew | apply Bl.alloc)⟩

theorem sm_limbs (a : Nat) (ha : a < T256) : smV a = (if L a 1 ≠ 0 ∨ L a 2 ≠ 0 ∨ L a 3 ≠ 0 then 0 else L a 0) ∧ smE a = (if L a 1 ≠ 0 ∨ L a 2 ≠ 0 ∨ L a 3 ≠ 0 then 11 else 0) := by
  have e := of_limbs a ha
  have h0 := L_nonneg a 0; have h1 := L_nonneg a 1; have h2 := L_nonneg a 2; have h3 := L_nonneg a 3; have l0 := L_lt a 0
  unfold M64 at l0
  unfold smV smE
  split
  · rw [if_neg (by omega), if_neg (by omega)]; exact ⟨by omega, rfl⟩
  · rw [if_pos (by omega), if_pos (by omega)]; exact ⟨rfl, rfl⟩

theorem rsmall_c (a : Nat) (ha : a < T256) (w : World) :
    Calls Try.prog 58 #[U a] w fun e w' => e = .returned (.tuple #[.int .u64 (smV a), .int .i64 (smE a)]) ∧ Bl w w' := by
  obtain ⟨e1, e2⟩ := sm_limbs a ha
  rw [e1, e2]
  clear ha e1 e2
  unfold U
  generalize L a 0 = x0; generalize L a 1 = x1; generalize L a 2 = x2; generalize L a 3 = x3
  by_cases h1 : x1 = 0
  · by_cases h2 : x2 = 0
    · by_cases h3 : x3 = 0
      · subst h1 h2 h3
        simp only [ne_eq, not_true_eq_false, or_self, if_false]
        go_enter Try.func58, Try.ntmps58
        go_wp2_with fail
        go_ret2
        exact ⟨rfl, by repeat (first | exact Bl.refl _ | apply Bl.drew | apply Bl.alloc)⟩
      · subst h1 h2
        have b3 : (x3 == 0) = false := by simpa using h3
        have n3 : (x3 != 0) = true := by simpa using h3
        simp only [ne_eq, h3, not_true_eq_false, not_false_eq_true, or_true, if_true]
        clear h3
        go_enter Try.func58, Try.ntmps58
        go_wp2_with fail
        go_ret2
        exact ⟨rfl, by repeat (first | exact Bl.refl _ | apply Bl.drew | apply Bl.alloc)⟩
    · subst h1
      have b2 : (x2 == 0) = false := by simpa using h2
      have n2 : (x2 != 0) = true := by simpa using h2
      simp only [ne_eq, h2, not_true_eq_false, not_false_eq_true, or_true, true_or, if_true]
      clear h2
      go_enter Try.func58, Try.ntmps58
      go_wp2_with fail
      go_ret2
      exact ⟨rfl, by repeat (first | exact Bl.refl _ | apply Bl.drew | apply Bl.alloc)⟩
  · have b1 : (x1 == 0) = false := by simpa using h1
    have n1 : (x1 != 0) = true := by simpa using h1
    simp only [ne_eq, h1, not_true_eq_false, not_false_eq_true, or_true, true_or, if_true]
    clear h1
    go_enter Try.func58, Try.ntmps58
    go_wp2_with fail
    go_ret2
    exact ⟨rfl, by repeat (first | exact Bl.refl _ | apply Bl.drew | apply Bl.alloc)⟩

theorem num_c (v : Int) (w : World) :
    Calls Try.prog 20 #[.int .i64 v] w fun e w' => e = .returned (.int .i64 v) ∧ w = w' := by
  go_enter Try.func20, Try.ntmps20
  go_wp2_with fail
  go_ret
  exact ⟨rfl, rfl⟩
end Go.Proofs.Ythgnmpjcbicdhaa

