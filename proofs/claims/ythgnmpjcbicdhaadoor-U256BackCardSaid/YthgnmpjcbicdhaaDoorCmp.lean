/- u256.From, Small, Cmp and the document's; num. -/
import Derived.Test.YthgnmpjcbicdhaaDoorAdd
import Derived.Test.YthgnmpjcbicdhaaDoorArrEq
set_option linter.unusedSimpArgs false
set_option linter.unusedVariables false
namespace Go.Proofs.YthgnmpjcbicdhaaDoor
open Go Go.RowKit

theorem info22 : (Tryd.prog.info? 22).map (fun i => (i.zero, i.size, i.bytes)) = some (some (.int .u64 0), 1, 8) := by kernel_rfl
theorem guardU : Tryd.prog.eqGuardType Tryd.prog.depth 24 = false := by kernel_rfl

/-- '==' of two numbers. -/
theorem run_eq_U {a b : Nat} (ha : a < T256) (hb : b < T256) (w : World) : (Op.equalIn 10000 24 (U a) (U b)).run Tryd.prog w = .ok (decide (a = b)) w := by
  obtain ⟨i, hi, _, hs, _⟩ := info_parts info22
  have h := run_equalIn_arr (P := Tryd.prog) 9998 24 22 4 .u64 .u64 i Tryd.underlying24 Tryd.underlying22 hi hs [L a 0, L a 1, L a 2, L a 3] [L b 0, L b 1, L b 2, L b 3] rfl rfl w
  have e : decide ([L a 0, L a 1, L a 2, L a 3] = [L b 0, L b 1, L b 2, L b 3]) = decide (a = b) := by
    rw [← U_beq ha hb, Bool.eq_iff_iff]
    simp [and_assoc]
  rw [e] at h
  exact h

theorem from_c (v : Nat) (h : v < 18446744073709551616) (w : World) :
    Calls Tryd.prog 17 #[.int .u64 v] w fun e w' => e = .returned (U v) ∧ Bl w w' := by
  rw [← U_small v h]
  clear h
  go_enter Tryd.func17, Tryd.ntmps17
  go_wp2_with fail
  exact bodyPost_ret (v := .agg #[.int .u64 (v : Int), .int .u64 0, .int .u64 0, .int .u64 0]) (by simp [results, Tryd.results17, go_sem]) rfl ⟨rfl, by repeat (first | exact Bl.refl _ | apply Bl.drew | apply Bl.alloc)⟩

/-- What Small tells. -/
def smV (a : Nat) : Int := if a < 18446744073709551616 then a else 0
def smE (a : Nat) : Int := if a < 18446744073709551616 then 0 else 11
theorem rcmp_c (a b : Nat) (ha : a < T256) (hb : b < T256) (w : World) :
    Calls Tryd.prog 60 #[U a, U b] w fun e w' => e = .returned (.int .i64 (cmpI a b)) ∧ Bl w w' := by
  rw [cmpI_limbs ha hb]
  clear ha hb
  unfold U
  generalize L a 0 = x0; generalize L a 1 = x1; generalize L a 2 = x2; generalize L a 3 = x3
  generalize L b 0 = y0; generalize L b 1 = y1; generalize L b 2 = y2; generalize L b 3 = y3
  go_enter Tryd.func60, Tryd.ntmps60
  go_wp2_with fail
  refine wp_loop_rounds 5 ?_
  iterate 4
    rw [rounds_succ]
    go_wp2_with fail
    go_region
    go_wp2_with fail
    · go_ret
      exact ⟨by simp [*], by repeat (first | exact Bl.refl _ | apply Bl.drew | apply Bl.alloc)⟩
    go_region
    go_wp2_with fail
    · go_ret
      exact ⟨by simp [*], by repeat (first | exact Bl.refl _ | apply Bl.drew | apply Bl.alloc)⟩
  rw [rounds_succ]
  go_wp2_with fail
  go_ret
  exact ⟨by simp [*], by repeat (first | exact Bl.refl _ | apply Bl.drew | apply Bl.alloc)⟩

theorem rfrom_c (v : Nat) (h : v < 18446744073709551616) (w : World) :
    Calls Tryd.prog 20 #[.int .u64 v] w fun e w' => e = .returned (U v) ∧ Bl w w' := by
  rw [← U_small v h]
  clear h
  go_enter Tryd.func20, Tryd.ntmps20
  go_wp2_with fail
  exact bodyPost_ret (v := .agg #[.int .u64 (v : Int), .int .u64 0, .int .u64 0, .int .u64 0]) (by simp [results, Tryd.results20, go_sem]) rfl ⟨rfl, by repeat (first | exact Bl.refl _ | apply Bl.drew | apply Bl.alloc)⟩

theorem sm_limbs (a : Nat) (ha : a < T256) : smV a = (if L a 1 ≠ 0 ∨ L a 2 ≠ 0 ∨ L a 3 ≠ 0 then 0 else L a 0) ∧ smE a = (if L a 1 ≠ 0 ∨ L a 2 ≠ 0 ∨ L a 3 ≠ 0 then 11 else 0) := by
  have e := of_limbs a ha
  have h0 := L_nonneg a 0; have h1 := L_nonneg a 1; have h2 := L_nonneg a 2; have h3 := L_nonneg a 3; have l0 := L_lt a 0
  unfold M64 at l0
  unfold smV smE
  split
  · rw [if_neg (by omega), if_neg (by omega)]; exact ⟨by omega, rfl⟩
  · rw [if_pos (by omega), if_pos (by omega)]; exact ⟨rfl, rfl⟩

theorem num_c (v : Int) (w : World) :
    Calls Tryd.prog 7 #[.int .i64 v] w fun e w' => e = .returned (.int .i64 v) ∧ w = w' := by
  go_enter Tryd.func7, Tryd.ntmps7
  go_wp2_with fail
  go_ret
  exact ⟨rfl, rfl⟩
end Go.Proofs.YthgnmpjcbicdhaaDoor

