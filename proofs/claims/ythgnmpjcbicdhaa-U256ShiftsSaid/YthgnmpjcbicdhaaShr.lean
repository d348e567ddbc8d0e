/- u256.Shr by a count that is not below 0. Written by a program of ours, case by case. -/
import Derived.Test.YthgnmpjcbicdhaaCmp
import Derived.Test.YthgnmpjcbicdhaaNumS
set_option linter.unusedSimpArgs false
set_option linter.unusedVariables false
namespace Go.Proofs.Ythgnmpjcbicdhaa
open Go Go.RowKit

set_option maxHeartbeats 1000000 in
set_option maxRecDepth 100000 in
theorem shr_pos (a : Nat) (ha : a < T256) (n : Int) (h0 : 0 ≤ n) (h1 : n ≤ 255) (w : World) :
    Calls Try.prog 34 #[U a, .int .i64 n] w fun e w' => e = .returned (U (a / 2 ^ n.toNat)) ∧ Bl w w' := by
  have d0 : decide (255 < n) = false := by simp; omega
  have d1 : decide (n < -255) = false := by simp; omega
  have d2 : decide (n < 0) = false := by simp; omega
  have r0 : 0 ≤ n % 64 := by omega
  have r1 : n % 64 < 64 := by omega
  have hq : n / 64 = 0 ∨ n / 64 = 1 ∨ n / 64 = 2 ∨ n / 64 = 3 := by omega
  by_cases hr : 0 < n % 64
  · have d3 : decide (0 < n % 64) = true := by simpa using hr
    rcases hq with hq | hq | hq | hq
    · have e : U (a / 2 ^ n.toNat) = .agg #[.int .u64 (bits BinOp.or IntKind.u64 (L a 0 / 2 ^ (n % 64).toNat) (IntKind.u64.wrap (L a 1 * 2 ^ (64 - n % 64).toNat))), .int .u64 (bits BinOp.or IntKind.u64 (L a 1 / 2 ^ (n % 64).toNat) (IntKind.u64.wrap (L a 2 * 2 ^ (64 - n % 64).toNat))), .int .u64 (bits BinOp.or IntKind.u64 (L a 2 / 2 ^ (n % 64).toNat) (IntKind.u64.wrap (L a 3 * 2 ^ (64 - n % 64).toNat))), .int .u64 (L a 3 / 2 ^ (n % 64).toNat)] := by
        unfold U
        rw [shrL_next a n 0 0 0 1 h0 hq hr rfl rfl,
          shrL_next a n 0 1 1 2 h0 hq hr rfl rfl,
          shrL_next a n 0 2 2 3 h0 hq hr rfl rfl,
          shrL_last a n 0 3 3 ha h0 hq (Or.inl rfl) rfl]
      rw [e]
      clear e h1 ha
      go_enter Try.func34, Try.ntmps34
      go_wp2_with fail
      refine wp_loop_rounds 5 ?_
      rw [rounds_succ]; go_wp2_with fail; go_region; go_wp2_with fail
      rw [rounds_succ]; go_wp2_with fail; go_region; go_wp2_with fail
      rw [rounds_succ]; go_wp2_with fail; go_region; go_wp2_with fail
      rw [rounds_succ]; go_wp2_with fail; go_wp2_with fail
      rw [rounds_succ]; go_wp2_with fail
      exact bodyPost_ret (v := .agg #[.int .u64 (bits BinOp.or IntKind.u64 (L a 0 / 2 ^ (n % 64).toNat) (IntKind.u64.wrap (L a 1 * 2 ^ (64 - n % 64).toNat))), .int .u64 (bits BinOp.or IntKind.u64 (L a 1 / 2 ^ (n % 64).toNat) (IntKind.u64.wrap (L a 2 * 2 ^ (64 - n % 64).toNat))), .int .u64 (bits BinOp.or IntKind.u64 (L a 2 / 2 ^ (n % 64).toNat) (IntKind.u64.wrap (L a 3 * 2 ^ (64 - n % 64).toNat))), .int .u64 (L a 3 / 2 ^ (n % 64).toNat)]) (by simp [results, Try.results34, go_sem]) rfl ⟨rfl, by repeat (first | apply Bl.drew | apply Bl.alloc | exact Bl.refl _)⟩
    · have e : U (a / 2 ^ n.toNat) = .agg #[.int .u64 (bits BinOp.or IntKind.u64 (L a 1 / 2 ^ (n % 64).toNat) (IntKind.u64.wrap (L a 2 * 2 ^ (64 - n % 64).toNat))), .int .u64 (bits BinOp.or IntKind.u64 (L a 2 / 2 ^ (n % 64).toNat) (IntKind.u64.wrap (L a 3 * 2 ^ (64 - n % 64).toNat))), .int .u64 (L a 3 / 2 ^ (n % 64).toNat), .int .u64 0] := by
        unfold U
        rw [shrL_next a n 1 0 1 2 h0 hq hr rfl rfl,
          shrL_next a n 1 1 2 3 h0 hq hr rfl rfl,
          shrL_last a n 1 2 3 ha h0 hq (Or.inl rfl) rfl,
          shrL_out a n 1 3 ha h0 hq (by decide)]
      rw [e]
      clear e h1 ha
      go_enter Try.func34, Try.ntmps34
      go_wp2_with fail
      refine wp_loop_rounds 5 ?_
      rw [rounds_succ]; go_wp2_with fail; go_region; go_wp2_with fail
      rw [rounds_succ]; go_wp2_with fail; go_region; go_wp2_with fail
      rw [rounds_succ]; go_wp2_with fail; go_wp2_with fail
      rw [rounds_succ]; go_wp2_with fail
      exact bodyPost_ret (v := .agg #[.int .u64 (bits BinOp.or IntKind.u64 (L a 1 / 2 ^ (n % 64).toNat) (IntKind.u64.wrap (L a 2 * 2 ^ (64 - n % 64).toNat))), .int .u64 (bits BinOp.or IntKind.u64 (L a 2 / 2 ^ (n % 64).toNat) (IntKind.u64.wrap (L a 3 * 2 ^ (64 - n % 64).toNat))), .int .u64 (L a 3 / 2 ^ (n % 64).toNat), .int .u64 0]) (by simp [results, Try.results34, go_sem]) rfl ⟨rfl, by repeat (first | apply Bl.drew | apply Bl.alloc | exact Bl.refl _)⟩
    · have e : U (a / 2 ^ n.toNat) = .agg #[.int .u64 (bits BinOp.or IntKind.u64 (L a 2 / 2 ^ (n % 64).toNat) (IntKind.u64.wrap (L a 3 * 2 ^ (64 - n % 64).toNat))), .int .u64 (L a 3 / 2 ^ (n % 64).toNat), .int .u64 0, .int .u64 0] := by
        unfold U
        rw [shrL_next a n 2 0 2 3 h0 hq hr rfl rfl,
          shrL_last a n 2 1 3 ha h0 hq (Or.inl rfl) rfl,
          shrL_out a n 2 2 ha h0 hq (by decide),
          shrL_out a n 2 3 ha h0 hq (by decide)]
      rw [e]
      clear e h1 ha
      go_enter Try.func34, Try.ntmps34
      go_wp2_with fail
      refine wp_loop_rounds 5 ?_
      rw [rounds_succ]; go_wp2_with fail; go_region; go_wp2_with fail
      rw [rounds_succ]; go_wp2_with fail; go_wp2_with fail
      rw [rounds_succ]; go_wp2_with fail
      exact bodyPost_ret (v := .agg #[.int .u64 (bits BinOp.or IntKind.u64 (L a 2 / 2 ^ (n % 64).toNat) (IntKind.u64.wrap (L a 3 * 2 ^ (64 - n % 64).toNat))), .int .u64 (L a 3 / 2 ^ (n % 64).toNat), .int .u64 0, .int .u64 0]) (by simp [results, Try.results34, go_sem]) rfl ⟨rfl, by repeat (first | apply Bl.drew | apply Bl.alloc | exact Bl.refl _)⟩
    · have e : U (a / 2 ^ n.toNat) = .agg #[.int .u64 (L a 3 / 2 ^ (n % 64).toNat), .int .u64 0, .int .u64 0, .int .u64 0] := by
        unfold U
        rw [shrL_last a n 3 0 3 ha h0 hq (Or.inl rfl) rfl,
          shrL_out a n 3 1 ha h0 hq (by decide),
          shrL_out a n 3 2 ha h0 hq (by decide),
          shrL_out a n 3 3 ha h0 hq (by decide)]
      rw [e]
      clear e h1 ha
      go_enter Try.func34, Try.ntmps34
      go_wp2_with fail
      refine wp_loop_rounds 5 ?_
      rw [rounds_succ]; go_wp2_with fail; go_wp2_with fail
      rw [rounds_succ]; go_wp2_with fail
      exact bodyPost_ret (v := .agg #[.int .u64 (L a 3 / 2 ^ (n % 64).toNat), .int .u64 0, .int .u64 0, .int .u64 0]) (by simp [results, Try.results34, go_sem]) rfl ⟨rfl, by repeat (first | apply Bl.drew | apply Bl.alloc | exact Bl.refl _)⟩
  · have d3 : decide (0 < n % 64) = false := by simpa using hr
    have H0 : Hid (n % 64 = 0) := Lib.hid (by omega)
    clear hr
    rcases hq with hq | hq | hq | hq
    · have e : U (a / 2 ^ n.toNat) = .agg #[.int .u64 (L a 0 / 2 ^ (n % 64).toNat), .int .u64 (L a 1 / 2 ^ (n % 64).toNat), .int .u64 (L a 2 / 2 ^ (n % 64).toNat), .int .u64 (L a 3 / 2 ^ (n % 64).toNat)] := by
        unfold U
        rw [shrL_last a n 0 0 0 ha h0 hq (Or.inr H0.out) rfl,
          shrL_last a n 0 1 1 ha h0 hq (Or.inr H0.out) rfl,
          shrL_last a n 0 2 2 ha h0 hq (Or.inr H0.out) rfl,
          shrL_last a n 0 3 3 ha h0 hq (Or.inl rfl) rfl]
      rw [e]
      clear e h1 ha
      go_enter Try.func34, Try.ntmps34
      go_wp2_with fail
      refine wp_loop_rounds 5 ?_
      rw [rounds_succ]; go_wp2_with fail; go_wp2_with fail
      rw [rounds_succ]; go_wp2_with fail; go_wp2_with fail
      rw [rounds_succ]; go_wp2_with fail; go_wp2_with fail
      rw [rounds_succ]; go_wp2_with fail; go_wp2_with fail
      rw [rounds_succ]; go_wp2_with fail
      exact bodyPost_ret (v := .agg #[.int .u64 (L a 0 / 2 ^ (n % 64).toNat), .int .u64 (L a 1 / 2 ^ (n % 64).toNat), .int .u64 (L a 2 / 2 ^ (n % 64).toNat), .int .u64 (L a 3 / 2 ^ (n % 64).toNat)]) (by simp [results, Try.results34, go_sem]) rfl ⟨rfl, by repeat (first | apply Bl.drew | apply Bl.alloc | exact Bl.refl _)⟩
    · have e : U (a / 2 ^ n.toNat) = .agg #[.int .u64 (L a 1 / 2 ^ (n % 64).toNat), .int .u64 (L a 2 / 2 ^ (n % 64).toNat), .int .u64 (L a 3 / 2 ^ (n % 64).toNat), .int .u64 0] := by
        unfold U
        rw [shrL_last a n 1 0 1 ha h0 hq (Or.inr H0.out) rfl,
          shrL_last a n 1 1 2 ha h0 hq (Or.inr H0.out) rfl,
          shrL_last a n 1 2 3 ha h0 hq (Or.inl rfl) rfl,
          shrL_out a n 1 3 ha h0 hq (by decide)]
      rw [e]
      clear e h1 ha
      go_enter Try.func34, Try.ntmps34
      go_wp2_with fail
      refine wp_loop_rounds 5 ?_
      rw [rounds_succ]; go_wp2_with fail; go_wp2_with fail
      rw [rounds_succ]; go_wp2_with fail; go_wp2_with fail
      rw [rounds_succ]; go_wp2_with fail; go_wp2_with fail
      rw [rounds_succ]; go_wp2_with fail
      exact bodyPost_ret (v := .agg #[.int .u64 (L a 1 / 2 ^ (n % 64).toNat), .int .u64 (L a 2 / 2 ^ (n % 64).toNat), .int .u64 (L a 3 / 2 ^ (n % 64).toNat), .int .u64 0]) (by simp [results, Try.results34, go_sem]) rfl ⟨rfl, by repeat (first | apply Bl.drew | apply Bl.alloc | exact Bl.refl _)⟩
    · have e : U (a / 2 ^ n.toNat) = .agg #[.int .u64 (L a 2 / 2 ^ (n % 64).toNat), .int .u64 (L a 3 / 2 ^ (n % 64).toNat), .int .u64 0, .int .u64 0] := by
        unfold U
        rw [shrL_last a n 2 0 2 ha h0 hq (Or.inr H0.out) rfl,
          shrL_last a n 2 1 3 ha h0 hq (Or.inl rfl) rfl,
          shrL_out a n 2 2 ha h0 hq (by decide),
          shrL_out a n 2 3 ha h0 hq (by decide)]
      rw [e]
      clear e h1 ha
      go_enter Try.func34, Try.ntmps34
      go_wp2_with fail
      refine wp_loop_rounds 5 ?_
      rw [rounds_succ]; go_wp2_with fail; go_wp2_with fail
      rw [rounds_succ]; go_wp2_with fail; go_wp2_with fail
      rw [rounds_succ]; go_wp2_with fail
      exact bodyPost_ret (v := .agg #[.int .u64 (L a 2 / 2 ^ (n % 64).toNat), .int .u64 (L a 3 / 2 ^ (n % 64).toNat), .int .u64 0, .int .u64 0]) (by simp [results, Try.results34, go_sem]) rfl ⟨rfl, by repeat (first | apply Bl.drew | apply Bl.alloc | exact Bl.refl _)⟩
    · have e : U (a / 2 ^ n.toNat) = .agg #[.int .u64 (L a 3 / 2 ^ (n % 64).toNat), .int .u64 0, .int .u64 0, .int .u64 0] := by
        unfold U
        rw [shrL_last a n 3 0 3 ha h0 hq (Or.inl rfl) rfl,
          shrL_out a n 3 1 ha h0 hq (by decide),
          shrL_out a n 3 2 ha h0 hq (by decide),
          shrL_out a n 3 3 ha h0 hq (by decide)]
      rw [e]
      clear e h1 ha
      go_enter Try.func34, Try.ntmps34
      go_wp2_with fail
      refine wp_loop_rounds 5 ?_
      rw [rounds_succ]; go_wp2_with fail; go_wp2_with fail
      rw [rounds_succ]; go_wp2_with fail
      exact bodyPost_ret (v := .agg #[.int .u64 (L a 3 / 2 ^ (n % 64).toNat), .int .u64 0, .int .u64 0, .int .u64 0]) (by simp [results, Try.results34, go_sem]) rfl ⟨rfl, by repeat (first | apply Bl.drew | apply Bl.alloc | exact Bl.refl _)⟩
end Go.Proofs.Ythgnmpjcbicdhaa

