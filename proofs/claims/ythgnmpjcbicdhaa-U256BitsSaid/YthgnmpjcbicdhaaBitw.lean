/- And, Or, Xor, Not of both packages. -/
import Derived.Test.YthgnmpjcbicdhaaCmp
import Derived.Test.YthgnmpjcbicdhaaNumA
set_option linter.unusedSimpArgs false
set_option linter.unusedVariables false
namespace Go.Proofs.Ythgnmpjcbicdhaa
open Go Go.RowKit

set_option maxHeartbeats 1000000 in
set_option maxRecDepth 100000 in
theorem and_c (a b : Nat) (w : World) :
    Calls Try.prog 24 #[U a, U b] w fun e w' => e = .returned (U (a &&& b)) ∧ Bl w w' := by
  rw [U_and a b]
  go_enter Try.func24, Try.ntmps24
  go_wp2_with fail
  exact bodyPost_ret (v := .agg #[.int .u64 (bits BinOp.and IntKind.u64 (L a 0) (L b 0)), .int .u64 (bits BinOp.and IntKind.u64 (L a 1) (L b 1)), .int .u64 (bits BinOp.and IntKind.u64 (L a 2) (L b 2)), .int .u64 (bits BinOp.and IntKind.u64 (L a 3) (L b 3))]) (by simp [results, Try.results24, go_sem]) rfl ⟨rfl, by repeat (first | exact Bl.refl _ | apply Bl.drew | apply Bl.alloc)⟩

set_option maxHeartbeats 1000000 in
set_option maxRecDepth 100000 in
theorem rand_c (a b : Nat) (w : World) :
    Calls Try.prog 25 #[U a, U b] w fun e w' => e = .returned (U (a &&& b)) ∧ Bl w w' := by
  rw [U_and a b]
  go_enter Try.func25, Try.ntmps25
  go_wp2_with fail
  refine wp_loop_rounds 5 ?_
  iterate 4 (rw [rounds_succ]; go_wp2_with fail; (try (go_region; go_wp2_with fail)))
  rw [rounds_succ]
  go_wp2_with fail
  exact bodyPost_ret (v := .agg #[.int .u64 (bits BinOp.and IntKind.u64 (L a 0) (L b 0)), .int .u64 (bits BinOp.and IntKind.u64 (L a 1) (L b 1)), .int .u64 (bits BinOp.and IntKind.u64 (L a 2) (L b 2)), .int .u64 (bits BinOp.and IntKind.u64 (L a 3) (L b 3))]) (by simp [results, Try.results25, go_sem]) rfl ⟨rfl, by repeat (first | exact Bl.refl _ | apply Bl.drew | apply Bl.alloc)⟩

set_option maxHeartbeats 1000000 in
set_option maxRecDepth 100000 in
theorem or_c (a b : Nat) (w : World) :
    Calls Try.prog 26 #[U a, U b] w fun e w' => e = .returned (U (a ||| b)) ∧ Bl w w' := by
  rw [U_or a b]
  go_enter Try.func26, Try.ntmps26
  go_wp2_with fail
  exact bodyPost_ret (v := .agg #[.int .u64 (bits BinOp.or IntKind.u64 (L a 0) (L b 0)), .int .u64 (bits BinOp.or IntKind.u64 (L a 1) (L b 1)), .int .u64 (bits BinOp.or IntKind.u64 (L a 2) (L b 2)), .int .u64 (bits BinOp.or IntKind.u64 (L a 3) (L b 3))]) (by simp [results, Try.results26, go_sem]) rfl ⟨rfl, by repeat (first | exact Bl.refl _ | apply Bl.drew | apply Bl.alloc)⟩

set_option maxHeartbeats 1000000 in
set_option maxRecDepth 100000 in
theorem ror_c (a b : Nat) (w : World) :
    Calls Try.prog 27 #[U a, U b] w fun e w' => e = .returned (U (a ||| b)) ∧ Bl w w' := by
  rw [U_or a b]
  go_enter Try.func27, Try.ntmps27
  go_wp2_with fail
  refine wp_loop_rounds 5 ?_
  iterate 4 (rw [rounds_succ]; go_wp2_with fail; (try (go_region; go_wp2_with fail)))
  rw [rounds_succ]
  go_wp2_with fail
  exact bodyPost_ret (v := .agg #[.int .u64 (bits BinOp.or IntKind.u64 (L a 0) (L b 0)), .int .u64 (bits BinOp.or IntKind.u64 (L a 1) (L b 1)), .int .u64 (bits BinOp.or IntKind.u64 (L a 2) (L b 2)), .int .u64 (bits BinOp.or IntKind.u64 (L a 3) (L b 3))]) (by simp [results, Try.results27, go_sem]) rfl ⟨rfl, by repeat (first | exact Bl.refl _ | apply Bl.drew | apply Bl.alloc)⟩

set_option maxHeartbeats 1000000 in
set_option maxRecDepth 100000 in
theorem xor_c (a b : Nat) (w : World) :
    Calls Try.prog 28 #[U a, U b] w fun e w' => e = .returned (U (a ^^^ b)) ∧ Bl w w' := by
  rw [U_xor a b]
  go_enter Try.func28, Try.ntmps28
  go_wp2_with fail
  exact bodyPost_ret (v := .agg #[.int .u64 (bits BinOp.xor IntKind.u64 (L a 0) (L b 0)), .int .u64 (bits BinOp.xor IntKind.u64 (L a 1) (L b 1)), .int .u64 (bits BinOp.xor IntKind.u64 (L a 2) (L b 2)), .int .u64 (bits BinOp.xor IntKind.u64 (L a 3) (L b 3))]) (by simp [results, Try.results28, go_sem]) rfl ⟨rfl, by repeat (first | exact Bl.refl _ | apply Bl.drew | apply Bl.alloc)⟩

set_option maxHeartbeats 1000000 in
set_option maxRecDepth 100000 in
theorem rxor_c (a b : Nat) (w : World) :
    Calls Try.prog 29 #[U a, U b] w fun e w' => e = .returned (U (a ^^^ b)) ∧ Bl w w' := by
  rw [U_xor a b]
  go_enter Try.func29, Try.ntmps29
  go_wp2_with fail
  refine wp_loop_rounds 5 ?_
  iterate 4 (rw [rounds_succ]; go_wp2_with fail; (try (go_region; go_wp2_with fail)))
  rw [rounds_succ]
  go_wp2_with fail
  exact bodyPost_ret (v := .agg #[.int .u64 (bits BinOp.xor IntKind.u64 (L a 0) (L b 0)), .int .u64 (bits BinOp.xor IntKind.u64 (L a 1) (L b 1)), .int .u64 (bits BinOp.xor IntKind.u64 (L a 2) (L b 2)), .int .u64 (bits BinOp.xor IntKind.u64 (L a 3) (L b 3))]) (by simp [results, Try.results29, go_sem]) rfl ⟨rfl, by repeat (first | exact Bl.refl _ | apply Bl.drew | apply Bl.alloc)⟩

set_option maxHeartbeats 1000000 in
set_option maxRecDepth 100000 in
theorem not_c (a : Nat) (w : World) :
    Calls Try.prog 30 #[U a] w fun e w' => e = .returned (U (notN a)) ∧ Bl w w' := by
  rw [U_not a]
  go_enter Try.func30, Try.ntmps30
  go_wp2_with fail
  exact bodyPost_ret (v := .agg #[.int .u64 (bits BinOp.xor IntKind.u64 IntKind.u64.max (L a 0)), .int .u64 (bits BinOp.xor IntKind.u64 IntKind.u64.max (L a 1)), .int .u64 (bits BinOp.xor IntKind.u64 IntKind.u64.max (L a 2)), .int .u64 (bits BinOp.xor IntKind.u64 IntKind.u64.max (L a 3))]) (by simp [results, Try.results30, go_sem]) rfl ⟨rfl, by repeat (first | exact Bl.refl _ | apply Bl.drew | apply Bl.alloc)⟩

set_option maxHeartbeats 1000000 in
set_option maxRecDepth 100000 in
theorem rnot_c (a : Nat) (w : World) :
    Calls Try.prog 31 #[U a] w fun e w' => e = .returned (U (notN a)) ∧ Bl w w' := by
  rw [U_not a]
  go_enter Try.func31, Try.ntmps31
  go_wp2_with fail
  refine wp_loop_rounds 5 ?_
  iterate 4 (rw [rounds_succ]; go_wp2_with fail)
  rw [rounds_succ]
  go_wp2_with fail
  exact bodyPost_ret (v := .agg #[.int .u64 (bits BinOp.xor IntKind.u64 IntKind.u64.max (L a 0)), .int .u64 (bits BinOp.xor IntKind.u64 IntKind.u64.max (L a 1)), .int .u64 (bits BinOp.xor IntKind.u64 IntKind.u64.max (L a 2)), .int .u64 (bits BinOp.xor IntKind.u64 IntKind.u64.max (L a 3))]) (by simp [results, Try.results31, go_sem]) rfl ⟨rfl, by repeat (first | exact Bl.refl _ | apply Bl.drew | apply Bl.alloc)⟩

end Go.Proofs.Ythgnmpjcbicdhaa
