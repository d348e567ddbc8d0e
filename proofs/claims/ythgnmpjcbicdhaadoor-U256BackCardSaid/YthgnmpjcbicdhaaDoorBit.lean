/- u256.Bit and the document's; with. -/
import Derived.Test.YthgnmpjcbicdhaaDoorCmp
import Derived.Test.YthgnmpjcbicdhaaDoorNumB
set_option linter.unusedSimpArgs false
set_option linter.unusedVariables false
namespace Go.Proofs.YthgnmpjcbicdhaaDoor
open Go Go.RowKit

theorem wrap64_bitI (a : Nat) (i : Int) : wrap64 (bitI a i) = bitI a i := by
  rcases bitI_01 a i with h | h <;> rw [h] <;> decide +kernel

theorem rbit_c (a : Nat) (i : Int) (w : World) :
    Calls Tryd.prog 58 #[U a, .int .i64 i] w fun e w' => e = .returned (.int .i64 (bitI a i)) ∧ Bl w w' := by
  by_cases h0 : i < 0
  · have e : bitI a i = 0 := by unfold bitI; rw [if_pos (Or.inl h0)]
    rw [e]
    have d0 : decide (i < 0) = true := by simpa using h0
    go_enter Tryd.func58, Tryd.ntmps58
    go_wp2_with fail
    go_ret
    exact ⟨rfl, by repeat (first | exact Bl.refl _ | apply Bl.drew | apply Bl.alloc)⟩
  · by_cases h1 : 255 < i
    · have e : bitI a i = 0 := by unfold bitI; rw [if_pos (Or.inr h1)]
      rw [e]
      have d0 : decide (i < 0) = false := by simpa using h0
      have d1 : decide (255 < i) = true := by simpa using h1
      go_enter Tryd.func58, Tryd.ntmps58
      go_wp2_with fail
      go_ret
      exact ⟨rfl, by repeat (first | exact Bl.refl _ | apply Bl.drew | apply Bl.alloc)⟩
    · have g0 : 0 ≤ i := by omega
      have g1 : i ≤ 255 := by omega
      have d0 : decide (i < 0) = false := by simpa using h0
      have d1 : decide (255 < i) = false := by simpa using h1
      have r0 : 0 ≤ i % 64 := by omega
      have r1 : i % 64 < 64 := by omega
      have hq : i / 64 = 0 ∨ i / 64 = 1 ∨ i / 64 = 2 ∨ i / 64 = 3 := by omega
      have p0 := limb_pos a 0 (i % 64).toNat
      have p1 := limb_pos a 1 (i % 64).toNat
      have p2 := limb_pos a 2 (i % 64).toNat
      have p3 := limb_pos a 3 (i % 64).toNat
      rcases hq with hq | hq | hq | hq
      all_goals
        first | rw [← (limb_bit a i 0 g0 g1 hq).2] | rw [← (limb_bit a i 1 g0 g1 hq).2] | rw [← (limb_bit a i 2 g0 g1 hq).2] | rw [← (limb_bit a i 3 g0 g1 hq).2]
        go_enter Tryd.func58, Tryd.ntmps58
        go_wp2_with fail
        go_ret
        exact ⟨rfl, by repeat (first | exact Bl.refl _ | apply Bl.drew | apply Bl.alloc)⟩

theorem with_c (a : Nat) (i : Int) (h0 : 0 ≤ i) (h1 : i ≤ 255) (w : World) :
    Calls Tryd.prog 62 #[U a, .int .i64 i] w fun e w' => e = .returned (U (a ||| 2 ^ i.toNat)) ∧ Bl w w' := by
  have r0 : 0 ≤ i % 64 := by omega
  have r1 : i % 64 < 64 := by omega
  have hq : i / 64 = 0 ∨ i / 64 = 1 ∨ i / 64 = 2 ∨ i / 64 = 3 := by omega
  rcases hq with hq | hq | hq | hq
  · have e : U (a ||| 2 ^ i.toNat) = .agg #[.int .u64 (bits BinOp.or IntKind.u64 (L a 0) (IntKind.u64.wrap (2 ^ (i % 64).toNat))), .int .u64 (L a 1), .int .u64 (L a 2), .int .u64 (L a 3)] := by
      unfold U; rw [← with_other a i 0 1 h0 hq (by decide), ← with_other a i 0 2 h0 hq (by decide), ← with_other a i 0 3 h0 hq (by decide), ← with_same a i 0 h0 hq]
    rw [e]
    clear e
    go_enter Tryd.func62, Tryd.ntmps62
    go_wp2_with fail
    exact bodyPost_ret (v := .agg #[.int .u64 (bits BinOp.or IntKind.u64 (L a 0) (IntKind.u64.wrap (2 ^ (i % 64).toNat))), .int .u64 (L a 1), .int .u64 (L a 2), .int .u64 (L a 3)]) (by simp [results, Tryd.results62, go_sem]) rfl ⟨rfl, by repeat (first | exact Bl.refl _ | apply Bl.drew | apply Bl.alloc)⟩
  · have e : U (a ||| 2 ^ i.toNat) = .agg #[.int .u64 (L a 0), .int .u64 (bits BinOp.or IntKind.u64 (L a 1) (IntKind.u64.wrap (2 ^ (i % 64).toNat))), .int .u64 (L a 2), .int .u64 (L a 3)] := by
      unfold U; rw [← with_other a i 1 0 h0 hq (by decide), ← with_other a i 1 2 h0 hq (by decide), ← with_other a i 1 3 h0 hq (by decide), ← with_same a i 1 h0 hq]
    rw [e]
    clear e
    go_enter Tryd.func62, Tryd.ntmps62
    go_wp2_with fail
    exact bodyPost_ret (v := .agg #[.int .u64 (L a 0), .int .u64 (bits BinOp.or IntKind.u64 (L a 1) (IntKind.u64.wrap (2 ^ (i % 64).toNat))), .int .u64 (L a 2), .int .u64 (L a 3)]) (by simp [results, Tryd.results62, go_sem]) rfl ⟨rfl, by repeat (first | exact Bl.refl _ | apply Bl.drew | apply Bl.alloc)⟩
  · have e : U (a ||| 2 ^ i.toNat) = .agg #[.int .u64 (L a 0), .int .u64 (L a 1), .int .u64 (bits BinOp.or IntKind.u64 (L a 2) (IntKind.u64.wrap (2 ^ (i % 64).toNat))), .int .u64 (L a 3)] := by
      unfold U; rw [← with_other a i 2 0 h0 hq (by decide), ← with_other a i 2 1 h0 hq (by decide), ← with_other a i 2 3 h0 hq (by decide), ← with_same a i 2 h0 hq]
    rw [e]
    clear e
    go_enter Tryd.func62, Tryd.ntmps62
    go_wp2_with fail
    exact bodyPost_ret (v := .agg #[.int .u64 (L a 0), .int .u64 (L a 1), .int .u64 (bits BinOp.or IntKind.u64 (L a 2) (IntKind.u64.wrap (2 ^ (i % 64).toNat))), .int .u64 (L a 3)]) (by simp [results, Tryd.results62, go_sem]) rfl ⟨rfl, by repeat (first | exact Bl.refl _ | apply Bl.drew | apply Bl.alloc)⟩
  · have e : U (a ||| 2 ^ i.toNat) = .agg #[.int .u64 (L a 0), .int .u64 (L a 1), .int .u64 (L a 2), .int .u64 (bits BinOp.or IntKind.u64 (L a 3) (IntKind.u64.wrap (2 ^ (i % 64).toNat)))] := by
      unfold U; rw [← with_other a i 3 0 h0 hq (by decide), ← with_other a i 3 1 h0 hq (by decide), ← with_other a i 3 2 h0 hq (by decide), ← with_same a i 3 h0 hq]
    rw [e]
    clear e
    go_enter Tryd.func62, Tryd.ntmps62
    go_wp2_with fail
    exact bodyPost_ret (v := .agg #[.int .u64 (L a 0), .int .u64 (L a 1), .int .u64 (L a 2), .int .u64 (bits BinOp.or IntKind.u64 (L a 3) (IntKind.u64.wrap (2 ^ (i % 64).toNat)))]) (by simp [results, Tryd.results62, go_sem]) rfl ⟨rfl, by repeat (first | exact Bl.refl _ | apply Bl.drew | apply Bl.alloc)⟩
end Go.Proofs.YthgnmpjcbicdhaaDoor

