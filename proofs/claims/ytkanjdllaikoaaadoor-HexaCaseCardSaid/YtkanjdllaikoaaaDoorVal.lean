/- The value of a digit. -/
import Derived.Test.YtkanjdllaikoaaaDoorHSp
set_option linter.unusedSimpArgs false
set_option linter.unusedVariables false
namespace Go.Proofs.YtkanjdllaikoaaaDoor
open Go Go.RowKit

/-- The value of a digit. -/
def valOf (c : Int) : Int := if 48 ≤ c ∧ c ≤ 57 then c - 48 else if 97 ≤ c ∧ c ≤ 102 then c - 87 else if 65 ≤ c ∧ c ≤ 70 then c - 55 else -1
theorem valOf_lt (c : Int) : valOf c < 16 := by unfold valOf; split <;> (try split) <;> (try split) <;> omega
theorem valOf_ge (c : Int) (h : ¬ valOf c < 0) : 0 ≤ valOf c := by omega
set_option maxHeartbeats 1000000 in
theorem value_c (c : Int) (hc : 0 ≤ c ∧ c < 256) (w : World) : Calls Tryd.prog 54 #[.int .u8 c] w fun e w' => e = .returned (.int .i64 (valOf c)) ∧ Below w.heap.size w w' := by
  refine calls_vm [.val (.int .u8 c)] (fn := Tryd.f54) Tryd.func54 (by kernel_rfl) (by kernel_rfl) (by kernel_rfl) (by simp [AV.okL, AV.ok]) ?_
  by_cases h0a : 48 ≤ c
  · have g0a : decide (c ≥ 48) = true := by simp; omega
    by_cases h0b : c ≤ 57
    · have g0b : decide (c ≤ 57) = true := by simp; omega
      have s1 : IntKind.u8.wrap (c - 48) = c - 48 := by rw [IntKind.wrap_u8]; omega
      have s2 : IntKind.i64.wrap (c - 48) = c - 48 := by rw [IntKind.wrap_i64]; omega
      have hv : valOf c = c - 48 := by unfold valOf; rw [if_pos ⟨by omega, by omega⟩]
      rw [hv]
      refine wpK_end (n := 400) (m := 0) (nx := 0) (hs := [(5, .eq (.val (.bool true))), (8, .eq (.val (.bool true))), (11, .eq (.val (.int .u8 (c - 48)))), (12, .eq (.val (.int .i64 (c - 48))))]) (v := .val (.int .i64 (c - 48))) follows (And.intro (congrArg Value.bool g0a) (And.intro (congrArg Value.bool g0b) (And.intro (congrArg (Value.int .u8) s1) (congrArg (Value.int .i64) s2)))) (by kernel_rfl) ?_
      intro ρ w' hf; exact ⟨rfl, hf.to_below⟩
    · have g0b : decide (c ≤ 57) = false := by simp; omega
      by_cases h1a : 97 ≤ c
      · have g1a : decide (c ≥ 97) = true := by simp; omega
        by_cases h1b : c ≤ 102
        · have g1b : decide (c ≤ 102) = true := by simp; omega
          have s1 : IntKind.u8.wrap (c - 97) = c - 97 := by rw [IntKind.wrap_u8]; omega
          have s2 : IntKind.i64.wrap (c - 97) = c - 97 := by rw [IntKind.wrap_i64]; omega
          have hv : valOf c = c - 87 := by unfold valOf; rw [if_neg (by omega), if_pos ⟨by omega, by omega⟩]
          have s3 : IntKind.i64.wrap (c - 97 + 10) = c - 87 := by rw [IntKind.wrap_i64]; omega
          rw [hv]
          refine wpK_end (n := 400) (m := 0) (nx := 0) (hs := [(5, .eq (.val (.bool true))), (8, .eq (.val (.bool false))), (15, .eq (.val (.bool true))), (18, .eq (.val (.bool true))), (21, .eq (.val (.int .u8 (c - 97)))), (22, .eq (.val (.int .i64 (c - 97)))), (23, .eq (.val (.int .i64 (c - 87))))]) (v := .val (.int .i64 (c - 87))) follows (And.intro (congrArg Value.bool g0a) (And.intro (congrArg Value.bool g0b) (And.intro (congrArg Value.bool g1a) (And.intro (congrArg Value.bool g1b) (And.intro (congrArg (Value.int .u8) s1) (And.intro (congrArg (Value.int .i64) s2) (congrArg (Value.int .i64) s3))))))) (by kernel_rfl) ?_
          intro ρ w' hf; exact ⟨rfl, hf.to_below⟩
        · have g1b : decide (c ≤ 102) = false := by simp; omega
          by_cases h2a : 65 ≤ c
          · have g2a : decide (c ≥ 65) = true := by simp; omega
            by_cases h2b : c ≤ 70
            · have g2b : decide (c ≤ 70) = true := by simp; omega
              have s1 : IntKind.u8.wrap (c - 65) = c - 65 := by rw [IntKind.wrap_u8]; omega
              have s2 : IntKind.i64.wrap (c - 65) = c - 65 := by rw [IntKind.wrap_i64]; omega
              have hv : valOf c = c - 55 := by unfold valOf; rw [if_neg (by omega), if_neg (by omega), if_pos ⟨by omega, by omega⟩]
              have s3 : IntKind.i64.wrap (c - 65 + 10) = c - 55 := by rw [IntKind.wrap_i64]; omega
              rw [hv]
              refine wpK_end (n := 400) (m := 0) (nx := 0) (hs := [(5, .eq (.val (.bool true))), (8, .eq (.val (.bool false))), (15, .eq (.val (.bool true))), (18, .eq (.val (.bool false))), (26, .eq (.val (.bool true))), (29, .eq (.val (.bool true))), (32, .eq (.val (.int .u8 (c - 65)))), (33, .eq (.val (.int .i64 (c - 65)))), (34, .eq (.val (.int .i64 (c - 55))))]) (v := .val (.int .i64 (c - 55))) follows (And.intro (congrArg Value.bool g0a) (And.intro (congrArg Value.bool g0b) (And.intro (congrArg Value.bool g1a) (And.intro (congrArg Value.bool g1b) (And.intro (congrArg Value.bool g2a) (And.intro (congrArg Value.bool g2b) (And.intro (congrArg (Value.int .u8) s1) (And.intro (congrArg (Value.int .i64) s2) (congrArg (Value.int .i64) s3))))))))) (by kernel_rfl) ?_
              intro ρ w' hf; exact ⟨rfl, hf.to_below⟩
            · have g2b : decide (c ≤ 70) = false := by simp; omega
              have hv : valOf c = -1 := by unfold valOf; rw [if_neg (by omega), if_neg (by omega), if_neg (by omega)]
              rw [hv]
              refine wpK_end (n := 400) (m := 0) (nx := 0) (hs := [(5, .eq (.val (.bool true))), (8, .eq (.val (.bool false))), (15, .eq (.val (.bool true))), (18, .eq (.val (.bool false))), (26, .eq (.val (.bool true))), (29, .eq (.val (.bool false)))]) (v := .val (.int .i64 (-1))) follows (And.intro (congrArg Value.bool g0a) (And.intro (congrArg Value.bool g0b) (And.intro (congrArg Value.bool g1a) (And.intro (congrArg Value.bool g1b) (And.intro (congrArg Value.bool g2a) (congrArg Value.bool g2b)))))) (by kernel_rfl) ?_
              intro ρ w' hf; exact ⟨rfl, hf.to_below⟩
          · have g2a : decide (c ≥ 65) = false := by simp; omega
            have hv : valOf c = -1 := by unfold valOf; rw [if_neg (by omega), if_neg (by omega), if_neg (by omega)]
            rw [hv]
            refine wpK_end (n := 400) (m := 0) (nx := 0) (hs := [(5, .eq (.val (.bool true))), (8, .eq (.val (.bool false))), (15, .eq (.val (.bool true))), (18, .eq (.val (.bool false))), (26, .eq (.val (.bool false)))]) (v := .val (.int .i64 (-1))) follows (And.intro (congrArg Value.bool g0a) (And.intro (congrArg Value.bool g0b) (And.intro (congrArg Value.bool g1a) (And.intro (congrArg Value.bool g1b) (congrArg Value.bool g2a))))) (by kernel_rfl) ?_
            intro ρ w' hf; exact ⟨rfl, hf.to_below⟩
      · have g1a : decide (c ≥ 97) = false := by simp; omega
        by_cases h2a : 65 ≤ c
        · have g2a : decide (c ≥ 65) = true := by simp; omega
          by_cases h2b : c ≤ 70
          · have g2b : decide (c ≤ 70) = true := by simp; omega
            have s1 : IntKind.u8.wrap (c - 65) = c - 65 := by rw [IntKind.wrap_u8]; omega
            have s2 : IntKind.i64.wrap (c - 65) = c - 65 := by rw [IntKind.wrap_i64]; omega
            have hv : valOf c = c - 55 := by unfold valOf; rw [if_neg (by omega), if_neg (by omega), if_pos ⟨by omega, by omega⟩]
            have s3 : IntKind.i64.wrap (c - 65 + 10) = c - 55 := by rw [IntKind.wrap_i64]; omega
            rw [hv]
            refine wpK_end (n := 400) (m := 0) (nx := 0) (hs := [(5, .eq (.val (.bool true))), (8, .eq (.val (.bool false))), (15, .eq (.val (.bool false))), (26, .eq (.val (.bool true))), (29, .eq (.val (.bool true))), (32, .eq (.val (.int .u8 (c - 65)))), (33, .eq (.val (.int .i64 (c - 65)))), (34, .eq (.val (.int .i64 (c - 55))))]) (v := .val (.int .i64 (c - 55))) follows (And.intro (congrArg Value.bool g0a) (And.intro (congrArg Value.bool g0b) (And.intro (congrArg Value.bool g1a) (And.intro (congrArg Value.bool g2a) (And.intro (congrArg Value.bool g2b) (And.intro (congrArg (Value.int .u8) s1) (And.intro (congrArg (Value.int .i64) s2) (congrArg (Value.int .i64) s3)))))))) (by kernel_rfl) ?_
            intro ρ w' hf; exact ⟨rfl, hf.to_below⟩
          · have g2b : decide (c ≤ 70) = false := by simp; omega
            have hv : valOf c = -1 := by unfold valOf; rw [if_neg (by omega), if_neg (by omega), if_neg (by omega)]
            rw [hv]
            refine wpK_end (n := 400) (m := 0) (nx := 0) (hs := [(5, .eq (.val (.bool true))), (8, .eq (.val (.bool false))), (15, .eq (.val (.bool false))), (26, .eq (.val (.bool true))), (29, .eq (.val (.bool false)))]) (v := .val (.int .i64 (-1))) follows (And.intro (congrArg Value.bool g0a) (And.intro (congrArg Value.bool g0b) (And.intro (congrArg Value.bool g1a) (And.intro (congrArg Value.bool g2a) (congrArg Value.bool g2b))))) (by kernel_rfl) ?_
            intro ρ w' hf; exact ⟨rfl, hf.to_below⟩
        · have g2a : decide (c ≥ 65) = false := by simp; omega
          have hv : valOf c = -1 := by unfold valOf; rw [if_neg (by omega), if_neg (by omega), if_neg (by omega)]
          rw [hv]
          refine wpK_end (n := 400) (m := 0) (nx := 0) (hs := [(5, .eq (.val (.bool true))), (8, .eq (.val (.bool false))), (15, .eq (.val (.bool false))), (26, .eq (.val (.bool false)))]) (v := .val (.int .i64 (-1))) follows (And.intro (congrArg Value.bool g0a) (And.intro (congrArg Value.bool g0b) (And.intro (congrArg Value.bool g1a) (congrArg Value.bool g2a)))) (by kernel_rfl) ?_
          intro ρ w' hf; exact ⟨rfl, hf.to_below⟩
  · have g0a : decide (c ≥ 48) = false := by simp; omega
    by_cases h1a : 97 ≤ c
    · have g1a : decide (c ≥ 97) = true := by simp; omega
      by_cases h1b : c ≤ 102
      · have g1b : decide (c ≤ 102) = true := by simp; omega
        have s1 : IntKind.u8.wrap (c - 97) = c - 97 := by rw [IntKind.wrap_u8]; omega
        have s2 : IntKind.i64.wrap (c - 97) = c - 97 := by rw [IntKind.wrap_i64]; omega
        have hv : valOf c = c - 87 := by unfold valOf; rw [if_neg (by omega), if_pos ⟨by omega, by omega⟩]
        have s3 : IntKind.i64.wrap (c - 97 + 10) = c - 87 := by rw [IntKind.wrap_i64]; omega
        rw [hv]
        refine wpK_end (n := 400) (m := 0) (nx := 0) (hs := [(5, .eq (.val (.bool false))), (15, .eq (.val (.bool true))), (18, .eq (.val (.bool true))), (21, .eq (.val (.int .u8 (c - 97)))), (22, .eq (.val (.int .i64 (c - 97)))), (23, .eq (.val (.int .i64 (c - 87))))]) (v := .val (.int .i64 (c - 87))) follows (And.intro (congrArg Value.bool g0a) (And.intro (congrArg Value.bool g1a) (And.intro (congrArg Value.bool g1b) (And.intro (congrArg (Value.int .u8) s1) (And.intro (congrArg (Value.int .i64) s2) (congrArg (Value.int .i64) s3)))))) (by kernel_rfl) ?_
        intro ρ w' hf; exact ⟨rfl, hf.to_below⟩
      · have g1b : decide (c ≤ 102) = false := by simp; omega
        by_cases h2a : 65 ≤ c
        · have g2a : decide (c ≥ 65) = true := by simp; omega
          by_cases h2b : c ≤ 70
          · have g2b : decide (c ≤ 70) = true := by simp; omega
            have s1 : IntKind.u8.wrap (c - 65) = c - 65 := by rw [IntKind.wrap_u8]; omega
            have s2 : IntKind.i64.wrap (c - 65) = c - 65 := by rw [IntKind.wrap_i64]; omega
            have hv : valOf c = c - 55 := by unfold valOf; rw [if_neg (by omega), if_neg (by omega), if_pos ⟨by omega, by omega⟩]
            have s3 : IntKind.i64.wrap (c - 65 + 10) = c - 55 := by rw [IntKind.wrap_i64]; omega
            rw [hv]
            refine wpK_end (n := 400) (m := 0) (nx := 0) (hs := [(5, .eq (.val (.bool false))), (15, .eq (.val (.bool true))), (18, .eq (.val (.bool false))), (26, .eq (.val (.bool true))), (29, .eq (.val (.bool true))), (32, .eq (.val (.int .u8 (c - 65)))), (33, .eq (.val (.int .i64 (c - 65)))), (34, .eq (.val (.int .i64 (c - 55))))]) (v := .val (.int .i64 (c - 55))) follows (And.intro (congrArg Value.bool g0a) (And.intro (congrArg Value.bool g1a) (And.intro (congrArg Value.bool g1b) (And.intro (congrArg Value.bool g2a) (And.intro (congrArg Value.bool g2b) (And.intro (congrArg (Value.int .u8) s1) (And.intro (congrArg (Value.int .i64) s2) (congrArg (Value.int .i64) s3)))))))) (by kernel_rfl) ?_
            intro ρ w' hf; exact ⟨rfl, hf.to_below⟩
          · have g2b : decide (c ≤ 70) = false := by simp; omega
            have hv : valOf c = -1 := by unfold valOf; rw [if_neg (by omega), if_neg (by omega), if_neg (by omega)]
            rw [hv]
            refine wpK_end (n := 400) (m := 0) (nx := 0) (hs := [(5, .eq (.val (.bool false))), (15, .eq (.val (.bool true))), (18, .eq (.val (.bool false))), (26, .eq (.val (.bool true))), (29, .eq (.val (.bool false)))]) (v := .val (.int .i64 (-1))) follows (And.intro (congrArg Value.bool g0a) (And.intro (congrArg Value.bool g1a) (And.intro (congrArg Value.bool g1b) (And.intro (congrArg Value.bool g2a) (congrArg Value.bool g2b))))) (by kernel_rfl) ?_
            intro ρ w' hf; exact ⟨rfl, hf.to_below⟩
        · have g2a : decide (c ≥ 65) = false := by simp; omega
          have hv : valOf c = -1 := by unfold valOf; rw [if_neg (by omega), if_neg (by omega), if_neg (by omega)]
          rw [hv]
          refine wpK_end (n := 400) (m := 0) (nx := 0) (hs := [(5, .eq (.val (.bool false))), (15, .eq (.val (.bool true))), (18, .eq (.val (.bool false))), (26, .eq (.val (.bool false)))]) (v := .val (.int .i64 (-1))) follows (And.intro (congrArg Value.bool g0a) (And.intro (congrArg Value.bool g1a) (And.intro (congrArg Value.bool g1b) (congrArg Value.bool g2a)))) (by kernel_rfl) ?_
          intro ρ w' hf; exact ⟨rfl, hf.to_below⟩
    · have g1a : decide (c ≥ 97) = false := by simp; omega
      by_cases h2a : 65 ≤ c
      · have g2a : decide (c ≥ 65) = true := by simp; omega
        by_cases h2b : c ≤ 70
        · have g2b : decide (c ≤ 70) = true := by simp; omega
          have s1 : IntKind.u8.wrap (c - 65) = c - 65 := by rw [IntKind.wrap_u8]; omega
          have s2 : IntKind.i64.wrap (c - 65) = c - 65 := by rw [IntKind.wrap_i64]; omega
          have hv : valOf c = c - 55 := by unfold valOf; rw [if_neg (by omega), if_neg (by omega), if_pos ⟨by omega, by omega⟩]
          have s3 : IntKind.i64.wrap (c - 65 + 10) = c - 55 := by rw [IntKind.wrap_i64]; omega
          rw [hv]
          refine wpK_end (n := 400) (m := 0) (nx := 0) (hs := [(5, .eq (.val (.bool false))), (15, .eq (.val (.bool false))), (26, .eq (.val (.bool true))), (29, .eq (.val (.bool true))), (32, .eq (.val (.int .u8 (c - 65)))), (33, .eq (.val (.int .i64 (c - 65)))), (34, .eq (.val (.int .i64 (c - 55))))]) (v := .val (.int .i64 (c - 55))) follows (And.intro (congrArg Value.bool g0a) (And.intro (congrArg Value.bool g1a) (And.intro (congrArg Value.bool g2a) (And.intro (congrArg Value.bool g2b) (And.intro (congrArg (Value.int .u8) s1) (And.intro (congrArg (Value.int .i64) s2) (congrArg (Value.int .i64) s3))))))) (by kernel_rfl) ?_
          intro ρ w' hf; exact ⟨rfl, hf.to_below⟩
        · have g2b : decide (c ≤ 70) = false := by simp; omega
          have hv : valOf c = -1 := by unfold valOf; rw [if_neg (by omega), if_neg (by omega), if_neg (by omega)]
          rw [hv]
          refine wpK_end (n := 400) (m := 0) (nx := 0) (hs := [(5, .eq (.val (.bool false))), (15, .eq (.val (.bool false))), (26, .eq (.val (.bool true))), (29, .eq (.val (.bool false)))]) (v := .val (.int .i64 (-1))) follows (And.intro (congrArg Value.bool g0a) (And.intro (congrArg Value.bool g1a) (And.intro (congrArg Value.bool g2a) (congrArg Value.bool g2b)))) (by kernel_rfl) ?_
          intro ρ w' hf; exact ⟨rfl, hf.to_below⟩
      · have g2a : decide (c ≥ 65) = false := by simp; omega
        have hv : valOf c = -1 := by unfold valOf; rw [if_neg (by omega), if_neg (by omega), if_neg (by omega)]
        rw [hv]
        refine wpK_end (n := 400) (m := 0) (nx := 0) (hs := [(5, .eq (.val (.bool false))), (15, .eq (.val (.bool false))), (26, .eq (.val (.bool false)))]) (v := .val (.int .i64 (-1))) follows (And.intro (congrArg Value.bool g0a) (And.intro (congrArg Value.bool g1a) (congrArg Value.bool g2a))) (by kernel_rfl) ?_
        intro ρ w' hf; exact ⟨rfl, hf.to_below⟩
set_option maxHeartbeats 1000000 in
theorem rvalue_c (c : Int) (hc : 0 ≤ c ∧ c < 256) (w : World) : Calls Tryd.prog 60 #[.int .u8 c] w fun e w' => e = .returned (.int .i64 (valOf c)) ∧ Below w.heap.size w w' := by
  refine calls_vm [.val (.int .u8 c)] (fn := Tryd.f60) Tryd.func60 (by kernel_rfl) (by kernel_rfl) (by kernel_rfl) (by simp [AV.okL, AV.ok]) ?_
  by_cases h0a : 48 ≤ c
  · have g0a : decide (c ≥ 48) = true := by simp; omega
    by_cases h0b : c ≤ 57
    · have g0b : decide (c ≤ 57) = true := by simp; omega
      have s1 : IntKind.u8.wrap (c - 48) = c - 48 := by rw [IntKind.wrap_u8]; omega
      have s2 : IntKind.i64.wrap (c - 48) = c - 48 := by rw [IntKind.wrap_i64]; omega
      have hv : valOf c = c - 48 := by unfold valOf; rw [if_pos ⟨by omega, by omega⟩]
      rw [hv]
      refine wpK_end (n := 400) (m := 0) (nx := 0) (hs := [(4, .eq (.val (.bool true))), (7, .eq (.val (.bool true))), (10, .eq (.val (.int .u8 (c - 48)))), (11, .eq (.val (.int .i64 (c - 48))))]) (v := .val (.int .i64 (c - 48))) follows (And.intro (congrArg Value.bool g0a) (And.intro (congrArg Value.bool g0b) (And.intro (congrArg (Value.int .u8) s1) (congrArg (Value.int .i64) s2)))) (by kernel_rfl) ?_
      intro ρ w' hf; exact ⟨rfl, hf.to_below⟩
    · have g0b : decide (c ≤ 57) = false := by simp; omega
      by_cases h1a : 97 ≤ c
      · have g1a : decide (c ≥ 97) = true := by simp; omega
        by_cases h1b : c ≤ 102
        · have g1b : decide (c ≤ 102) = true := by simp; omega
          have s1 : IntKind.u8.wrap (c - 97) = c - 97 := by rw [IntKind.wrap_u8]; omega
          have s2 : IntKind.i64.wrap (c - 97) = c - 97 := by rw [IntKind.wrap_i64]; omega
          have hv : valOf c = c - 87 := by unfold valOf; rw [if_neg (by omega), if_pos ⟨by omega, by omega⟩]
          have s3 : IntKind.i64.wrap (c - 97 + 10) = c - 87 := by rw [IntKind.wrap_i64]; omega
          rw [hv]
          refine wpK_end (n := 400) (m := 0) (nx := 0) (hs := [(4, .eq (.val (.bool true))), (7, .eq (.val (.bool false))), (13, .eq (.val (.bool true))), (16, .eq (.val (.bool true))), (19, .eq (.val (.int .u8 (c - 97)))), (20, .eq (.val (.int .i64 (c - 97)))), (21, .eq (.val (.int .i64 (c - 87))))]) (v := .val (.int .i64 (c - 87))) follows (And.intro (congrArg Value.bool g0a) (And.intro (congrArg Value.bool g0b) (And.intro (congrArg Value.bool g1a) (And.intro (congrArg Value.bool g1b) (And.intro (congrArg (Value.int .u8) s1) (And.intro (congrArg (Value.int .i64) s2) (congrArg (Value.int .i64) s3))))))) (by kernel_rfl) ?_
          intro ρ w' hf; exact ⟨rfl, hf.to_below⟩
        · have g1b : decide (c ≤ 102) = false := by simp; omega
          by_cases h2a : 65 ≤ c
          · have g2a : decide (c ≥ 65) = true := by simp; omega
            by_cases h2b : c ≤ 70
            · have g2b : decide (c ≤ 70) = true := by simp; omega
              have s1 : IntKind.u8.wrap (c - 65) = c - 65 := by rw [IntKind.wrap_u8]; omega
              have s2 : IntKind.i64.wrap (c - 65) = c - 65 := by rw [IntKind.wrap_i64]; omega
              have hv : valOf c = c - 55 := by unfold valOf; rw [if_neg (by omega), if_neg (by omega), if_pos ⟨by omega, by omega⟩]
              have s3 : IntKind.i64.wrap (c - 65 + 10) = c - 55 := by rw [IntKind.wrap_i64]; omega
              rw [hv]
              refine wpK_end (n := 400) (m := 0) (nx := 0) (hs := [(4, .eq (.val (.bool true))), (7, .eq (.val (.bool false))), (13, .eq (.val (.bool true))), (16, .eq (.val (.bool false))), (23, .eq (.val (.bool true))), (26, .eq (.val (.bool true))), (29, .eq (.val (.int .u8 (c - 65)))), (30, .eq (.val (.int .i64 (c - 65)))), (31, .eq (.val (.int .i64 (c - 55))))]) (v := .val (.int .i64 (c - 55))) follows (And.intro (congrArg Value.bool g0a) (And.intro (congrArg Value.bool g0b) (And.intro (congrArg Value.bool g1a) (And.intro (congrArg Value.bool g1b) (And.intro (congrArg Value.bool g2a) (And.intro (congrArg Value.bool g2b) (And.intro (congrArg (Value.int .u8) s1) (And.intro (congrArg (Value.int .i64) s2) (congrArg (Value.int .i64) s3))))))))) (by kernel_rfl) ?_
              intro ρ w' hf; exact ⟨rfl, hf.to_below⟩
            · have g2b : decide (c ≤ 70) = false := by simp; omega
              have hv : valOf c = -1 := by unfold valOf; rw [if_neg (by omega), if_neg (by omega), if_neg (by omega)]
              rw [hv]
              refine wpK_end (n := 400) (m := 0) (nx := 0) (hs := [(4, .eq (.val (.bool true))), (7, .eq (.val (.bool false))), (13, .eq (.val (.bool true))), (16, .eq (.val (.bool false))), (23, .eq (.val (.bool true))), (26, .eq (.val (.bool false)))]) (v := .val (.int .i64 (-1))) follows (And.intro (congrArg Value.bool g0a) (And.intro (congrArg Value.bool g0b) (And.intro (congrArg Value.bool g1a) (And.intro (congrArg Value.bool g1b) (And.intro (congrArg Value.bool g2a) (congrArg Value.bool g2b)))))) (by kernel_rfl) ?_
              intro ρ w' hf; exact ⟨rfl, hf.to_below⟩
          · have g2a : decide (c ≥ 65) = false := by simp; omega
            have hv : valOf c = -1 := by unfold valOf; rw [if_neg (by omega), if_neg (by omega), if_neg (by omega)]
            rw [hv]
            refine wpK_end (n := 400) (m := 0) (nx := 0) (hs := [(4, .eq (.val (.bool true))), (7, .eq (.val (.bool false))), (13, .eq (.val (.bool true))), (16, .eq (.val (.bool false))), (23, .eq (.val (.bool false)))]) (v := .val (.int .i64 (-1))) follows (And.intro (congrArg Value.bool g0a) (And.intro (congrArg Value.bool g0b) (And.intro (congrArg Value.bool g1a) (And.intro (congrArg Value.bool g1b) (congrArg Value.bool g2a))))) (by kernel_rfl) ?_
            intro ρ w' hf; exact ⟨rfl, hf.to_below⟩
      · have g1a : decide (c ≥ 97) = false := by simp; omega
        by_cases h2a : 65 ≤ c
        · have g2a : decide (c ≥ 65) = true := by simp; omega
          by_cases h2b : c ≤ 70
          · have g2b : decide (c ≤ 70) = true := by simp; omega
            have s1 : IntKind.u8.wrap (c - 65) = c - 65 := by rw [IntKind.wrap_u8]; omega
            have s2 : IntKind.i64.wrap (c - 65) = c - 65 := by rw [IntKind.wrap_i64]; omega
            have hv : valOf c = c - 55 := by unfold valOf; rw [if_neg (by omega), if_neg (by omega), if_pos ⟨by omega, by omega⟩]
            have s3 : IntKind.i64.wrap (c - 65 + 10) = c - 55 := by rw [IntKind.wrap_i64]; omega
            rw [hv]
            refine wpK_end (n := 400) (m := 0) (nx := 0) (hs := [(4, .eq (.val (.bool true))), (7, .eq (.val (.bool false))), (13, .eq (.val (.bool false))), (23, .eq (.val (.bool true))), (26, .eq (.val (.bool true))), (29, .eq (.val (.int .u8 (c - 65)))), (30, .eq (.val (.int .i64 (c - 65)))), (31, .eq (.val (.int .i64 (c - 55))))]) (v := .val (.int .i64 (c - 55))) follows (And.intro (congrArg Value.bool g0a) (And.intro (congrArg Value.bool g0b) (And.intro (congrArg Value.bool g1a) (And.intro (congrArg Value.bool g2a) (And.intro (congrArg Value.bool g2b) (And.intro (congrArg (Value.int .u8) s1) (And.intro (congrArg (Value.int .i64) s2) (congrArg (Value.int .i64) s3)))))))) (by kernel_rfl) ?_
            intro ρ w' hf; exact ⟨rfl, hf.to_below⟩
          · have g2b : decide (c ≤ 70) = false := by simp; omega
            have hv : valOf c = -1 := by unfold valOf; rw [if_neg (by omega), if_neg (by omega), if_neg (by omega)]
            rw [hv]
            refine wpK_end (n := 400) (m := 0) (nx := 0) (hs := [(4, .eq (.val (.bool true))), (7, .eq (.val (.bool false))), (13, .eq (.val (.bool false))), (23, .eq (.val (.bool true))), (26, .eq (.val (.bool false)))]) (v := .val (.int .i64 (-1))) follows (And.intro (congrArg Value.bool g0a) (And.intro (congrArg Value.bool g0b) (And.intro (congrArg Value.bool g1a) (And.intro (congrArg Value.bool g2a) (congrArg Value.bool g2b))))) (by kernel_rfl) ?_
            intro ρ w' hf; exact ⟨rfl, hf.to_below⟩
        · have g2a : decide (c ≥ 65) = false := by simp; omega
          have hv : valOf c = -1 := by unfold valOf; rw [if_neg (by omega), if_neg (by omega), if_neg (by omega)]
          rw [hv]
          refine wpK_end (n := 400) (m := 0) (nx := 0) (hs := [(4, .eq (.val (.bool true))), (7, .eq (.val (.bool false))), (13, .eq (.val (.bool false))), (23, .eq (.val (.bool false)))]) (v := .val (.int .i64 (-1))) follows (And.intro (congrArg Value.bool g0a) (And.intro (congrArg Value.bool g0b) (And.intro (congrArg Value.bool g1a) (congrArg Value.bool g2a)))) (by kernel_rfl) ?_
          intro ρ w' hf; exact ⟨rfl, hf.to_below⟩
  · have g0a : decide (c ≥ 48) = false := by simp; omega
    by_cases h1a : 97 ≤ c
    · have g1a : decide (c ≥ 97) = true := by simp; omega
      by_cases h1b : c ≤ 102
      · have g1b : decide (c ≤ 102) = true := by simp; omega
        have s1 : IntKind.u8.wrap (c - 97) = c - 97 := by rw [IntKind.wrap_u8]; omega
        have s2 : IntKind.i64.wrap (c - 97) = c - 97 := by rw [IntKind.wrap_i64]; omega
        have hv : valOf c = c - 87 := by unfold valOf; rw [if_neg (by omega), if_pos ⟨by omega, by omega⟩]
        have s3 : IntKind.i64.wrap (c - 97 + 10) = c - 87 := by rw [IntKind.wrap_i64]; omega
        rw [hv]
        refine wpK_end (n := 400) (m := 0) (nx := 0) (hs := [(4, .eq (.val (.bool false))), (13, .eq (.val (.bool true))), (16, .eq (.val (.bool true))), (19, .eq (.val (.int .u8 (c - 97)))), (20, .eq (.val (.int .i64 (c - 97)))), (21, .eq (.val (.int .i64 (c - 87))))]) (v := .val (.int .i64 (c - 87))) follows (And.intro (congrArg Value.bool g0a) (And.intro (congrArg Value.bool g1a) (And.intro (congrArg Value.bool g1b) (And.intro (congrArg (Value.int .u8) s1) (And.intro (congrArg (Value.int .i64) s2) (congrArg (Value.int .i64) s3)))))) (by kernel_rfl) ?_
        intro ρ w' hf; exact ⟨rfl, hf.to_below⟩
      · have g1b : decide (c ≤ 102) = false := by simp; omega
        by_cases h2a : 65 ≤ c
        · have g2a : decide (c ≥ 65) = true := by simp; omega
          by_cases h2b : c ≤ 70
          · have g2b : decide (c ≤ 70) = true := by simp; omega
            have s1 : IntKind.u8.wrap (c - 65) = c - 65 := by rw [IntKind.wrap_u8]; omega
            have s2 : IntKind.i64.wrap (c - 65) = c - 65 := by rw [IntKind.wrap_i64]; omega
            have hv : valOf c = c - 55 := by unfold valOf; rw [if_neg (by omega), if_neg (by omega), if_pos ⟨by omega, by omega⟩]
            have s3 : IntKind.i64.wrap (c - 65 + 10) = c - 55 := by rw [IntKind.wrap_i64]; omega
            rw [hv]
            refine wpK_end (n := 400) (m := 0) (nx := 0) (hs := [(4, .eq (.val (.bool false))), (13, .eq (.val (.bool true))), (16, .eq (.val (.bool false))), (23, .eq (.val (.bool true))), (26, .eq (.val (.bool true))), (29, .eq (.val (.int .u8 (c - 65)))), (30, .eq (.val (.int .i64 (c - 65)))), (31, .eq (.val (.int .i64 (c - 55))))]) (v := .val (.int .i64 (c - 55))) follows (And.intro (congrArg Value.bool g0a) (And.intro (congrArg Value.bool g1a) (And.intro (congrArg Value.bool g1b) (And.intro (congrArg Value.bool g2a) (And.intro (congrArg Value.bool g2b) (And.intro (congrArg (Value.int .u8) s1) (And.intro (congrArg (Value.int .i64) s2) (congrArg (Value.int .i64) s3)))))))) (by kernel_rfl) ?_
            intro ρ w' hf; exact ⟨rfl, hf.to_below⟩
          · have g2b : decide (c ≤ 70) = false := by simp; omega
            have hv : valOf c = -1 := by unfold valOf; rw [if_neg (by omega), if_neg (by omega), if_neg (by omega)]
            rw [hv]
            refine wpK_end (n := 400) (m := 0) (nx := 0) (hs := [(4, .eq (.val (.bool false))), (13, .eq (.val (.bool true))), (16, .eq (.val (.bool false))), (23, .eq (.val (.bool true))), (26, .eq (.val (.bool false)))]) (v := .val (.int .i64 (-1))) follows (And.intro (congrArg Value.bool g0a) (And.intro (congrArg Value.bool g1a) (And.intro (congrArg Value.bool g1b) (And.intro (congrArg Value.bool g2a) (congrArg Value.bool g2b))))) (by kernel_rfl) ?_
            intro ρ w' hf; exact ⟨rfl, hf.to_below⟩
        · have g2a : decide (c ≥ 65) = false := by simp; omega
          have hv : valOf c = -1 := by unfold valOf; rw [if_neg (by omega), if_neg (by omega), if_neg (by omega)]
          rw [hv]
          refine wpK_end (n := 400) (m := 0) (nx := 0) (hs := [(4, .eq (.val (.bool false))), (13, .eq (.val (.bool true))), (16, .eq (.val (.bool false))), (23, .eq (.val (.bool false)))]) (v := .val (.int .i64 (-1))) follows (And.intro (congrArg Value.bool g0a) (And.intro (congrArg Value.bool g1a) (And.intro (congrArg Value.bool g1b) (congrArg Value.bool g2a)))) (by kernel_rfl) ?_
          intro ρ w' hf; exact ⟨rfl, hf.to_below⟩
    · have g1a : decide (c ≥ 97) = false := by simp; omega
      by_cases h2a : 65 ≤ c
      · have g2a : decide (c ≥ 65) = true := by simp; omega
        by_cases h2b : c ≤ 70
        · have g2b : decide (c ≤ 70) = true := by simp; omega
          have s1 : IntKind.u8.wrap (c - 65) = c - 65 := by rw [IntKind.wrap_u8]; omega
          have s2 : IntKind.i64.wrap (c - 65) = c - 65 := by rw [IntKind.wrap_i64]; omega
          have hv : valOf c = c - 55 := by unfold valOf; rw [if_neg (by omega), if_neg (by omega), if_pos ⟨by omega, by omega⟩]
          have s3 : IntKind.i64.wrap (c - 65 + 10) = c - 55 := by rw [IntKind.wrap_i64]; omega
          rw [hv]
          refine wpK_end (n := 400) (m := 0) (nx := 0) (hs := [(4, .eq (.val (.bool false))), (13, .eq (.val (.bool false))), (23, .eq (.val (.bool true))), (26, .eq (.val (.bool true))), (29, .eq (.val (.int .u8 (c - 65)))), (30, .eq (.val (.int .i64 (c - 65)))), (31, .eq (.val (.int .i64 (c - 55))))]) (v := .val (.int .i64 (c - 55))) follows (And.intro (congrArg Value.bool g0a) (And.intro (congrArg Value.bool g1a) (And.intro (congrArg Value.bool g2a) (And.intro (congrArg Value.bool g2b) (And.intro (congrArg (Value.int .u8) s1) (And.intro (congrArg (Value.int .i64) s2) (congrArg (Value.int .i64) s3))))))) (by kernel_rfl) ?_
          intro ρ w' hf; exact ⟨rfl, hf.to_below⟩
        · have g2b : decide (c ≤ 70) = false := by simp; omega
          have hv : valOf c = -1 := by unfold valOf; rw [if_neg (by omega), if_neg (by omega), if_neg (by omega)]
          rw [hv]
          refine wpK_end (n := 400) (m := 0) (nx := 0) (hs := [(4, .eq (.val (.bool false))), (13, .eq (.val (.bool false))), (23, .eq (.val (.bool true))), (26, .eq (.val (.bool false)))]) (v := .val (.int .i64 (-1))) follows (And.intro (congrArg Value.bool g0a) (And.intro (congrArg Value.bool g1a) (And.intro (congrArg Value.bool g2a) (congrArg Value.bool g2b)))) (by kernel_rfl) ?_
          intro ρ w' hf; exact ⟨rfl, hf.to_below⟩
      · have g2a : decide (c ≥ 65) = false := by simp; omega
        have hv : valOf c = -1 := by unfold valOf; rw [if_neg (by omega), if_neg (by omega), if_neg (by omega)]
        rw [hv]
        refine wpK_end (n := 400) (m := 0) (nx := 0) (hs := [(4, .eq (.val (.bool false))), (13, .eq (.val (.bool false))), (23, .eq (.val (.bool false)))]) (v := .val (.int .i64 (-1))) follows (And.intro (congrArg Value.bool g0a) (And.intro (congrArg Value.bool g1a) (congrArg Value.bool g2a))) (by kernel_rfl) ?_
        intro ρ w' hf; exact ⟨rfl, hf.to_below⟩
end Go.Proofs.YtkanjdllaikoaaaDoor

