/- Keccak: turns, tables. -/
import Derived.Test.YtkanjdllaikoaaaDoorKSpec
set_option linter.unusedSimpArgs false
set_option linter.unusedVariables false
namespace Go.Proofs.YtkanjdllaikoaaaDoor
open Go Go.RowKit

theorem and63 (k : Nat) (h : k < 64) : IntKind.u64.wrap ((BitVec.ofInt IntKind.u64.bits (k : Int) &&& BitVec.ofInt IntKind.u64.bits 63).toNat : Int) = (k : Int) := by
  have : ∀ k : Nat, k < 64 → IntKind.u64.wrap ((BitVec.ofInt IntKind.u64.bits (k : Int) &&& BitVec.ofInt IntKind.u64.bits 63).toNat : Int) = (k : Int) := by decide
  exact this k h
theorem k_shl' (a : B64) (n : Nat) (h : n < 64) : IntKind.u64.wrap (bv a * 2 ^ min (Int.toNat (n : Int)) IntKind.u64.bits) = bv (a <<< n) := by
  have e : min (Int.toNat (n : Int)) IntKind.u64.bits = n := by
    show min (Int.toNat (n : Int)) 64 = n
    rw [Int.toNat_natCast]; omega
  rw [e]
  have := k_shl a n (by omega)
  rw [← this]
  push_cast
  try rfl
theorem k_shr' (a : B64) (n m : Nat) (hm : m = 64 - n) (h : n < 64) : (bv a).fdiv (2 ^ min (Int.toNat (m : Int)) IntKind.u64.bits) = bv (a >>> (64 - n)) := by
  subst hm
  have e : min (Int.toNat ((64 - n : Nat) : Int)) IntKind.u64.bits = 64 - n := by
    show min (Int.toNat ((64 - n : Nat) : Int)) 64 = 64 - n
    rw [Int.toNat_natCast]; omega
  rw [e, ← k_shr a (64 - n)]
  congr 1
theorem rot_c (a : B64) (k : Nat) (h : k < 64) (w : World) : Calls Tryd.prog 100 #[.int .u64 (bv a), .int .i64 (k : Int)] w fun e w' => e = .returned (.int .u64 (bv (rot a k))) ∧ Below w.heap.size w w' := by
  have h1 : IntKind.u64.wrap (k : Int) = (k : Int) := by rw [IntKind.wrap_u64]; omega
  have h2 : IntKind.u64.wrap (64 - (k : Int)) = ((64 - k : Nat) : Int) := by rw [IntKind.wrap_u64]; omega
  refine calls_vm [.val (.int .u64 (bv a)), .val (.int .i64 (k : Int))] (fn := Tryd.f100) Tryd.func100 (by kernel_rfl) (by kernel_rfl) (by kernel_rfl) (by simp [AV.okL, AV.ok]) ?_
  refine wpK_end (n := 400) (m := 0) (nx := 0) (hs := [(7, .eq (.val (.int .u64 (k : Int)))), (8, .eq (.val (.int .u64 (k : Int)))), (11, .eq (.val (.int .u64 (bv (a <<< k))))), (14, .eq (.val (.int .u64 ((64 - k : Nat) : Int)))), (15, .eq (.val (.int .u64 (bv (a >>> (64 - k)))))), (16, .eq (.val (.int .u64 (bv (rot a k)))))]) (v := .val (.int .u64 (bv (rot a k)))) follows (And.intro (congrArg (Value.int .u64) h1) (And.intro (congrArg (Value.int .u64) (and63 k h)) (And.intro (congrArg (Value.int .u64) (k_shl' a k h)) (And.intro (congrArg (Value.int .u64) h2) (And.intro (congrArg (Value.int .u64) (k_shr' a k (64 - k) rfl h)) (congrArg (Value.int .u64) (k_or (a <<< k) (a >>> (64 - k))))))))) (by kernel_rfl) ?_
  intro ρ w' hf; exact ⟨rfl, hf.to_below⟩
abbrev turnsV : Value := .agg #[.int .i64 0, .int .i64 1, .int .i64 62, .int .i64 28, .int .i64 27, .int .i64 36, .int .i64 44, .int .i64 6, .int .i64 55, .int .i64 20, .int .i64 3, .int .i64 10, .int .i64 43, .int .i64 25, .int .i64 39, .int .i64 41, .int .i64 45, .int .i64 15, .int .i64 21, .int .i64 8, .int .i64 18, .int .i64 2, .int .i64 61, .int .i64 56, .int .i64 14]
abbrev goesV : Value := .agg #[.int .i64 0, .int .i64 10, .int .i64 20, .int .i64 5, .int .i64 15, .int .i64 16, .int .i64 1, .int .i64 11, .int .i64 21, .int .i64 6, .int .i64 7, .int .i64 17, .int .i64 2, .int .i64 12, .int .i64 22, .int .i64 23, .int .i64 8, .int .i64 18, .int .i64 3, .int .i64 13, .int .i64 14, .int .i64 24, .int .i64 9, .int .i64 19, .int .i64 4]
theorem ways_c (w : World) : Calls Tryd.prog 98 #[] w fun e w' => e = .returned (.tuple #[turnsV, goesV]) ∧ Below w.heap.size w w' := by
  refine calls_vm [] (fn := Tryd.f98) Tryd.func98 (by kernel_rfl) (by kernel_rfl) (by kernel_rfl) trivial ?_
  refine wpK_end (n := 2000) (m := 200) (nx := 0) (hs := []) (v := .tup [.agg [.cell (.val (.int .i64 0)), .cell (.val (.int .i64 1)), .cell (.val (.int .i64 62)), .cell (.val (.int .i64 28)), .cell (.val (.int .i64 27)), .cell (.val (.int .i64 36)), .cell (.val (.int .i64 44)), .cell (.val (.int .i64 6)), .cell (.val (.int .i64 55)), .cell (.val (.int .i64 20)), .cell (.val (.int .i64 3)), .cell (.val (.int .i64 10)), .cell (.val (.int .i64 43)), .cell (.val (.int .i64 25)), .cell (.val (.int .i64 39)), .cell (.val (.int .i64 41)), .cell (.val (.int .i64 45)), .cell (.val (.int .i64 15)), .cell (.val (.int .i64 21)), .cell (.val (.int .i64 8)), .cell (.val (.int .i64 18)), .cell (.val (.int .i64 2)), .cell (.val (.int .i64 61)), .cell (.val (.int .i64 56)), .cell (.val (.int .i64 14))], .agg [.cell (.val (.int .i64 0)), .cell (.val (.int .i64 10)), .cell (.val (.int .i64 20)), .cell (.val (.int .i64 5)), .cell (.val (.int .i64 15)), .cell (.val (.int .i64 16)), .cell (.val (.int .i64 1)), .cell (.val (.int .i64 11)), .cell (.val (.int .i64 21)), .cell (.val (.int .i64 6)), .cell (.val (.int .i64 7)), .cell (.val (.int .i64 17)), .cell (.val (.int .i64 2)), .cell (.val (.int .i64 12)), .cell (.val (.int .i64 22)), .cell (.val (.int .i64 23)), .cell (.val (.int .i64 8)), .cell (.val (.int .i64 18)), .cell (.val (.int .i64 3)), .cell (.val (.int .i64 13)), .cell (.val (.int .i64 14)), .cell (.val (.int .i64 24)), .cell (.val (.int .i64 9)), .cell (.val (.int .i64 19)), .cell (.val (.int .i64 4))]]) follows trivial (by kernel_rfl) ?_
  intro ρ w' hf; exact ⟨rfl, hf.to_below⟩
abbrev rcV : Value := .agg (rcI.map (Value.int .u64) ++ []).toArray
theorem numbers_c (w : World) : Calls Tryd.prog 99 #[] w fun e w' => e = .returned rcV ∧ Below w.heap.size w w' := by
  refine calls_vm [] (fn := Tryd.f99) Tryd.func99 (by kernel_rfl) (by kernel_rfl) (by kernel_rfl) trivial ?_
  refine wpK_end (n := 400) (m := 0) (nx := 0) (hs := []) (v := .agg [.cell (.val (.int .u64 1)), .cell (.val (.int .u64 32898)), .cell (.val (.int .u64 9223372036854808714)), .cell (.val (.int .u64 9223372039002292224)), .cell (.val (.int .u64 32907)), .cell (.val (.int .u64 2147483649)), .cell (.val (.int .u64 9223372039002292353)), .cell (.val (.int .u64 9223372036854808585)), .cell (.val (.int .u64 138)), .cell (.val (.int .u64 136)), .cell (.val (.int .u64 2147516425)), .cell (.val (.int .u64 2147483658)), .cell (.val (.int .u64 2147516555)), .cell (.val (.int .u64 9223372036854775947)), .cell (.val (.int .u64 9223372036854808713)), .cell (.val (.int .u64 9223372036854808579)), .cell (.val (.int .u64 9223372036854808578)), .cell (.val (.int .u64 9223372036854775936)), .cell (.val (.int .u64 32778)), .cell (.val (.int .u64 9223372039002259466)), .cell (.val (.int .u64 9223372039002292353)), .cell (.val (.int .u64 9223372036854808704)), .cell (.val (.int .u64 2147483649)), .cell (.val (.int .u64 9223372039002292232))]) follows trivial (by kernel_rfl) ?_
  intro ρ w' hf; exact ⟨rfl, hf.to_below⟩
end Go.Proofs.YtkanjdllaikoaaaDoor

