/- Lanes: 64 bits as the machine's numbers. -/
import Derived.Test.YtkanjdllaikoaaaDoorVmK
set_option linter.unusedVariables false
set_option linter.unusedSimpArgs false
namespace Go.Proofs.YtkanjdllaikoaaaDoor
open Go Go.RowKit
abbrev B64 := BitVec 64
/-- A lane as a number. -/
def bv (a : B64) : Int := (a.toNat : Int)
theorem bv_ofInt (a : B64) : BitVec.ofInt IntKind.u64.bits (bv a) = a := by
  show BitVec.ofInt 64 (bv a) = a
  apply BitVec.eq_of_toNat_eq
  unfold bv
  rw [BitVec.toNat_ofInt]
  have := a.isLt
  omega
theorem wrap_bv (a : B64) : IntKind.u64.wrap ((a.toNat : Nat) : Int) = bv a := by
  unfold bv
  have := a.isLt
  rw [IntKind.wrap_u64]
  omega
theorem bv_range (a : B64) : 0 ≤ bv a ∧ bv a < 18446744073709551616 := by
  unfold bv
  have := a.isLt
  omega
theorem bv_inj {a b : B64} (h : bv a = bv b) : a = b := by
  apply BitVec.eq_of_toNat_eq
  unfold bv at h
  omega
theorem k_xor (a b : B64) : IntKind.u64.wrap ((BitVec.ofInt IntKind.u64.bits (bv a) ^^^ BitVec.ofInt IntKind.u64.bits (bv b)).toNat : Int) = bv (a ^^^ b) := by
  rw [bv_ofInt, bv_ofInt]; exact wrap_bv _
theorem k_and (a b : B64) : IntKind.u64.wrap ((BitVec.ofInt IntKind.u64.bits (bv a) &&& BitVec.ofInt IntKind.u64.bits (bv b)).toNat : Int) = bv (a &&& b) := by
  rw [bv_ofInt, bv_ofInt]; exact wrap_bv _
theorem k_or (a b : B64) : IntKind.u64.wrap ((BitVec.ofInt IntKind.u64.bits (bv a) ||| BitVec.ofInt IntKind.u64.bits (bv b)).toNat : Int) = bv (a ||| b) := by
  rw [bv_ofInt, bv_ofInt]; exact wrap_bv _
theorem k_not (a : B64) : IntKind.u64.wrap ((BitVec.ofInt IntKind.u64.bits (if IntKind.u64.signed = true then -1 else IntKind.u64.max) ^^^ BitVec.ofInt IntKind.u64.bits (bv a)).toNat : Int) = bv (~~~a) := by
  show IntKind.u64.wrap (((BitVec.ofInt 64 IntKind.u64.max ^^^ BitVec.ofInt 64 (bv a)).toNat : Nat) : Int) = _
  have h1 : BitVec.ofInt 64 (bv a) = a := bv_ofInt a
  have h2 : BitVec.ofInt 64 IntKind.u64.max = BitVec.allOnes 64 := by decide
  rw [h1, h2, BitVec.allOnes_xor]
  exact wrap_bv _
theorem k_shl (a : B64) (n : Nat) (h : n ≤ 64) : IntKind.u64.wrap (bv a * ((2 ^ n : Nat) : Int)) = bv (a <<< n) := by
  unfold bv
  rw [IntKind.wrap_u64, BitVec.toNat_shiftLeft, Nat.shiftLeft_eq, Int.natCast_emod, Int.natCast_mul]
  rfl
theorem k_shr (a : B64) (n : Nat) : (bv a).fdiv ((2 ^ n : Nat) : Int) = bv (a >>> n) := by
  unfold bv
  rw [BitVec.toNat_ushiftRight, Nat.shiftRight_eq_div_pow, Int.fdiv_eq_ediv_of_nonneg _ (Int.natCast_nonneg _)]
  rfl
/-- Turned left. -/
def rot (a : B64) (n : Nat) : B64 := a <<< n ||| a >>> (64 - n)
theorem k_zero : (0 : Int) = bv 0 := rfl
end Go.Proofs.YtkanjdllaikoaaaDoor

