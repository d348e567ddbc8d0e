/- '==' of a number and itself. -/
import Derived.Test.YthgnmpjcbicdhaaCmp
namespace Go.Proofs.Ythgnmpjcbicdhaa
open Go Go.RowKit
/-- '==' of a number and itself. -/
theorem run_eq_self (n : Nat) (w : World) : (Op.equalIn 10000 24 (U n) (U n)).run Try.prog w = .ok true w := by
  obtain ⟨i, hi, _, hs, _⟩ := info_parts info22
  have h := run_equalIn_arr (P := Try.prog) 9998 24 22 4 .u64 .u64 i Try.underlying24 Try.underlying22 hi hs [L n 0, L n 1, L n 2, L n 3] [L n 0, L n 1, L n 2, L n 3] rfl rfl w
  rw [decide_eq_true rfl] at h
  exact h
theorem run_neq_U (n : Nat) (a : Act) (dst : Option Tmp) (ty : TypeId) (pos : String) (after : Array Edge) (guard : Option (Nat × Bool)) (x y : Operand) (hx : a.eval x = U n) (hy : a.eval y = U n) (w : World) :
    Sem.run Try.prog (execOp a.eval { dst := dst, op := Op.binOp BinOp.neq 24 x y 24, type := ty, pos := pos, after := after, guard := guard }) w = .ok (Next.value (.bool false)) w := by
  have hg := guardU
  have qs := fun n w => run_eq_self n w
  unfold execOp
  simp only [hx, hy]
  go_simp
theorem run_eql_U (n : Nat) (a : Act) (dst : Option Tmp) (ty : TypeId) (pos : String) (after : Array Edge) (guard : Option (Nat × Bool)) (x y : Operand) (hx : a.eval x = U n) (hy : a.eval y = U n) (w : World) :
    Sem.run Try.prog (execOp a.eval { dst := dst, op := Op.binOp BinOp.eql 24 x y 24, type := ty, pos := pos, after := after, guard := guard }) w = .ok (Next.value (.bool true)) w := by
  have hg := guardU
  have qs := fun n w => run_eq_self n w
  unfold execOp
  simp only [hx, hy]
  go_simp
end Go.Proofs.Ythgnmpjcbicdhaa

