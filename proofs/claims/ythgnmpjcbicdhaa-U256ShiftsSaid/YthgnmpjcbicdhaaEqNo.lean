/- '==' of two numbers that are not one. -/
import Derived.Test.YthgnmpjcbicdhaaEqs
namespace Go.Proofs.Ythgnmpjcbicdhaa
open Go Go.RowKit
theorem run_eq_no {m n : Nat} (hm : m < T256) (hn : n < T256) (h : m ≠ n) (w : World) : (Op.equalIn 10000 24 (U m) (U n)).run Try.prog w = .ok false w := by
  rw [run_eq_U hm hn w, decide_eq_false h]
theorem run_eql_no (m n : Nat) (hm : m < T256) (hn : n < T256) (h : m ≠ n) (a : Act) (dst : Option Tmp) (ty : TypeId) (pos : String) (after : Array Edge) (guard : Option (Nat × Bool)) (x y : Operand) (hx : a.eval x = U m) (hy : a.eval y = U n) (w : World) :
    Sem.run Try.prog (execOp a.eval { dst := dst, op := Op.binOp BinOp.eql 24 x y 24, type := ty, pos := pos, after := after, guard := guard }) w = .ok (Next.value (.bool false)) w := by
  have hg := guardU
  have qs := fun w => run_eq_no hm hn h w
  unfold execOp
  simp only [hx, hy]
  go_simp
theorem run_neq_no (m n : Nat) (hm : m < T256) (hn : n < T256) (h : m ≠ n) (a : Act) (dst : Option Tmp) (ty : TypeId) (pos : String) (after : Array Edge) (guard : Option (Nat × Bool)) (x y : Operand) (hx : a.eval x = U m) (hy : a.eval y = U n) (w : World) :
    Sem.run Try.prog (execOp a.eval { dst := dst, op := Op.binOp BinOp.neq 24 x y 24, type := ty, pos := pos, after := after, guard := guard }) w = .ok (Next.value (.bool true)) w := by
  have hg := guardU
  have qs := fun w => run_eq_no hm hn h w
  unfold execOp
  simp only [hx, hy]
  go_simp
end Go.Proofs.Ythgnmpjcbicdhaa

