/- Put: the 32 bytes. -/
import Derived.Test.YthgnmpjcbicdhaaVRoom
import Derived.Test.YthgnmpjcbicdhaaLay
import Derived.Test.YthgnmpjcbicdhaaNumA
set_option linter.unusedSimpArgs false
set_option linter.unusedVariables false
namespace Go.Proofs.Ythgnmpjcbicdhaa
open Go Go.RowKit Go.Proofs.YthgnmpjcbicdhaaW.PrintWords

/-- The byte of weight 256 ^ k. -/
def byteN (x k : Nat) : Int := ((x / 2 ^ (8 * k) % 256 : Nat) : Int)
/-- The 32 bytes when so many are laid, from the last on. -/
def putA (x i : Nat) : List Int := (List.range 32).map fun j => if 31 - j < i then byteN x (31 - j) else 0
theorem putA_len (x i : Nat) : (putA x i).length = 32 := by simp [putA]
theorem putA_zero (x : Nat) : putA x 0 = putA 0 0 := by simp [putA]
theorem putA_step (x i : Nat) (hi : i < 32) : (putA x i).set (31 - i) (byteN x i) = putA x (i + 1) := by
  refine List.ext_getElem (by simp [putA]) fun j h1 h2 => ?_
  have hj : j < 32 := by simpa [putA] using h2
  rw [List.getElem_set]
  simp only [putA, List.getElem_map, List.getElem_range]
  by_cases h : 31 - i = j
  · rw [if_pos h, if_pos (by omega), show 31 - j = i by omega]
  · rw [if_neg h]
    by_cases h3 : 31 - j < i
    · rw [if_pos h3, if_pos (by omega)]
    · rw [if_neg h3, if_neg (by omega)]
theorem byte_at (x i q r : Nat) (hq : q = i / 8) (hr : r = i % 8) : (L x q / 2 ^ (8 * r)) % 256 = byteN x i := by
  subst hq; subst hr
  have hm := Nat.mod_lt i (show 0 < 8 by omega)
  have e1 : x / 2 ^ (8 * i) = x / 2 ^ (64 * (i / 8)) / 2 ^ (8 * (i % 8)) := by
    rw [Nat.div_div_eq_div_mul, ← Nat.pow_add]; congr 2; omega
  unfold L byteN
  rw [e1]
  generalize x / 2 ^ (64 * (i / 8)) = y
  have e2 : 2 ^ 64 = 2 ^ (8 * (i % 8)) * 2 ^ (64 - 8 * (i % 8)) := by rw [← Nat.pow_add]; congr 1; omega
  have e3 : 2 ^ (64 - 8 * (i % 8)) = 256 * 2 ^ (56 - 8 * (i % 8)) := by rw [show (256 : Nat) = 2 ^ 8 from rfl, ← Nat.pow_add]; congr 1; omega
  have e4 : y % 2 ^ 64 / 2 ^ (8 * (i % 8)) % 256 = y / 2 ^ (8 * (i % 8)) % 256 := by
    rw [e2, Nat.mod_mul_right_div_self, e3, Nat.mod_mul_right_mod]
  rw [← e4]
  simp

theorem put_byte (x q r i : Nat) (hi : 8 * q + r = i) (hr : r < 8) : IntKind.u8.wrap ((L x q).fdiv ((2 ^ (8 * r) : Nat) : Int)) = byteN x i := by
  subst hi
  have hp : (0 : Int) ≤ ((2 ^ (8 * r) : Nat) : Int) := Int.natCast_nonneg _
  rw [Int.fdiv_eq_ediv_of_nonneg _ hp]
  have := byte_at x (8 * q + r) q r (by omega) (by omega)
  have e : ((2 ^ (8 * r) : Nat) : Int) = (2 : Int) ^ (8 * r) := by push_cast; rfl
  rw [e, ← this]
  rfl
/-- Bytes as what is answered. -/
abbrev bytesA (l : List Int) : AV := .agg [.ints .u8 32 l]
abbrev bytesV (l : List Int) : Value := .agg (l.map (Value.int .u8) ++ []).toArray
theorem put_v (x : Nat) (w : World) : Calls Try.prog 14 #[U x] w fun e w' => e = .returned (bytesV (putA x 32)) ∧ Below w.heap.size w w' := by
  refine calls_vm [.val (U x)] (fn := Try.f14) Try.func14 (by kernel_rfl) (by kernel_rfl) (by kernel_rfl) (by simp [AV.okL, AV.ok]) ?_
  refine wpK_end (n := 1000) (m := 33) (nx := 0) (hs := [(2, .row [.ints .u8 32 (List.replicate 32 0)]), (3, .row [.ints .u8 32 (List.replicate 32 0)]), (18, .eq (.val (.int .u8 (byteN x 0)))), (18, .eq (.val (.int .u8 (byteN x 1)))), (18, .eq (.val (.int .u8 (byteN x 2)))), (18, .eq (.val (.int .u8 (byteN x 3)))), (18, .eq (.val (.int .u8 (byteN x 4)))), (18, .eq (.val (.int .u8 (byteN x 5)))), (18, .eq (.val (.int .u8 (byteN x 6)))), (18, .eq (.val (.int .u8 (byteN x 7)))), (18, .eq (.val (.int .u8 (byteN x 8)))), (18, .eq (.val (.int .u8 (byteN x 9)))), (18, .eq (.val (.int .u8 (byteN x 10)))), (18, .eq (.val (.int .u8 (byteN x 11)))), (18, .eq (.val (.int .u8 (byteN x 12)))), (18, .eq (.val (.int .u8 (byteN x 13)))), (18, .eq (.val (.int .u8 (byteN x 14)))), (18, .eq (.val (.int .u8 (byteN x 15)))), (18, .eq (.val (.int .u8 (byteN x 16)))), (18, .eq (.val (.int .u8 (byteN x 17)))), (18, .eq (.val (.int .u8 (byteN x 18)))), (18, .eq (.val (.int .u8 (byteN x 19)))), (18, .eq (.val (.int .u8 (byteN x 20)))), (18, .eq (.val (.int .u8 (byteN x 21)))), (18, .eq (.val (.int .u8 (byteN x 22)))), (18, .eq (.val (.int .u8 (byteN x 23)))), (18, .eq (.val (.int .u8 (byteN x 24)))), (18, .eq (.val (.int .u8 (byteN x 25)))), (18, .eq (.val (.int .u8 (byteN x 26)))), (18, .eq (.val (.int .u8 (byteN x 27)))), (18, .eq (.val (.int .u8 (byteN x 28)))), (18, .eq (.val (.int .u8 (byteN x 29)))), (18, .eq (.val (.int .u8 (byteN x 30)))), (18, .eq (.val (.int .u8 (byteN x 31))))]) (v := bytesA (putA x 32)) follows (And.intro (fun ρ => (rfl : Seg.cells ρ [.ints .u8 32 (List.replicate 32 0)] = (Value.agg (ints .u8 (List.replicate 32 0))).cells.toList)) (And.intro (show Seg.ok No [.ints .u8 32 (List.replicate 32 0)] from ⟨rfl, trivial⟩) (And.intro (fun ρ => (rfl : Seg.cells ρ [.ints .u8 32 (List.replicate 32 0)] = (Value.agg (ints .u8 (List.replicate 32 0))).cells.toList)) (And.intro (show Seg.ok No [.ints .u8 32 (List.replicate 32 0)] from ⟨rfl, trivial⟩) (And.intro (congrArg (Value.int .u8) (put_byte x 0 0 0 rfl (by omega))) (And.intro (congrArg (Value.int .u8) (put_byte x 0 1 1 rfl (by omega))) (And.intro (congrArg (Value.int .u8) (put_byte x 0 2 2 rfl (by omega))) (And.intro (congrArg (Value.int .u8) (put_byte x 0 3 3 rfl (by omega))) (And.intro (congrArg (Value.int .u8) (put_byte x 0 4 4 rfl (by omega))) (And.intro (congrArg (Value.int .u8) (put_byte x 0 5 5 rfl (by omega))) (And.intro (congrArg (Value.int .u8) (put_byte x 0 6 6 rfl (by omega))) (And.intro (congrArg (Value.int .u8) (put_byte x 0 7 7 rfl (by omega))) (And.intro (congrArg (Value.int .u8) (put_byte x 1 0 8 rfl (by omega))) (And.intro (congrArg (Value.int .u8) (put_byte x 1 1 9 rfl (by omega))) (And.intro (congrArg (Value.int .u8) (put_byte x 1 2 10 rfl (by omega))) (And.intro (congrArg (Value.int .u8) (put_byte x 1 3 11 rfl (by omega))) (And.intro (congrArg (Value.int .u8) (put_byte x 1 4 12 rfl (by omega))) (And.intro (congrArg (Value.int .u8) (put_byte x 1 5 13 rfl (by omega))) (And.intro (congrArg (Value.int .u8) (put_byte x 1 6 14 rfl (by omega))) (And.intro (congrArg (Value.int .u8) (put_byte x 1 7 15 rfl (by omega))) (And.intro (congrArg (Value.int .u8) (put_byte x 2 0 16 rfl (by omega))) (And.intro (congrArg (Value.int .u8) (put_byte x 2 1 17 rfl (by omega))) (And.intro (congrArg (Value.int .u8) (put_byte x 2 2 18 rfl (by omega))) (And.intro (congrArg (Value.int .u8) (put_byte x 2 3 19 rfl (by omega))) (And.intro (congrArg (Value.int .u8) (put_byte x 2 4 20 rfl (by omega))) (And.intro (congrArg (Value.int .u8) (put_byte x 2 5 21 rfl (by omega))) (And.intro (congrArg (Value.int .u8) (put_byte x 2 6 22 rfl (by omega))) (And.intro (congrArg (Value.int .u8) (put_byte x 2 7 23 rfl (by omega))) (And.intro (congrArg (Value.int .u8) (put_byte x 3 0 24 rfl (by omega))) (And.intro (congrArg (Value.int .u8) (put_byte x 3 1 25 rfl (by omega))) (And.intro (congrArg (Value.int .u8) (put_byte x 3 2 26 rfl (by omega))) (And.intro (congrArg (Value.int .u8) (put_byte x 3 3 27 rfl (by omega))) (And.intro (congrArg (Value.int .u8) (put_byte x 3 4 28 rfl (by omega))) (And.intro (congrArg (Value.int .u8) (put_byte x 3 5 29 rfl (by omega))) (And.intro (congrArg (Value.int .u8) (put_byte x 3 6 30 rfl (by omega))) (congrArg (Value.int .u8) (put_byte x 3 7 31 rfl (by omega)))))))))))))))))))))))))))))))))))))) (by kernel_rfl) ?_
  intro ρ w' hf; exact ⟨rfl, hf.to_below⟩
theorem rput_v (x : Nat) (w : World) : Calls Try.prog 15 #[U x] w fun e w' => e = .returned (bytesV (putA x 32)) ∧ Below w.heap.size w w' := by
  refine calls_vm [.val (U x)] (fn := Try.f15) Try.func15 (by kernel_rfl) (by kernel_rfl) (by kernel_rfl) (by simp [AV.okL, AV.ok]) ?_
  refine wpK_end (n := 1000) (m := 33) (nx := 0) (hs := [(2, .row [.ints .u8 32 (List.replicate 32 0)]), (3, .row [.ints .u8 32 (List.replicate 32 0)]), (20, .eq (.val (.int .u8 (byteN x 0)))), (20, .eq (.val (.int .u8 (byteN x 1)))), (20, .eq (.val (.int .u8 (byteN x 2)))), (20, .eq (.val (.int .u8 (byteN x 3)))), (20, .eq (.val (.int .u8 (byteN x 4)))), (20, .eq (.val (.int .u8 (byteN x 5)))), (20, .eq (.val (.int .u8 (byteN x 6)))), (20, .eq (.val (.int .u8 (byteN x 7)))), (20, .eq (.val (.int .u8 (byteN x 8)))), (20, .eq (.val (.int .u8 (byteN x 9)))), (20, .eq (.val (.int .u8 (byteN x 10)))), (20, .eq (.val (.int .u8 (byteN x 11)))), (20, .eq (.val (.int .u8 (byteN x 12)))), (20, .eq (.val (.int .u8 (byteN x 13)))), (20, .eq (.val (.int .u8 (byteN x 14)))), (20, .eq (.val (.int .u8 (byteN x 15)))), (20, .eq (.val (.int .u8 (byteN x 16)))), (20, .eq (.val (.int .u8 (byteN x 17)))), (20, .eq (.val (.int .u8 (byteN x 18)))), (20, .eq (.val (.int .u8 (byteN x 19)))), (20, .eq (.val (.int .u8 (byteN x 20)))), (20, .eq (.val (.int .u8 (byteN x 21)))), (20, .eq (.val (.int .u8 (byteN x 22)))), (20, .eq (.val (.int .u8 (byteN x 23)))), (20, .eq (.val (.int .u8 (byteN x 24)))), (20, .eq (.val (.int .u8 (byteN x 25)))), (20, .eq (.val (.int .u8 (byteN x 26)))), (20, .eq (.val (.int .u8 (byteN x 27)))), (20, .eq (.val (.int .u8 (byteN x 28)))), (20, .eq (.val (.int .u8 (byteN x 29)))), (20, .eq (.val (.int .u8 (byteN x 30)))), (20, .eq (.val (.int .u8 (byteN x 31))))]) (v := bytesA (putA x 32)) follows (And.intro (fun ρ => (rfl : Seg.cells ρ [.ints .u8 32 (List.replicate 32 0)] = (Value.agg (ints .u8 (List.replicate 32 0))).cells.toList)) (And.intro (show Seg.ok No [.ints .u8 32 (List.replicate 32 0)] from ⟨rfl, trivial⟩) (And.intro (fun ρ => (rfl : Seg.cells ρ [.ints .u8 32 (List.replicate 32 0)] = (Value.agg (ints .u8 (List.replicate 32 0))).cells.toList)) (And.intro (show Seg.ok No [.ints .u8 32 (List.replicate 32 0)] from ⟨rfl, trivial⟩) (And.intro (congrArg (Value.int .u8) (put_byte x 0 0 0 rfl (by omega))) (And.intro (congrArg (Value.int .u8) (put_byte x 0 1 1 rfl (by omega))) (And.intro (congrArg (Value.int .u8) (put_byte x 0 2 2 rfl (by omega))) (And.intro (congrArg (Value.int .u8) (put_byte x 0 3 3 rfl (by omega))) (And.intro (congrArg (Value.int .u8) (put_byte x 0 4 4 rfl (by omega))) (And.intro (congrArg (Value.int .u8) (put_byte x 0 5 5 rfl (by omega))) (And.intro (congrArg (Value.int .u8) (put_byte x 0 6 6 rfl (by omega))) (And.intro (congrArg (Value.int .u8) (put_byte x 0 7 7 rfl (by omega))) (And.intro (congrArg (Value.int .u8) (put_byte x 1 0 8 rfl (by omega))) (And.intro (congrArg (Value.int .u8) (put_byte x 1 1 9 rfl (by omega))) (And.intro (congrArg (Value.int .u8) (put_byte x 1 2 10 rfl (by omega))) (And.intro (congrArg (Value.int .u8) (put_byte x 1 3 11 rfl (by omega))) (And.intro (congrArg (Value.int .u8) (put_byte x 1 4 12 rfl (by omega))) (And.intro (congrArg (Value.int .u8) (put_byte x 1 5 13 rfl (by omega))) (And.intro (congrArg (Value.int .u8) (put_byte x 1 6 14 rfl (by omega))) (And.intro (congrArg (Value.int .u8) (put_byte x 1 7 15 rfl (by omega))) (And.intro (congrArg (Value.int .u8) (put_byte x 2 0 16 rfl (by omega))) (And.intro (congrArg (Value.int .u8) (put_byte x 2 1 17 rfl (by omega))) (And.intro (congrArg (Value.int .u8) (put_byte x 2 2 18 rfl (by omega))) (And.intro (congrArg (Value.int .u8) (put_byte x 2 3 19 rfl (by omega))) (And.intro (congrArg (Value.int .u8) (put_byte x 2 4 20 rfl (by omega))) (And.intro (congrArg (Value.int .u8) (put_byte x 2 5 21 rfl (by omega))) (And.intro (congrArg (Value.int .u8) (put_byte x 2 6 22 rfl (by omega))) (And.intro (congrArg (Value.int .u8) (put_byte x 2 7 23 rfl (by omega))) (And.intro (congrArg (Value.int .u8) (put_byte x 3 0 24 rfl (by omega))) (And.intro (congrArg (Value.int .u8) (put_byte x 3 1 25 rfl (by omega))) (And.intro (congrArg (Value.int .u8) (put_byte x 3 2 26 rfl (by omega))) (And.intro (congrArg (Value.int .u8) (put_byte x 3 3 27 rfl (by omega))) (And.intro (congrArg (Value.int .u8) (put_byte x 3 4 28 rfl (by omega))) (And.intro (congrArg (Value.int .u8) (put_byte x 3 5 29 rfl (by omega))) (And.intro (congrArg (Value.int .u8) (put_byte x 3 6 30 rfl (by omega))) (congrArg (Value.int .u8) (put_byte x 3 7 31 rfl (by omega)))))))))))))))))))))))))))))))))))))) (by kernel_rfl) ?_
  intro ρ w' hf; exact ⟨rfl, hf.to_below⟩
end Go.Proofs.Ythgnmpjcbicdhaa

