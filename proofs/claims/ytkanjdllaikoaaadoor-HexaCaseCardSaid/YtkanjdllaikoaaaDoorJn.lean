/- Digits joined, two a byte. -/
import Derived.Test.YtkanjdllaikoaaaDoorPar
set_option linter.unusedSimpArgs false
set_option linter.unusedVariables false
namespace Go.Proofs.YtkanjdllaikoaaaDoor
open Go Go.RowKit

/-- Two digits a byte, so many bytes. -/
def prL (l : List Int) (j : Nat) : List Int := (List.range j).map fun k => 16 * l.getD (2 * k) 0 + l.getD (2 * k + 1) 0
theorem prL_len (l : List Int) (j : Nat) : (prL l j).length = j := by simp [prL]
theorem prL_succ (l : List Int) (j : Nat) : prL l (j + 1) = prL l j ++ [16 * l.getD (2 * j) 0 + l.getD (2 * j + 1) 0] := by
  unfold prL; rw [List.range_succ]; simp
/-- Digits. -/
def Digs (l : List Int) : Prop := ∀ i, i < l.length → 0 ≤ l.getD i 0 ∧ l.getD i 0 < 16
theorem digs_of {l v : List Int} (h : valsL l = some v) : Digs v := by
  intro i hi
  rw [List.getD_eq_getElem?_getD, List.getElem?_eq_getElem hi]
  exact valsL_range h _ (List.getElem_mem hi)
theorem prL_byte (l : List Int) (j : Nat) (hj : 2 * j ≤ l.length) (hd : Digs l) : ByteL (prL l j) := by
  intro x hx
  unfold prL at hx
  obtain ⟨k, hk, rfl⟩ := List.mem_map.1 hx
  have := List.mem_range.1 hk
  have h1 := hd (2 * k) (by omega)
  have h2 := hd (2 * k + 1) (by omega)
  omega
set_option maxRecDepth 100000 in
theorem d_or (x y : Int) (hx : 0 ≤ x ∧ x < 16) (hy : 0 ≤ y ∧ y < 16) : IntKind.u8.wrap ((BitVec.ofInt IntKind.u8.bits (16 * x) ||| BitVec.ofInt IntKind.u8.bits y).toNat : Int) = 16 * x + y := by
  obtain ⟨a, rfl⟩ : ∃ a : Nat, x = (a : Int) := ⟨x.toNat, by omega⟩
  obtain ⟨b, rfl⟩ : ∃ b : Nat, y = (b : Int) := ⟨y.toNat, by omega⟩
  have : ∀ a : Nat, a < 16 → ∀ b : Nat, b < 16 → IntKind.u8.wrap ((BitVec.ofInt IntKind.u8.bits (16 * (a : Int)) ||| BitVec.ofInt IntKind.u8.bits (b : Int)).toNat : Int) = 16 * (a : Int) + (b : Int) := by decide
  exact this a (by omega) b (by omega)
theorem d_shl (x : Int) (hx : 0 ≤ x ∧ x < 16) : IntKind.u8.wrap (x * 2 ^ min (Int.toNat 4) IntKind.u8.bits) = 16 * x := by
  show IntKind.u8.wrap (x * 2 ^ 4) = _
  rw [IntKind.wrap_u8]; omega
def jS (A : Addr) (n c j : Nat) (ys : List Int) : AS := ⟨[(0, .val (.slice (some A) n c)), (3, .own 1 1 0 j), (4, .val (.int .i64 ((2 * j : Nat) : Int)))], [(1, ob j ys)]⟩
set_option maxHeartbeats 4000000 in
theorem j_round (w : World) (A : Addr) (n c m : Nat) (l : List Int) (hS : Sl .u8 w (some A) n l) (hn : n = 2 * m) (hd : Digs l) (hm : m ≤ 9000000000000) :
    ∀ (q j : Nat), j + q = m → ∀ (ys : List Int), ys = prL l j → wpK (ctx Tryd.prog w Tryd.f39.ntmps) Tryd.f39 (Gives w (prL l m)) (loopAt Tryd.f39 0) (jS A n c j ys) := by
  have hl := hS.1
  intro q
  induction q with
  | zero =>
    intro j hj ys hys
    obtain rfl : j = m := by omega
    have hlt : decide (((2 * j : Nat) : Int) < (n : Int)) = false := by simp; omega
    have hyl : ys.length = j := by rw [hys, prL_len]
    rw [← hys]
    refine wpK_endM (n := 400) (m := 0) (nx := 100) (hs := [(20, .eq (.val (.bool false)))]) (v := .own 1 1 0 j) (bs := [(1, ob j ys)]) follows [1] (congrArg Value.bool hlt) (by kernel_rfl) ?_
    intro ρ w' hf hh; exact gives_of hyl hf hh
  | succ q ih =>
    intro j hj ys hys
    have hlt : decide (((2 * j : Nat) : Int) < (n : Int)) = true := by simp; omega
    have hi0 : 2 * j < n := by omega
    have hi1 : 2 * j + 1 < n := by omega
    have hw1 : IntKind.i64.wrap (((2 * j : Nat) : Int) + 1) = ((2 * j + 1 : Nat) : Int) := by rw [IntKind.wrap_i64]; omega
    have hw2 : IntKind.i64.wrap (((2 * j : Nat) : Int) + 2) = ((2 * (j + 1) : Nat) : Int) := by rw [IntKind.wrap_i64]; omega
    obtain ⟨x, hx⟩ : ∃ x, x = l.getD (2 * j) 0 := ⟨_, rfl⟩
    obtain ⟨y, hy⟩ : ∃ y, y = l.getD (2 * j + 1) 0 := ⟨_, rfl⟩
    have hxb : 0 ≤ x ∧ x < 16 := hx ▸ hd (2 * j) (by omega)
    have hyb : 0 ≤ y ∧ y < 16 := hy ▸ hd (2 * j + 1) (by omega)
    have hcx : ∀ w', Fr No w w' → w'.cell? (A.add (2 * j)) = some (.int .u8 x) := fun w' hf => hx ▸ (hS.frN hf).at _ hi0
    have hcy : ∀ w', Fr No w w' → w'.cell? (A.add (2 * j + 1)) = some (.int .u8 y) := fun w' hf => hy ▸ (hS.frN hf).at _ hi1
    have hyl : ys.length = j := by rw [hys, prL_len]
    have hcat : ∀ ρ, Seg.cells ρ [.ints .u8 (j + 1) (ys ++ [16 * x + y])] = Seg.cells ρ [.ints .u8 j ys] ++ Seg.cells ρ [.cell (.val (.int .u8 (16 * x + y)))] := by
      intro ρ
      simp [Seg.cells, Seg.cell1, AV.conc]
    have hlen : (ys ++ [16 * x + y]).length = j + 1 := by simp [hyl]
    have hmb : j + 1 ≤ 140737488355328 := by omega
    refine wpK_loop (n := 400) (m := 0) (nx := 100) (hs := [(20, .eq (.val (.bool true))), (26, .as (.val (.pointer (some (A.add (2 * j)))))), (27, .as (.val (.int .u8 x))), (28, .eq (.val (.int .u8 (16 * x)))), (31, .eq (.val (.int .i64 ((2 * j + 1 : Nat) : Int)))), (32, .as (.val (.pointer (some (A.add (2 * j + 1)))))), (33, .as (.val (.int .u8 y))), (34, .eq (.val (.int .u8 (16 * x + y)))), (36, .app [.ints .u8 (j + 1) (ys ++ [16 * x + y])] (j + 1)), (22, .eq (.val (.int .i64 ((2 * (j + 1) : Nat) : Int))))]) (st' := loopAt Tryd.f39 0) (s' := jS A n c (j + 1) (ys ++ [16 * x + y])) follows [] [0, 3, 4] [(1, 117)] (And.intro (congrArg Value.bool hlt) (And.intro (sl_index (F := No) (w := w) (A := A) (n := n) (c := c) (k' := .i64) (i := 2 * j) Tryd.underlying22 infB hi0) (And.intro (sl_load (F := No) (w := w) Tryd.underlying5 rfl hcx) (And.intro (congrArg (Value.int .u8) (d_shl x hxb)) (And.intro (congrArg (Value.int .i64) hw1) (And.intro (sl_index (F := No) (w := w) (A := A) (n := n) (c := c) (k' := .i64) (i := 2 * j + 1) Tryd.underlying22 infB hi1) (And.intro (sl_load (F := No) (w := w) Tryd.underlying5 rfl hcy) (And.intro (congrArg (Value.int .u8) (d_or x y hxb hyb)) (And.intro hcat (And.intro (show Seg.ok No [.ints .u8 (j + 1) (ys ++ [16 * x + y])] from ⟨hlen, trivial⟩) (And.intro (rfl : j + 1 = j + 1) (And.intro (Nat.zero_add j) (And.intro hmb (congrArg (Value.int .i64) hw2)))))))))))))) (by kernel_rfl) ?_
    exact ih (j + 1) (by omega) _ (by rw [hys, prL_succ, hx, hy])
theorem joinedE_c (w : World) (A : Addr) (n c m : Nat) (l : List Int) (hS : Sl .u8 w (some A) n l) (hn : n = 2 * m) (hd : Digs l) (hm : m ≤ 9000000000000) : Calls Tryd.prog 39 #[.slice (some A) n c] w (Gives w (prL l m)) := by
  have hr : (n : Int).tmod 2 = 0 := by rw [Int.tmod_eq_emod_of_nonneg (by omega)]; omega
  refine calls_vm [.val (.slice (some A) n c)] (fn := Tryd.f39) Tryd.func39 (by kernel_rfl) (by kernel_rfl) (by kernel_rfl) (by simp [AV.okL, AV.ok]) ?_
  refine wpK_loop (n := 400) (m := 0) (nx := 0) (hs := [(7, .eq (.val (.int .i64 0)))]) (st' := loopAt Tryd.f39 0) (s' := jS A n c 0 []) follows [(3, 99, 1, [.ints .u8 0 []], 5)] [0, 3, 4] [(1, 99)] (congrArg (Value.int .i64) hr) (by kernel_rfl) ?_
  exact j_round w A n c m l hS hn hd hm m 0 (by omega) [] rfl
theorem infI : (Tryd.prog.info? 3).map (·.size) = some 1 := by kernel_rfl
set_option maxHeartbeats 4000000 in
theorem p_round (w : World) (A : Addr) (n c m : Nat) (l : List Int) (hS : Sl .i64 w (some A) n l) (hn : n = 2 * m) (hd : Digs l) (hm : m ≤ 9000000000000) :
    ∀ (q j : Nat), j + q = m → ∀ (ys : List Int), ys = prL l j → wpK (ctx Tryd.prog w Tryd.f43.ntmps) Tryd.f43 (Gives w (prL l m)) (loopAt Tryd.f43 0) (jS A n c j ys) := by
  have hl := hS.1
  intro q
  induction q with
  | zero =>
    intro j hj ys hys
    obtain rfl : j = m := by omega
    have hw1 : IntKind.i64.wrap (((2 * j : Nat) : Int) + 1) = ((2 * j + 1 : Nat) : Int) := by rw [IntKind.wrap_i64]; omega
    have hlt : decide (((2 * j + 1 : Nat) : Int) < (n : Int)) = false := by simp; omega
    have hyl : ys.length = j := by rw [hys, prL_len]
    rw [← hys]
    refine wpK_endM (n := 400) (m := 0) (nx := 100) (hs := [(6, .eq (.val (.int .i64 ((2 * j + 1 : Nat) : Int)))), (9, .eq (.val (.bool false)))]) (v := .own 1 1 0 j) (bs := [(1, ob j ys)]) follows [1] (And.intro (congrArg (Value.int .i64) hw1) (congrArg Value.bool hlt)) (by kernel_rfl) ?_
    intro ρ w' hf hh; exact gives_of hyl hf hh
  | succ q ih =>
    intro j hj ys hys
    have hw1 : IntKind.i64.wrap (((2 * j : Nat) : Int) + 1) = ((2 * j + 1 : Nat) : Int) := by rw [IntKind.wrap_i64]; omega
    have hlt : decide (((2 * j + 1 : Nat) : Int) < (n : Int)) = true := by simp; omega
    have hi0 : 2 * j < n := by omega
    have hi1 : 2 * j + 1 < n := by omega
    have hw2 : IntKind.i64.wrap (((2 * j : Nat) : Int) + 2) = ((2 * (j + 1) : Nat) : Int) := by rw [IntKind.wrap_i64]; omega
    obtain ⟨x, hx⟩ : ∃ x, x = l.getD (2 * j) 0 := ⟨_, rfl⟩
    obtain ⟨y, hy⟩ : ∃ y, y = l.getD (2 * j + 1) 0 := ⟨_, rfl⟩
    have hxb : 0 ≤ x ∧ x < 16 := hx ▸ hd (2 * j) (by omega)
    have hyb : 0 ≤ y ∧ y < 16 := hy ▸ hd (2 * j + 1) (by omega)
    have s1 : IntKind.i64.wrap (16 * x) = 16 * x := by rw [IntKind.wrap_i64]; omega
    have s2 : IntKind.i64.wrap (16 * x + y) = 16 * x + y := by rw [IntKind.wrap_i64]; omega
    have s3 : IntKind.u8.wrap (16 * x + y) = 16 * x + y := by rw [IntKind.wrap_u8]; omega
    have hcx : ∀ w', Fr No w w' → w'.cell? (A.add (2 * j)) = some (.int .i64 x) := fun w' hf => hx ▸ (hS.frN hf).at _ hi0
    have hcy : ∀ w', Fr No w w' → w'.cell? (A.add (2 * j + 1)) = some (.int .i64 y) := fun w' hf => hy ▸ (hS.frN hf).at _ hi1
    have hyl : ys.length = j := by rw [hys, prL_len]
    have hcat : ∀ ρ, Seg.cells ρ [.ints .u8 (j + 1) (ys ++ [16 * x + y])] = Seg.cells ρ [.ints .u8 j ys] ++ Seg.cells ρ [.cell (.val (.int .u8 (16 * x + y)))] := by
      intro ρ
      simp [Seg.cells, Seg.cell1, AV.conc]
    have hlen : (ys ++ [16 * x + y]).length = j + 1 := by simp [hyl]
    have hmb : j + 1 ≤ 140737488355328 := by omega
    refine wpK_loop (n := 400) (m := 0) (nx := 100) (hs := [(6, .eq (.val (.int .i64 ((2 * j + 1 : Nat) : Int)))), (9, .eq (.val (.bool true))), (15, .as (.val (.pointer (some (A.add (2 * j)))))), (16, .as (.val (.int .i64 x))), (17, .eq (.val (.int .i64 (16 * x)))), (20, .eq (.val (.int .i64 ((2 * j + 1 : Nat) : Int)))), (21, .as (.val (.pointer (some (A.add (2 * j + 1)))))), (22, .as (.val (.int .i64 y))), (23, .eq (.val (.int .i64 (16 * x + y)))), (24, .eq (.val (.int .u8 (16 * x + y)))), (26, .app [.ints .u8 (j + 1) (ys ++ [16 * x + y])] (j + 1)), (11, .eq (.val (.int .i64 ((2 * (j + 1) : Nat) : Int))))]) (st' := loopAt Tryd.f43 0) (s' := jS A n c (j + 1) (ys ++ [16 * x + y])) follows [] [0, 3, 4] [(1, 119)] (And.intro (congrArg (Value.int .i64) hw1) (And.intro (congrArg Value.bool hlt) (And.intro (sl_index (F := No) (w := w) (A := A) (n := n) (c := c) (k' := .i64) (i := 2 * j) Tryd.underlying69 infI hi0) (And.intro (sl_load (F := No) (w := w) Tryd.underlying3 rfl hcx) (And.intro (congrArg (Value.int .i64) s1) (And.intro (congrArg (Value.int .i64) hw1) (And.intro (sl_index (F := No) (w := w) (A := A) (n := n) (c := c) (k' := .i64) (i := 2 * j + 1) Tryd.underlying69 infI hi1) (And.intro (sl_load (F := No) (w := w) Tryd.underlying3 rfl hcy) (And.intro (congrArg (Value.int .i64) s2) (And.intro (congrArg (Value.int .u8) s3) (And.intro hcat (And.intro (show Seg.ok No [.ints .u8 (j + 1) (ys ++ [16 * x + y])] from ⟨hlen, trivial⟩) (And.intro (rfl : j + 1 = j + 1) (And.intro (Nat.zero_add j) (And.intro hmb (congrArg (Value.int .i64) hw2)))))))))))))))) (by kernel_rfl) ?_
    exact ih (j + 1) (by omega) _ (by rw [hys, prL_succ, hx, hy])
theorem packedE_c (w : World) (A : Addr) (n c m : Nat) (l : List Int) (hS : Sl .i64 w (some A) n l) (hn : n = 2 * m) (hd : Digs l) (hm : m ≤ 9000000000000) : Calls Tryd.prog 43 #[.slice (some A) n c] w (Gives w (prL l m)) := by
  refine calls_vm [.val (.slice (some A) n c)] (fn := Tryd.f43) Tryd.func43 (by kernel_rfl) (by kernel_rfl) (by kernel_rfl) (by simp [AV.okL, AV.ok]) ?_
  refine wpK_loop (n := 400) (m := 0) (nx := 0) (hs := []) (st' := loopAt Tryd.f43 0) (s' := jS A n c 0 []) follows [(3, 99, 1, [.ints .u8 0 []], 5)] [0, 3, 4] [(1, 99)] trivial (by kernel_rfl) ?_
  exact p_round w A n c m l hS hn hd hm m 0 (by omega) [] rfl
end Go.Proofs.YtkanjdllaikoaaaDoor

