/- Digits joined, of any number; Get. -/
import Derived.Test.YtkanjdllaikoaaaDoorJn
import Derived.Test.YtkanjdllaikoaaaDoorGeP
set_option linter.unusedSimpArgs false
set_option linter.unusedVariables false
namespace Go.Proofs.YtkanjdllaikoaaaDoor
open Go Go.RowKit

/-- The digits' bytes; of an odd number the first one alone. -/
def jnL (l : List Int) : List Int := if l.length % 2 = 1 then l.getD 0 0 :: prL (l.drop 1) (l.length / 2) else prL l (l.length / 2)
theorem jnL_len (l : List Int) : (jnL l).length = (l.length + 1) / 2 := by
  unfold jnL
  split
  · rw [List.length_cons, prL_len]; omega
  · rw [prL_len]; omega
theorem digs_drop {l : List Int} (h : Digs l) (k : Nat) : Digs (l.drop k) := by
  intro i hi
  rw [List.length_drop] at hi
  have := h (k + i) (by omega)
  rw [List.getD_eq_getElem?_getD, List.getElem?_drop, ← List.getD_eq_getElem?_getD]
  exact this
theorem jnL_byte (l : List Int) (h : Digs l) : ByteL (jnL l) := by
  unfold jnL
  split
  · rename_i ho
    intro x hx
    rcases List.mem_cons.1 hx with rfl | hx
    · have := h 0 (by omega); omega
    · exact prL_byte (l.drop 1) _ (by rw [List.length_drop]; omega) (digs_drop h 1) x hx
  · exact prL_byte l _ (by omega) h
def jOS (A : Option Addr) (n c j : Nat) (ys : List Int) : AS := ⟨[(0, .val (.slice A n c)), (3, .own 1 1 0 (j + 1)), (4, .val (.int .i64 ((2 * j : Nat) : Int)))], [(1, ob (j + 1) ys)]⟩
set_option maxHeartbeats 4000000 in
theorem jO_round (w : World) (A : Option Addr) (x0 : Int) (n c m : Nat) (l : List Int) (hS : Sl .u8 w A n l) (hn : n = 2 * m) (hd : Digs l) (hm : m ≤ 9000000000000) :
    ∀ (q j : Nat), j + q = m → ∀ (ys : List Int), ys = x0 :: prL l j → wpK (ctx Tryd.prog w Tryd.f39.ntmps) Tryd.f39 (Gives w (x0 :: prL l m)) (loopAt Tryd.f39 0) (jOS A n c j ys) := by
  have hl := hS.1
  intro q
  induction q with
  | zero =>
    intro j hj ys hys
    obtain rfl : j = m := by omega
    have hlt : decide (((2 * j : Nat) : Int) < (n : Int)) = false := by simp; omega
    have hyl : ys.length = j + 1 := by rw [hys, List.length_cons, prL_len]
    rw [← hys]
    refine wpK_endM (n := 400) (m := 0) (nx := 100) (hs := [(20, .eq (.val (.bool false)))]) (v := .own 1 1 0 (j + 1)) (bs := [(1, ob (j + 1) ys)]) follows [1] (congrArg Value.bool hlt) (by kernel_rfl) ?_
    intro ρ w' hf hh; exact gives_of hyl hf hh
  | succ q ih =>
    intro j hj ys hys
    have hlt : decide (((2 * j : Nat) : Int) < (n : Int)) = true := by simp; omega
    have hi0 : 2 * j < n := by omega
    have hi1 : 2 * j + 1 < n := by omega
    obtain ⟨A, rfl⟩ := hS.has (by omega)
    have hw1 : IntKind.i64.wrap (((2 * j : Nat) : Int) + 1) = ((2 * j + 1 : Nat) : Int) := by rw [IntKind.wrap_i64]; omega
    have hw2 : IntKind.i64.wrap (((2 * j : Nat) : Int) + 2) = ((2 * (j + 1) : Nat) : Int) := by rw [IntKind.wrap_i64]; omega
    obtain ⟨x, hx⟩ : ∃ x, x = l.getD (2 * j) 0 := ⟨_, rfl⟩
    obtain ⟨y, hy⟩ : ∃ y, y = l.getD (2 * j + 1) 0 := ⟨_, rfl⟩
    have hxb : 0 ≤ x ∧ x < 16 := hx ▸ hd (2 * j) (by omega)
    have hyb : 0 ≤ y ∧ y < 16 := hy ▸ hd (2 * j + 1) (by omega)
    have hcx : ∀ w', Fr No w w' → w'.cell? (A.add (2 * j)) = some (.int .u8 x) := fun w' hf => hx ▸ (hS.frN hf).at _ hi0
    have hcy : ∀ w', Fr No w w' → w'.cell? (A.add (2 * j + 1)) = some (.int .u8 y) := fun w' hf => hy ▸ (hS.frN hf).at _ hi1
    have hyl : ys.length = j + 1 := by rw [hys, List.length_cons, prL_len]
    have hcat : ∀ ρ, Seg.cells ρ [.ints .u8 (j + 1 + 1) (ys ++ [16 * x + y])] = Seg.cells ρ [.ints .u8 (j + 1) ys] ++ Seg.cells ρ [.cell (.val (.int .u8 (16 * x + y)))] := by
      intro ρ
      simp [Seg.cells, Seg.cell1, AV.conc]
    have hlen : (ys ++ [16 * x + y]).length = j + 1 + 1 := by simp [hyl]
    have hmb : j + 1 + 1 ≤ 140737488355328 := by omega
    refine wpK_loop (n := 400) (m := 0) (nx := 100) (hs := [(20, .eq (.val (.bool true))), (26, .as (.val (.pointer (some (A.add (2 * j)))))), (27, .as (.val (.int .u8 x))), (28, .eq (.val (.int .u8 (16 * x)))), (31, .eq (.val (.int .i64 ((2 * j + 1 : Nat) : Int)))), (32, .as (.val (.pointer (some (A.add (2 * j + 1)))))), (33, .as (.val (.int .u8 y))), (34, .eq (.val (.int .u8 (16 * x + y)))), (36, .app [.ints .u8 (j + 1 + 1) (ys ++ [16 * x + y])] (j + 1 + 1)), (22, .eq (.val (.int .i64 ((2 * (j + 1) : Nat) : Int))))]) (st' := loopAt Tryd.f39 0) (s' := jOS (some A) n c (j + 1) (ys ++ [16 * x + y])) follows [] [0, 3, 4] [(1, 117)] (And.intro (congrArg Value.bool hlt) (And.intro (sl_index (F := No) (w := w) (A := A) (n := n) (c := c) (k' := .i64) (i := 2 * j) Tryd.underlying22 infB hi0) (And.intro (sl_load (F := No) (w := w) Tryd.underlying5 rfl hcx) (And.intro (congrArg (Value.int .u8) (d_shl x hxb)) (And.intro (congrArg (Value.int .i64) hw1) (And.intro (sl_index (F := No) (w := w) (A := A) (n := n) (c := c) (k' := .i64) (i := 2 * j + 1) Tryd.underlying22 infB hi1) (And.intro (sl_load (F := No) (w := w) Tryd.underlying5 rfl hcy) (And.intro (congrArg (Value.int .u8) (d_or x y hxb hyb)) (And.intro hcat (And.intro (show Seg.ok No [.ints .u8 (j + 1 + 1) (ys ++ [16 * x + y])] from ⟨hlen, trivial⟩) (And.intro (rfl : j + 1 + 1 = j + 1 + 1) (And.intro (Nat.zero_add (j + 1)) (And.intro hmb (congrArg (Value.int .i64) hw2)))))))))))))) (by kernel_rfl) ?_
    exact ih (j + 1) (by omega) _ (by rw [hys, prL_succ, hx, hy]; rfl)
theorem joinedO_c (w : World) (A : Addr) (n c m : Nat) (l : List Int) (hS : Sl .u8 w (some A) n l) (hn : n = 2 * m + 1) (hc : n ≤ c) (hd : Digs l) (hm : m ≤ 9000000000000) : Calls Tryd.prog 39 #[.slice (some A) n c] w (Gives w (l.getD 0 0 :: prL (l.drop 1) m)) := by
  have hr : (n : Int).tmod 2 = 1 := by rw [Int.tmod_eq_emod_of_nonneg (by omega)]; omega
  have h1n : 1 ≤ n := by omega
  have h0n : 0 < n := by omega
  obtain ⟨x, hx⟩ : ∃ x, x = l.getD 0 0 := ⟨_, rfl⟩
  have hcx : ∀ w', Fr No w w' → w'.cell? (A.add 0) = some (.int .u8 x) := fun w' hf => hx ▸ (hS.frN hf).at 0 h0n
  have hS2 := hS.dropC 1 hc
  obtain ⟨N, hN⟩ : ∃ N, N = n - 1 := ⟨_, rfl⟩
  obtain ⟨C, hC⟩ : ∃ C, C = c - 1 := ⟨_, rfl⟩
  obtain ⟨B, hB⟩ : ∃ B : Addr, B = if c = 1 then A else A.add 1 := ⟨_, rfl⟩
  have hlo := sl_lo (P := Tryd.prog) (F := No) (w := w) (A := A) (n := n) (c := c) (u := 1) (k := .i64) Tryd.underlying22 infB h1n hc
  rw [← hN, ← hC, ← hB] at hlo
  rw [← hN, ← hB] at hS2
  rw [← hx]
  have hcat : ∀ ρ, Seg.cells ρ [.ints .u8 1 [x]] = Seg.cells ρ [] ++ Seg.cells ρ [.cell (.val (.int .u8 x))] := by
    intro ρ
    simp [Seg.cells, Seg.cell1, AV.conc]
  refine calls_vm [.val (.slice (some A) n c)] (fn := Tryd.f39) Tryd.func39 (by kernel_rfl) (by kernel_rfl) (by kernel_rfl) (by simp [AV.okL, AV.ok]) ?_
  refine wpK_loop (n := 400) (m := 0) (nx := 0) (hs := [(7, .eq (.val (.int .i64 1))), (11, .as (.val (.pointer (some (A.add (0)))))), (12, .as (.val (.int .u8 x))), (14, .app [.ints .u8 1 [x]] 1), (16, .as (.val (.slice (some B) N C)))]) (st' := loopAt Tryd.f39 0) (s' := jOS (some B) N C 0 [x]) follows [] [0, 3, 4] [(1, 11)] (And.intro (congrArg (Value.int .i64) hr) (And.intro (sl_index (F := No) (w := w) (A := A) (n := n) (c := c) (k' := .i64) (i := 0) Tryd.underlying22 infB h0n) (And.intro (sl_load (F := No) (w := w) Tryd.underlying5 rfl hcx) (And.intro hcat (And.intro (show Seg.ok No [.ints .u8 1 [x]] from ⟨rfl, trivial⟩) (And.intro (rfl : 1 = 0 + 1) (And.intro (rfl : 0 = 0) (And.intro (show 1 ≤ 140737488355328 by decide) hlo)))))))) (by kernel_rfl) ?_
  exact jO_round w (some B) x N C m _ hS2 (by omega) (digs_drop hd 1) hm m 0 (by omega) [x] rfl
theorem joined_c (w : World) (A : Addr) (n c : Nat) (l : List Int) (hS : Sl .u8 w (some A) n l) (hc : n ≤ c) (hd : Digs l) (hn : n ≤ 9000000000000) : Calls Tryd.prog 39 #[.slice (some A) n c] w (Gives w (jnL l)) := by
  have hl := hS.1
  unfold jnL
  by_cases ho : l.length % 2 = 1
  · rw [if_pos ho]
    exact joinedO_c w A n c (l.length / 2) l hS (by omega) hc hd (by omega)
  · rw [if_neg ho]
    exact joinedE_c w A n c (l.length / 2) l hS (by omega) hd (by omega)
theorem joinedZ_c (w : World) (c : Nat) (A : Option Addr) : Calls Tryd.prog 39 #[.slice A 0 c] w (Gives w []) := by
  refine calls_vm [.val (.slice A 0 c)] (fn := Tryd.f39) Tryd.func39 (by kernel_rfl) (by kernel_rfl) (by kernel_rfl) (by simp [AV.okL, AV.ok]) ?_
  refine wpK_end (n := 400) (m := 2) (nx := 0) (hs := []) (v := .val (.slice none 0 0)) follows trivial (by kernel_rfl) ?_
  intro ρ w' hf; exact ⟨hf.to_below, 0, 0, rfl, ⟨fun _ => rfl, fun h => by omega⟩, fun h => by omega⟩
theorem joinedA_c (w : World) (A : Option Addr) (n c : Nat) (l : List Int) (hS : Sl .u8 w A n l) (hc : n ≤ c) (hd : Digs l) (hn : n ≤ 9000000000000) : Calls Tryd.prog 39 #[.slice A n c] w (Gives w (jnL l)) := by
  rcases Nat.eq_zero_or_pos n with h0 | h0
  · subst h0
    have : l = [] := List.eq_nil_of_length_eq_zero hS.1
    subst this
    exact joinedZ_c w c A
  · obtain ⟨ad, rfl⟩ := hS.has h0
    exact joined_c w ad n c l hS hc hd hn
abbrev lb (v : Nat) : Vblk := ⟨[.ints .u64 4 (limbs v)], 25, .arr⟩
def gS (A : Option Addr) (n c v i : Nat) : AS := ⟨[(0, .val (.slice A n c)), (2, .ptr 1 0), (3, .val (.int .i64 0)), (4, .ptr 2 0), (12, .val (.int .i64 (n : Int))), (13, .val (.int .i64 (i : Int)))], [(1, lb 0), (2, lb v)]⟩
def getR (w : World) (v : Nat) (e0 : Int) (e : Ending) (w' : World) : Prop := e = .returned (.tuple #[U v, .int .i64 e0]) ∧ Below w.heap.size w w'
set_option maxHeartbeats 4000000 in
theorem g_round (w : World) (A : Option Addr) (n c : Nat) (l : List Int) (hS : Sl .u8 w A n l) (hb : ByteL l) (hn : n ≤ 32) :
    ∀ (q i : Nat), i + q = n → wpK (ctx Tryd.prog w Tryd.f61.ntmps) Tryd.f61 (getR w (valB 8 l) 0) (loopAt Tryd.f61 0) (gS A n c (va 8 l i) i) := by
  have hl := hS.1
  intro q
  induction q with
  | zero =>
    intro i hi
    obtain rfl : i = n := by omega
    have hlt : decide ((i : Int) < (i : Int)) = false := by simp
    rw [← hl, va_full, hl]
    obtain ⟨v, hv⟩ : ∃ v, v = valB 8 l := ⟨_, rfl⟩
    rw [← hv]
    refine wpK_end (n := 400) (m := 0) (nx := 100) (hs := [(14, .eq (.val (.bool false)))]) (v := .tup [.agg [.ints .u64 4 (limbs v)], .val (.int .i64 0)]) follows (congrArg Value.bool hlt) (by kernel_rfl) ?_
    intro ρ w' hf; exact ⟨rfl, hf.to_below⟩
  | succ q ih =>
    intro i hi
    have hlt : decide ((i : Int) < (n : Int)) = true := by simp; omega
    have hin : i < n := by omega
    have hil : i < l.length := by omega
    obtain ⟨ad, rfl⟩ := hS.has (by omega)
    obtain ⟨k, hk⟩ : ∃ k, k = l.length - 1 - i := ⟨_, rfl⟩
    have hstep := lay_step 8 8 rfl l hb i k hil hk (by omega)
    obtain ⟨x, hx⟩ : ∃ x : Nat, l.getD i 0 = (x : Int) := ⟨(l.getD i 0).toNat, by
      have := hb (l.getD i 0) (by rw [List.getD_eq_getElem?_getD, List.getElem?_eq_getElem hil]; exact List.getElem_mem hil); omega⟩
    have hxb : x < 256 := by
      have := hb (l.getD i 0) (by rw [List.getD_eq_getElem?_getD, List.getElem?_eq_getElem hil]; exact List.getElem_mem hil); omega
    rw [hx, Int.toNat_natCast] at hstep
    have hcx : ∀ w', Fr No w w' → w'.cell? (ad.add i) = some (.int .u8 (x : Int)) := fun w' hf => hx ▸ (hS.frN hf).at i hin
    have s1 : IntKind.i64.wrap ((n : Int) - 1) = (n : Int) - 1 := by rw [IntKind.wrap_i64]; omega
    have s2 : IntKind.i64.wrap ((n : Int) - 1 - (i : Int)) = (k : Int) := by rw [IntKind.wrap_i64]; omega
    have s3 : IntKind.i64.wrap ((k : Int).tdiv 8) = ((k / 8 : Nat) : Int) := by rw [Int.tdiv_eq_ediv_of_nonneg (by omega), IntKind.wrap_i64]; omega
    have s4 : (k : Int).tmod 8 = ((k % 8 : Nat) : Int) := by rw [Int.tmod_eq_emod_of_nonneg (by omega)]; omega
    have s5 : IntKind.i64.wrap (8 * ((k % 8 : Nat) : Int)) = ((8 * (k % 8) : Nat) : Int) := by rw [IntKind.wrap_i64]; omega
    have s6 : IntKind.u64.wrap (x : Int) = (x : Int) := by rw [IntKind.wrap_u64]; omega
    have hp : x * 2 ^ (8 * (k % 8)) < 18446744073709551616 := by
      have h1 : x * 2 ^ (8 * (k % 8)) < 2 ^ 8 * 2 ^ (8 * (k % 8)) := Nat.mul_lt_mul_of_pos_right hxb (Nat.two_pow_pos _)
      have h2 : 2 ^ (8 + 8 * (k % 8)) ≤ 2 ^ 64 := Nat.pow_le_pow_right (by omega) (by omega)
      rw [Nat.pow_add] at h2
      omega
    have s7 : IntKind.u64.wrap ((x : Int) * 2 ^ min (Int.toNat ((8 * (k % 8) : Nat) : Int)) IntKind.u64.bits) = ((x * 2 ^ (8 * (k % 8)) : Nat) : Int) := by
      have hbt : IntKind.u64.bits = 64 := rfl
      rw [hbt, Int.toNat_natCast, Nat.min_eq_left (by omega)]
      have e : ((x : Int) * 2 ^ (8 * (k % 8))) = ((x * 2 ^ (8 * (k % 8)) : Nat) : Int) := by push_cast; rfl
      rw [e, IntKind.wrap_u64]
      omega
    have hk4 : k / 8 < 4 := by omega
    have s8 : IntKind.i64.wrap ((i : Int) + 1) = ((i + 1 : Nat) : Int) := by rw [IntKind.wrap_i64]; omega
    obtain ⟨p, hpd⟩ : ∃ p, p = x * 2 ^ (8 * (k % 8)) := ⟨_, rfl⟩
    rw [← hpd] at s7 hstep
    obtain ⟨v, hv⟩ : ∃ v, v = va 8 l i := ⟨_, rfl⟩
    rw [← hv] at hstep ⊢
    have ih := ih (i + 1) (by omega)
    have hgo : wpK (ctx Tryd.prog w Tryd.f61.ntmps) Tryd.f61 (getR w (valB 8 l) 0) (loopAt Tryd.f61 0) ⟨[(0, .val (.slice (some ad) n c)), (2, .ptr 1 0), (3, .val (.int .i64 0)), (4, .ptr 2 0), (12, .val (.int .i64 (n : Int))), (13, .val (.int .i64 ((i + 1 : Nat) : Int)))], [(1, lb 0), (2, ⟨[.ints .u64 4 ((limbs v).set (k / 8) (bits BinOp.or IntKind.u64 ((limbs v).getD (k / 8) 0) (p : Int)))], 25, .arr⟩)]⟩ := by
      rw [hstep]
      exact ih
    refine wpK_loop (n := 400) (m := 0) (nx := 100) (hs := [(14, .eq (.val (.bool true))), (18, .eq (.val (.int .i64 ((n : Int) - 1)))), (20, .eq (.val (.int .i64 (k : Int)))), (22, .eq (.val (.int .i64 ((k / 8 : Nat) : Int)))), (23, .ix (k / 8)), (27, .as (.val (.pointer (some (ad.add i))))), (28, .as (.val (.int .u8 (x : Int)))), (29, .eq (.val (.int .u64 (x : Int)))), (31, .eq (.val (.int .i64 ((k % 8 : Nat) : Int)))), (32, .eq (.val (.int .i64 ((8 * (k % 8) : Nat) : Int)))), (33, .eq (.val (.int .u64 (p : Int)))), (34, .eq (.val (.int .u64 (bits BinOp.or IntKind.u64 ((limbs v).getD (k / 8) 0) (p : Int))))), (35, .ix (k / 8)), (36, .eq (.val (.int .i64 ((i + 1 : Nat) : Int))))]) (st' := loopAt Tryd.f61 0) (s' := ⟨[(0, .val (.slice (some ad) n c)), (2, .ptr 1 0), (3, .val (.int .i64 0)), (4, .ptr 2 0), (12, .val (.int .i64 (n : Int))), (13, .val (.int .i64 ((i + 1 : Nat) : Int)))], [(1, lb 0), (2, ⟨[.ints .u64 4 ((limbs v).set (k / 8) (bits BinOp.or IntKind.u64 ((limbs v).getD (k / 8) 0) (p : Int)))], 25, .arr⟩)]⟩) follows [] [0, 2, 3, 4, 12, 13] [(1, 1), (2, 2)] (And.intro (congrArg Value.bool hlt) (And.intro (congrArg (Value.int .i64) s1) (And.intro (congrArg (Value.int .i64) s2) (And.intro (congrArg (Value.int .i64) s3) (And.intro (rfl : ((k / 8 : Nat) : Int) = ((k / 8 : Nat) : Int)) (And.intro hk4 (And.intro hk4 (And.intro (sl_index (F := No) (w := w) (A := ad) (n := n) (c := c) (k' := .i64) Tryd.underlying22 infB hin) (And.intro (sl_load (F := No) (w := w) Tryd.underlying5 rfl hcx) (And.intro (congrArg (Value.int .u64) s6) (And.intro (congrArg (Value.int .i64) s4) (And.intro (congrArg (Value.int .i64) s5) (And.intro (congrArg (Value.int .u64) s7) (And.intro (rfl : Value.int .u64 (bits BinOp.or IntKind.u64 ((limbs v).getD (k / 8) 0) (p : Int)) = Value.int .u64 (bits BinOp.or IntKind.u64 ((limbs v).getD (k / 8) 0) (p : Int))) (And.intro (rfl : ((k / 8 : Nat) : Int) = ((k / 8 : Nat) : Int)) (And.intro hk4 (And.intro hk4 (congrArg (Value.int .i64) s8)))))))))))))))))) (by kernel_rfl) ?_
    exact hgo
theorem get_c (w : World) (A : Option Addr) (n c : Nat) (l : List Int) (hS : Sl .u8 w A n l) (hb : ByteL l) (hn : n ≤ 32) : Calls Tryd.prog 61 #[.slice A n c] w (getR w (valB 8 l) 0) := by
  have hg : decide ((n : Int) > 32) = false := by simp; omega
  refine calls_vm [.val (.slice A n c)] (fn := Tryd.f61) Tryd.func61 (by kernel_rfl) (by kernel_rfl) (by kernel_rfl) (by simp [AV.okL, AV.ok]) ?_
  refine wpK_loop (n := 400) (m := 0) (nx := 0) (hs := [(2, .row [.ints .u64 4 (limbs 0)]), (9, .eq (.val (.bool false))), (4, .row [.ints .u64 4 (limbs 0)])]) (st' := loopAt Tryd.f61 0) (s' := gS A n c 0 0) follows [] [0, 2, 3, 4, 12, 13] [(1, 0), (2, 5)] (And.intro (fun ρ => (rfl : Seg.cells ρ [.ints .u64 4 (limbs 0)] = (Value.agg #[.int .u64 (L 0 0), .int .u64 (L 0 1), .int .u64 (L 0 2), .int .u64 (L 0 3)]).cells.toList)) (And.intro (show Seg.ok No [.ints .u64 4 (limbs 0)] from ⟨rfl, trivial⟩) (And.intro (congrArg Value.bool hg) (And.intro (fun ρ => (rfl : Seg.cells ρ [.ints .u64 4 (limbs 0)] = (Value.agg #[.int .u64 (L 0 0), .int .u64 (L 0 1), .int .u64 (L 0 2), .int .u64 (L 0 3)]).cells.toList)) (show Seg.ok No [.ints .u64 4 (limbs 0)] from ⟨rfl, trivial⟩))))) (by kernel_rfl) ?_
  have h0 := g_round w A n c l hS hb hn n 0 (by omega)
  rw [va_zero] at h0
  exact h0
end Go.Proofs.YtkanjdllaikoaaaDoor

