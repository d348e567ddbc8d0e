/- Get, Strict, same. -/
import Derived.Test.YthgnmpjcbicdhaaDoorGv
import Derived.Test.YthgnmpjcbicdhaaDoorLay
import Derived.Test.YthgnmpjcbicdhaaDoorCmp
set_option linter.unusedSimpArgs false
set_option linter.unusedVariables false
namespace Go.Proofs.YthgnmpjcbicdhaaDoor
open Go Go.RowKit

theorem infB : (Tryd.prog.info? 5).map (·.size) = some 1 := by kernel_rfl
def ByteL (l : List Int) : Prop := ∀ x ∈ l, 0 ≤ x ∧ x < 256
abbrev lb (v : Nat) : Vblk := ⟨[.ints .u64 4 (limbs v)], 24, .arr⟩
def gS (A : Option Addr) (n c v i : Nat) : AS := ⟨[(0, .val (.slice A n c)), (2, .ptr 1 0), (3, .val (.int .i64 0)), (4, .ptr 2 0), (12, .val (.int .i64 (n : Int))), (13, .val (.int .i64 (i : Int)))], [(1, lb 0), (2, lb v)]⟩
def getR (w : World) (v : Nat) (e0 : Int) (e : Ending) (w' : World) : Prop := e = .returned (.tuple #[U v, .int .i64 e0]) ∧ Below w.heap.size w w'
set_option maxHeartbeats 4000000 in
theorem g_round (w : World) (A : Option Addr) (n c : Nat) (l : List Int) (hS : Sl .u8 w A n l) (hb : ByteL l) (hn : n ≤ 32) :
    ∀ (q i : Nat), i + q = n → wpK (ctx Tryd.prog w Tryd.f11.ntmps) Tryd.f11 (getR w (valB 8 l) 0) (loopAt Tryd.f11 0) (gS A n c (va 8 l i) i) := by
  have hl := hS.1
  intro q
  induction q with
  | zero =>
    intro i hi
    obtain rfl : i = n := by omega
    have hlt : decide ((i : Int) < (i : Int)) = false := by simp
    rw [← hl, va_full, hl]
    obtain ⟨v, hv⟩ : ∃ v, v = valB 8 l := ⟨_, rfl⟩
    rw [← hv]
    refine wpK_end (n := 400) (m := 0) (nx := 100) (hs := [(14, .eq (.val (.bool false)))]) (v := .tup [.agg [.ints .u64 4 (limbs v)], .val (.int .i64 0)]) follows (congrArg Value.bool hlt) (by kernel_rfl) ?_
    intro ρ w' hf; exact ⟨rfl, hf.to_below⟩
  | succ q ih =>
    intro i hi
    have hlt : decide ((i : Int) < (n : Int)) = true := by simp; omega
    have hin : i < n := by omega
    have hil : i < l.length := by omega
    obtain ⟨ad, rfl⟩ := hS.has (by omega)
    obtain ⟨k, hk⟩ : ∃ k, k = l.length - 1 - i := ⟨_, rfl⟩
    have hstep := lay_step 8 8 rfl l hb i k hil hk (by omega)
    obtain ⟨x, hx⟩ : ∃ x : Nat, l.getD i 0 = (x : Int) := ⟨(l.getD i 0).toNat, by
      have := hb (l.getD i 0) (by rw [List.getD_eq_getElem?_getD, List.getElem?_eq_getElem hil]; exact List.getElem_mem hil); omega⟩
    have hxb : x < 256 := by
      have := hb (l.getD i 0) (by rw [List.getD_eq_getElem?_getD, List.getElem?_eq_getElem hil]; exact List.getElem_mem hil); omega
    rw [hx, Int.toNat_natCast] at hstep
    have hcx : ∀ w', Fr No w w' → w'.cell? (ad.add i) = some (.int .u8 (x : Int)) := fun w' hf => hx ▸ (hS.frN hf).at i hin
    have s1 : IntKind.i64.wrap ((n : Int) - 1) = (n : Int) - 1 := by rw [IntKind.wrap_i64]; omega
    have s2 : IntKind.i64.wrap ((n : Int) - 1 - (i : Int)) = (k : Int) := by rw [IntKind.wrap_i64]; omega
    have s3 : IntKind.i64.wrap ((k : Int).tdiv 8) = ((k / 8 : Nat) : Int) := by rw [Int.tdiv_eq_ediv_of_nonneg (by omega), IntKind.wrap_i64]; omega
    have s4 : (k : Int).tmod 8 = ((k % 8 : Nat) : Int) := by rw [Int.tmod_eq_emod_of_nonneg (by omega)]; omega
    have s5 : IntKind.i64.wrap (8 * ((k % 8 : Nat) : Int)) = ((8 * (k % 8) : Nat) : Int) := by rw [IntKind.wrap_i64]; omega
    have s6 : IntKind.u64.wrap (x : Int) = (x : Int) := by rw [IntKind.wrap_u64]; omega
    have hp : x * 2 ^ (8 * (k % 8)) < 18446744073709551616 := by
      have h1 : x * 2 ^ (8 * (k % 8)) < 2 ^ 8 * 2 ^ (8 * (k % 8)) := Nat.mul_lt_mul_of_pos_right hxb (Nat.two_pow_pos _)
      have h2 : 2 ^ (8 + 8 * (k % 8)) ≤ 2 ^ 64 := Nat.pow_le_pow_right (by omega) (by omega)
      rw [Nat.pow_add] at h2
      omega
    have s7 : IntKind.u64.wrap ((x : Int) * 2 ^ min (Int.toNat ((8 * (k % 8) : Nat) : Int)) IntKind.u64.bits) = ((x * 2 ^ (8 * (k % 8)) : Nat) : Int) := by
      have hbt : IntKind.u64.bits = 64 := rfl
      rw [hbt, Int.toNat_natCast, Nat.min_eq_left (by omega)]
      have e : ((x : Int) * 2 ^ (8 * (k % 8))) = ((x * 2 ^ (8 * (k % 8)) : Nat) : Int) := by push_cast; rfl
      rw [e, IntKind.wrap_u64]
      omega
    have hk4 : k / 8 < 4 := by omega
    have s8 : IntKind.i64.wrap ((i : Int) + 1) = ((i + 1 : Nat) : Int) := by rw [IntKind.wrap_i64]; omega
    obtain ⟨p, hpd⟩ : ∃ p, p = x * 2 ^ (8 * (k % 8)) := ⟨_, rfl⟩
    rw [← hpd] at s7 hstep
    obtain ⟨v, hv⟩ : ∃ v, v = va 8 l i := ⟨_, rfl⟩
    rw [← hv] at hstep ⊢
    have ih := ih (i + 1) (by omega)
    have hgo : wpK (ctx Tryd.prog w Tryd.f11.ntmps) Tryd.f11 (getR w (valB 8 l) 0) (loopAt Tryd.f11 0) ⟨[(0, .val (.slice (some ad) n c)), (2, .ptr 1 0), (3, .val (.int .i64 0)), (4, .ptr 2 0), (12, .val (.int .i64 (n : Int))), (13, .val (.int .i64 ((i + 1 : Nat) : Int)))], [(1, lb 0), (2, ⟨[.ints .u64 4 ((limbs v).set (k / 8) (bits BinOp.or IntKind.u64 ((limbs v).getD (k / 8) 0) (p : Int)))], 24, .arr⟩)]⟩ := by
      rw [hstep]
      exact ih
    refine wpK_loop (n := 400) (m := 0) (nx := 100) (hs := [(14, .eq (.val (.bool true))), (18, .eq (.val (.int .i64 ((n : Int) - 1)))), (20, .eq (.val (.int .i64 (k : Int)))), (22, .eq (.val (.int .i64 ((k / 8 : Nat) : Int)))), (23, .ix (k / 8)), (27, .as (.val (.pointer (some (ad.add i))))), (28, .as (.val (.int .u8 (x : Int)))), (29, .eq (.val (.int .u64 (x : Int)))), (31, .eq (.val (.int .i64 ((k % 8 : Nat) : Int)))), (32, .eq (.val (.int .i64 ((8 * (k % 8) : Nat) : Int)))), (33, .eq (.val (.int .u64 (p : Int)))), (34, .eq (.val (.int .u64 (bits BinOp.or IntKind.u64 ((limbs v).getD (k / 8) 0) (p : Int))))), (35, .ix (k / 8)), (36, .eq (.val (.int .i64 ((i + 1 : Nat) : Int))))]) (st' := loopAt Tryd.f11 0) (s' := ⟨[(0, .val (.slice (some ad) n c)), (2, .ptr 1 0), (3, .val (.int .i64 0)), (4, .ptr 2 0), (12, .val (.int .i64 (n : Int))), (13, .val (.int .i64 ((i + 1 : Nat) : Int)))], [(1, lb 0), (2, ⟨[.ints .u64 4 ((limbs v).set (k / 8) (bits BinOp.or IntKind.u64 ((limbs v).getD (k / 8) 0) (p : Int)))], 24, .arr⟩)]⟩) follows [] [0, 2, 3, 4, 12, 13] [(1, 1), (2, 2)] (And.intro (congrArg Value.bool hlt) (And.intro (congrArg (Value.int .i64) s1) (And.intro (congrArg (Value.int .i64) s2) (And.intro (congrArg (Value.int .i64) s3) (And.intro (rfl : ((k / 8 : Nat) : Int) = ((k / 8 : Nat) : Int)) (And.intro hk4 (And.intro hk4 (And.intro (sl_index (F := No) (w := w) (A := ad) (n := n) (c := c) (k' := .i64) Tryd.underlying33 infB hin) (And.intro (sl_load (F := No) (w := w) Tryd.underlying5 rfl hcx) (And.intro (congrArg (Value.int .u64) s6) (And.intro (congrArg (Value.int .i64) s4) (And.intro (congrArg (Value.int .i64) s5) (And.intro (congrArg (Value.int .u64) s7) (And.intro (rfl : Value.int .u64 (bits BinOp.or IntKind.u64 ((limbs v).getD (k / 8) 0) (p : Int)) = Value.int .u64 (bits BinOp.or IntKind.u64 ((limbs v).getD (k / 8) 0) (p : Int))) (And.intro (rfl : ((k / 8 : Nat) : Int) = ((k / 8 : Nat) : Int)) (And.intro hk4 (And.intro hk4 (congrArg (Value.int .i64) s8)))))))))))))))))) (by kernel_rfl) ?_
    exact hgo
theorem get_c (w : World) (A : Option Addr) (n c : Nat) (l : List Int) (hS : Sl .u8 w A n l) (hb : ByteL l) (hn : n ≤ 32) : Calls Tryd.prog 11 #[.slice A n c] w (getR w (valB 8 l) 0) := by
  have hg : decide ((n : Int) > 32) = false := by simp; omega
  refine calls_vm [.val (.slice A n c)] (fn := Tryd.f11) Tryd.func11 (by kernel_rfl) (by kernel_rfl) (by kernel_rfl) (by simp [AV.okL, AV.ok]) ?_
  refine wpK_loop (n := 400) (m := 0) (nx := 0) (hs := [(2, .row [.ints .u64 4 (limbs 0)]), (9, .eq (.val (.bool false))), (4, .row [.ints .u64 4 (limbs 0)])]) (st' := loopAt Tryd.f11 0) (s' := gS A n c 0 0) follows [] [0, 2, 3, 4, 12, 13] [(1, 0), (2, 5)] (And.intro (fun ρ => (rfl : Seg.cells ρ [.ints .u64 4 (limbs 0)] = (Value.agg #[.int .u64 (L 0 0), .int .u64 (L 0 1), .int .u64 (L 0 2), .int .u64 (L 0 3)]).cells.toList)) (And.intro (show Seg.ok No [.ints .u64 4 (limbs 0)] from ⟨rfl, trivial⟩) (And.intro (congrArg Value.bool hg) (And.intro (fun ρ => (rfl : Seg.cells ρ [.ints .u64 4 (limbs 0)] = (Value.agg #[.int .u64 (L 0 0), .int .u64 (L 0 1), .int .u64 (L 0 2), .int .u64 (L 0 3)]).cells.toList)) (show Seg.ok No [.ints .u64 4 (limbs 0)] from ⟨rfl, trivial⟩))))) (by kernel_rfl) ?_
  have h0 := g_round w A n c l hS hb hn n 0 (by omega)
  rw [va_zero] at h0
  exact h0
theorem getL_c (w : World) (A : Option Addr) (n c : Nat) (hn : 32 < n) : Calls Tryd.prog 11 #[.slice A n c] w (getR w 0 11) := by
  have h32 : decide ((n : Int) > 32) = true := by simp; omega
  refine calls_vm [.val (.slice A n c)] (fn := Tryd.f11) Tryd.func11 (by kernel_rfl) (by kernel_rfl) (by kernel_rfl) (by simp [AV.okL, AV.ok]) ?_
  refine wpK_end (n := 400) (m := 0) (nx := 0) (hs := [(9, .eq (.val (.bool true)))]) (v := .tup [.agg [.cell (.val (.int .u64 0)), .cell (.val (.int .u64 0)), .cell (.val (.int .u64 0)), .cell (.val (.int .u64 0))], .val (.int .i64 11)]) follows (congrArg Value.bool h32) (by kernel_rfl) ?_
  intro ρ w' hf; exact ⟨by rw [← U_zero]; rfl, hf.to_below⟩
def sE (l : List Int) : Int := if 32 < l.length then 11 else if 0 < l.length ∧ l.getD 0 0 = 0 then 13 else 0
def sV (l : List Int) : Nat := if sE l = 0 then valB 8 l else 0
set_option maxHeartbeats 2000000 in
theorem strict_c (w : World) (A : Option Addr) (n c : Nat) (l : List Int) (hS : Sl .u8 w A n l) (hb : ByteL l) : Calls Tryd.prog 12 #[.slice A n c] w (getR w (sV l) (sE l)) := by
  have hl := hS.1
  by_cases h32 : 32 < n
  · have hE : sE l = 11 := by unfold sE; rw [if_pos (by omega)]
    have hV : sV l = 0 := by unfold sV; rw [hE]; rfl
    rw [hE, hV]
    have hc := fun w' => getL_c w' A n c h32
    unfold getR at hc
    refine calls_vm [.val (.slice A n c)] (fn := Tryd.f12) Tryd.func12 (by kernel_rfl) (by kernel_rfl) (by kernel_rfl) (by simp [AV.okL, AV.ok]) ?_
    refine wpK_end (n := 400) (m := 0) (nx := 0) (hs := [(8, .call (.tup [.val (U (0)), .val (.int .i64 11)]))]) (v := .tup [.agg [.cell (.val (.int .u64 (L (0) 0))), .cell (.val (.int .u64 (L (0) 1))), .cell (.val (.int .u64 (L (0) 2))), .cell (.val (.int .u64 (L (0) 3)))], .val (.int .i64 11)]) follows (And.intro (vcall w (fun w => hc w)) (show AV.ok No (.tup [.val (U (0)), .val (.int .i64 11)]) from ⟨trivial, trivial, trivial⟩)) (by kernel_rfl) ?_
    intro ρ w' hf; exact ⟨rfl, hf.to_below⟩
  · have hc := fun (w' : World) (hf : Fr No w w') => get_c w' A n c l (hS.frN hf) hb (by omega)
    unfold getR at hc
    have h0e : ((0 : Int) == 0) = true := rfl
    by_cases h0 : 0 < n ∧ l.getD 0 0 = 0
    · have hE : sE l = 13 := by unfold sE; rw [if_neg (by omega), if_pos ⟨by omega, h0.2⟩]
      have hV : sV l = 0 := by unfold sV; rw [hE]; rfl
      rw [hE, hV]
      obtain ⟨hp, hz⟩ := h0
      obtain ⟨ad, rfl⟩ := hS.has hp
      have hg : decide ((n : Int) > 0) = true := by simp; omega
      have hcx : ∀ w', Fr No w w' → w'.cell? (ad.add 0) = some (.int .u8 0) := fun w' hf => hz ▸ (hS.frN hf).at 0 hp
      refine calls_vm [.val (.slice (some ad) n c)] (fn := Tryd.f12) Tryd.func12 (by kernel_rfl) (by kernel_rfl) (by kernel_rfl) (by simp [AV.okL, AV.ok]) ?_
      refine wpK_end (n := 400) (m := 0) (nx := 0) (hs := [(8, .call (.tup [.val (U (valB 8 l)), .val (.int .i64 0)])), (16, .eq (.val (.bool true))), (20, .as (.val (.pointer (some (ad.add 0))))), (21, .as (.val (.int .u8 0)))]) (v := .tup [.agg [.cell (.val (.int .u64 0)), .cell (.val (.int .u64 0)), .cell (.val (.int .u64 0)), .cell (.val (.int .u64 0))], .val (.int .i64 13)]) follows (And.intro (fun w' hf => hc w' hf) (And.intro (show AV.ok No (.tup [.val (U (valB 8 l)), .val (.int .i64 0)]) from ⟨trivial, trivial, trivial⟩) (And.intro (congrArg Value.bool hg) (And.intro (sl_index (F := No) (w := w) (A := ad) (n := n) (c := c) (k' := .i64) (i := 0) Tryd.underlying33 infB hp) (sl_load (F := No) (w := w) Tryd.underlying5 rfl hcx))))) (by kernel_rfl) ?_
      intro ρ w' hf; exact ⟨by rw [← U_zero]; rfl, hf.to_below⟩
    · have hE : sE l = 0 := by unfold sE; rw [if_neg (by omega), if_neg (by rw [hl]; exact h0)]
      have hV : sV l = valB 8 l := by unfold sV; rw [if_pos hE]
      rw [hE, hV]
      by_cases hp : 0 < n
      · obtain ⟨ad, rfl⟩ := hS.has hp
        have hg : decide ((n : Int) > 0) = true := by simp; omega
        obtain ⟨x, hx⟩ : ∃ x, x = l.getD 0 0 := ⟨_, rfl⟩
        have hcx : ∀ w', Fr No w w' → w'.cell? (ad.add 0) = some (.int .u8 x) := fun w' hf => hx ▸ (hS.frN hf).at 0 hp
        have hne : (x == 0) = false := by simp; exact fun e => h0 ⟨hp, by rw [← hx]; exact e⟩
        refine calls_vm [.val (.slice (some ad) n c)] (fn := Tryd.f12) Tryd.func12 (by kernel_rfl) (by kernel_rfl) (by kernel_rfl) (by simp [AV.okL, AV.ok]) ?_
        refine wpK_end (n := 400) (m := 0) (nx := 0) (hs := [(8, .call (.tup [.val (U (valB 8 l)), .val (.int .i64 0)])), (16, .eq (.val (.bool true))), (20, .as (.val (.pointer (some (ad.add 0))))), (21, .as (.val (.int .u8 x))), (22, .eq (.val (.bool false)))]) (v := .tup [.agg [.cell (.val (.int .u64 (L (valB 8 l) 0))), .cell (.val (.int .u64 (L (valB 8 l) 1))), .cell (.val (.int .u64 (L (valB 8 l) 2))), .cell (.val (.int .u64 (L (valB 8 l) 3)))], .val (.int .i64 0)]) follows (And.intro (fun w' hf => hc w' hf) (And.intro (show AV.ok No (.tup [.val (U (valB 8 l)), .val (.int .i64 0)]) from ⟨trivial, trivial, trivial⟩) (And.intro (congrArg Value.bool hg) (And.intro (sl_index (F := No) (w := w) (A := ad) (n := n) (c := c) (k' := .i64) (i := 0) Tryd.underlying33 infB hp) (And.intro (sl_load (F := No) (w := w) Tryd.underlying5 rfl hcx) (congrArg Value.bool hne)))))) (by kernel_rfl) ?_
        intro ρ w' hf; exact ⟨rfl, hf.to_below⟩
      · have hg : decide ((n : Int) > 0) = false := by simp; omega
        refine calls_vm [.val (.slice A n c)] (fn := Tryd.f12) Tryd.func12 (by kernel_rfl) (by kernel_rfl) (by kernel_rfl) (by simp [AV.okL, AV.ok]) ?_
        refine wpK_end (n := 400) (m := 0) (nx := 0) (hs := [(8, .call (.tup [.val (U (valB 8 l)), .val (.int .i64 0)])), (16, .eq (.val (.bool false)))]) (v := .tup [.agg [.cell (.val (.int .u64 (L (valB 8 l) 0))), .cell (.val (.int .u64 (L (valB 8 l) 1))), .cell (.val (.int .u64 (L (valB 8 l) 2))), .cell (.val (.int .u64 (L (valB 8 l) 3)))], .val (.int .i64 0)]) follows (And.intro (fun w' hf => hc w' hf) (And.intro (show AV.ok No (.tup [.val (U (valB 8 l)), .val (.int .i64 0)]) from ⟨trivial, trivial, trivial⟩) (congrArg Value.bool hg))) (by kernel_rfl) ?_
        intro ρ w' hf; exact ⟨rfl, hf.to_below⟩
def smS (A B : Option Addr) (n c d i : Nat) : AS := ⟨[(0, .val (.slice A n c)), (1, .val (.slice B n d)), (4, .val (.bool false)), (5, .val (.int .i64 (i : Int)))], []⟩
def smR (w : World) (b : Bool) (e : Ending) (w' : World) : Prop := e = .returned (.bool b) ∧ Below w.heap.size w w'
set_option maxHeartbeats 2000000 in
theorem sm_round (w : World) (A B : Option Addr) (n c d : Nat) (l m : List Int) (hA : Sl .u8 w A n l) (hB : Sl .u8 w B n m) (hn : n ≤ 9223372036854775807) :
    ∀ (q i : Nat), i + q = n → l.take i = m.take i → wpK (ctx Tryd.prog w Tryd.f14.ntmps) Tryd.f14 (smR w (decide (l = m))) (loopAt Tryd.f14 0) (smS A B n c d i) := by
  have hl := hA.1
  have hm := hB.1
  intro q
  induction q with
  | zero =>
    intro i hi ht
    have hlt : decide ((i : Int) < (n : Int)) = false := by simp; omega
    rw [List.take_of_length_le (by omega), List.take_of_length_le (by omega)] at ht
    rw [decide_eq_true ht]
    refine wpK_end (n := 400) (m := 0) (nx := 0) (hs := [(14, .eq (.val (.bool false)))]) (v := .val (.bool true)) follows (congrArg Value.bool hlt) (by kernel_rfl) ?_
    intro ρ w' hf; exact ⟨rfl, hf.to_below⟩
  | succ q ih =>
    intro i hi ht
    have hlt : decide ((i : Int) < (n : Int)) = true := by simp; omega
    have hin : i < n := by omega
    have hw : IntKind.i64.wrap ((i : Int) + 1) = ((i + 1 : Nat) : Int) := by rw [IntKind.wrap_i64]; omega
    obtain ⟨ad, rfl⟩ := hA.has (by omega)
    obtain ⟨bd, rfl⟩ := hB.has (by omega)
    obtain ⟨x, hx⟩ : ∃ x, x = l.getD i 0 := ⟨_, rfl⟩
    obtain ⟨y, hy⟩ : ∃ y, y = m.getD i 0 := ⟨_, rfl⟩
    have hcx : ∀ w', Fr No w w' → w'.cell? (ad.add i) = some (.int .u8 x) := fun w' hf => hx ▸ (hA.frN hf).at i hin
    have hcy : ∀ w', Fr No w w' → w'.cell? (bd.add i) = some (.int .u8 y) := fun w' hf => hy ▸ (hB.frN hf).at i hin
    have hsx : l.take (i + 1) = l.take i ++ [x] := by rw [hx, List.take_add_one, List.getElem?_eq_getElem (by omega), List.getD_eq_getElem?_getD, List.getElem?_eq_getElem (by omega)]; rfl
    have hsy : m.take (i + 1) = m.take i ++ [y] := by rw [hy, List.take_add_one, List.getElem?_eq_getElem (by omega), List.getD_eq_getElem?_getD, List.getElem?_eq_getElem (by omega)]; rfl
    by_cases hxy : x = y
    · have hne : (!(x == y)) = false := by simp [hxy]
      refine wpK_loop (n := 400) (m := 0) (nx := 0) (hs := [(14, .eq (.val (.bool true))), (19, .as (.val (.pointer (some (ad.add i))))), (20, .as (.val (.int .u8 x))), (23, .as (.val (.pointer (some (bd.add i))))), (24, .as (.val (.int .u8 y))), (25, .eq (.val (.bool false))), (16, .eq (.val (.int .i64 ((i + 1 : Nat) : Int))))]) (st' := loopAt Tryd.f14 0) (s' := smS (some ad) (some bd) n c d (i + 1)) follows [] [0, 1, 4, 5] [] (And.intro (congrArg Value.bool hlt) (And.intro (sl_index (F := No) (w := w) (A := ad) (n := n) (c := c) (k' := .i64) (i := i) Tryd.underlying33 infB hin) (And.intro (sl_load (F := No) (w := w) Tryd.underlying5 rfl hcx) (And.intro (sl_index (F := No) (w := w) (A := bd) (n := n) (c := d) (k' := .i64) (i := i) Tryd.underlying33 infB hin) (And.intro (sl_load (F := No) (w := w) Tryd.underlying5 rfl hcy) (And.intro (congrArg Value.bool hne) (congrArg (Value.int .i64) hw))))))) (by kernel_rfl) ?_
      exact ih (i + 1) (by omega) (by rw [hsx, hsy, ht, hxy])
    · have hne : (!(x == y)) = true := by simp [hxy]
      have hlm : l ≠ m := fun e => hxy (by rw [hx, hy, e])
      rw [decide_eq_false hlm]
      refine wpK_end (n := 400) (m := 0) (nx := 0) (hs := [(14, .eq (.val (.bool true))), (19, .as (.val (.pointer (some (ad.add i))))), (20, .as (.val (.int .u8 x))), (23, .as (.val (.pointer (some (bd.add i))))), (24, .as (.val (.int .u8 y))), (25, .eq (.val (.bool true)))]) (v := .val (.bool false)) follows (And.intro (congrArg Value.bool hlt) (And.intro (sl_index (F := No) (w := w) (A := ad) (n := n) (c := c) (k' := .i64) (i := i) Tryd.underlying33 infB hin) (And.intro (sl_load (F := No) (w := w) Tryd.underlying5 rfl hcx) (And.intro (sl_index (F := No) (w := w) (A := bd) (n := n) (c := d) (k' := .i64) (i := i) Tryd.underlying33 infB hin) (And.intro (sl_load (F := No) (w := w) Tryd.underlying5 rfl hcy) (congrArg Value.bool hne)))))) (by kernel_rfl) ?_
      intro ρ w' hf; exact ⟨rfl, hf.to_below⟩
theorem same_c (w : World) (A B : Option Addr) (n k c d : Nat) (l m : List Int) (hA : Sl .u8 w A n l) (hB : Sl .u8 w B k m) (hn : n ≤ 9223372036854775807) : Calls Tryd.prog 14 #[.slice A n c, .slice B k d] w (smR w (decide (l = m))) := by
  by_cases h : n = k
  · subst h
    have h10 : (!((n : Int) == (n : Int))) = false := by simp
    refine calls_vm [.val (.slice A n c), .val (.slice B n d)] (fn := Tryd.f14) Tryd.func14 (by kernel_rfl) (by kernel_rfl) (by kernel_rfl) (by simp [AV.okL, AV.ok]) ?_
    refine wpK_loop (n := 400) (m := 0) (nx := 0) (hs := [(10, .eq (.val (.bool false)))]) (st' := loopAt Tryd.f14 0) (s' := smS A B n c d 0) follows [] [0, 1, 4, 5] [] (congrArg Value.bool h10) (by kernel_rfl) ?_
    exact sm_round w A B n c d l m hA hB hn n 0 (by omega) rfl
  · have h10 : (!((n : Int) == (k : Int))) = true := by simp; omega
    have hlm : l ≠ m := fun e => h (by rw [← hA.1, ← hB.1, e])
    rw [decide_eq_false hlm]
    refine calls_vm [.val (.slice A n c), .val (.slice B k d)] (fn := Tryd.f14) Tryd.func14 (by kernel_rfl) (by kernel_rfl) (by kernel_rfl) (by simp [AV.okL, AV.ok]) ?_
    refine wpK_end (n := 400) (m := 0) (nx := 0) (hs := [(10, .eq (.val (.bool true)))]) (v := .val (.bool false)) follows (congrArg Value.bool h10) (by kernel_rfl) ?_
    intro ρ w' hf; exact ⟨rfl, hf.to_below⟩
end Go.Proofs.YthgnmpjcbicdhaaDoor

