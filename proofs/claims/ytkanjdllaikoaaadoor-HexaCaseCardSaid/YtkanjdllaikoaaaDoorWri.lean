/- written: two digits a byte. -/
import Derived.Test.YtkanjdllaikoaaaDoorBlW
import Derived.Test.YtkanjdllaikoaaaDoorShelf
import Derived.Test.YtkanjdllaikoaaaDoorVmG
set_option linter.unusedSimpArgs false
set_option linter.unusedVariables false
namespace Go.Proofs.YtkanjdllaikoaaaDoor
open Go Go.RowKit

/-- A digit. -/
def dgt (n : Nat) : UInt8 := ([48, 49, 50, 51, 52, 53, 54, 55, 56, 57, 97, 98, 99, 100, 101, 102] : List UInt8).getD n 0
/-- Two digits a byte. -/
def hexL : List Int → List UInt8
  | [] => []
  | c :: r => dgt (c.toNat / 16) :: dgt (c.toNat % 16) :: hexL r
theorem hexL_append : ∀ (l m : List Int), hexL (l ++ m) = hexL l ++ hexL m
  | [], m => rfl
  | c :: r, m => by simp [hexL, hexL_append r m]
theorem hexL_len : ∀ l : List Int, (hexL l).length = 2 * l.length
  | [] => rfl
  | c :: r => by simp [hexL, hexL_len r]; omega
/-- Bytes. -/
def Bytes (l : List Int) : Prop := ∀ i, i < l.length → 0 ≤ l.getD i 0 ∧ l.getD i 0 ≤ 255
theorem take_snocD (zs : List Int) (i : Nat) (hi : i < zs.length) : zs.take (i + 1) = zs.take i ++ [zs.getD i 0] := by
  rw [List.take_add_one, List.getElem?_eq_getElem hi]
  simp [hi]
abbrev idG (t : TypeId) (n : Nat) : Sem Next := do pure (.value (← Instr.index t (.string ⟨#[48, 49, 50, 51, 52, 53, 54, 55, 56, 57, 97, 98, 99, 100, 101, 102]⟩) (.int .u8 (n : Int))))
theorem id_run (n : Nat) (h : n < 16) (w : World) : (idG 9 n).run Tryd.prog w = .ok (.value (.int .u8 ((dgt n).toNat : Int))) w := by
  have : n = 0 ∨ n = 1 ∨ n = 2 ∨ n = 3 ∨ n = 4 ∨ n = 5 ∨ n = 6 ∨ n = 7 ∨ n = 8 ∨ n = 9 ∨ n = 10 ∨ n = 11 ∨ n = 12 ∨ n = 13 ∨ n = 14 ∨ n = 15 := by omega
  rcases this with rfl | rfl | rfl | rfl | rfl | rfl | rfl | rfl | rfl | rfl | rfl | rfl | rfl | rfl | rfl | rfl <;> exact prun_run _ _ _ (by kernel_rfl) w
theorem b_shr (x : Nat) : (x : Int).fdiv (2 ^ min (Int.toNat 4) IntKind.u8.bits) = ((x / 16 : Nat) : Int) := by
  show (x : Int).fdiv (2 ^ 4) = _
  rw [Int.fdiv_eq_ediv_of_nonneg _ (by decide)]
  rfl
set_option maxRecDepth 100000 in
theorem b_and (x : Nat) (h : x < 256) : IntKind.u8.wrap ((BitVec.ofInt IntKind.u8.bits (x : Int) &&& BitVec.ofInt IntKind.u8.bits 15).toNat : Int) = ((x % 16 : Nat) : Int) := by
  have : ∀ x : Nat, x < 256 → IntKind.u8.wrap ((BitVec.ofInt IntKind.u8.bits (x : Int) &&& BitVec.ofInt IntKind.u8.bits 15).toNat : Int) = ((x % 16 : Nat) : Int) := by decide
  exact this x h
theorem infB : (Tryd.prog.info? 5).map (·.size) = some 1 := by kernel_rfl
theorem frNW {w w1 w2 : World} (h : Fr No w w1) (k : Fr (fun k => w.heap.size ≤ k) w1 w2) : Fr No w w2 :=
  ⟨k.os.trans h.os, k.tape.trans h.tape, k.output.trans h.output, Nat.le_trans h.size k.size, fun j hj _ => (k.block j (Nat.lt_of_lt_of_le hj h.size) (by omega)).trans (h.block j hj (fun h => h))⟩
theorem Bld.frN {W0 : Nat} {w w' : World} {B : Nat} {l : List UInt8} (h : Bld W0 w B l) (hf : Fr No w w') : Bld W0 w' B l := by
  have hk : ∀ (k : Nat) (x : Obj), w.heap[k]? = some x → w'.heap[k]? = some x := by
    intro k x hx
    rw [hf.block k (Array.getElem?_eq_some_iff.1 hx).1 (fun h => h)]
    exact hx
  obtain ⟨hW, h | ⟨g, c, h1, h2, h3, h4, h5⟩⟩ := h
  · exact ⟨hW, .inl ⟨h.1, hk _ _ h.2⟩⟩
  · refine ⟨hW, .inr ⟨g, c, h1, h2, h3, hk _ _ h4, h5.1, fun hc => ?_⟩⟩
    obtain ⟨a1, sp, a2, a3⟩ := h5.2 hc
    exact ⟨a1, sp, a2, hk _ _ a3⟩
theorem Bld.isF {W0 : Nat} {w : World} {B : Nat} {l : List UInt8} (h : Bld W0 w B l) : Lib.IsBuilderF 76 5 W0 B (Lib.byteCells l) w := by
  obtain ⟨hW, h | ⟨g, c, h1, h2, h3, h4, h5⟩⟩ := h
  · obtain ⟨rfl, h⟩ := h
    exact .inl ⟨hW, _, h, ⟨rfl, .inl ⟨rfl, rfl⟩⟩, by simp [Value.ownBlock]⟩
  · obtain ⟨a1, sp, a2, a3⟩ := h5.2 h3
    have hl := Lib.byteCells_length l
    refine .inr ⟨hW, _, h4, ⟨by simp, .inr ⟨g, c, _, (0, 0), by rw [hl], h1, a3, by simp, ?_, a1, by simpa using a2, ?_⟩⟩, ?_⟩
    · rw [List.length_append] at a2; omega
    · simp
    · simp only [Value.ownBlock]
      intro e
      injection e with e
      exact h2 e
def wS (B : Nat) (A : Option Addr) (n c i : Nat) : AS := ⟨[(3, .val (.pointer (some ⟨B, 0, none⟩))), (6, .val (.slice A n c)), (7, .val (.int .i64 (n : Int))), (8, .val (.int .i64 (i : Int)))], []⟩
def wS5 (B : Nat) (A : Option Addr) (n c i x : Nat) : AS := ⟨[(3, .val (.pointer (some ⟨B, 0, none⟩))), (5, .val (.int .u8 (x : Int))), (6, .val (.slice A n c)), (7, .val (.int .i64 (n : Int))), (8, .val (.int .i64 (i : Int)))], []⟩
def wR (w : World) (l : List Int) (e : Ending) (w' : World) : Prop := e = .returned (.string ⟨(hexL l).toArray⟩) ∧ Below w.heap.size w w'
set_option maxHeartbeats 4000000 in
theorem wr_round (w : World) (A : Option Addr) (n c : Nat) (l : List Int) (hS : Sl .u8 w A n l) (hb : Bytes l) (hn : n ≤ 9000000000000) :
    ∀ (q i : Nat), i + q = n → ∀ (w1 : World) (B : Nat), Fr No w w1 → Bld w.heap.size w1 B (hexL (l.take i)) → wpK (ctx Tryd.prog w1 Tryd.f31.ntmps) Tryd.f31 (wR w l) (loopAt Tryd.f31 0) (wS B A n c i) := by
  have hl := hS.1
  intro q
  induction q with
  | zero =>
    intro i hi w1 B hf hB
    obtain rfl : i = n := by omega
    have hlt : decide ((i : Int) < (i : Int)) = false := by simp
    rw [List.take_of_length_le (by omega)] at hB
    refine wpK_loop (n := 400) (m := 0) (nx := 300) (hs := [(9, .eq (.val (.bool false))), (88888, .subE)]) (st' := regAt Tryd.f31 8) (s' := wS B A i c i) follows [] [3, 6, 7, 8] [] (congrArg Value.bool hlt) (by kernel_rfl) ?_
    refine wpL_region (by kernel_rfl) ?_
    refine wpL_call 0 (nx := 500) (hs := []) (tm := [(3, .val (.pointer (some ⟨B, 0, none⟩))), (6, .val (.slice A i c)), (7, .val (.int .i64 (i : Int))), (8, .val (.int .i64 (i : Int)))]) (f := 46) (args := [.pointer (some ⟨B, 0, none⟩)]) trivial (by kernel_rfl) ?_
    intro w2 hf2
    have hB2 := hB.frN hf2
    have hsz : w.heap.size ≤ w2.heap.size := Nat.le_trans hf.size hf2.size
    refine (Tryd.Builder_String_any_k w.heap.size B (hexL l) w2 hB2.isF hsz).mono ?_
    rintro e w3 ⟨rfl, _, hbel, _⟩
    refine ⟨_, rfl, ?_⟩
    have hfr3 : Fr No w w3 := ⟨hbel.os.trans (hf2.os.trans hf.os), hbel.tape.trans (hf2.tape.trans hf.tape), hbel.output.trans (hf2.output.trans hf.output), Nat.le_trans hsz hbel.size, fun k hk _ => (hbel.block k hk).trans ((hf2.block k (Nat.lt_of_lt_of_le hk hf.size) (fun h => h)).trans (hf.block k hk (fun h => h)))⟩
    refine wpL_end (n := 400) (m := 0) (nx := 500) (hs := []) (v := .val (.string ⟨(hexL l).toArray⟩)) follows trivial (by kernel_rfl) ?_
    intro ρ w' hf4
    refine ⟨rfl, ?_⟩
    have : Fr No w w' := hfr3.trans ⟨hf4.os, hf4.tape, hf4.output, hf4.size, hf4.block⟩
    exact this.to_below
  | succ q ih =>
    intro i hi w1 B hf hB
    have hlt : decide ((i : Int) < (n : Int)) = true := by simp; omega
    have hin : i < n := by omega
    have hw : IntKind.i64.wrap ((i : Int) + 1) = ((i + 1 : Nat) : Int) := by rw [IntKind.wrap_i64]; omega
    obtain ⟨ad, rfl⟩ := hS.has (by omega)
    have hbi := hb i (by omega)
    obtain ⟨x, hx⟩ : ∃ x : Nat, l.getD i 0 = (x : Int) := ⟨(l.getD i 0).toNat, by omega⟩
    have hx256 : x < 256 := by omega
    have hcell : ∀ w', Fr No w1 w' → w'.cell? (ad.add i) = some (.int .u8 (x : Int)) := fun w' hf' => hx ▸ ((hS.frN hf).frN hf').at i hin
    have htk : hexL (l.take (i + 1)) = (hexL (l.take i) ++ [dgt (x / 16)]) ++ [dgt (x % 16)] := by
      rw [take_snocD l i (by omega), hexL_append, hx]
      simp [hexL]
    have hlen : (hexL (l.take i)).length ≤ 2 * n := by rw [hexL_len, List.length_take]; omega
    have h16 : x / 16 < 16 := by omega
    have hm16 : x % 16 < 16 := by omega
    refine wpK_loop (n := 400) (m := 0) (nx := 300) (hs := [(9, .eq (.val (.bool true))), (10, .as (.val (.pointer (some (ad.add i))))), (11, .as (.val (.int .u8 (x : Int)))), (88888, .subE)]) (st' := regAt Tryd.f31 5) (s' := wS5 B (some ad) n c i x) follows [] [3, 5, 6, 7, 8] [] (And.intro (congrArg Value.bool hlt) (And.intro (sl_index (F := No) (w := w1) (A := ad) (n := n) (c := c) (k' := .i64) Tryd.underlying22 infB hin) (sl_load (F := No) (w := w1) Tryd.underlying5 rfl hcell))) (by kernel_rfl) ?_
    refine wpL_region (by kernel_rfl) ?_
    refine wpL_call 3 (nx := 500) (hs := [(13, .eq (.val (.int .u8 ((x / 16 : Nat) : Int)))), (14, .as (.val (.int .u8 ((dgt (x / 16)).toNat : Int))))]) (tm := [(3, .val (.pointer (some ⟨B, 0, none⟩))), (5, .val (.int .u8 (x : Int))), (6, .val (.slice (some ad) n c)), (7, .val (.int .i64 (n : Int))), (8, .val (.int .i64 (i : Int))), (12, .val (.int .u8 (x : Int))), (13, .val (.int .u8 ((x / 16 : Nat) : Int))), (14, .val (.int .u8 ((dgt (x / 16)).toNat : Int)))]) (f := 45) (args := [.pointer (some ⟨B, 0, none⟩), .int .u8 ((dgt (x / 16)).toNat : Int)]) (And.intro (congrArg (Value.int .u8) (b_shr x)) (show ∀ (ρ : Env) (w' : World), Fr No w1 w' → (idG 9 (x / 16)).run Tryd.prog w' = .ok (.value (.int .u8 ((dgt (x / 16)).toNat : Int))) w' from fun ρ w' _ => id_run (x / 16) h16 w')) (by kernel_rfl) ?_
    intro w2 hf2
    have hsz2 : w.heap.size ≤ w2.heap.size := Nat.le_trans hf.size hf2.size
    refine (writeByte_c w.heap.size w2 B _ (dgt (x / 16)) (hB.frN hf2) (by omega) hsz2).mono ?_
    rintro e w3 ⟨rfl, hB3, hf3⟩
    refine ⟨_, rfl, ?_⟩
    have hfr3 : Fr No w w3 := frNW (hf.trans hf2) hf3
    refine wpL_loop (n := 400) (m := 0) (nx := 500) (hs := [(88888, .subE)]) (st' := regAt Tryd.f31 6) (s' := wS5 B (some ad) n c i x) follows [] [3, 5, 6, 7, 8] [] trivial (by kernel_rfl) ?_
    refine wpL_region (by kernel_rfl) ?_
    refine wpL_call 3 (nx := 500) (hs := [(17, .eq (.val (.int .u8 ((x % 16 : Nat) : Int)))), (18, .as (.val (.int .u8 ((dgt (x % 16)).toNat : Int))))]) (tm := [(3, .val (.pointer (some ⟨B, 0, none⟩))), (5, .val (.int .u8 (x : Int))), (6, .val (.slice (some ad) n c)), (7, .val (.int .i64 (n : Int))), (8, .val (.int .i64 (i : Int))), (16, .val (.int .u8 (x : Int))), (17, .val (.int .u8 ((x % 16 : Nat) : Int))), (18, .val (.int .u8 ((dgt (x % 16)).toNat : Int)))]) (f := 45) (args := [.pointer (some ⟨B, 0, none⟩), .int .u8 ((dgt (x % 16)).toNat : Int)]) (And.intro (congrArg (Value.int .u8) (b_and x hx256)) (show ∀ (ρ : Env) (w' : World), Fr No w3 w' → (idG 9 (x % 16)).run Tryd.prog w' = .ok (.value (.int .u8 ((dgt (x % 16)).toNat : Int))) w' from fun ρ w' _ => id_run (x % 16) hm16 w')) (by kernel_rfl) ?_
    intro w4 hf4
    have hsz4 : w.heap.size ≤ w4.heap.size := Nat.le_trans hfr3.size hf4.size
    refine (writeByte_c w.heap.size w4 B _ (dgt (x % 16)) (hB3.frN hf4) (by rw [List.length_append]; simp; omega) hsz4).mono ?_
    rintro e w5 ⟨rfl, hB5, hf5⟩
    refine ⟨_, rfl, ?_⟩
    have hfr5 : Fr No w w5 := frNW (hfr3.trans hf4) hf5
    rw [← htk] at hB5
    refine wpL_loop (n := 400) (m := 0) (nx := 500) (hs := [(20, .eq (.val (.int .i64 ((i + 1 : Nat) : Int))))]) (st' := loopAt Tryd.f31 0) (s' := wS B (some ad) n c (i + 1)) follows [] [3, 6, 7, 8] [] (congrArg (Value.int .i64) hw) (by kernel_rfl) ?_
    exact ih (i + 1) (by omega) w5 B hfr5 hB5
theorem written_c (w : World) (A : Option Addr) (n c : Nat) (l : List Int) (hS : Sl .u8 w A n l) (hb : Bytes l) (hn : n ≤ 9000000000000) :
    Calls Tryd.prog 31 #[.slice A n c] w (wR w l) := by
  refine calls_vm [.val (.slice A n c)] (fn := Tryd.f31) Tryd.func31 (by kernel_rfl) (by kernel_rfl) (by kernel_rfl) (by simp [AV.okL, AV.ok]) ?_
  refine wpK_loop (n := 400) (m := 0) (nx := 0) (hs := []) (st' := loopAt Tryd.f31 0) (s' := ⟨[(3, .ptr 1 0), (6, .val (.slice A n c)), (7, .val (.int .i64 (n : Int))), (8, .val (.int .i64 ((0 : Nat) : Int)))], [(1, bf)]⟩) follows [] [3, 6, 7, 8] [(1, 1)] trivial (by kernel_rfl) ?_
  refine wpK_plain fun ρ w1 hf hM => ?_
  have hs := hM.sits 1 bf rfl
  have hh := hM.home 1 bf rfl trivial
  have hB : Bld w.heap.size w1 (ρ.b 1) (hexL (l.take 0)) := ⟨hh.elim (fun h => h.elim) id, .inl ⟨rfl, hs.1⟩⟩
  exact wr_round w A n c l hS hb hn n 0 (by omega) w1 (ρ.b 1) hf hB
end Go.Proofs.YtkanjdllaikoaaaDoor

