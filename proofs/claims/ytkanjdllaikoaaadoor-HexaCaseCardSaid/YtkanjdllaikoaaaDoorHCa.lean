/- HexaCase, walked. -/
import Derived.Test.YtkanjdllaikoaaaDoorCaP
import Derived.Test.YtkanjdllaikoaaaDoorLw
import Derived.Test.YtkanjdllaikoaaaDoorSam
set_option linter.unusedSimpArgs false
set_option linter.unusedVariables false
namespace Go.Proofs.YtkanjdllaikoaaaDoor
open Go Go.RowKit

def caQ (w : World) (e : Ending) (w' : World) : Prop := e = .returned (.bool true) ∧ Below w.heap.size w w'
abbrev ldA (B : Nat) : Sem Next := do pure (.value (← Instr.loadAt 27 (.pointer (some ⟨B, 0, none⟩))))
theorem info20 : (Tryd.prog.info? 27).map (·.size) = some 20 := by kernel_rfl
theorem ldA_run {w : World} {B : Nat} {a : List Int} (ha : a.length = 20) (h : w.heap[B]? = some (.cells (a.map (Value.int .u8) ++ []).toArray 27 (0, 0))) : (ldA B).run Tryd.prog w = .ok (.value (adrV a)) w := by
  have h1 := run_loadVar_row (P := Tryd.prog) w B 27 27 _ (0, 0) _ h Tryd.underlying27 rfl (by rw [info20]; simp [ha])
  unfold ldA
  simp [Instr.loadAt, Instr.sureAddr, h1]
def caS (B S c sm gr i : Nat) : AS := ⟨[(2, .val (.pointer (some ⟨B, 0, none⟩))), (11, .val (.slice (some ⟨S, 0, none⟩) 42 c)), (13, .val (.int .i64 (sm : Int))), (14, .val (.int .i64 (gr : Int))), (15, .val (.int .i64 ((i + 2 : Nat) : Int)))], []⟩
set_option maxHeartbeats 8000000 in
theorem ca_round (w0 w : World) (hf0 : Fr No w0 w) (B S c : Nat) (hcc : 42 ≤ c) (a r : List Int) (ha : a.length = 20) (hP : w.heap[B]? = some (.cells (a.map (Value.int .u8) ++ []).toArray 27 (0, 0)))
    (hG : w.cell? ⟨0, 0, none⟩ = some (.int .u8 1)) (hrl : r.length = 40) (hrb : ByteL r) (hC : CRow w S (48 :: 120 :: r))
    (hpa : addrP (withX (strI r)) = if smN r = 0 ∨ grN r = 0 then (a, 0) else (List.replicate 20 0, 84)) :
    ∀ (q i : Nat), i + q = 40 → ∀ (sm gr : Nat), sm = smN (r.take i) → gr = grN (r.take i) → sm + gr ≤ i → wpK (ctx Tryd.prog w Tryd.f4.ntmps) Tryd.f4 (caQ w0) (loopAt Tryd.f4 0) (caS B S c sm gr i) := by
  intro q
  induction q with
  | zero =>
    intro i hi sm gr hsm hgr hle
    obtain rfl : i = 40 := by omega
    have hlt : decide (((40 + 2 : Nat) : Int) < 42) = false := by simp
    rw [List.take_of_length_le (by omega)] at hsm hgr
    rw [← hsm, ← hgr] at hpa
    obtain ⟨ys, hys⟩ : ∃ ys, ys = 48 :: 120 :: r := ⟨_, rfl⟩
    have hyl : ys.length = 42 := by rw [hys]; simp [hrl]
    have hyb : ByteL ys := by
      rw [hys]
      intro x hx
      simp only [List.mem_cons] at hx
      rcases hx with rfl | rfl | hx
      · omega
      · omega
      · exact hrb x hx
    rw [← hys] at hC
    have hZ : strI ys = withX (strI r) := by rw [hys]; exact withX_strI r hrb
    have hcv : ∀ (ρ : Env) (w' : World), Fr No w w' → (cvB ⟨S, 0, none⟩ 42 c).run Tryd.prog w' = .ok (.value (.string (strI ys))) w' := fun ρ w' hf => strI_run w' _ 42 c ys (hyl ▸ (hC.fr hf).sl) hyb
    have hsz : (strI ys).size ≤ 9000000000000 := by rw [strI_size]; omega
    have pc : ∀ w', Fr No w w' → Calls Tryd.prog 22 #[.string (strI ys)] w' (pairR w' (addrP (strI ys)).1 (addrP (strI ys)).2) := fun w' hf => paddr_c w' _ hsz (frN_cell hf hG)
    rw [hZ] at pc
    rw [hpa] at pc
    rw [← hZ] at pc
    have hld : ∀ (ρ : Env) (w' : World), Fr No w w' → (ldA B).run Tryd.prog w' = .ok (.value (adrV a)) w' := fun ρ w' hf => ldA_run ha (fr_row hf hP)
    have h00 : decide ((0 : Int) = 0) = true := rfl
    have h84 : decide ((84 : Int) = 84) = true := rfl
    have hz20 : (List.replicate 20 (0 : Int)).length = 20 := rfl
    generalize strI ys = Z at *
    by_cases h0 : sm = 0
    · rw [if_pos (.inl h0)] at pc
      have g0 : decide ((sm : Int) = 0) = true := by simp; omega
      refine wpK_end (n := 400) (m := 0) (nx := 500) (hs := [(84, .eq (.val (.bool false))), (103, .as (.val (.string Z))), (104, .call (.tup [.agg [.ints .u8 20 a], .val (.int .i64 0)])), (16, .row [.ints .u8 20 (List.replicate 20 0)]), (108, .eq (.val (.bool true))), (114, .call (.val (.int .i64 0))), (115, .eq (.val (.bool true))), (118, .as (.val (adrV a))), (119, .cmp true)]) (v := .val (.bool true)) follows (And.intro (congrArg Value.bool hlt) (And.intro hcv (And.intro pc (And.intro (show AV.ok No (.tup [.agg [.ints .u8 20 a], .val (.int .i64 0)]) from ⟨⟨ha, trivial⟩, trivial, trivial⟩) (And.intro (fun ρ => (rfl : Seg.cells ρ [.ints .u8 20 (List.replicate 20 0)] = (Value.agg (ints .u8 (List.replicate 20 0))).cells.toList)) (And.intro (show Seg.ok No [.ints .u8 20 (List.replicate 20 0)] from ⟨rfl, trivial⟩) (And.intro (congrArg Value.bool g0) (And.intro (vcall w (fun w => nm_c (0) w)) (And.intro (congrArg Value.bool h00) (And.intro hld (fun w => run_eq_adr a ha w))))))))))) (by kernel_rfl) ?_
      intro ρ w' hf
      exact ⟨rfl, (hf0.trans hf).to_below⟩
    · have g0 : decide ((sm : Int) = 0) = false := by simp; omega
      by_cases h1 : gr = 0
      · rw [if_pos (.inr h1)] at pc
        have g1 : decide ((gr : Int) = 0) = true := by simp; omega
        refine wpK_end (n := 400) (m := 0) (nx := 500) (hs := [(84, .eq (.val (.bool false))), (103, .as (.val (.string Z))), (104, .call (.tup [.agg [.ints .u8 20 a], .val (.int .i64 0)])), (16, .row [.ints .u8 20 (List.replicate 20 0)]), (108, .eq (.val (.bool false))), (111, .eq (.val (.bool true))), (114, .call (.val (.int .i64 0))), (115, .eq (.val (.bool true))), (118, .as (.val (adrV a))), (119, .cmp true)]) (v := .val (.bool true)) follows (And.intro (congrArg Value.bool hlt) (And.intro hcv (And.intro pc (And.intro (show AV.ok No (.tup [.agg [.ints .u8 20 a], .val (.int .i64 0)]) from ⟨⟨ha, trivial⟩, trivial, trivial⟩) (And.intro (fun ρ => (rfl : Seg.cells ρ [.ints .u8 20 (List.replicate 20 0)] = (Value.agg (ints .u8 (List.replicate 20 0))).cells.toList)) (And.intro (show Seg.ok No [.ints .u8 20 (List.replicate 20 0)] from ⟨rfl, trivial⟩) (And.intro (congrArg Value.bool g0) (And.intro (congrArg Value.bool g1) (And.intro (vcall w (fun w => nm_c (0) w)) (And.intro (congrArg Value.bool h00) (And.intro hld (fun w => run_eq_adr a ha w)))))))))))) (by kernel_rfl) ?_
        intro ρ w' hf
        exact ⟨rfl, (hf0.trans hf).to_below⟩
      · rw [if_neg (by rintro (h | h); exact h0 h; exact h1 h)] at pc
        have g1 : decide ((gr : Int) = 0) = false := by simp; omega
        refine wpK_end (n := 400) (m := 0) (nx := 500) (hs := [(84, .eq (.val (.bool false))), (103, .as (.val (.string Z))), (104, .call (.tup [.agg [.ints .u8 20 (List.replicate 20 0)], .val (.int .i64 84)])), (16, .row [.ints .u8 20 (List.replicate 20 0)]), (108, .eq (.val (.bool false))), (111, .eq (.val (.bool false))), (122, .call (.val (.int .i64 84))), (123, .eq (.val (.bool true))), (127, .cmp true)]) (v := .val (.bool true)) follows (And.intro (congrArg Value.bool hlt) (And.intro hcv (And.intro pc (And.intro (show AV.ok No (.tup [.agg [.ints .u8 20 (List.replicate 20 0)], .val (.int .i64 84)]) from ⟨⟨hz20, trivial⟩, trivial, trivial⟩) (And.intro (fun ρ => (rfl : Seg.cells ρ [.ints .u8 20 (List.replicate 20 0)] = (Value.agg (ints .u8 (List.replicate 20 0))).cells.toList)) (And.intro (show Seg.ok No [.ints .u8 20 (List.replicate 20 0)] from ⟨rfl, trivial⟩) (And.intro (congrArg Value.bool g0) (And.intro (congrArg Value.bool g1) (And.intro (vcall w (fun w => nm_c (84) w)) (And.intro (congrArg Value.bool h84) (fun w => run_eq_adr (List.replicate 20 0) hz20 w))))))))))) (by kernel_rfl) ?_
        intro ρ w' hf
        exact ⟨rfl, (hf0.trans hf).to_below⟩
  | succ q ih =>
    intro i hi sm gr hsm hgr hle
    have hlt : decide (((i + 2 : Nat) : Int) < 42) = true := by simp; omega
    have hi42 : i + 2 < 42 := by omega
    have hil : i < r.length := by omega
    have hw : IntKind.i64.wrap (((i + 2 : Nat) : Int) + 1) = ((i + 1 + 2 : Nat) : Int) := by rw [IntKind.wrap_i64]; omega
    have hws : IntKind.i64.wrap ((sm : Int) + 1) = ((sm + 1 : Nat) : Int) := by rw [IntKind.wrap_i64]; omega
    have hwg : IntKind.i64.wrap ((gr : Int) + 1) = ((gr + 1 : Nat) : Int) := by rw [IntKind.wrap_i64]; omega
    obtain ⟨x, hx⟩ : ∃ x, x = r.getD i 0 := ⟨_, rfl⟩
    have hs2 := smN_succ r i hil
    have hg2 := grN_succ r i hil
    rw [← hx, ← hsm] at hs2
    rw [← hx, ← hgr] at hg2
    have hadd : (⟨S, 0, none⟩ : Addr).add (i + 2) = ⟨S, i + 2, none⟩ := by rw [add_at, Nat.zero_add]
    have hixS : ∀ (ρ : Env) (w' : World), Fr No w w' → (slG 22 (some ⟨S, 0, none⟩) 42 c .i64 ((i + 2 : Nat) : Int)).run Tryd.prog w' = .ok (.value (.pointer (some ⟨S, i + 2, none⟩))) w' := by
      have := sl_index (P := Tryd.prog) (F := No) (w := w) (A := ⟨S, 0, none⟩) (n := 42) (c := c) (k' := .i64) (i := i + 2) Tryd.underlying22 info8' hi42
      rw [hadd] at this
      exact this
    have hcS : ∀ w', Fr No w w' → w'.cell? ⟨S, i + 2, none⟩ = some (.int .u8 x) := fun w' hf => by
      rw [(hC.fr hf).at (i + 2) (by simp; omega), hx]
      rfl
    have ih := ih (i + 1) (by omega)
    by_cases h97 : 97 ≤ x
    · have g97 : decide (x ≥ 97) = true := by simp; omega
      rw [if_pos h97] at hs2
      rw [if_neg (fun e => e.1 h97)] at hg2
      refine wpK_loop (n := 400) (m := 0) (nx := 500) (hs := [(84, .eq (.val (.bool true))), (89, .as (.val (.pointer (some ⟨S, i + 2, none⟩)))), (90, .as (.val (.int .u8 x))), (91, .eq (.val (.bool true))), (93, .eq (.val (.int .i64 ((sm + 1 : Nat) : Int)))), (86, .eq (.val (.int .i64 ((i + 1 + 2 : Nat) : Int))))]) (st' := loopAt Tryd.f4 0) (s' := caS B S c (sm + 1) gr (i + 1)) follows [] [2, 11, 13, 14, 15] [] (And.intro (congrArg Value.bool hlt) (And.intro hixS (And.intro (sl_load (F := No) (w := w) Tryd.underlying5 rfl hcS) (And.intro (congrArg Value.bool g97) (And.intro (congrArg (Value.int .i64) hws) (congrArg (Value.int .i64) hw)))))) (by kernel_rfl) ?_
      exact ih (sm + 1) gr hs2.symm (by rw [hg2, Nat.add_zero]) (by omega)
    · have g97 : decide (x ≥ 97) = false := by simp; omega
      rw [if_neg h97] at hs2
      by_cases h65 : 65 ≤ x
      · have g65 : decide (x ≥ 65) = true := by simp; omega
        rw [if_pos ⟨h97, h65⟩] at hg2
        refine wpK_loop (n := 400) (m := 0) (nx := 500) (hs := [(84, .eq (.val (.bool true))), (89, .as (.val (.pointer (some ⟨S, i + 2, none⟩)))), (90, .as (.val (.int .u8 x))), (91, .eq (.val (.bool false))), (96, .as (.val (.pointer (some ⟨S, i + 2, none⟩)))), (97, .as (.val (.int .u8 x))), (98, .eq (.val (.bool true))), (100, .eq (.val (.int .i64 ((gr + 1 : Nat) : Int)))), (86, .eq (.val (.int .i64 ((i + 1 + 2 : Nat) : Int))))]) (st' := loopAt Tryd.f4 0) (s' := caS B S c sm (gr + 1) (i + 1)) follows [] [2, 11, 13, 14, 15] [] (And.intro (congrArg Value.bool hlt) (And.intro hixS (And.intro (sl_load (F := No) (w := w) Tryd.underlying5 rfl hcS) (And.intro (congrArg Value.bool g97) (And.intro hixS (And.intro (sl_load (F := No) (w := w) Tryd.underlying5 rfl hcS) (And.intro (congrArg Value.bool g65) (And.intro (congrArg (Value.int .i64) hwg) (congrArg (Value.int .i64) hw))))))))) (by kernel_rfl) ?_
        exact ih sm (gr + 1) (by rw [hs2, Nat.add_zero]) hg2.symm (by omega)
      · have g65 : decide (x ≥ 65) = false := by simp; omega
        rw [if_neg (fun e => h65 e.2)] at hg2
        refine wpK_loop (n := 400) (m := 0) (nx := 500) (hs := [(84, .eq (.val (.bool true))), (89, .as (.val (.pointer (some ⟨S, i + 2, none⟩)))), (90, .as (.val (.int .u8 x))), (91, .eq (.val (.bool false))), (96, .as (.val (.pointer (some ⟨S, i + 2, none⟩)))), (97, .as (.val (.int .u8 x))), (98, .eq (.val (.bool false))), (86, .eq (.val (.int .i64 ((i + 1 + 2 : Nat) : Int))))]) (st' := loopAt Tryd.f4 0) (s' := caS B S c sm gr (i + 1)) follows [] [2, 11, 13, 14, 15] [] (And.intro (congrArg Value.bool hlt) (And.intro hixS (And.intro (sl_load (F := No) (w := w) Tryd.underlying5 rfl hcS) (And.intro (congrArg Value.bool g97) (And.intro hixS (And.intro (sl_load (F := No) (w := w) Tryd.underlying5 rfl hcS) (And.intro (congrArg Value.bool g65) (congrArg (Value.int .i64) hw)))))))) (by kernel_rfl) ?_
        exact ih sm gr (by rw [hs2, Nat.add_zero]) (by rw [hg2, Nat.add_zero]) (by omega)
set_option maxHeartbeats 8000000 in
theorem ca_tail (w : World) (a : List Int) (ha : a.length = 20) (hba : Bytes a) (k : Nat) (hk : k < 40) (T : ByteArray) (hT : T = withX (strI (sumL a))) (hG : w.cell? ⟨0, 0, none⟩ = some (.int .u8 1)) :
    wpK (ctx Tryd.prog w Tryd.f4.ntmps) Tryd.f4 (caQ w) (regAt Tryd.f4 11) ⟨[(2, .ptr 1 0), (5, .val (.string T)), (10, .val (.int .i64 (k : Int)))], [(1, ⟨[.ints .u8 20 a], 27, .arr⟩)]⟩ := by
  have hsl : (sumL a).length = 40 := by unfold sumL; rw [capL_len, ha]
  have hTb : bytesI T = 48 :: 120 :: sumL a := by rw [hT, withX_bytes _ (sumL_byte a)]
  have hTs : T.size = 42 := by rw [← bytesI_len T, hTb]; simp [hsl]
  refine wpK_plain fun ρ w1 hf1 hM => ?_
  have hs := (hM.sits 1 _ rfl).1
  have hP1 : w1.heap[ρ.b 1]? = some (.cells (a.map (Value.int .u8) ++ []).toArray 27 (0, 0)) := by
    unfold Sits at hs
    simp only [Seg.cells, Seg.cell1] at hs
    exact hs
  obtain ⟨B, hB⟩ : ∃ B, B = ρ.b 1 := ⟨_, rfl⟩
  rw [← hB] at hP1
  have hgo : wpK (ctx Tryd.prog w1 Tryd.f4.ntmps) Tryd.f4 (caQ w) (regAt Tryd.f4 11) ⟨[(2, .val (.pointer (some ⟨B, 0, none⟩))), (5, .val (.string T)), (10, .val (.int .i64 (k : Int)))], []⟩ := by
    refine wpL_region (by kernel_rfl) ?_
    refine wpL_op 1 (nx := 500) (hs := []) (tm := [(2, .val (.pointer (some ⟨B, 0, none⟩))), (5, .val (.string T)), (10, .val (.int .i64 (k : Int))), (58, .val (.string T))]) (m := cvS T) trivial (by kernel_rfl) ?_
    intro w2 hf2
    obtain ⟨c, w3, hrun, hc, hCR, hf3⟩ := cvS_run w2 T
    refine ⟨_, _, w3, hrun, rfl, ?_⟩
    obtain ⟨S, hS⟩ : ∃ S, S = w2.heap.size := ⟨_, rfl⟩
    rw [← hS] at hCR ⊢
    have hf03 : Fr No w w3 := (hf1.trans hf2).trans hf3
    have hS0 : w.heap.size ≤ S := by rw [hS]; exact (hf1.trans hf2).size
    have hP3 := fr_row (hf2.trans hf3) hP1
    have hBlt : B < w2.heap.size := by
      have := (Array.getElem?_eq_some_iff.1 hP1).1
      exact Nat.lt_of_lt_of_le this hf2.size
    have hBS : B ≠ S := by omega
    rw [hTb] at hCR
    rw [hTs] at hc ⊢
    refine wpL_loop (n := 400) (m := 0) (nx := 500) (hs := [(88888, .subE)]) (st' := regAt Tryd.f4 12) (s' := ⟨[(2, .val (.pointer (some ⟨B, 0, none⟩))), (10, .val (.int .i64 (k : Int))), (11, .val (.slice (some ⟨S, 0, none⟩) 42 c))], []⟩) follows [] [2, 10, 11] [] trivial (by kernel_rfl) ?_
    obtain ⟨x, hx⟩ : ∃ x, x = (sumL a).getD k 0 := ⟨_, rfl⟩
    have hxb : 0 ≤ x ∧ x < 256 := hx ▸ (sumL_byte a).at k (by omega)
    have hw2 : IntKind.i64.wrap (2 + (k : Int)) = ((k + 2 : Nat) : Int) := by rw [IntKind.wrap_i64]; omega
    have hk42 : k + 2 < 42 := by omega
    have hadd : (⟨S, 0, none⟩ : Addr).add (k + 2) = ⟨S, k + 2, none⟩ := by rw [add_at, Nat.zero_add]
    have hixS : ∀ (ρ : Env) (w' : World), Fr No w3 w' → (slG 22 (some ⟨S, 0, none⟩) 42 c .i64 ((k + 2 : Nat) : Int)).run Tryd.prog w' = .ok (.value (.pointer (some ⟨S, k + 2, none⟩))) w' := by
      have := sl_index (P := Tryd.prog) (F := No) (w := w3) (A := ⟨S, 0, none⟩) (n := 42) (c := c) (k' := .i64) (i := k + 2) Tryd.underlying22 info8' hk42
      rw [hadd] at this
      exact this
    have hcS : ∀ w', Fr No w3 w' → w'.cell? ⟨S, k + 2, none⟩ = some (.int .u8 x) := fun w' hf => by
      rw [(hCR.fr hf).at (k + 2) (by simp; omega), hx]
      rfl
    by_cases h65 : 65 ≤ x
    · have g65 : decide (x < 65) = false := by simp; omega
      obtain ⟨hrb, hrv, hpa⟩ := addrP_turn a hba ha k hk (hx ▸ h65)
      rw [← hx] at hrb hrv hpa
      obtain ⟨r, hr⟩ : ∃ r, r = (sumL a).set k (turnC x) := ⟨_, rfl⟩
      have hset : (48 :: 120 :: sumL a : List Int).set (k + 2) (turnC x) = 48 :: 120 :: r := by rw [hr]; rfl
      rw [← hr] at hrb hrv hpa
      have hrl : r.length = 40 := by rw [hr]; simp [hsl]
      have hcl : k + 2 < (48 :: 120 :: sumL a : List Int).length := by simp; omega
      by_cases h97 : 97 ≤ x
      · have g97 : decide (x ≥ 97) = true := by simp; omega
        have hz : x - 32 = turnC x := by unfold turnC; rw [if_pos h97]
        have hs1 : IntKind.u8.wrap (x - 97) = x - 97 := by rw [IntKind.wrap_u8]; omega
        have hs2 : IntKind.u8.wrap (x - 97 + 65) = x - 32 := by rw [IntKind.wrap_u8]; omega
        refine wpK_loop (n := 400) (m := 0) (nx := 500) (hs := [(62, .eq (.val (.int .i64 ((k + 2 : Nat) : Int)))), (63, .as (.val (.pointer (some ⟨S, k + 2, none⟩)))), (64, .as (.val (.int .u8 x))), (66, .eq (.val (.bool false))), (68, .eq (.val (.bool true))), (88888, .subE)]) (st' := regAt Tryd.f4 16) (s' := ⟨[(2, .val (.pointer (some ⟨B, 0, none⟩))), (10, .val (.int .i64 (k : Int))), (11, .val (.slice (some ⟨S, 0, none⟩) 42 c)), (12, .val (.int .u8 x))], []⟩) follows [] [2, 10, 11, 12] [] (And.intro (congrArg (Value.int .i64) hw2) (And.intro hixS (And.intro (sl_load (F := No) (w := w3) Tryd.underlying5 rfl hcS) (And.intro (congrArg Value.bool g65) (congrArg Value.bool g97))))) (by kernel_rfl) ?_
        refine wpL_region (by kernel_rfl) ?_
        refine wpL_op 7 (nx := 500) (hs := [(71, .eq (.val (.int .i64 ((k + 2 : Nat) : Int)))), (73, .eq (.val (.int .u8 (x - 97)))), (74, .eq (.val (.int .u8 (x - 32)))), (75, .as (.val (.pointer (some ⟨S, k + 2, none⟩))))]) (tm := [(2, .val (.pointer (some ⟨B, 0, none⟩))), (10, .val (.int .i64 (k : Int))), (11, .val (.slice (some ⟨S, 0, none⟩) 42 c)), (12, .val (.int .u8 x)), (69, .val (.slice (some ⟨S, 0, none⟩) 42 c)), (70, .val (.int .i64 (k : Int))), (71, .val (.int .i64 ((k + 2 : Nat) : Int))), (72, .val (.int .u8 x)), (73, .val (.int .u8 (x - 97))), (74, .val (.int .u8 (x - 32))), (75, .val (.pointer (some ⟨S, k + 2, none⟩)))]) (m := stB S (k + 2) (x - 32)) (And.intro (congrArg (Value.int .i64) hw2) (And.intro (congrArg (Value.int .u8) hs1) (And.intro (congrArg (Value.int .u8) hs2) hixS))) (by kernel_rfl) ?_
        intro w4 hf4
        obtain ⟨w5, hrun5, hC5, hf5⟩ := stB_run w4 S (k + 2) (x - 32) _ (hCR.fr hf4) hcl
        refine ⟨_, _, w5, hrun5, rfl, ?_⟩
        rw [hz, hset] at hC5
        have hf05 : Fr No w w5 := fr_new (hf03.trans hf4) hS0 hf5
        have hP5 : w5.heap[B]? = some (.cells (a.map (Value.int .u8) ++ []).toArray 27 (0, 0)) := by
          have h1 := fr_row hf4 hP3
          rw [hf5.block B (Array.getElem?_eq_some_iff.1 h1).1 hBS]
          exact h1
        refine wpL_loop (n := 400) (m := 0) (nx := 500) (hs := []) (st' := loopAt Tryd.f4 0) (s' := caS B S c 0 0 0) follows [] [2, 11, 13, 14, 15] [] trivial (by kernel_rfl) ?_
        exact ca_round w w5 hf05 B S c hc a r ha hP5 (frN_cell hf05 hG) hrl hrb hC5 hpa 40 0 (by omega) 0 0 rfl rfl (by omega)
      · have g97 : decide (x ≥ 97) = false := by simp; omega
        have hz : x + 32 = turnC x := by unfold turnC; rw [if_neg h97]
        have hs1 : IntKind.u8.wrap (x - 65) = x - 65 := by rw [IntKind.wrap_u8]; omega
        have hs2 : IntKind.u8.wrap (x - 65 + 97) = x + 32 := by rw [IntKind.wrap_u8]; omega
        refine wpK_loop (n := 400) (m := 0) (nx := 500) (hs := [(62, .eq (.val (.int .i64 ((k + 2 : Nat) : Int)))), (63, .as (.val (.pointer (some ⟨S, k + 2, none⟩)))), (64, .as (.val (.int .u8 x))), (66, .eq (.val (.bool false))), (68, .eq (.val (.bool false))), (88888, .subE)]) (st' := regAt Tryd.f4 17) (s' := ⟨[(2, .val (.pointer (some ⟨B, 0, none⟩))), (10, .val (.int .i64 (k : Int))), (11, .val (.slice (some ⟨S, 0, none⟩) 42 c)), (12, .val (.int .u8 x))], []⟩) follows [] [2, 10, 11, 12] [] (And.intro (congrArg (Value.int .i64) hw2) (And.intro hixS (And.intro (sl_load (F := No) (w := w3) Tryd.underlying5 rfl hcS) (And.intro (congrArg Value.bool g65) (congrArg Value.bool g97))))) (by kernel_rfl) ?_
        refine wpL_region (by kernel_rfl) ?_
        refine wpL_op 7 (nx := 500) (hs := [(78, .eq (.val (.int .i64 ((k + 2 : Nat) : Int)))), (80, .eq (.val (.int .u8 (x - 65)))), (81, .eq (.val (.int .u8 (x + 32)))), (82, .as (.val (.pointer (some ⟨S, k + 2, none⟩))))]) (tm := [(2, .val (.pointer (some ⟨B, 0, none⟩))), (10, .val (.int .i64 (k : Int))), (11, .val (.slice (some ⟨S, 0, none⟩) 42 c)), (12, .val (.int .u8 x)), (76, .val (.slice (some ⟨S, 0, none⟩) 42 c)), (77, .val (.int .i64 (k : Int))), (78, .val (.int .i64 ((k + 2 : Nat) : Int))), (79, .val (.int .u8 x)), (80, .val (.int .u8 (x - 65))), (81, .val (.int .u8 (x + 32))), (82, .val (.pointer (some ⟨S, k + 2, none⟩)))]) (m := stB S (k + 2) (x + 32)) (And.intro (congrArg (Value.int .i64) hw2) (And.intro (congrArg (Value.int .u8) hs1) (And.intro (congrArg (Value.int .u8) hs2) hixS))) (by kernel_rfl) ?_
        intro w4 hf4
        obtain ⟨w5, hrun5, hC5, hf5⟩ := stB_run w4 S (k + 2) (x + 32) _ (hCR.fr hf4) hcl
        refine ⟨_, _, w5, hrun5, rfl, ?_⟩
        rw [hz, hset] at hC5
        have hf05 : Fr No w w5 := fr_new (hf03.trans hf4) hS0 hf5
        have hP5 : w5.heap[B]? = some (.cells (a.map (Value.int .u8) ++ []).toArray 27 (0, 0)) := by
          have h1 := fr_row hf4 hP3
          rw [hf5.block B (Array.getElem?_eq_some_iff.1 h1).1 hBS]
          exact h1
        refine wpL_loop (n := 400) (m := 0) (nx := 500) (hs := []) (st' := loopAt Tryd.f4 0) (s' := caS B S c 0 0 0) follows [] [2, 11, 13, 14, 15] [] trivial (by kernel_rfl) ?_
        exact ca_round w w5 hf05 B S c hc a r ha hP5 (frN_cell hf05 hG) hrl hrb hC5 hpa 40 0 (by omega) 0 0 rfl rfl (by omega)
    · have g65 : decide (x < 65) = true := by simp; omega
      refine wpK_end (n := 400) (m := 0) (nx := 500) (hs := [(62, .eq (.val (.int .i64 ((k + 2 : Nat) : Int)))), (63, .as (.val (.pointer (some ⟨S, k + 2, none⟩)))), (64, .as (.val (.int .u8 x))), (66, .eq (.val (.bool true)))]) (v := .val (.bool true)) follows (And.intro (congrArg (Value.int .i64) hw2) (And.intro hixS (And.intro (sl_load (F := No) (w := w3) Tryd.underlying5 rfl hcS) (congrArg Value.bool g65)))) (by kernel_rfl) ?_
      intro ρ w' hf
      exact ⟨rfl, (hf03.trans hf).to_below⟩
  rw [hB] at hgo
  exact hgo
set_option maxHeartbeats 8000000 in
theorem walkHexaCase (w : World) (a : List Int) (ha : a.length = 20) (hba : Bytes a) (p : Int) (hG : w.cell? ⟨0, 0, none⟩ = some (.int .u8 1)) :
    Calls Tryd.prog 4 #[adrV a, .int .i64 p] w fun e w' => e = .returned (.bool true) ∧ Below w.heap.size w w' := by
  obtain ⟨K, hK⟩ : ∃ K, K = withX (strI (sumL a)) := ⟨_, rfl⟩
  obtain ⟨D, hD⟩ : ∃ D, D = lowS K := ⟨_, rfl⟩
  have hsl : (sumL a).length = 40 := by unfold sumL; rw [capL_len, ha]
  have sKe : K.size = 42 := by rw [← bytesI_len K, hK, withX_bytes _ (sumL_byte a)]; simp [hsl]
  have sK : K.size ≤ 9000000000000 := by omega
  have sD : D.size ≤ 9000000000000 := by rw [hD]; unfold lowS; rw [strI_size, lowI_len, bytesI_len]; omega
  have kc : ∀ w', Fr No w w' → Calls Tryd.prog 18 #[adrV a] w' fun e w'' => e = .returned (.string K) ∧ Below w'.heap.size w' w'' := fun w' hf => hK ▸ cks_c w' a ha hba (frN_cell hf hG)
  have lc : ∀ w', Fr No w w' → Calls Tryd.prog 23 #[.string K] w' fun e w'' => e = .returned (.string D) ∧ Below w'.heap.size w' w'' := fun w' hf => hD ▸ lower_c w' K sK
  have pac : ∀ w', Fr No w w' → Calls Tryd.prog 22 #[.string K] w' fun e w'' => e = .returned (.tuple #[adrV a, .int .i64 0]) ∧ Below w'.heap.size w' w'' := fun w' hf => by
    have := paddr_c w' K sK (frN_cell hf hG)
    rw [hK, addrP_sum a hba ha, ← hK] at this
    exact this
  have pad : ∀ w', Fr No w w' → Calls Tryd.prog 22 #[.string D] w' fun e w'' => e = .returned (.tuple #[adrV a, .int .i64 0]) ∧ Below w'.heap.size w' w'' := fun w' hf => by
    have := paddr_c w' D sD (frN_cell hf hG)
    have h2 : addrP D = (a, 0) := by rw [hD, hK]; exact addrP_small a hba ha
    rw [h2] at this
    exact this
  have h42 : (!decide ((K.size : Int) = 42)) = false := by rw [sKe]; rfl
  have hnn : (!decide ((0 : Int) = 0)) = false := rfl
  by_cases hneg : p.tmod 40 < 0
  · have gn : decide (p.tmod 40 < 0) = true := by simp; omega
    obtain ⟨k, hk⟩ : ∃ k : Nat, p.tmod 40 + 40 = (k : Int) := ⟨(p.tmod 40 + 40).toNat, by have := Int.lt_tmod_of_pos p (show (0 : Int) < 40 by decide); omega⟩
    have hk40 : k < 40 := by omega
    have hkw : IntKind.i64.wrap (p.tmod 40 + 40) = (k : Int) := by rw [IntKind.wrap_i64]; omega
    refine calls_vm [adrA a, .val (.int .i64 p)] (fn := Tryd.f4) Tryd.func4 (by kernel_rfl) (by kernel_rfl) (by kernel_rfl) ⟨⟨ha, trivial⟩, trivial, trivial⟩ ?_
    refine wpK_loop (n := 400) (m := 0) (nx := 0) (hs := [(19, .call (.val (.string K))), (22, .eq (.val (.bool false))), (25, .call (.tup [.agg [.ints .u8 20 a], .val (.int .i64 0)])), (6, .row [.ints .u8 20 (List.replicate 20 0)]), (30, .call (.val (.string D))), (31, .call (.tup [.agg [.ints .u8 20 a], .val (.int .i64 0)])), (8, .row [.ints .u8 20 (List.replicate 20 0)]), (35, .call (.val (.int .i64 0))), (36, .eq (.val (.bool false))), (39, .call (.val (.int .i64 0))), (40, .eq (.val (.bool false))), (45, .cmp true), (50, .cmp true), (55, .eq (.val (.bool true))), (57, .eq (.val (.int .i64 (k : Int)))), (88888, .subE)]) (st' := regAt Tryd.f4 11) (s' := ⟨[(2, .ptr 1 0), (5, .val (.string K)), (10, .val (.int .i64 (k : Int)))], [(1, ⟨[.ints .u8 20 a], 27, .arr⟩)]⟩) follows [] [2, 5, 10] [(1, 0)] (And.intro kc (And.intro (congrArg Value.bool h42) (And.intro pac (And.intro (show AV.ok No (.tup [.agg [.ints .u8 20 a], .val (.int .i64 0)]) from ⟨⟨ha, trivial⟩, trivial, trivial⟩) (And.intro (fun ρ => (rfl : Seg.cells ρ [.ints .u8 20 (List.replicate 20 0)] = (Value.agg (ints .u8 (List.replicate 20 0))).cells.toList)) (And.intro (show Seg.ok No [.ints .u8 20 (List.replicate 20 0)] from ⟨rfl, trivial⟩) (And.intro lc (And.intro pad (And.intro (show AV.ok No (.tup [.agg [.ints .u8 20 a], .val (.int .i64 0)]) from ⟨⟨ha, trivial⟩, trivial, trivial⟩) (And.intro (fun ρ => (rfl : Seg.cells ρ [.ints .u8 20 (List.replicate 20 0)] = (Value.agg (ints .u8 (List.replicate 20 0))).cells.toList)) (And.intro (show Seg.ok No [.ints .u8 20 (List.replicate 20 0)] from ⟨rfl, trivial⟩) (And.intro (vcall w (fun w => nm_c (0) w)) (And.intro (congrArg Value.bool hnn) (And.intro (vcall w (fun w => nm_c (0) w)) (And.intro (congrArg Value.bool hnn) (And.intro (fun w => run_eq_adr a ha w) (And.intro (fun w => run_eq_adr a ha w) (And.intro (congrArg Value.bool gn) (congrArg (Value.int .i64) hkw))))))))))))))))))) (by kernel_rfl) ?_
    exact ca_tail w a ha hba k hk40 K hK hG
  · have gn : decide (p.tmod 40 < 0) = false := by simp; omega
    obtain ⟨k, hk⟩ : ∃ k : Nat, p.tmod 40 = (k : Int) := ⟨(p.tmod 40).toNat, by omega⟩
    have hk40 : k < 40 := by have := Int.tmod_lt_of_pos p (show (0 : Int) < 40 by decide); omega
    rw [hk] at gn
    refine calls_vm [adrA a, .val (.int .i64 p)] (fn := Tryd.f4) Tryd.func4 (by kernel_rfl) (by kernel_rfl) (by kernel_rfl) ⟨⟨ha, trivial⟩, trivial, trivial⟩ ?_
    refine wpK_loop (n := 400) (m := 0) (nx := 0) (hs := [(19, .call (.val (.string K))), (22, .eq (.val (.bool false))), (25, .call (.tup [.agg [.ints .u8 20 a], .val (.int .i64 0)])), (6, .row [.ints .u8 20 (List.replicate 20 0)]), (30, .call (.val (.string D))), (31, .call (.tup [.agg [.ints .u8 20 a], .val (.int .i64 0)])), (8, .row [.ints .u8 20 (List.replicate 20 0)]), (35, .call (.val (.int .i64 0))), (36, .eq (.val (.bool false))), (39, .call (.val (.int .i64 0))), (40, .eq (.val (.bool false))), (45, .cmp true), (50, .cmp true), (53, .eq (.val (.int .i64 (k : Int)))), (55, .eq (.val (.bool false))), (88888, .subE)]) (st' := regAt Tryd.f4 11) (s' := ⟨[(2, .ptr 1 0), (5, .val (.string K)), (10, .val (.int .i64 (k : Int)))], [(1, ⟨[.ints .u8 20 a], 27, .arr⟩)]⟩) follows [] [2, 5, 10] [(1, 0)] (And.intro kc (And.intro (congrArg Value.bool h42) (And.intro pac (And.intro (show AV.ok No (.tup [.agg [.ints .u8 20 a], .val (.int .i64 0)]) from ⟨⟨ha, trivial⟩, trivial, trivial⟩) (And.intro (fun ρ => (rfl : Seg.cells ρ [.ints .u8 20 (List.replicate 20 0)] = (Value.agg (ints .u8 (List.replicate 20 0))).cells.toList)) (And.intro (show Seg.ok No [.ints .u8 20 (List.replicate 20 0)] from ⟨rfl, trivial⟩) (And.intro lc (And.intro pad (And.intro (show AV.ok No (.tup [.agg [.ints .u8 20 a], .val (.int .i64 0)]) from ⟨⟨ha, trivial⟩, trivial, trivial⟩) (And.intro (fun ρ => (rfl : Seg.cells ρ [.ints .u8 20 (List.replicate 20 0)] = (Value.agg (ints .u8 (List.replicate 20 0))).cells.toList)) (And.intro (show Seg.ok No [.ints .u8 20 (List.replicate 20 0)] from ⟨rfl, trivial⟩) (And.intro (vcall w (fun w => nm_c (0) w)) (And.intro (congrArg Value.bool hnn) (And.intro (vcall w (fun w => nm_c (0) w)) (And.intro (congrArg Value.bool hnn) (And.intro (fun w => run_eq_adr a ha w) (And.intro (fun w => run_eq_adr a ha w) (And.intro (congrArg (Value.int .i64) hk) (congrArg Value.bool gn))))))))))))))))))) (by kernel_rfl) ?_
    exact ca_tail w a ha hba k hk40 K hK hG
end Go.Proofs.YtkanjdllaikoaaaDoor

