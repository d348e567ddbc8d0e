/- lower: the text with small letters. -/
import Derived.Test.YtkanjdllaikoaaaDoorCks
set_option linter.unusedSimpArgs false
set_option linter.unusedVariables false
namespace Go.Proofs.YtkanjdllaikoaaaDoor
open Go Go.RowKit

/-- A small letter. -/
def lowC (c : Int) : Int := if 65 ≤ c ∧ c ≤ 90 then c + 32 else c
def lowI (l : List Int) : List Int := l.map lowC
def lowS (s : ByteArray) : ByteArray := strI (lowI (bytesI s))
theorem lowC_byte {c : Int} (h : 0 ≤ c ∧ c < 256) : 0 ≤ lowC c ∧ lowC c < 256 := by unfold lowC; split <;> omega
theorem lowI_byte {l : List Int} (h : ByteL l) : ByteL (lowI l) := by
  intro x hx
  obtain ⟨c, hc, rfl⟩ := List.mem_map.1 hx
  exact lowC_byte (h c hc)
theorem lowI_len (l : List Int) : (lowI l).length = l.length := by simp [lowI]
/-- The first ones small. -/
def lowM (xs : List Int) (i : Nat) : List Int := lowI (xs.take i) ++ xs.drop i
theorem lowM_len (xs : List Int) (i : Nat) (hi : i ≤ xs.length) : (lowM xs i).length = xs.length := by unfold lowM; simp [lowI]; omega
theorem lowM_at (xs : List Int) (i : Nat) (hi : i < xs.length) : (lowM xs i).getD i 0 = xs.getD i 0 := by
  unfold lowM
  rw [List.getD_eq_getElem?_getD, List.getElem?_append_right (by simp [lowI]; omega), lowI_len, List.length_take, Nat.min_eq_left (by omega), Nat.sub_self, List.getElem?_drop, Nat.add_zero, ← List.getD_eq_getElem?_getD]
theorem lowM_set (xs : List Int) (i : Nat) (hi : i < xs.length) : (lowM xs i).set i (lowC (xs.getD i 0)) = lowM xs (i + 1) := by
  unfold lowM
  have hl : (lowI (xs.take i)).length = i := by rw [lowI_len, List.length_take]; omega
  rw [List.set_append_right _ _ (by omega), hl, Nat.sub_self, drop_cons xs i hi, take_snocD xs i hi]
  simp [lowI]
theorem lowM_same (xs : List Int) (i : Nat) (hi : i < xs.length) (hc : lowC (xs.getD i 0) = xs.getD i 0) : lowM xs i = lowM xs (i + 1) := by
  unfold lowM
  rw [drop_cons xs i hi, take_snocD xs i hi]
  simp only [lowI, List.map_append, List.map_cons, List.map_nil, hc, List.append_assoc, List.cons_append, List.nil_append]
theorem lowM_end (xs : List Int) (n : Nat) (hn : xs.length = n) : lowM xs n = lowI xs := by
  unfold lowM
  rw [List.drop_of_length_le (by omega), List.append_nil, List.take_of_length_le (by omega)]
def loS (S n c i : Nat) : AS := ⟨[(3, .val (.slice (some ⟨S, 0, none⟩) n c)), (4, .val (.int .i64 (i : Int)))], []⟩
def loS6 (S n c i : Nat) : AS := ⟨[(3, .val (.slice (some ⟨S, 0, none⟩) n c)), (4, .val (.int .i64 (i : Int)))], []⟩
set_option maxHeartbeats 4000000 in
theorem lo_round (w0 : World) (S n c : Nat) (hS0 : w0.heap.size ≤ S) (xs : List Int) (hxl : xs.length = n) (hxb : ByteL xs) (hcc : n ≤ c) (hn : n ≤ 9000000000000) :
    ∀ (q i : Nat), i + q = n → ∀ (w : World), Fr No w0 w → CRow w S (lowM xs i) → wpK (ctx Tryd.prog w Tryd.f23.ntmps) Tryd.f23 (strR w0 (strI (lowI xs))) (loopAt Tryd.f23 0) (loS S n c i) := by
  intro q
  induction q with
  | zero =>
    intro i hi w hf0 hC
    obtain rfl : i = n := by omega
    have hlt : decide ((i : Int) < (i : Int)) = false := by simp
    rw [lowM_end xs i hxl] at hC
    obtain ⟨ys, hys⟩ : ∃ ys, ys = lowI xs := ⟨_, rfl⟩
    have hyl : ys.length = i := by rw [hys, lowI_len, hxl]
    have hyb : ByteL ys := hys ▸ lowI_byte hxb
    rw [← hys] at hC ⊢
    have hcv : ∀ (ρ : Env) (w' : World), Fr No w w' → (cvB ⟨S, 0, none⟩ i c).run Tryd.prog w' = .ok (.value (.string (strI ys))) w' := fun ρ w' hf => strI_run w' _ i c ys (hyl ▸ (hC.fr hf).sl) hyb
    refine wpK_end (n := 400) (m := 0) (nx := 100) (hs := [(10, .eq (.val (.bool false))), (35, .as (.val (.string (strI ys))))]) (v := .val (.string (strI ys))) follows (And.intro (congrArg Value.bool hlt) hcv) (by kernel_rfl) ?_
    intro ρ w' hf
    exact ⟨rfl, (hf0.trans hf).to_below⟩
  | succ q ih =>
    intro i hi w hf0 hC
    have hlt : decide ((i : Int) < (n : Int)) = true := by simp; omega
    have hin : i < n := by omega
    have hix : i < xs.length := by omega
    have hw : IntKind.i64.wrap ((i : Int) + 1) = ((i + 1 : Nat) : Int) := by rw [IntKind.wrap_i64]; omega
    obtain ⟨x, hx⟩ : ∃ x, x = xs.getD i 0 := ⟨_, rfl⟩
    have hxb' : 0 ≤ x ∧ x < 256 := hx ▸ hxb.at i hix
    have hadd : (⟨S, 0, none⟩ : Addr).add i = ⟨S, i, none⟩ := by rw [add_at, Nat.zero_add]
    have hixS : ∀ (ρ : Env) (w' : World), Fr No w w' → (slG 22 (some ⟨S, 0, none⟩) n c .i64 (i : Int)).run Tryd.prog w' = .ok (.value (.pointer (some ⟨S, i, none⟩))) w' := by
      have := sl_index (P := Tryd.prog) (F := No) (w := w) (A := ⟨S, 0, none⟩) (n := n) (c := c) (k' := .i64) Tryd.underlying22 info8' hin
      rw [hadd] at this
      exact this
    have hcS : ∀ w', Fr No w w' → w'.cell? ⟨S, i, none⟩ = some (.int .u8 x) := fun w' hf => by
      rw [(hC.fr hf).at i (by rw [lowM_len _ _ (by omega)]; exact hix), lowM_at xs i hix, hx]
    have ih := ih (i + 1) (by omega)
    by_cases h65 : 65 ≤ x
    · have g65 : decide (x ≥ 65) = true := by simp; omega
      by_cases h90 : x ≤ 90
      · have g90 : decide (x ≤ 90) = true := by simp; omega
        have hz : x + 32 = lowC x := by unfold lowC; rw [if_pos ⟨h65, h90⟩]
        have hs1 : IntKind.u8.wrap (x - 65) = x - 65 := by rw [IntKind.wrap_u8]; omega
        have hs2 : IntKind.u8.wrap (x - 65 + 97) = x + 32 := by rw [IntKind.wrap_u8]; omega
        refine wpK_loop (n := 400) (m := 0) (nx := 100) (hs := [(10, .eq (.val (.bool true))), (15, .as (.val (.pointer (some ⟨S, i, none⟩)))), (16, .as (.val (.int .u8 x))), (17, .eq (.val (.bool true))), (21, .as (.val (.pointer (some ⟨S, i, none⟩)))), (22, .as (.val (.int .u8 x))), (23, .eq (.val (.bool true))), (88888, .subE)]) (st' := regAt Tryd.f23 6) (s' := loS6 S n c i) follows [] [3, 4] [] (And.intro (congrArg Value.bool hlt) (And.intro hixS (And.intro (sl_load (F := No) (w := w) Tryd.underlying5 rfl hcS) (And.intro (congrArg Value.bool g65) (And.intro hixS (And.intro (sl_load (F := No) (w := w) Tryd.underlying5 rfl hcS) (congrArg Value.bool g90))))))) (by kernel_rfl) ?_
        refine wpL_region (by kernel_rfl) ?_
        refine wpL_op 9 (nx := 500) (hs := [(29, .as (.val (.pointer (some ⟨S, i, none⟩)))), (30, .as (.val (.int .u8 x))), (31, .eq (.val (.int .u8 (x - 65)))), (32, .eq (.val (.int .u8 (x + 32)))), (33, .as (.val (.pointer (some ⟨S, i, none⟩))))]) (tm := [(3, .val (.slice (some ⟨S, 0, none⟩) n c)), (4, .val (.int .i64 (i : Int))), (25, .val (.slice (some ⟨S, 0, none⟩) n c)), (26, .val (.int .i64 (i : Int))), (27, .val (.slice (some ⟨S, 0, none⟩) n c)), (28, .val (.int .i64 (i : Int))), (29, .val (.pointer (some ⟨S, i, none⟩))), (30, .val (.int .u8 x)), (31, .val (.int .u8 (x - 65))), (32, .val (.int .u8 (x + 32))), (33, .val (.pointer (some ⟨S, i, none⟩)))]) (m := stB S i (x + 32)) (And.intro hixS (And.intro (sl_load (F := No) (w := w) Tryd.underlying5 rfl hcS) (And.intro (congrArg (Value.int .u8) hs1) (And.intro (congrArg (Value.int .u8) hs2) hixS)))) (by kernel_rfl) ?_
        intro w1 hf1
        obtain ⟨w2, hrun, hC2, hf2⟩ := stB_run w1 S i (x + 32) _ (hC.fr hf1) (by rw [lowM_len _ _ (by omega)]; exact hix)
        refine ⟨_, _, w2, hrun, rfl, ?_⟩
        rw [hz, hx, lowM_set xs i hix] at hC2
        have hf02 : Fr No w0 w2 := fr_new (hf0.trans hf1) hS0 hf2
        refine wpL_loop (n := 400) (m := 0) (nx := 500) (hs := [(12, .eq (.val (.int .i64 ((i + 1 : Nat) : Int))))]) (st' := loopAt Tryd.f23 0) (s' := loS S n c (i + 1)) follows [] [3, 4] [] (congrArg (Value.int .i64) hw) (by kernel_rfl) ?_
        exact ih w2 hf02 hC2
      · have g90 : decide (x ≤ 90) = false := by simp; omega
        have hz : lowC x = x := by unfold lowC; rw [if_neg (fun e => h90 e.2)]
        rw [lowM_same xs i hix (by rw [← hx]; exact hz)] at hC
        refine wpK_loop (n := 400) (m := 0) (nx := 100) (hs := [(10, .eq (.val (.bool true))), (15, .as (.val (.pointer (some ⟨S, i, none⟩)))), (16, .as (.val (.int .u8 x))), (17, .eq (.val (.bool true))), (21, .as (.val (.pointer (some ⟨S, i, none⟩)))), (22, .as (.val (.int .u8 x))), (23, .eq (.val (.bool false))), (12, .eq (.val (.int .i64 ((i + 1 : Nat) : Int))))]) (st' := loopAt Tryd.f23 0) (s' := loS S n c (i + 1)) follows [] [3, 4] [] (And.intro (congrArg Value.bool hlt) (And.intro hixS (And.intro (sl_load (F := No) (w := w) Tryd.underlying5 rfl hcS) (And.intro (congrArg Value.bool g65) (And.intro hixS (And.intro (sl_load (F := No) (w := w) Tryd.underlying5 rfl hcS) (And.intro (congrArg Value.bool g90) (congrArg (Value.int .i64) hw)))))))) (by kernel_rfl) ?_
        exact ih w hf0 hC
    · have g65 : decide (x ≥ 65) = false := by simp; omega
      have hz : lowC x = x := by unfold lowC; rw [if_neg (fun e => h65 e.1)]
      rw [lowM_same xs i hix (by rw [← hx]; exact hz)] at hC
      refine wpK_loop (n := 400) (m := 0) (nx := 100) (hs := [(10, .eq (.val (.bool true))), (15, .as (.val (.pointer (some ⟨S, i, none⟩)))), (16, .as (.val (.int .u8 x))), (17, .eq (.val (.bool false))), (12, .eq (.val (.int .i64 ((i + 1 : Nat) : Int))))]) (st' := loopAt Tryd.f23 0) (s' := loS S n c (i + 1)) follows [] [3, 4] [] (And.intro (congrArg Value.bool hlt) (And.intro hixS (And.intro (sl_load (F := No) (w := w) Tryd.underlying5 rfl hcS) (And.intro (congrArg Value.bool g65) (congrArg (Value.int .i64) hw))))) (by kernel_rfl) ?_
      exact ih w hf0 hC
theorem lower_c (w : World) (s : ByteArray) (hs : s.size ≤ 9000000000000) : Calls Tryd.prog 23 #[.string s] w (strR w (lowS s)) := by
  refine calls_vm [.val (.string s)] (fn := Tryd.f23) Tryd.func23 (by kernel_rfl) (by kernel_rfl) (by kernel_rfl) (by simp [AV.okL, AV.ok]) ?_
  refine wpK_loop (n := 400) (m := 0) (nx := 0) (hs := [(2, .subE), (88888, .subE)]) (st' := regAt Tryd.f23 1) (s' := ⟨[(0, .val (.string s))], []⟩) follows [] [0] [] trivial (by kernel_rfl) ?_
  refine wpL_region (by kernel_rfl) ?_
  refine wpL_op 1 (nx := 500) (hs := []) (tm := [(0, .val (.string s)), (5, .val (.string s))]) (m := cvS s) trivial (by kernel_rfl) ?_
  intro w1 hf1
  obtain ⟨c, w2, hrun, hc, hCR, hf2⟩ := cvS_run w1 s
  refine ⟨_, _, w2, hrun, rfl, ?_⟩
  obtain ⟨n, hn⟩ : ∃ n, n = s.size := ⟨_, rfl⟩
  obtain ⟨S, hSd⟩ : ∃ S, S = w1.heap.size := ⟨_, rfl⟩
  rw [← hn] at hc ⊢
  rw [← hSd] at hCR ⊢
  refine wpL_loop (n := 400) (m := 0) (nx := 500) (hs := []) (st' := loopAt Tryd.f23 0) (s' := loS S n c 0) follows [] [3, 4] [] trivial (by kernel_rfl) ?_
  refine lo_round w S n c (hSd ▸ hf1.size) (bytesI s) (by rw [bytesI_len, hn]) (fun x hx => bytesI_byte s x hx) hc (by omega) n 0 (by omega) w2 (hf1.trans hf2) ?_
  have : lowM (bytesI s) 0 = bytesI s := by unfold lowM lowI; simp
  rw [this]
  exact hCR
end Go.Proofs.YtkanjdllaikoaaaDoor

