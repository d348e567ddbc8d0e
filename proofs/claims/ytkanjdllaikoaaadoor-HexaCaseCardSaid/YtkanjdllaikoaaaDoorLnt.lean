/- lent, still, backward. -/
import Derived.Test.YtkanjdllaikoaaaDoorGv
set_option linter.unusedSimpArgs false
set_option linter.unusedVariables false
namespace Go.Proofs.YtkanjdllaikoaaaDoor
open Go Go.RowKit

def roomJ (l : List Int) (j : Nat) : List Int := l ++ (List.replicate j 195 ++ List.replicate (70 - j) 0)
theorem roomJ_len (l : List Int) (j : Nat) (h : j ≤ 70) : (roomJ l j).length = l.length + 70 := by simp [roomJ]; omega
theorem roomJ_step (l : List Int) (j : Nat) (h : j < 70) : (roomJ l j).set (l.length + j) 195 = roomJ l (j + 1) := by
  unfold roomJ
  rw [List.set_append_right _ _ (by omega), show l.length + j - l.length = j by omega, List.set_append_right _ _ (by simp)]
  simp only [List.length_replicate, Nat.sub_self]
  obtain ⟨m, hm⟩ : ∃ m, 70 - j = m + 1 := ⟨69 - j, by omega⟩
  rw [hm, show 70 - (j + 1) = m by omega, List.replicate_succ, List.set_cons_zero, List.replicate_succ']
  simp
theorem roomJ_lo (l : List Int) (j i : Nat) (h : i < l.length) : (roomJ l j).getD i 0 = l.getD i 0 := by
  unfold roomJ
  rw [List.getD_eq_getElem?_getD, List.getElem?_append_left h, ← List.getD_eq_getElem?_getD]
theorem roomJ_hi (l : List Int) (i : Nat) (h1 : l.length ≤ i) (h2 : i < l.length + 70) : (roomJ l 70).getD i 0 = 195 := by
  unfold roomJ
  rw [List.getD_eq_getElem?_getD, List.getElem?_append_right h1, List.getElem?_append_left (by simp; omega), List.getElem?_replicate, if_pos (by omega)]
  rfl
abbrev gb (n : Nat) (l : List Int) : Vblk := ⟨[.ints .u8 (n + 70) (roomJ l 70)], 5, .arr⟩
def lnS (A : Option Addr) (n c : Nat) (xs : List Int) (i : Int) : AS := ⟨[(3, .lst 1 0 0 n (n + 70)), (4, .lst 1 0 0 (n + 70) (n + 70)), (5, .val (.int .i64 i))], [(1, ⟨[.ints .u8 (n + 70) xs], 5, .arr⟩)]⟩
def lentP (w : World) (n : Nat) (l : List Int) (e : Ending) (w' : World) : Prop :=
  Below w.heap.size w w' ∧ ∃ B, e = .returned (.slice (some ⟨B, 0, none⟩) n (n + 70)) ∧ w'.heap[B]? = some (.cells ((roomJ l 70).map (Value.int .u8)).toArray 5 (0, 0)) ∧ w.heap.size ≤ B
theorem ln_round (w : World) (A : Option Addr) (n c : Nat) (l : List Int) (hn : n ≤ 9000000000000) (e1 : l.length = n) :
    ∀ (q j : Nat), j + q = 70 → wpK (ctx Tryd.prog w Tryd.f8.ntmps) Tryd.f8 (lentP w n l) (loopAt Tryd.f8 0) (lnS A n c (roomJ l j) ((n + j : Nat) : Int)) := by
  intro q
  induction q with
  | zero =>
    intro j hj
    obtain rfl : j = 70 := by omega
    have hlt : decide (((n + 70 : Nat) : Int) < ((n + 70 : Nat) : Int)) = false := by simp
    refine wpK_endM (n := 400) (m := 0) (nx := 0) (hs := [(25, .eq (.val (.bool false)))]) (v := .lst 1 0 0 n (n + 70)) (bs := [(1, gb n l)]) follows [1] (congrArg Value.bool hlt) (by kernel_rfl) ?_
    intro ρ w' hf hh
    refine ⟨hf.to_below, ρ.b 1, by simp [AV.conc], ?_, ?_⟩
    · have := hh.1.1
      unfold Sits at this
      simpa [Seg.cells, Seg.cell1] using this
    · rcases hh.1.2 trivial with h | h
      · exact h.elim
      · exact h
  | succ q ih =>
    intro j hj
    have hlt : decide (((n + j : Nat) : Int) < ((n + 70 : Nat) : Int)) = true := by simp; omega
    have hin : n + j < n + 70 := by omega
    have hw : IntKind.i64.wrap (((n + j : Nat) : Int) + 1) = ((n + (j + 1) : Nat) : Int) := by rw [IntKind.wrap_i64]; omega
    refine wpK_loop (n := 400) (m := 0) (nx := 100) (hs := [(25, .eq (.val (.bool true))), (30, .ix (n + j)), (27, .eq (.val (.int .i64 ((n + (j + 1) : Nat) : Int))))]) (st' := loopAt Tryd.f8 0) (s' := lnS A n c ((roomJ l j).set (n + j) 195) ((n + (j + 1) : Nat) : Int)) follows [] [3, 4, 5] [(1, 1)] (And.intro (congrArg Value.bool hlt) (And.intro (rfl : ((n + j : Nat) : Int) = ((n + j : Nat) : Int)) (And.intro hin (And.intro hin (congrArg (Value.int .i64) hw))))) (by kernel_rfl) ?_
    have := roomJ_step l j (by omega)
    rw [e1] at this
    rw [this]
    exact ih (j + 1) (by omega)
theorem lent_c (w : World) (A : Option Addr) (n c : Nat) (l : List Int) (hS : Sl .u8 w A n l) (hn : n ≤ 9000000000000) :
    Calls Tryd.prog 8 #[.slice A n c] w (lentP w n l) := by
  have e1 : l.length = n := hS.1
  have hw : IntKind.i64.wrap ((n : Int) + 70) = ((n + 70 : Nat) : Int) := by rw [IntKind.wrap_i64]; omega
  have hcp : ∀ w', Fr No w w' → 0 < l.length → ∃ ad, A = some ad ∧ ∀ j v, (l.map (Value.int .u8))[j]? = some v → w'.cell? (ad.add j) = some v := by
    intro w' hf hpos
    have := (hS.frN hf).src n (Nat.le_refl n)
    rw [List.take_of_length_le (by omega)] at this
    exact this hpos
  have hx : l ++ List.replicate 70 (0 : Int) = (List.replicate (n + 70) (0 : Int)).take 0 ++ (l ++ (List.replicate (n + 70) (0 : Int)).drop (0 + n)) := by simp
  have hmin : n = Nat.min n n := by simp [Nat.min_def]
  refine calls_vm [.val (.slice A n c)] (fn := Tryd.f8) Tryd.func8 (by kernel_rfl) (by kernel_rfl) (by kernel_rfl) (by simp [AV.okL, AV.ok]) ?_
  refine wpK_loop (n := 400) (m := 0) (nx := 0) (hs := [(10, .eq (.val (.int .i64 ((n + 70 : Nat) : Int)))), (11, .mk [.ints .u8 (n + 70) (List.replicate (n + 70) 0)] n (n + 70)), (14, .copy l (l ++ List.replicate 70 0) n), (18, .eq (.val (.int .i64 ((n + 70 : Nat) : Int)))), (19, .sub 0 (n + 70))]) (st' := loopAt Tryd.f8 0) (s' := lnS A n c (l ++ List.replicate 70 0) ((n + 0 : Nat) : Int)) follows [] [3, 4, 5] [(1, 6)] (And.intro (congrArg (Value.int .i64) hw) (And.intro (rfl : ((n : Nat) : Int) = ((n : Nat) : Int)) (And.intro (rfl : ((n + 70 : Nat) : Int) = ((n + 70 : Nat) : Int)) (And.intro (show n ≤ n + 70 by omega) (And.intro (show 1 * (n + 70) ≤ 281474976710656 by omega) (And.intro (show n + 70 ≤ 9223372036854775807 by omega) (And.intro (show Seg.ok No [.ints .u8 (n + 70) (List.replicate (n + 70) 0)] from ⟨List.length_replicate .., trivial⟩) (And.intro (mk_ints .u8 (n + 70)) (And.intro hmin (And.intro e1 (And.intro (show 0 + n ≤ n + 70 by omega) (And.intro hx (And.intro hcp (And.intro (congrArg (Value.int .i64) hw) (And.intro (rfl : (0 : Nat) = 0) (And.intro (rfl : ((n + 70 : Nat) : Int) = ((n + 70 : Nat) : Int)) (And.intro (Nat.zero_le (n + 70)) (And.intro (Nat.le_refl (n + 70)) (show 0 < n + 70 by omega))))))))))))))))))) (by kernel_rfl) ?_
  exact ln_round w A n c l hn e1 70 0 (by omega)
abbrev slHi (t : TypeId) (A : Addr) (n c : Nat) (k : IntKind) (u : Int) : Sem Next := do pure (.value (← Instr.sliceAt t (.slice (some A) n c) none (some (.int k u)) none))
theorem sl_hi {P : Program} {F : Nat → Prop} {w : World} {t e : TypeId} (hu : P.underlying t = some (.slice e)) (hs : (P.info? e).map (·.size) = some 1) {k : IntKind} {A : Addr} {n c u : Nat} (h : u ≤ c) :
    ∀ (ρ : Env) (w' : World), Fr F w w' → (slHi t A n c k (u : Int)).run P w' = .ok (.value (.slice (some A) u c)) w' := by
  intro ρ w' hf
  have hsz := size_one hs w'
  have hb := bounds_run (P := P) (w := w') (isSlice := true) (lo := none) (hi := some (.int k (u : Int))) (len := n) (cap := c) (l := 0) (u := u) (by omega) h (.inl ⟨rfl, rfl⟩) (.inr ⟨k, rfl⟩)
  unfold slHi
  have h0 : A.add 0 = A := by simp [Addr.add]
  simp [Instr.sliceAt, Instr.slice, run_underlying hu, hsz, hb, h0]
theorem infB2 : (Tryd.prog.info? 5).map (·.size) = some 1 := by kernel_rfl
def stS (L : Addr) (D : Option Addr) (n c i : Nat) : AS := ⟨[(1, .val (.slice D n c)), (5, .val (.slice (some L) (n + 70) (n + 70))), (6, .val (.int .i64 (i : Int)))], []⟩
set_option maxHeartbeats 2000000 in
theorem st_round (w : World) (L : Addr) (D : Option Addr) (n c : Nat) (l : List Int) (hL : Sl .u8 w (some L) (n + 70) (roomJ l 70)) (hD : Sl .u8 w D n l) (hn : n ≤ 9000000000000) :
    ∀ (q i : Nat), i + q = n + 70 → wpK (ctx Tryd.prog w Tryd.f12.ntmps) Tryd.f12 (fun e w' => e = .returned (.bool true) ∧ Below w.heap.size w w') (loopAt Tryd.f12 0) (stS L D n c i) := by
  have e1 : l.length = n := hD.1
  intro q
  induction q with
  | zero =>
    intro i hi
    obtain rfl : i = n + 70 := by omega
    have hlt : decide (((n + 70 : Nat) : Int) < ((n + 70 : Nat) : Int)) = false := by simp
    refine wpK_end (n := 400) (m := 0) (nx := 0) (hs := [(20, .eq (.val (.bool false)))]) (v := .val (.bool true)) follows (congrArg Value.bool hlt) (by kernel_rfl) ?_
    intro ρ w' hf; exact ⟨rfl, hf.to_below⟩
  | succ q ih =>
    intro i hi
    have hlt : decide ((i : Int) < ((n + 70 : Nat) : Int)) = true := by simp; omega
    have hin : i < n + 70 := by omega
    have hw : IntKind.i64.wrap ((i : Int) + 1) = ((i + 1 : Nat) : Int) := by rw [IntKind.wrap_i64]; omega
    have hcL : ∀ w', Fr No w w' → w'.cell? (L.add i) = some (.int .u8 ((roomJ l 70).getD i 0)) := fun w' hf => (hL.frN hf).at i hin
    by_cases hi1 : i < n
    · have g1 : decide ((i : Int) < (n : Int)) = true := by simp; omega
      have g2 : decide ((i : Int) ≥ (n : Int)) = false := by simp; omega
      obtain ⟨ad, rfl⟩ := hD.has (by omega)
      obtain ⟨x, hx⟩ : ∃ x, x = l.getD i 0 := ⟨_, rfl⟩
      rw [roomJ_lo l 70 i (by omega), ← hx] at hcL
      have hcD : ∀ w', Fr No w w' → w'.cell? (ad.add i) = some (.int .u8 x) := fun w' hf => hx ▸ (hD.frN hf).at i hi1
      have hd : (!decide (x = x)) = false := by simp
      refine wpK_loop (n := 400) (m := 0) (nx := 100) (hs := [(20, .eq (.val (.bool true))), (26, .eq (.val (.bool true))), (30, .as (.val (.pointer (some (L.add i))))), (31, .as (.val (.int .u8 x))), (34, .as (.val (.pointer (some (ad.add i))))), (35, .as (.val (.int .u8 x))), (36, .eq (.val (.bool false))), (42, .eq (.val (.bool false))), (22, .eq (.val (.int .i64 ((i + 1 : Nat) : Int))))]) (st' := loopAt Tryd.f12 0) (s' := stS L (some ad) n c (i + 1)) follows [] [1, 5, 6] [] (And.intro (congrArg Value.bool hlt) (And.intro (congrArg Value.bool g1) (And.intro (sl_index (F := No) (w := w) (A := L) (n := n + 70) (c := n + 70) (k' := .i64) Tryd.underlying22 infB2 hin) (And.intro (sl_load (F := No) (w := w) Tryd.underlying5 rfl hcL) (And.intro (sl_index (F := No) (w := w) (A := ad) (n := n) (c := c) (k' := .i64) Tryd.underlying22 infB2 hi1) (And.intro (sl_load (F := No) (w := w) Tryd.underlying5 rfl hcD) (And.intro (congrArg Value.bool hd) (And.intro (congrArg Value.bool g2) (congrArg (Value.int .i64) hw))))))))) (by kernel_rfl) ?_
      exact ih (i + 1) (by omega)
    · have g1 : decide ((i : Int) < (n : Int)) = false := by simp; omega
      have g2 : decide ((i : Int) ≥ (n : Int)) = true := by simp; omega
      rw [roomJ_hi l i (by omega) (by omega)] at hcL
      have hd : (!decide ((195 : Int) = 195)) = false := by simp
      refine wpK_loop (n := 400) (m := 0) (nx := 100) (hs := [(20, .eq (.val (.bool true))), (26, .eq (.val (.bool false))), (42, .eq (.val (.bool true))), (46, .as (.val (.pointer (some (L.add i))))), (47, .as (.val (.int .u8 195))), (48, .eq (.val (.bool false))), (22, .eq (.val (.int .i64 ((i + 1 : Nat) : Int))))]) (st' := loopAt Tryd.f12 0) (s' := stS L D n c (i + 1)) follows [] [1, 5, 6] [] (And.intro (congrArg Value.bool hlt) (And.intro (congrArg Value.bool g1) (And.intro (congrArg Value.bool g2) (And.intro (sl_index (F := No) (w := w) (A := L) (n := n + 70) (c := n + 70) (k' := .i64) Tryd.underlying22 infB2 hin) (And.intro (sl_load (F := No) (w := w) Tryd.underlying5 rfl hcL) (And.intro (congrArg Value.bool hd) (congrArg (Value.int .i64) hw))))))) (by kernel_rfl) ?_
      exact ih (i + 1) (by omega)
theorem still_c (w : World) (L : Addr) (D : Option Addr) (n c : Nat) (l : List Int) (hL : Sl .u8 w (some L) (n + 70) (roomJ l 70)) (hD : Sl .u8 w D n l) (hn : n ≤ 9000000000000) :
    Calls Tryd.prog 12 #[.slice (some L) n (n + 70), .slice D n c] w fun e w' => e = .returned (.bool true) ∧ Below w.heap.size w w' := by
  have hw : IntKind.i64.wrap ((n : Int) + 70) = ((n + 70 : Nat) : Int) := by rw [IntKind.wrap_i64]; omega
  have hd : (!decide ((n : Int) = (n : Int))) = false := by simp
  refine calls_vm [.val (.slice (some L) n (n + 70)), .val (.slice D n c)] (fn := Tryd.f12) Tryd.func12 (by kernel_rfl) (by kernel_rfl) (by kernel_rfl) (by simp [AV.okL, AV.ok]) ?_
  refine wpK_loop (n := 400) (m := 0) (nx := 0) (hs := [(11, .eq (.val (.bool false))), (15, .eq (.val (.int .i64 ((n + 70 : Nat) : Int)))), (16, .as (.val (.slice (some L) (n + 70) (n + 70))))]) (st' := loopAt Tryd.f12 0) (s' := stS L D n c 0) follows [] [1, 5, 6] [] (And.intro (congrArg Value.bool hd) (And.intro (congrArg (Value.int .i64) hw) (sl_hi (F := No) (w := w) (A := L) (n := n) (c := n + 70) (k := .i64) Tryd.underlying22 infB2 (Nat.le_refl (n + 70))))) (by kernel_rfl) ?_
  exact st_round w L D n c l hL hD hn (n + 70) 0 (by omega)
def bwS (A : Option Addr) (n c k : Nat) (ys : List Int) (z : Int) : AS := ⟨[(0, .val (.slice A n c)), (3, .own 1 1 0 k), (4, .val (.int .i64 z))], [(1, ob k ys)]⟩
theorem drop_rev (l : List Int) (m : Nat) (hm : m < l.length) : (l.drop m).reverse = (l.drop (m + 1)).reverse ++ [l.getD m 0] := by
  rw [List.drop_eq_getElem_cons hm, List.reverse_cons]
  congr 2
  rw [List.getD_eq_getElem?_getD, List.getElem?_eq_getElem hm]
  rfl
set_option maxHeartbeats 2000000 in
theorem bw_round (w : World) (A : Option Addr) (n c : Nat) (l : List Int) (hS : Sl .u8 w A n l) (hn : n ≤ 9000000000000) :
    ∀ (m k : Nat), k + m = n → ∀ (z : Int) (ys : List Int), z = (m : Int) - 1 → ys = (l.drop m).reverse → wpK (ctx Tryd.prog w Tryd.f13.ntmps) Tryd.f13 (Gives w l.reverse) (loopAt Tryd.f13 0) (bwS A n c k ys z) := by
  have e1 : l.length = n := hS.1
  intro m
  induction m with
  | zero =>
    intro k hk z ys hz hys
    obtain rfl : k = n := by omega
    have hlt : decide (z ≥ 0) = false := by simp; omega
    have hyl : ys.length = k := by rw [hys]; simp [e1]
    have hyr : ys = l.reverse := by rw [hys, List.drop_zero]
    rw [← hyr]
    refine wpK_endM (n := 400) (m := 0) (nx := 0) (hs := [(9, .eq (.val (.bool false)))]) (v := .own 1 1 0 k) (bs := [(1, ob k ys)]) follows [1] (congrArg Value.bool hlt) (by kernel_rfl) ?_
    intro ρ w' hf hh; exact gives_of hyl hf hh
  | succ m ih =>
    intro k hk z ys hz hys
    obtain rfl : z = (m : Int) := by omega
    have hlt : decide ((m : Int) ≥ 0) = true := by simp
    have hmn : m < n := by omega
    have hw : IntKind.i64.wrap ((m : Int) - 1) = (m : Int) - 1 := by rw [IntKind.wrap_i64]; omega
    obtain ⟨ad, rfl⟩ := hS.has (by omega)
    obtain ⟨x, hx⟩ : ∃ x, x = l.getD m 0 := ⟨_, rfl⟩
    have hcx : ∀ w', Fr No w w' → w'.cell? (ad.add m) = some (.int .u8 x) := fun w' hf => hx ▸ (hS.frN hf).at m hmn
    have hyl : ys.length = k := by rw [hys]; simp [e1]; omega
    have hcat : ∀ ρ, Seg.cells ρ [.ints .u8 (k + 1) (ys ++ [x])] = Seg.cells ρ [.ints .u8 k ys] ++ Seg.cells ρ [.cell (.val (.int .u8 x))] := by
      intro ρ
      simp [Seg.cells, Seg.cell1, AV.conc]
    have hlen : (ys ++ [x]).length = k + 1 := by simp [hyl]
    have hmb : k + 1 ≤ 140737488355328 := by omega
    refine wpK_loop (n := 400) (m := 0) (nx := 100) (hs := [(9, .eq (.val (.bool true))), (15, .as (.val (.pointer (some (ad.add m))))), (16, .as (.val (.int .u8 x))), (18, .app [.ints .u8 (k + 1) (ys ++ [x])] (k + 1)), (11, .eq (.val (.int .i64 ((m : Int) - 1))))]) (st' := loopAt Tryd.f13 0) (s' := bwS (some ad) n c (k + 1) (ys ++ [x]) ((m : Int) - 1)) follows [] [0, 3, 4] [(1, 108)] (And.intro (congrArg Value.bool hlt) (And.intro (sl_index (F := No) (w := w) (A := ad) (n := n) (c := c) (k' := .i64) Tryd.underlying22 infB2 hmn) (And.intro (sl_load (F := No) (w := w) Tryd.underlying5 rfl hcx) (And.intro hcat (And.intro (show Seg.ok No [.ints .u8 (k + 1) (ys ++ [x])] from ⟨hlen, trivial⟩) (And.intro (rfl : k + 1 = k + 1) (And.intro (Nat.zero_add k) (And.intro hmb (congrArg (Value.int .i64) hw))))))))) (by kernel_rfl) ?_
    exact ih (k + 1) (by omega) _ _ rfl (by rw [drop_rev l m (by omega), hys, hx])
theorem backward_c (w : World) (A : Option Addr) (n c : Nat) (l : List Int) (hS : Sl .u8 w A n l) (hn : n ≤ 9000000000000) : Calls Tryd.prog 13 #[.slice A n c] w (Gives w l.reverse) := by
  have hw : IntKind.i64.wrap ((n : Int) - 1) = (n : Int) - 1 := by rw [IntKind.wrap_i64]; omega
  refine calls_vm [.val (.slice A n c)] (fn := Tryd.f13) Tryd.func13 (by kernel_rfl) (by kernel_rfl) (by kernel_rfl) (by simp [AV.okL, AV.ok]) ?_
  refine wpK_loop (n := 400) (m := 0) (nx := 0) (hs := [(7, .eq (.val (.int .i64 ((n : Int) - 1))))]) (st' := loopAt Tryd.f13 0) (s' := bwS A n c 0 [] ((n : Int) - 1)) follows [(3, 99, 1, [.ints .u8 0 []], 5)] [0, 3, 4] [(1, 99)] (congrArg (Value.int .i64) hw) (by kernel_rfl) ?_
  exact bw_round w A n c l hS hn n 0 (by omega) _ [] rfl (by rw [List.drop_of_length_le (by rw [hS.1]; exact Nat.le_refl n)]; rfl)
end Go.Proofs.YtkanjdllaikoaaaDoor

