/- roomy, spared: new memory with marked room behind. -/
import Derived.Test.YthgnmpjcbicdhaaVSame
set_option linter.unusedSimpArgs false
set_option linter.unusedVariables false
namespace Go.Proofs.Ythgnmpjcbicdhaa
open Go Go.RowKit Go.Proofs.YthgnmpjcbicdhaaW.PrintWords

def room9 (l : List Int) (j : Nat) : List Int := l ++ (List.replicate j 165 ++ List.replicate (9 - j) 0)
theorem room9_len (l : List Int) (j : Nat) (h : j ≤ 9) : (room9 l j).length = l.length + 9 := by simp [room9]; omega
theorem room9_step (l : List Int) (j : Nat) (h : j < 9) : (room9 l j).set (l.length + j) 165 = room9 l (j + 1) := by
  unfold room9
  rw [List.set_append_right _ _ (by omega), show l.length + j - l.length = j by omega, List.set_append_right _ _ (by simp)]
  simp only [List.length_replicate, Nat.sub_self]
  obtain ⟨m, hm⟩ : ∃ m, 9 - j = m + 1 := ⟨8 - j, by omega⟩
  rw [hm, show 9 - (j + 1) = m by omega, List.replicate_succ, List.set_cons_zero, List.replicate_succ']
  simp
def roomyS (A : Option Addr) (n c : Nat) (xs : List Int) (i : Int) : AS := ⟨[(0, .val (.slice A n c)), (2, .val (.slice none 0 0)), (3, .lst 1 0 0 (n + 9) (n + 9)), (4, .val (.int .i64 i))], [(1, ⟨[.ints .u8 (n + 9) xs], 5, .arr⟩)]⟩
def roomyP (w : World) (n : Nat) (l : List Int) (e : Ending) (w' : World) : Prop :=
  Below w.heap.size w w' ∧ ∃ B, e = .returned (.slice (some ⟨B, 0, none⟩) n (n + 9)) ∧ w'.heap[B]? = some (.cells ((room9 l 9).map (Value.int .u8)).toArray 5 (0, 0)) ∧ w.heap.size ≤ B
theorem roomy_round (w : World) (A : Option Addr) (n c : Nat) (l : List Int) (hn : n ≤ 140737488351232) (e1 : l.length = n) :
    ∀ (q j : Nat), j + q = 9 → wpK (ctx Try.prog w Try.f17.ntmps) Try.f17 (roomyP w n l) (loopAt Try.f17 0) (roomyS A n c (room9 l j) ((n + j : Nat) : Int)) := by
  intro q
  induction q with
  | zero =>
    intro j hj
    obtain rfl : j = 9 := by omega
    have hlt : decide (((n + 9 : Nat) : Int) < ((n + 9 : Nat) : Int)) = false := by simp
    refine wpK_endM (n := 400) (m := 0) (nx := 0) (hs := [(17, .eq (.val (.bool false))), (26, .sub 0 n)]) (v := .lst 1 0 0 n (n + 9)) (bs := [(1, ⟨[.ints .u8 (n + 9) (room9 l 9)], 5, .arr⟩)]) follows [1] (And.intro (congrArg Value.bool hlt) (And.intro (rfl : (0 : Nat) = 0) (And.intro (rfl : (n : Int) = (n : Int)) (And.intro (Nat.zero_le n) (And.intro (show n ≤ n + 9 by omega) (show 0 < n + 9 by omega)))))) (by kernel_rfl) ?_
    intro ρ w' hf hh
    refine ⟨hf.to_below, ρ.b 1, by simp [AV.conc], ?_, ?_⟩
    · have := hh.1.1
      unfold Sits at this
      simpa [Seg.cells, Seg.cell1] using this
    · rcases hh.1.2 trivial with h | h
      · exact h.2.elim
      · exact h
  | succ q ih =>
    intro j hj
    have hlt : decide (((n + j : Nat) : Int) < ((n + 9 : Nat) : Int)) = true := by simp; omega
    have hin : n + j < n + 9 := by omega
    have hw : IntKind.i64.wrap (((n + j : Nat) : Int) + 1) = ((n + (j + 1) : Nat) : Int) := by rw [IntKind.wrap_i64]; omega
    refine wpK_loop (n := 400) (m := 0) (nx := 100) (hs := [(17, .eq (.val (.bool true))), (22, .ix (n + j)), (19, .eq (.val (.int .i64 ((n + (j + 1) : Nat) : Int))))]) (st' := loopAt Try.f17 0) (s' := roomyS A n c ((room9 l j).set (n + j) 165) ((n + (j + 1) : Nat) : Int)) follows [] [0, 2, 3, 4] [(1, 1)] (And.intro (congrArg Value.bool hlt) (And.intro (rfl : ((n + j : Nat) : Int) = ((n + j : Nat) : Int)) (And.intro hin (And.intro hin (congrArg (Value.int .i64) hw))))) (by kernel_rfl) ?_
    have := room9_step l j (by omega)
    rw [e1] at this
    rw [this]
    exact ih (j + 1) (by omega)
theorem roomy_c (w : World) (A : Option Addr) (n c : Nat) (l : List Int) (h1 : Kd.C (Kd.int .u8) w A n l) (hn : n ≤ 140737488351232) :
    Calls Try.prog 17 #[.slice A n c] w (roomyP w n l) := by
  have e1 : l.length = n := h1.1
  have hw : IntKind.i64.wrap ((n : Int) + 9) = ((n + 9 : Nat) : Int) := by rw [IntKind.wrap_i64]; omega
  have hcp : ∀ w', Fr No w w' → 0 < l.length → ∃ ad, A = some ad ∧ ∀ j v, (l.map (Value.int .u8))[j]? = some v → w'.cell? (ad.add j) = some v := by
    intro w' hf hpos
    obtain ⟨ad, e, _⟩ := C_at (Kd.C_below h1 hf.to_below) 0 (by omega)
    refine ⟨ad, e, fun j v hj => ?_⟩
    have hjl : j < l.length := by
      have := (List.getElem?_eq_some_iff.1 hj).1
      simpa using this
    obtain ⟨ad2, e2, hc⟩ := C_at (Kd.C_below h1 hf.to_below) j (by omega)
    obtain rfl : ad = ad2 := by rw [e] at e2; injection e2
    rw [nums_get .u8 l j hjl] at hj
    rw [hc, hj]
  have hx : l ++ List.replicate 9 (0 : Int) = (List.replicate (n + 9) (0 : Int)).take 0 ++ (l ++ (List.replicate (n + 9) (0 : Int)).drop (0 + n)) := by
    simp
  have hmin : n = Nat.min n (n + 9) := by simp [Nat.min_def]
  refine calls_vm [.val (.slice A n c)] (fn := Try.f17) Try.func17 (by kernel_rfl) (by kernel_rfl) (by kernel_rfl) (by simp [AV.okL, AV.ok]) ?_
  refine wpK_loop (n := 400) (m := 0) (nx := 0) (hs := [(7, .eq (.val (.int .i64 ((n + 9 : Nat) : Int)))), (8, .mk [.ints .u8 (n + 9) (List.replicate (n + 9) 0)] (n + 9) (n + 9)), (11, .copy l (l ++ List.replicate 9 0) n)]) (st' := loopAt Try.f17 0) (s' := roomyS A n c (l ++ List.replicate 9 0) ((n + 0 : Nat) : Int)) follows [] [0, 2, 3, 4] [(1, 4)] (And.intro (congrArg (Value.int .i64) hw) (And.intro (rfl : ((n + 9 : Nat) : Int) = ((n + 9 : Nat) : Int)) (And.intro (rfl : ((n + 9 : Nat) : Int) = ((n + 9 : Nat) : Int)) (And.intro (Nat.le_refl (n + 9)) (And.intro (show 1 * (n + 9) ≤ 281474976710656 by omega) (And.intro (show n + 9 ≤ 9223372036854775807 by omega) (And.intro (show Seg.ok No [.ints .u8 (n + 9) (List.replicate (n + 9) 0)] from ⟨List.length_replicate .., trivial⟩) (And.intro (mk_ints .u8 (n + 9)) (And.intro hmin (And.intro e1 (And.intro (show 0 + n ≤ n + 9 by omega) (And.intro hx hcp)))))))))))) (by kernel_rfl) ?_
  exact roomy_round w A n c l hn e1 9 0 (by omega)
def sparedS (A : Addr) (n : Nat) (i : Int) : AS := ⟨[(0, .val (.slice (some A) n (n + 9))), (2, .val (.bool false)), (3, .val (.slice (some A) (n + 9) (n + 9))), (4, .val (.int .i64 i))], []⟩
theorem spared_round (w : World) (A : Addr) (n : Nat) (l : List Int) (h1 : Kd.C (Kd.int .u8) w (some A) (n + 9) (room9 l 9)) (hn : n ≤ 140737488351232) (e1 : l.length = n) :
    ∀ (q j : Nat), j + q = 9 → wpK (ctx Try.prog w Try.f23.ntmps) Try.f23 (fun e w' => e = .returned (.bool true) ∧ Below w.heap.size w w') (loopAt Try.f23 0) (sparedS A n ((n + j : Nat) : Int)) := by
  intro q
  induction q with
  | zero =>
    intro j hj
    obtain rfl : j = 9 := by omega
    have hlt : decide (((n + 9 : Nat) : Int) < ((n + 9 : Nat) : Int)) = false := by simp
    refine wpK_end (n := 400) (m := 0) (nx := 0) (hs := [(15, .eq (.val (.bool false)))]) (v := .val (.bool true)) follows (congrArg Value.bool hlt) (by kernel_rfl) ?_
    intro ρ w' hf; exact ⟨rfl, hf.to_below⟩
  | succ q ih =>
    intro j hj
    have hlt : decide (((n + j : Nat) : Int) < ((n + 9 : Nat) : Int)) = true := by simp; omega
    have hin : n + j < n + 9 := by omega
    have hw : IntKind.i64.wrap (((n + j : Nat) : Int) + 1) = ((n + (j + 1) : Nat) : Int) := by rw [IntKind.wrap_i64]; omega
    have hat : (room9 l 9).getD (n + j) 0 = 165 := by
      unfold room9
      rw [List.getD_eq_getElem?_getD, List.getElem?_append_right (by omega), List.getElem?_append_left (by simp; omega), List.getElem?_replicate, if_pos (by omega)]
      rfl
    have hd : (!decide ((room9 l 9).getD (n + j) 0 = 165)) = false := by rw [hat]; rfl
    refine wpK_loop (n := 400) (m := 0) (nx := 0) (hs := [(15, .eq (.val (.bool true))), (20, .as (.val (.pointer (some (adr (some A) (n + j)))))), (21, .as (.val (.int .u8 ((room9 l 9).getD (n + j) 0)))), (22, .eq (.val (.bool false))), (17, .eq (.val (.int .i64 ((n + (j + 1) : Nat) : Int))))]) (st' := loopAt Try.f23 0) (s' := sparedS A n ((n + (j + 1) : Nat) : Int)) follows [] [0, 2, 3, 4] [] (And.intro (congrArg Value.bool hlt) (And.intro (ext_index (c := n + 9) (k' := .i64) Try.underlying25 info1 h1 hin) (And.intro (ext_load Try.underlying5 rfl h1 hin) (And.intro (congrArg Value.bool hd) (congrArg (Value.int .i64) hw))))) (by kernel_rfl) ?_
    exact ih (j + 1) (by omega)
theorem spared_c (w : World) (A : Addr) (n : Nat) (l : List Int) (h1 : Kd.C (Kd.int .u8) w (some A) (n + 9) (room9 l 9)) (hn : n ≤ 140737488351232) (e1 : l.length = n) :
    Calls Try.prog 23 #[.slice (some A) n (n + 9)] w fun e w' => e = .returned (.bool true) ∧ Below w.heap.size w w' := by
  have hw : IntKind.i64.wrap ((n : Int) + 9) = ((n + 9 : Nat) : Int) := by rw [IntKind.wrap_i64]; omega
  refine calls_vm [.val (.slice (some A) n (n + 9))] (fn := Try.f23) Try.func23 (by kernel_rfl) (by kernel_rfl) (by kernel_rfl) (by simp [AV.okL, AV.ok]) ?_
  refine wpK_loop (n := 400) (m := 0) (nx := 0) (hs := [(8, .eq (.val (.int .i64 ((n + 9 : Nat) : Int)))), (9, .as (.val (.slice (some A) (n + 9) (n + 9))))]) (st' := loopAt Try.f23 0) (s' := sparedS A n ((n + 0 : Nat) : Int)) follows [] [0, 2, 3, 4] [] (And.intro (congrArg (Value.int .i64) hw) (ext_slice (w := w) (A := A) (n := n) (k := .i64) Try.underlying25 info1 (Nat.le_refl (n + 9)))) (by kernel_rfl) ?_
  exact spared_round w A n l h1 hn e1 9 0 (by omega)
end Go.Proofs.Ythgnmpjcbicdhaa

