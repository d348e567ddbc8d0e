/- A text as a digest. -/
import Derived.Test.YtkanjdllaikoaaaDoorJn
set_option linter.unusedSimpArgs false
set_option linter.unusedVariables false
namespace Go.Proofs.YtkanjdllaikoaaaDoor
open Go Go.RowKit

abbrev bytesVal (l : List Int) : Value := .agg (l.map (Value.int .u8) ++ []).toArray
/-- A text as a digest, and an error's number. -/
def hashP (s : ByteArray) : List Int × Int := match textV s with
  | none => (List.replicate 32 0, 80)
  | some v => if v.length = 64 then (prL v 32, 0) else (List.replicate 32 0, 80)
def pairR (w : World) (l : List Int) (e0 : Int) (e : Ending) (w' : World) : Prop := e = .returned (.tuple #[bytesVal l, .int .i64 e0]) ∧ Below w.heap.size w w'
abbrev apG (t : TypeId) (v : Value) : Sem Next := do pure (.value (← Instr.arrayAt t v))
theorem ap_own {t e : TypeId} {n k : Nat} {xs : List Int} {ρ : Env} {w : World} (hu : Tryd.prog.underlying t = some (.array n e)) (hn : 0 < n) (h : Sits ρ w k (ob n xs)) (hl : xs.length = n) : (apG t (AV.conc ρ (.own k 1 0 n))).run Tryd.prog w = .ok (.value (.pointer (some ⟨ρ.b k, 0, none⟩))) w := by
  obtain ⟨A, c, e1, hS, hc, hck⟩ := own_Sl h hl
  obtain ⟨c', hc'⟩ : ∃ c', ρ.c k = c' + 1 := ⟨ρ.c k - 1, by omega⟩
  have e2 : AV.conc ρ (.own k 1 0 n) = .slice (some ⟨ρ.b k, 0, none⟩) n (c' + 1) := by simp [AV.conc, hc']
  rw [e2]
  unfold apG
  simp [Instr.arrayAt, run_underlying hu]
theorem parN {ty : TypeId} {k : IntKind} {P : Program} {f : FuncId} {args : Array Value} {w : World} (c : ∀ w', Fr No w w' → Calls P f args w' (ParR ty k w' none)) : ∀ w', Fr No w w' → Calls P f args w' fun e w'' => e = .returned (.tuple #[.slice none 0 0, .bool false]) ∧ Below w'.heap.size w' w'' := c
set_option maxHeartbeats 2000000 in
theorem phash_c (w : World) (s : ByteArray) (hs : s.size ≤ 9000000000000) : Calls Tryd.prog 25 #[.string s] w (pairR w (hashP s).1 (hashP s).2) := by
  have vc : ∀ w', Fr No w w' → Calls Tryd.prog 38 #[.string s] w' (ParR 5 .u8 w' (textV s)) := fun w' _ => values_c w' s hs
  unfold hashP
  cases hv : textV s with
  | none =>
    rw [hv] at vc
    have vc := parN vc
    refine calls_vm [.val (.string s)] (fn := Tryd.f25) Tryd.func25 (by kernel_rfl) (by kernel_rfl) (by kernel_rfl) (by simp [AV.okL, AV.ok]) ?_
    refine wpK_end (n := 400) (m := 0) (nx := 0) (hs := [(2, .row [.ints .u8 32 (List.replicate 32 0)]), (8, .call (.val (.tuple #[.slice none 0 0, .bool false])))]) (v := .tup [.agg [.cell (.val (.int .u8 0)), .cell (.val (.int .u8 0)), .cell (.val (.int .u8 0)), .cell (.val (.int .u8 0)), .cell (.val (.int .u8 0)), .cell (.val (.int .u8 0)), .cell (.val (.int .u8 0)), .cell (.val (.int .u8 0)), .cell (.val (.int .u8 0)), .cell (.val (.int .u8 0)), .cell (.val (.int .u8 0)), .cell (.val (.int .u8 0)), .cell (.val (.int .u8 0)), .cell (.val (.int .u8 0)), .cell (.val (.int .u8 0)), .cell (.val (.int .u8 0)), .cell (.val (.int .u8 0)), .cell (.val (.int .u8 0)), .cell (.val (.int .u8 0)), .cell (.val (.int .u8 0)), .cell (.val (.int .u8 0)), .cell (.val (.int .u8 0)), .cell (.val (.int .u8 0)), .cell (.val (.int .u8 0)), .cell (.val (.int .u8 0)), .cell (.val (.int .u8 0)), .cell (.val (.int .u8 0)), .cell (.val (.int .u8 0)), .cell (.val (.int .u8 0)), .cell (.val (.int .u8 0)), .cell (.val (.int .u8 0)), .cell (.val (.int .u8 0))], .val (.int .i64 80)]) follows (And.intro (fun ρ => (rfl : Seg.cells ρ [.ints .u8 32 (List.replicate 32 0)] = (Value.agg (ints .u8 (List.replicate 32 0))).cells.toList)) (And.intro (show Seg.ok No [.ints .u8 32 (List.replicate 32 0)] from ⟨rfl, trivial⟩) vc)) (by kernel_rfl) ?_
    intro ρ w' hf; exact ⟨rfl, hf.to_below⟩
  | some v =>
    rw [hv] at vc
    obtain ⟨r, hr1, hr2⟩ := textV_some hv
    have hdg := digs_of hr2
    have hvl : v.length ≤ 9000000000000 := by
      have h1 := (valsL_some hr2).1
      have h2 := bytesI_len s
      rw [hr1] at h2
      simp at h2
      rw [h1, List.length_map]
      omega
    by_cases h64 : v.length = 64
    · simp only [h64, if_true]
      have hn : v.length = 64 := h64
      obtain ⟨ys, hys⟩ : ∃ ys, ys = prL v 32 := ⟨_, rfl⟩
      have hyl : ys.length = 32 := by rw [hys, prL_len]
      rw [← hys]
      have hjn : ∀ (ρ : Env) w', Fr No w w' → hasAll (ctx Tryd.prog w Tryd.f25.ntmps) ρ w' [(3, ob 64 v)] → Calls Tryd.prog 39 #[AV.conc ρ (.own 3 1 0 64)] w' fun e w'' => Below w'.heap.size w' w'' ∧ ∃ B C, e = .returned (AV.conc (ρ.up 17 B C) (.own 17 1 0 32)) ∧ Sits (ρ.up 17 B C) w'' 17 (ob 32 ys) ∧ (Vblk.alive (ρ.up 17 B C) 17 (ob 32 ys) → w'.heap.size ≤ B) := by
        intro ρ w' hf hh
        obtain ⟨A, c, e1, hS, _⟩ := own_Sl hh.1.1 hn
        obtain ⟨ad, rfl⟩ := hS.has (by omega)
        rw [e1]
        have hc := joinedE_c w' ad 64 c 32 v hS rfl hdg (by omega)
        rw [← hys] at hc
        exact callG (w := w') Tryd.f25.ntmps 17 32 (fun w1 hf1 => by
          have h1 := joinedE_c w1 ad 64 c 32 v (hS.frN hf1) rfl hdg (by omega)
          rw [← hys] at h1
          exact h1) hyl ρ w' (Fr.refl _ _) trivial
      refine calls_vm [.val (.string s)] (fn := Tryd.f25) Tryd.func25 (by kernel_rfl) (by kernel_rfl) (by kernel_rfl) (by simp [AV.okL, AV.ok]) ?_
      refine wpK_end (n := 400) (m := 0) (nx := 0) (hs := [(2, .row [.ints .u8 32 (List.replicate 32 0)]), (8, .callM [] (.tup [.own 3 1 0 64, .val (.bool true)]) (some (ob 64 v))), (20, .callM [3] (.own 17 1 0 32) (some (ob 32 ys))), (21, .asR [17] (.ptr 17 0))]) (v := .tup [.agg [.ints .u8 32 ys], .val (.int .i64 0)]) follows (And.intro (fun ρ => (rfl : Seg.cells ρ [.ints .u8 32 (List.replicate 32 0)] = (Value.agg (ints .u8 (List.replicate 32 0))).cells.toList)) (And.intro (show Seg.ok No [.ints .u8 32 (List.replicate 32 0)] from ⟨rfl, trivial⟩) (And.intro (callPar (w := w) Tryd.f25.ntmps 3 64 vc hn) (And.intro (show Seg.ok No (ob 64 v).row from ⟨hn, trivial⟩) (And.intro (show ∀ D : Nat → Prop, D 3 → (∀ k, k ∈ ([] : List Nat) → D k) → AV.ok D (.tup [.own 3 1 0 64, .val (.bool true)]) from fun _ h _ => ⟨h, trivial, trivial⟩) (And.intro (Nat.le_refl 64) (And.intro hjn (And.intro (show Seg.ok No (ob 32 ys).row from ⟨hyl, trivial⟩) (And.intro (show ∀ D : Nat → Prop, D 17 → (∀ k, k ∈ [3] → D k) → AV.ok D (.own 17 1 0 32) from fun _ h _ => h) (And.intro (show ∀ (ρ : Env) (w' : World), Fr No w w' → hasAll (ctx Tryd.prog w Tryd.f25.ntmps) ρ w' [(17, ob 32 ys)] → (apG 29 (AV.conc ρ (.own 17 1 0 32))).run Tryd.prog w' = .ok (.value (.pointer (some ⟨ρ.b 17, 0, none⟩))) w' from fun ρ w' _ hh => ap_own Tryd.underlying29 (by omega) hh.1.1 hyl) (show ∀ D : Nat → Prop, (∀ k, k ∈ [17] → D k) → AV.ok D (.ptr 17 0) from fun D h => h 17 (by simp)))))))))))) (by kernel_rfl) ?_
      intro ρ w' hf; exact ⟨rfl, hf.to_below⟩
    · simp only [h64, if_false]
      obtain ⟨n, hN⟩ : ∃ n, v.length = n := ⟨_, rfl⟩
      have hn := hN
      have hd : (!decide ((n : Int) = 64)) = true := by simp; omega
      refine calls_vm [.val (.string s)] (fn := Tryd.f25) Tryd.func25 (by kernel_rfl) (by kernel_rfl) (by kernel_rfl) (by simp [AV.okL, AV.ok]) ?_
      refine wpK_end (n := 400) (m := 0) (nx := 0) (hs := [(2, .row [.ints .u8 32 (List.replicate 32 0)]), (8, .callM [] (.tup [.own 3 1 0 n, .val (.bool true)]) (some (ob n v))), (16, .eq (.val (.bool true)))]) (v := .tup [.agg [.cell (.val (.int .u8 0)), .cell (.val (.int .u8 0)), .cell (.val (.int .u8 0)), .cell (.val (.int .u8 0)), .cell (.val (.int .u8 0)), .cell (.val (.int .u8 0)), .cell (.val (.int .u8 0)), .cell (.val (.int .u8 0)), .cell (.val (.int .u8 0)), .cell (.val (.int .u8 0)), .cell (.val (.int .u8 0)), .cell (.val (.int .u8 0)), .cell (.val (.int .u8 0)), .cell (.val (.int .u8 0)), .cell (.val (.int .u8 0)), .cell (.val (.int .u8 0)), .cell (.val (.int .u8 0)), .cell (.val (.int .u8 0)), .cell (.val (.int .u8 0)), .cell (.val (.int .u8 0)), .cell (.val (.int .u8 0)), .cell (.val (.int .u8 0)), .cell (.val (.int .u8 0)), .cell (.val (.int .u8 0)), .cell (.val (.int .u8 0)), .cell (.val (.int .u8 0)), .cell (.val (.int .u8 0)), .cell (.val (.int .u8 0)), .cell (.val (.int .u8 0)), .cell (.val (.int .u8 0)), .cell (.val (.int .u8 0)), .cell (.val (.int .u8 0))], .val (.int .i64 80)]) follows (And.intro (fun ρ => (rfl : Seg.cells ρ [.ints .u8 32 (List.replicate 32 0)] = (Value.agg (ints .u8 (List.replicate 32 0))).cells.toList)) (And.intro (show Seg.ok No [.ints .u8 32 (List.replicate 32 0)] from ⟨rfl, trivial⟩) (And.intro (callPar (w := w) Tryd.f25.ntmps 3 n vc hn) (And.intro (show Seg.ok No (ob n v).row from ⟨hn, trivial⟩) (And.intro (show ∀ D : Nat → Prop, D 3 → (∀ k, k ∈ ([] : List Nat) → D k) → AV.ok D (.tup [.own 3 1 0 n, .val (.bool true)]) from fun _ h _ => ⟨h, trivial, trivial⟩) (And.intro (Nat.le_refl n) (congrArg Value.bool hd))))))) (by kernel_rfl) ?_
      intro ρ w' hf; exact ⟨rfl, hf.to_below⟩
set_option maxHeartbeats 2000000 in
theorem rphash_c (w : World) (s : ByteArray) (hs : s.size ≤ 9000000000000) : Calls Tryd.prog 26 #[.string s] w (pairR w (hashP s).1 (hashP s).2) := by
  have vc : ∀ w', Fr No w w' → Calls Tryd.prog 42 #[.string s] w' (ParR 3 .i64 w' (textV s)) := fun w' _ => tail_c w' s hs
  unfold hashP
  cases hv : textV s with
  | none =>
    rw [hv] at vc
    have vc := parN vc
    refine calls_vm [.val (.string s)] (fn := Tryd.f26) Tryd.func26 (by kernel_rfl) (by kernel_rfl) (by kernel_rfl) (by simp [AV.okL, AV.ok]) ?_
    refine wpK_end (n := 400) (m := 0) (nx := 0) (hs := [(2, .row [.ints .u8 32 (List.replicate 32 0)]), (4, .row [.ints .u8 32 (List.replicate 32 0)]), (10, .call (.val (.tuple #[.slice none 0 0, .bool false])))]) (v := .tup [.agg [.ints .u8 32 (List.replicate 32 0)], .val (.int .i64 80)]) follows (And.intro (fun ρ => (rfl : Seg.cells ρ [.ints .u8 32 (List.replicate 32 0)] = (Value.agg (ints .u8 (List.replicate 32 0))).cells.toList)) (And.intro (show Seg.ok No [.ints .u8 32 (List.replicate 32 0)] from ⟨rfl, trivial⟩) (And.intro (fun ρ => (rfl : Seg.cells ρ [.ints .u8 32 (List.replicate 32 0)] = (Value.agg (ints .u8 (List.replicate 32 0))).cells.toList)) (And.intro (show Seg.ok No [.ints .u8 32 (List.replicate 32 0)] from ⟨rfl, trivial⟩) vc)))) (by kernel_rfl) ?_
    intro ρ w' hf; exact ⟨rfl, hf.to_below⟩
  | some v =>
    rw [hv] at vc
    obtain ⟨r, hr1, hr2⟩ := textV_some hv
    have hdg := digs_of hr2
    have hvl : v.length ≤ 9000000000000 := by
      have h1 := (valsL_some hr2).1
      have h2 := bytesI_len s
      rw [hr1] at h2
      simp at h2
      rw [h1, List.length_map]
      omega
    by_cases h64 : v.length = 64
    · simp only [h64, if_true]
      have hn : v.length = 64 := h64
      obtain ⟨ys, hys⟩ : ∃ ys, ys = prL v 32 := ⟨_, rfl⟩
      have hyl : ys.length = 32 := by rw [hys, prL_len]
      rw [← hys]
      have hcp : ∀ ρ, (Seg.cells ρ [.ints .u8 32 ((ys.drop 0).take 32)]).take ys.length = ys.map (Value.int .u8) := by
        intro ρ
        simp only [Seg.cells, Seg.cell1, List.append_nil, List.drop_zero]
        rw [List.take_of_length_le (by rw [List.length_map, List.length_take]; omega), List.take_of_length_le (by omega)]
      have hxs : ys = (List.replicate 32 (0 : Int)).take 0 ++ (ys ++ (List.replicate 32 (0 : Int)).drop (0 + 32)) := by simp
      have hjn : ∀ (ρ : Env) w', Fr No w w' → hasAll (ctx Tryd.prog w Tryd.f26.ntmps) ρ w' [(4, oi 64 v)] → Calls Tryd.prog 43 #[AV.conc ρ (.own 4 1 0 64)] w' fun e w'' => Below w'.heap.size w' w'' ∧ ∃ B C, e = .returned (AV.conc (ρ.up 18 B C) (.own 18 1 0 32)) ∧ Sits (ρ.up 18 B C) w'' 18 (ob 32 ys) ∧ (Vblk.alive (ρ.up 18 B C) 18 (ob 32 ys) → w'.heap.size ≤ B) := by
        intro ρ w' hf hh
        obtain ⟨A, c, e1, hS, _⟩ := own_Sl hh.1.1 hn
        obtain ⟨ad, rfl⟩ := hS.has (by omega)
        rw [e1]
        have hc := packedE_c w' ad 64 c 32 v hS rfl hdg (by omega)
        rw [← hys] at hc
        exact callG (w := w') Tryd.f26.ntmps 18 32 (fun w1 hf1 => by
          have h1 := packedE_c w1 ad 64 c 32 v (hS.frN hf1) rfl hdg (by omega)
          rw [← hys] at h1
          exact h1) hyl ρ w' (Fr.refl _ _) trivial
      refine calls_vm [.val (.string s)] (fn := Tryd.f26) Tryd.func26 (by kernel_rfl) (by kernel_rfl) (by kernel_rfl) (by simp [AV.okL, AV.ok]) ?_
      refine wpK_end (n := 400) (m := 0) (nx := 0) (hs := [(2, .row [.ints .u8 32 (List.replicate 32 0)]), (4, .row [.ints .u8 32 (List.replicate 32 0)]), (10, .callM [] (.tup [.own 4 1 0 64, .val (.bool true)]) (some (oi 64 v))), (22, .callM [4] (.own 18 1 0 32) (some (ob 32 ys))), (23, .sub 0 32), (25, .copy ys ys 32)]) (v := .tup [.agg [.ints .u8 32 ys], .val (.int .i64 0)]) follows (And.intro (fun ρ => (rfl : Seg.cells ρ [.ints .u8 32 (List.replicate 32 0)] = (Value.agg (ints .u8 (List.replicate 32 0))).cells.toList)) (And.intro (show Seg.ok No [.ints .u8 32 (List.replicate 32 0)] from ⟨rfl, trivial⟩) (And.intro (fun ρ => (rfl : Seg.cells ρ [.ints .u8 32 (List.replicate 32 0)] = (Value.agg (ints .u8 (List.replicate 32 0))).cells.toList)) (And.intro (show Seg.ok No [.ints .u8 32 (List.replicate 32 0)] from ⟨rfl, trivial⟩) (And.intro (callPar (w := w) Tryd.f26.ntmps 4 64 vc hn) (And.intro (show Seg.ok No (oi 64 v).row from ⟨hn, trivial⟩) (And.intro (show ∀ D : Nat → Prop, D 4 → (∀ k, k ∈ ([] : List Nat) → D k) → AV.ok D (.tup [.own 4 1 0 64, .val (.bool true)]) from fun _ h _ => ⟨h, trivial, trivial⟩) (And.intro (Nat.le_refl 64) (And.intro hjn (And.intro (show Seg.ok No (ob 32 ys).row from ⟨hyl, trivial⟩) (And.intro (show ∀ D : Nat → Prop, D 18 → (∀ k, k ∈ [4] → D k) → AV.ok D (.own 18 1 0 32) from fun _ h _ => h) (And.intro (rfl : (0 : Nat) = 0) (And.intro (rfl : (32 : Nat) = 32) (And.intro (Nat.zero_le 32) (And.intro (Nat.le_refl 32) (And.intro (Nat.succ_pos 31) (And.intro (rfl : 32 = Nat.min 32 32) (And.intro hyl (And.intro (show 0 + 32 ≤ 32 by omega) (And.intro hxs (And.intro hcp (show 0 + 32 ≤ 32 by omega)))))))))))))))))))))) (by kernel_rfl) ?_
      intro ρ w' hf; exact ⟨rfl, hf.to_below⟩
    · simp only [h64, if_false]
      obtain ⟨n, hN⟩ : ∃ n, v.length = n := ⟨_, rfl⟩
      have hn := hN
      have hd : (!decide ((n : Int) = 64)) = true := by simp; omega
      refine calls_vm [.val (.string s)] (fn := Tryd.f26) Tryd.func26 (by kernel_rfl) (by kernel_rfl) (by kernel_rfl) (by simp [AV.okL, AV.ok]) ?_
      refine wpK_end (n := 400) (m := 0) (nx := 0) (hs := [(2, .row [.ints .u8 32 (List.replicate 32 0)]), (4, .row [.ints .u8 32 (List.replicate 32 0)]), (10, .callM [] (.tup [.own 4 1 0 n, .val (.bool true)]) (some (oi n v))), (18, .eq (.val (.bool true)))]) (v := .tup [.agg [.ints .u8 32 (List.replicate 32 0)], .val (.int .i64 80)]) follows (And.intro (fun ρ => (rfl : Seg.cells ρ [.ints .u8 32 (List.replicate 32 0)] = (Value.agg (ints .u8 (List.replicate 32 0))).cells.toList)) (And.intro (show Seg.ok No [.ints .u8 32 (List.replicate 32 0)] from ⟨rfl, trivial⟩) (And.intro (fun ρ => (rfl : Seg.cells ρ [.ints .u8 32 (List.replicate 32 0)] = (Value.agg (ints .u8 (List.replicate 32 0))).cells.toList)) (And.intro (show Seg.ok No [.ints .u8 32 (List.replicate 32 0)] from ⟨rfl, trivial⟩) (And.intro (callPar (w := w) Tryd.f26.ntmps 4 n vc hn) (And.intro (show Seg.ok No (oi n v).row from ⟨hn, trivial⟩) (And.intro (show ∀ D : Nat → Prop, D 4 → (∀ k, k ∈ ([] : List Nat) → D k) → AV.ok D (.tup [.own 4 1 0 n, .val (.bool true)]) from fun _ h _ => ⟨h, trivial, trivial⟩) (And.intro (Nat.le_refl n) (congrArg Value.bool hd))))))))) (by kernel_rfl) ?_
      intro ρ w' hf; exact ⟨rfl, hf.to_below⟩
end Go.Proofs.YtkanjdllaikoaaaDoor

