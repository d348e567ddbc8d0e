/- Quantities and data read: the program. -/
import Derived.Test.YtkanjdllaikoaaaDoorJo
import Derived.Test.YtkanjdllaikoaaaDoorPHs
set_option linter.unusedSimpArgs false
set_option linter.unusedVariables false
namespace Go.Proofs.YtkanjdllaikoaaaDoor
open Go Go.RowKit

theorem U_null0 : U 0 = .agg #[.int .u64 0, .int .u64 0, .int .u64 0, .int .u64 0] := by simp [U, L]
theorem prL_cons2 (a b : Int) (r : List Int) (m : Nat) : prL (a :: b :: r) (m + 1) = (16 * a + b) :: prL r m := by
  unfold prL
  rw [List.range_succ_eq_map, List.map_cons, List.map_map]
  congr 1
theorem val84 : ∀ (m : Nat) (l : List Int) (acc : Nat), l.length = 2 * m → Digs l → (prL l m).foldl (fun v x => v * 2 ^ 8 + x.toNat) acc = l.foldl (fun v x => v * 2 ^ 4 + x.toNat) acc
  | 0, l, acc, hl, _ => by
    have : l = [] := List.eq_nil_of_length_eq_zero (by omega)
    subst this
    rfl
  | m + 1, [], acc, hl, _ => by simp at hl
  | m + 1, [a], acc, hl, _ => by simp at hl; omega
  | m + 1, a :: b :: r, acc, hl, hd => by
    have ha := hd 0 (by simp)
    have hb := hd 1 (by simp)
    simp only [List.getD_cons_zero, List.getD_cons_succ] at ha hb
    have hr : Digs r := digs_drop hd 2
    rw [prL_cons2, List.foldl_cons, List.foldl_cons, List.foldl_cons, val84 m r _ (by simp at hl; omega) hr]
    congr 1
    rw [show (2 : Nat) ^ 8 = 256 from rfl, show (2 : Nat) ^ 4 = 16 from rfl]
    omega
theorem valJ (l : List Int) (hd : Digs l) : valB 8 (jnL l) = valB 4 l := by
  unfold jnL valB
  by_cases ho : l.length % 2 = 1
  · rw [if_pos ho]
    obtain ⟨a, r, rfl⟩ : ∃ a r, l = a :: r := by
      cases l with
      | nil => simp at ho
      | cons a r => exact ⟨a, r, rfl⟩
    rw [List.foldl_cons, List.foldl_cons, List.getD_cons_zero, List.drop_one, List.tail_cons]
    have := val84 ((a :: r).length / 2) r (0 * 2 ^ 8 + a.toNat) (by simp at ho ⊢; omega) (digs_drop hd 1)
    rw [this]
  · rw [if_neg ho]
    exact val84 _ l 0 (by omega) hd
/-- A text as a number of at most so many digits, and an error's number. -/
def qP (s : ByteArray) (most : Nat) : Nat × Int := match textV s with
  | none => (0, 80)
  | some v => if v.length = 0 then (0, 80) else if 1 < v.length ∧ v.getD 0 0 = 0 then (0, 82) else if most < v.length then (0, 83) else (valB 4 v, 0)
set_option maxHeartbeats 4000000 in
theorem quantity_c (w : World) (s : ByteArray) (hs : s.size ≤ 9000000000000) (most : Nat) (hm : most ≤ 64) : Calls Tryd.prog 44 #[.string s, .int .i64 (most : Int)] w (getR w (qP s most).1 (qP s most).2) := by
  have vc : ∀ w', Fr No w w' → Calls Tryd.prog 38 #[.string s] w' (ParR 5 .u8 w' (textV s)) := fun w' _ => values_c w' s hs
  unfold qP getR
  cases hv : textV s with
  | none =>
    rw [hv] at vc
    have vc := parN vc
    simp only
    rw [U_null0]
    refine calls_vm [.val (.string s), .val (.int .i64 (most : Int))] (fn := Tryd.f44) Tryd.func44 (by kernel_rfl) (by kernel_rfl) (by kernel_rfl) (by simp [AV.okL, AV.ok]) ?_
    refine wpK_end (n := 400) (m := 0) (nx := 0) (hs := [(4, .row [.ints .u64 4 (limbs 0)]), (10, .call (.val (.tuple #[.slice none 0 0, .bool false])))]) (v := .tup [.agg [.cell (.val (.int .u64 0)), .cell (.val (.int .u64 0)), .cell (.val (.int .u64 0)), .cell (.val (.int .u64 0))], .val (.int .i64 80)]) follows (And.intro (fun ρ => (rfl : Seg.cells ρ [.ints .u64 4 (limbs 0)] = (Value.agg #[.int .u64 (L 0 0), .int .u64 (L 0 1), .int .u64 (L 0 2), .int .u64 (L 0 3)]).cells.toList)) (And.intro (show Seg.ok No [.ints .u64 4 (limbs 0)] from ⟨rfl, trivial⟩) vc)) (by kernel_rfl) ?_
    intro ρ w' hf; exact ⟨rfl, hf.to_below⟩
  | some v =>
    rw [hv] at vc
    obtain ⟨r, hr1, hr2⟩ := textV_some hv
    have hdg := digs_of hr2
    obtain ⟨n, hN⟩ : ∃ n, v.length = n := ⟨_, rfl⟩
    have hn := hN
    have hle : n ≤ n := Nat.le_refl n
    have hnl : n ≤ 9000000000000 := by
      have h1 := (valsL_some hr2).1
      have h2 := bytesI_len s
      rw [hr1] at h2
      simp at h2
      rw [← hn, h1, List.length_map]
      omega
    simp only [hn]
    by_cases h0 : n = 0
    · rw [if_pos h0]; dsimp only; rw [U_null0]
      have g0 : decide ((n : Int) = 0) = true := by simp; omega
      refine calls_vm [.val (.string s), .val (.int .i64 (most : Int))] (fn := Tryd.f44) Tryd.func44 (by kernel_rfl) (by kernel_rfl) (by kernel_rfl) (by simp [AV.okL, AV.ok]) ?_
      refine wpK_end (n := 400) (m := 0) (nx := 0) (hs := [(4, .row [.ints .u64 4 (limbs 0)]), (10, .callM [] (.tup [.own 3 1 0 n, .val (.bool true)]) (some (ob n v))), (19, .eq (.val (.bool true)))]) (v := .tup [.agg [.cell (.val (.int .u64 0)), .cell (.val (.int .u64 0)), .cell (.val (.int .u64 0)), .cell (.val (.int .u64 0))], .val (.int .i64 80)]) follows (And.intro (fun ρ => (rfl : Seg.cells ρ [.ints .u64 4 (limbs 0)] = (Value.agg #[.int .u64 (L 0 0), .int .u64 (L 0 1), .int .u64 (L 0 2), .int .u64 (L 0 3)]).cells.toList)) (And.intro (show Seg.ok No [.ints .u64 4 (limbs 0)] from ⟨rfl, trivial⟩) (And.intro (callPar (w := w) Tryd.f44.ntmps 3 n vc hn) (And.intro (show Seg.ok No (ob n v).row from ⟨hn, trivial⟩) (And.intro (show ∀ D : Nat → Prop, D 3 → (∀ k, k ∈ ([] : List Nat) → D k) → AV.ok D (.tup [.own 3 1 0 n, .val (.bool true)]) from fun _ h _ => ⟨h, trivial, trivial⟩) (And.intro hle (congrArg Value.bool g0))))))) (by kernel_rfl) ?_
      intro ρ w' hf; exact ⟨rfl, hf.to_below⟩
    · rw [if_neg h0]
      have g0 : decide ((n : Int) = 0) = false := by simp; omega
      have h0n : 0 < n := by omega
      by_cases h82 : 1 < n ∧ v.getD 0 0 = 0
      · rw [if_pos h82]; dsimp only; rw [U_null0]
        have g1 : decide ((n : Int) > 1) = true := by simp; omega
        have gz : decide (v.getD 0 0 = 0) = true := by simp only [decide_eq_true_eq]; exact h82.2
        refine calls_vm [.val (.string s), .val (.int .i64 (most : Int))] (fn := Tryd.f44) Tryd.func44 (by kernel_rfl) (by kernel_rfl) (by kernel_rfl) (by simp [AV.okL, AV.ok]) ?_
        refine wpK_end (n := 400) (m := 0) (nx := 0) (hs := [(4, .row [.ints .u64 4 (limbs 0)]), (10, .callM [] (.tup [.own 3 1 0 n, .val (.bool true)]) (some (ob n v))), (19, .eq (.val (.bool false))), (25, .eq (.val (.bool true))), (28, .ix (0)), (30, .eq (.val (.bool true)))]) (v := .tup [.agg [.cell (.val (.int .u64 0)), .cell (.val (.int .u64 0)), .cell (.val (.int .u64 0)), .cell (.val (.int .u64 0))], .val (.int .i64 82)]) follows (And.intro (fun ρ => (rfl : Seg.cells ρ [.ints .u64 4 (limbs 0)] = (Value.agg #[.int .u64 (L 0 0), .int .u64 (L 0 1), .int .u64 (L 0 2), .int .u64 (L 0 3)]).cells.toList)) (And.intro (show Seg.ok No [.ints .u64 4 (limbs 0)] from ⟨rfl, trivial⟩) (And.intro (callPar (w := w) Tryd.f44.ntmps 3 n vc hn) (And.intro (show Seg.ok No (ob n v).row from ⟨hn, trivial⟩) (And.intro (show ∀ D : Nat → Prop, D 3 → (∀ k, k ∈ ([] : List Nat) → D k) → AV.ok D (.tup [.own 3 1 0 n, .val (.bool true)]) from fun _ h _ => ⟨h, trivial, trivial⟩) (And.intro hle (And.intro (congrArg Value.bool g0) (And.intro hle (And.intro (congrArg Value.bool g1) (And.intro (rfl : ((0 : Nat) : Int) = ((0 : Nat) : Int)) (And.intro h0n (And.intro h0n (And.intro h0n (congrArg Value.bool gz)))))))))))))) (by kernel_rfl) ?_
        intro ρ w' hf; exact ⟨rfl, hf.to_below⟩
      · rw [if_neg h82]
        have hgo : n > 1 → decide (v.getD 0 0 = 0) = false := fun h => by simp only [decide_eq_false_iff_not]; exact fun e => h82 ⟨h, e⟩
        by_cases h83 : most < n
        · rw [if_pos h83]; dsimp only; rw [U_null0]
          have gm : decide ((n : Int) > (most : Int)) = true := by simp; omega
          by_cases h1 : n > 1
          · have g1 : decide ((n : Int) > 1) = true := by simp; omega
            have gz := hgo h1
            refine calls_vm [.val (.string s), .val (.int .i64 (most : Int))] (fn := Tryd.f44) Tryd.func44 (by kernel_rfl) (by kernel_rfl) (by kernel_rfl) (by simp [AV.okL, AV.ok]) ?_
            refine wpK_end (n := 400) (m := 0) (nx := 0) (hs := [(4, .row [.ints .u64 4 (limbs 0)]), (10, .callM [] (.tup [.own 3 1 0 n, .val (.bool true)]) (some (ob n v))), (19, .eq (.val (.bool false))), (25, .eq (.val (.bool true))), (28, .ix (0)), (30, .eq (.val (.bool false))), (37, .eq (.val (.bool true)))]) (v := .tup [.agg [.cell (.val (.int .u64 0)), .cell (.val (.int .u64 0)), .cell (.val (.int .u64 0)), .cell (.val (.int .u64 0))], .val (.int .i64 83)]) follows (And.intro (fun ρ => (rfl : Seg.cells ρ [.ints .u64 4 (limbs 0)] = (Value.agg #[.int .u64 (L 0 0), .int .u64 (L 0 1), .int .u64 (L 0 2), .int .u64 (L 0 3)]).cells.toList)) (And.intro (show Seg.ok No [.ints .u64 4 (limbs 0)] from ⟨rfl, trivial⟩) (And.intro (callPar (w := w) Tryd.f44.ntmps 3 n vc hn) (And.intro (show Seg.ok No (ob n v).row from ⟨hn, trivial⟩) (And.intro (show ∀ D : Nat → Prop, D 3 → (∀ k, k ∈ ([] : List Nat) → D k) → AV.ok D (.tup [.own 3 1 0 n, .val (.bool true)]) from fun _ h _ => ⟨h, trivial, trivial⟩) (And.intro hle (And.intro (congrArg Value.bool g0) (And.intro hle (And.intro (congrArg Value.bool g1) (And.intro (rfl : ((0 : Nat) : Int) = ((0 : Nat) : Int)) (And.intro h0n (And.intro h0n (And.intro h0n (And.intro (congrArg Value.bool gz) (And.intro hle (congrArg Value.bool gm)))))))))))))))) (by kernel_rfl) ?_
            intro ρ w' hf; exact ⟨rfl, hf.to_below⟩
          · have g1 : decide ((n : Int) > 1) = false := by simp; omega
            refine calls_vm [.val (.string s), .val (.int .i64 (most : Int))] (fn := Tryd.f44) Tryd.func44 (by kernel_rfl) (by kernel_rfl) (by kernel_rfl) (by simp [AV.okL, AV.ok]) ?_
            refine wpK_end (n := 400) (m := 0) (nx := 0) (hs := [(4, .row [.ints .u64 4 (limbs 0)]), (10, .callM [] (.tup [.own 3 1 0 n, .val (.bool true)]) (some (ob n v))), (19, .eq (.val (.bool false))), (25, .eq (.val (.bool false))), (37, .eq (.val (.bool true)))]) (v := .tup [.agg [.cell (.val (.int .u64 0)), .cell (.val (.int .u64 0)), .cell (.val (.int .u64 0)), .cell (.val (.int .u64 0))], .val (.int .i64 83)]) follows (And.intro (fun ρ => (rfl : Seg.cells ρ [.ints .u64 4 (limbs 0)] = (Value.agg #[.int .u64 (L 0 0), .int .u64 (L 0 1), .int .u64 (L 0 2), .int .u64 (L 0 3)]).cells.toList)) (And.intro (show Seg.ok No [.ints .u64 4 (limbs 0)] from ⟨rfl, trivial⟩) (And.intro (callPar (w := w) Tryd.f44.ntmps 3 n vc hn) (And.intro (show Seg.ok No (ob n v).row from ⟨hn, trivial⟩) (And.intro (show ∀ D : Nat → Prop, D 3 → (∀ k, k ∈ ([] : List Nat) → D k) → AV.ok D (.tup [.own 3 1 0 n, .val (.bool true)]) from fun _ h _ => ⟨h, trivial, trivial⟩) (And.intro hle (And.intro (congrArg Value.bool g0) (And.intro hle (And.intro (congrArg Value.bool g1) (And.intro hle (congrArg Value.bool gm))))))))))) (by kernel_rfl) ?_
            intro ρ w' hf; exact ⟨rfl, hf.to_below⟩
        · rw [if_neg h83]
          have gm : decide ((n : Int) > (most : Int)) = false := by simp; omega
          obtain ⟨ys, hys⟩ : ∃ ys, ys = jnL v := ⟨_, rfl⟩
          obtain ⟨m, hmd⟩ : ∃ m, m = (n + 1) / 2 := ⟨_, rfl⟩
          have hyl : ys.length = m := by rw [hys, jnL_len, hn, hmd]
          have hyb : ByteL ys := hys ▸ jnL_byte v hdg
          have hval : valB 8 ys = valB 4 v := by rw [hys]; exact valJ v hdg
          dsimp only
          rw [← hval]
          obtain ⟨X, hX⟩ : ∃ X, X = valB 8 ys := ⟨_, rfl⟩
          have hjn : ∀ (ρ : Env) w', Fr No w w' → hasAll (ctx Tryd.prog w Tryd.f44.ntmps) ρ w' [(3, ob n v)] → Calls Tryd.prog 39 #[AV.conc ρ (.own 3 1 0 n)] w' fun e w'' => Below w'.heap.size w' w'' ∧ ∃ B C, e = .returned (AV.conc (ρ.up 33 B C) (.own 33 1 0 m)) ∧ Sits (ρ.up 33 B C) w'' 33 (ob m ys) ∧ (Vblk.alive (ρ.up 33 B C) 33 (ob m ys) → w'.heap.size ≤ B) := by
            intro ρ w' hf hh
            obtain ⟨A, c, e1, hS, hc, _⟩ := own_Sl hh.1.1 hn
            obtain ⟨ad, rfl⟩ := hS.has h0n
            rw [e1]
            exact callG (w := w') Tryd.f44.ntmps 33 m (fun w2 hf2 => hys ▸ joined_c w2 ad n c v (hS.frN hf2) hc hdg hnl) hyl ρ w' (Fr.refl _ _) trivial
          have hget : ∀ (ρ : Env) w', Fr No w w' → hasAll (ctx Tryd.prog w Tryd.f44.ntmps) ρ w' [(33, ob m ys)] → Calls Tryd.prog 61 #[AV.conc ρ (.own 33 1 0 m)] w' fun e w'' => e = .returned (AV.conc ρ (.tup [.agg [.ints .u64 4 (limbs X)], .val (.int .i64 0)])) ∧ Below w'.heap.size w' w'' := by
            intro ρ w' hf hh
            obtain ⟨A, c, e1, hS, hc, _⟩ := own_Sl hh.1.1 hyl
            rw [e1]
            have := get_c w' A m c ys hS hyb (by omega)
            rw [← hX] at this
            exact this
          rw [← hX]
          by_cases h1 : n > 1
          · have g1 : decide ((n : Int) > 1) = true := by simp; omega
            have gz := hgo h1
            refine calls_vm [.val (.string s), .val (.int .i64 (most : Int))] (fn := Tryd.f44) Tryd.func44 (by kernel_rfl) (by kernel_rfl) (by kernel_rfl) (by simp [AV.okL, AV.ok]) ?_
            refine wpK_end (n := 400) (m := 0) (nx := 0) (hs := [(4, .row [.ints .u64 4 (limbs 0)]), (10, .callM [] (.tup [.own 3 1 0 n, .val (.bool true)]) (some (ob n v))), (19, .eq (.val (.bool false))), (25, .eq (.val (.bool true))), (28, .ix (0)), (30, .eq (.val (.bool false))), (37, .eq (.val (.bool false))), (40, .callM [3] (.own 33 1 0 m) (some (ob m ys))), (41, .callM [33] (.tup [.agg [.ints .u64 4 (limbs X)], .val (.int .i64 0)]) none)]) (v := .tup [.agg [.ints .u64 4 (limbs X)], .val (.int .i64 0)]) follows (And.intro (fun ρ => (rfl : Seg.cells ρ [.ints .u64 4 (limbs 0)] = (Value.agg #[.int .u64 (L 0 0), .int .u64 (L 0 1), .int .u64 (L 0 2), .int .u64 (L 0 3)]).cells.toList)) (And.intro (show Seg.ok No [.ints .u64 4 (limbs 0)] from ⟨rfl, trivial⟩) (And.intro (callPar (w := w) Tryd.f44.ntmps 3 n vc hn) (And.intro (show Seg.ok No (ob n v).row from ⟨hn, trivial⟩) (And.intro (show ∀ D : Nat → Prop, D 3 → (∀ k, k ∈ ([] : List Nat) → D k) → AV.ok D (.tup [.own 3 1 0 n, .val (.bool true)]) from fun _ h _ => ⟨h, trivial, trivial⟩) (And.intro hle (And.intro (congrArg Value.bool g0) (And.intro hle (And.intro (congrArg Value.bool g1) (And.intro (rfl : ((0 : Nat) : Int) = ((0 : Nat) : Int)) (And.intro h0n (And.intro h0n (And.intro h0n (And.intro (congrArg Value.bool gz) (And.intro hle (And.intro (congrArg Value.bool gm) (And.intro hjn (And.intro (show Seg.ok No (ob m ys).row from ⟨hyl, trivial⟩) (And.intro (show ∀ D : Nat → Prop, D 33 → (∀ k, k ∈ [3] → D k) → AV.ok D (.own 33 1 0 m) from fun _ h _ => h) (And.intro hget (show ∀ D : Nat → Prop, (∀ k, k ∈ [33] → D k) → AV.ok D (.tup [.agg [.ints .u64 4 (limbs X)], .val (.int .i64 0)]) from fun _ _ => ⟨⟨rfl, trivial⟩, trivial, trivial⟩))))))))))))))))))))) (by kernel_rfl) ?_
            intro ρ w' hf; exact ⟨rfl, hf.to_below⟩
          · have g1 : decide ((n : Int) > 1) = false := by simp; omega
            refine calls_vm [.val (.string s), .val (.int .i64 (most : Int))] (fn := Tryd.f44) Tryd.func44 (by kernel_rfl) (by kernel_rfl) (by kernel_rfl) (by simp [AV.okL, AV.ok]) ?_
            refine wpK_end (n := 400) (m := 0) (nx := 0) (hs := [(4, .row [.ints .u64 4 (limbs 0)]), (10, .callM [] (.tup [.own 3 1 0 n, .val (.bool true)]) (some (ob n v))), (19, .eq (.val (.bool false))), (25, .eq (.val (.bool false))), (37, .eq (.val (.bool false))), (40, .callM [3] (.own 33 1 0 m) (some (ob m ys))), (41, .callM [33] (.tup [.agg [.ints .u64 4 (limbs X)], .val (.int .i64 0)]) none)]) (v := .tup [.agg [.ints .u64 4 (limbs X)], .val (.int .i64 0)]) follows (And.intro (fun ρ => (rfl : Seg.cells ρ [.ints .u64 4 (limbs 0)] = (Value.agg #[.int .u64 (L 0 0), .int .u64 (L 0 1), .int .u64 (L 0 2), .int .u64 (L 0 3)]).cells.toList)) (And.intro (show Seg.ok No [.ints .u64 4 (limbs 0)] from ⟨rfl, trivial⟩) (And.intro (callPar (w := w) Tryd.f44.ntmps 3 n vc hn) (And.intro (show Seg.ok No (ob n v).row from ⟨hn, trivial⟩) (And.intro (show ∀ D : Nat → Prop, D 3 → (∀ k, k ∈ ([] : List Nat) → D k) → AV.ok D (.tup [.own 3 1 0 n, .val (.bool true)]) from fun _ h _ => ⟨h, trivial, trivial⟩) (And.intro hle (And.intro (congrArg Value.bool g0) (And.intro hle (And.intro (congrArg Value.bool g1) (And.intro hle (And.intro (congrArg Value.bool gm) (And.intro hjn (And.intro (show Seg.ok No (ob m ys).row from ⟨hyl, trivial⟩) (And.intro (show ∀ D : Nat → Prop, D 33 → (∀ k, k ∈ [3] → D k) → AV.ok D (.own 33 1 0 m) from fun _ h _ => h) (And.intro hget (show ∀ D : Nat → Prop, (∀ k, k ∈ [33] → D k) → AV.ok D (.tup [.agg [.ints .u64 4 (limbs X)], .val (.int .i64 0)]) from fun _ _ => ⟨⟨rfl, trivial⟩, trivial, trivial⟩)))))))))))))))) (by kernel_rfl) ?_
            intro ρ w' hf; exact ⟨rfl, hf.to_below⟩
theorem pq_c (w : World) (s : ByteArray) (hs : s.size ≤ 9000000000000) : Calls Tryd.prog 28 #[.string s] w (getR w (qP s 64).1 (qP s 64).2) := by
  have qc : ∀ w', Fr No w w' → Calls Tryd.prog 44 #[.string s, .int .i64 (64 : Nat)] w' (getR w' (qP s 64).1 (qP s 64).2) := fun w' _ => quantity_c w' s hs 64 (by omega)
  generalize (qP s 64).1 = X at *
  generalize (qP s 64).2 = e at *
  refine calls_vm [.val (.string s)] (fn := Tryd.f28) Tryd.func28 (by kernel_rfl) (by kernel_rfl) (by kernel_rfl) (by simp [AV.okL, AV.ok]) ?_
  refine wpK_end (n := 400) (m := 0) (nx := 0) (hs := [(2, .row [.ints .u64 4 (limbs 0)]), (5, .call (.tup [.agg [.ints .u64 4 (limbs X)], .val (.int .i64 e)]))]) (v := .tup [.agg [.ints .u64 4 (limbs X)], .val (.int .i64 e)]) follows (And.intro (fun ρ => (rfl : Seg.cells ρ [.ints .u64 4 (limbs 0)] = (Value.agg #[.int .u64 (L 0 0), .int .u64 (L 0 1), .int .u64 (L 0 2), .int .u64 (L 0 3)]).cells.toList)) (And.intro (show Seg.ok No [.ints .u64 4 (limbs 0)] from ⟨rfl, trivial⟩) (And.intro qc (show (AV.ok No (.tup [.agg [.ints .u64 4 (limbs X)], .val (.int .i64 e)])) from ⟨⟨rfl, trivial⟩, trivial, trivial⟩)))) (by kernel_rfl) ?_
  intro ρ w' hf; exact ⟨rfl, hf.to_below⟩
theorem pu_c (w : World) (s : ByteArray) (hs : s.size ≤ 9000000000000) : Calls Tryd.prog 29 #[.string s] w fun e w' => e = .returned (.tuple #[.int .u64 (L (qP s 16).1 0), .int .i64 (qP s 16).2]) ∧ Below w.heap.size w w' := by
  have qc : ∀ w', Fr No w w' → Calls Tryd.prog 44 #[.string s, .int .i64 (16 : Nat)] w' (getR w' (qP s 16).1 (qP s 16).2) := fun w' _ => quantity_c w' s hs 16 (by omega)
  generalize (qP s 16).1 = X at *
  generalize (qP s 16).2 = e at *
  refine calls_vm [.val (.string s)] (fn := Tryd.f29) Tryd.func29 (by kernel_rfl) (by kernel_rfl) (by kernel_rfl) (by simp [AV.okL, AV.ok]) ?_
  refine wpK_end (n := 400) (m := 0) (nx := 0) (hs := [(8, .call (.tup [.agg [.ints .u64 4 (limbs X)], .val (.int .i64 e)])), (4, .row [.ints .u64 4 (limbs 0)])]) (v := .tup [.val (.int .u64 (L X 0)), .val (.int .i64 e)]) follows (And.intro qc (And.intro (show (AV.ok No (.tup [.agg [.ints .u64 4 (limbs X)], .val (.int .i64 e)])) from ⟨⟨rfl, trivial⟩, trivial, trivial⟩) (And.intro (fun ρ => (rfl : Seg.cells ρ [.ints .u64 4 (limbs 0)] = (Value.agg #[.int .u64 (L 0 0), .int .u64 (L 0 1), .int .u64 (L 0 2), .int .u64 (L 0 3)]).cells.toList)) (show Seg.ok No [.ints .u64 4 (limbs 0)] from ⟨rfl, trivial⟩)))) (by kernel_rfl) ?_
  intro ρ w' hf; exact ⟨rfl, hf.to_below⟩
/-- A text as bytes, and an error's number. -/
def dataP (s : ByteArray) : List Int × Int := match textV s with
  | none => ([], 80)
  | some v => if v.length % 2 = 1 then ([], 81) else (jnL v, 0)
/-- Bytes that are handed over, and an error's number. -/
def DatR (w : World) (p : List Int × Int) (e : Ending) (w' : World) : Prop :=
  Below w.heap.size w w' ∧ ∃ B C, e = .returned (.tuple #[ownVal B C p.1.length, .int .i64 p.2]) ∧ OwnAt w' B C 1 5 (p.1.map (Value.int .u8)) ∧ (0 < C → w.heap.size ≤ B)
theorem datR_nil {w : World} {x : Int} {e : Ending} {w' : World} (h : e = .returned (.tuple #[.slice none 0 0, .int .i64 x])) (hb : Below w.heap.size w w') : DatR w ([], x) e w' :=
  ⟨hb, 0, 0, by rw [h]; rfl, ⟨fun _ => rfl, fun h => by omega⟩, fun h => by omega⟩
theorem datR_of {P : Program} {w : World} {n m : Nat} {l : List Int} {k : Nat} {x : Int} {ρ : Env} {w' : World} (hl : l.length = n) (hf : Fr No w w') (hh : hasAll (ctx P w m) ρ w' [(k, ob n l)]) : DatR w (l, x) (.returned (AV.conc ρ (.tup [.own k 1 0 n, .val (.int .i64 x)]))) w' := by
  obtain ⟨hb, B, C, e, ho, hB⟩ := gives_of (P := P) hl hf hh
  refine ⟨hb, B, C, ?_, ho, hB⟩
  simp only [Ending.returned.injEq] at e
  simp only [AV.conc, AV.concL, Ending.returned.injEq] at e ⊢
  rw [e]
/-- A call that hands bytes over, and an error's number. -/
theorem callDat {P : Program} {w : World} {f : FuncId} {args : Array Value} {l : List Int} {x : Int} (k nm n : Nat) (c : ∀ w', Fr No w w' → Calls P f args w' (DatR w' (l, x))) (hl : l.length = n) :
    ∀ (ρ : Env) (w' : World), Fr No w w' → hasAll (ctx P w k) ρ w' [] → Calls P f args w' fun e w'' => Below w'.heap.size w' w'' ∧ ∃ B C, e = .returned (AV.conc (ρ.up nm B C) (.tup [.own nm 1 0 n, .val (.int .i64 x)])) ∧ Sits (ρ.up nm B C) w'' nm (ob n l) ∧ (Vblk.alive (ρ.up nm B C) nm (ob n l) → w'.heap.size ≤ B) := by
  intro ρ w' hf _
  subst hl
  refine (c w' hf).mono ?_
  rintro e w'' ⟨hb, B, C, rfl, ho, hB⟩
  refine ⟨hb, B, C, ?_, ?_, fun ha => hB ?_⟩
  · simp only [AV.conc, AV.concL, Ending.returned.injEq]
    congr 2
    rw [← AV.conc, ← ownVal_conc]
  · unfold Sits
    simp only [Env.up_same, Env.up_sameC, Seg.cells, Seg.cell1, List.append_nil]
    exact ho
  · unfold Vblk.alive at ha
    simp only [Env.up_sameC] at ha
    exact ha
set_option maxHeartbeats 2000000 in
theorem pdata_c (w : World) (s : ByteArray) (hs : s.size ≤ 33554434) : Calls Tryd.prog 27 #[.string s] w (DatR w (dataP s)) := by
  have vc : ∀ w', Fr No w w' → Calls Tryd.prog 38 #[.string s] w' (ParR 5 .u8 w' (textV s)) := fun w' _ => values_c w' s (by omega)
  have g8 : decide ((s.size : Int) > 33554434) = false := by simp; omega
  unfold dataP
  cases hv : textV s with
  | none =>
    rw [hv] at vc
    have vc := parN vc
    refine calls_vm [.val (.string s)] (fn := Tryd.f27) Tryd.func27 (by kernel_rfl) (by kernel_rfl) (by kernel_rfl) (by simp [AV.okL, AV.ok]) ?_
    refine wpK_end (n := 400) (m := 0) (nx := 0) (hs := [(8, .eq (.val (.bool false))), (11, .call (.val (.tuple #[.slice none 0 0, .bool false])))]) (v := .tup [.val (.slice none 0 0), .val (.int .i64 80)]) follows (And.intro (congrArg Value.bool g8) vc) (by kernel_rfl) ?_
    intro ρ w' hf; exact datR_nil rfl hf.to_below
  | some v =>
    rw [hv] at vc
    obtain ⟨r, hr1, hr2⟩ := textV_some hv
    have hdg := digs_of hr2
    obtain ⟨n, hN⟩ : ∃ n, v.length = n := ⟨_, rfl⟩
    have hn := hN
    have hle : n ≤ n := Nat.le_refl n
    have hnl : n ≤ 9000000000000 := by
      have h1 := (valsL_some hr2).1
      have h2 := bytesI_len s
      rw [hr1] at h2
      simp at h2
      rw [← hn, h1, List.length_map]
      omega
    simp only [hn]
    by_cases h1 : n % 2 = 1
    · rw [if_pos h1]
      have hr : (n : Int).tmod 2 = 1 := by rw [Int.tmod_eq_emod_of_nonneg (by omega)]; omega
      refine calls_vm [.val (.string s)] (fn := Tryd.f27) Tryd.func27 (by kernel_rfl) (by kernel_rfl) (by kernel_rfl) (by simp [AV.okL, AV.ok]) ?_
      refine wpK_end (n := 400) (m := 0) (nx := 0) (hs := [(8, .eq (.val (.bool false))), (11, .callM [] (.tup [.own 6 1 0 n, .val (.bool true)]) (some (ob n v))), (18, .eq (.val (.int .i64 1)))]) (v := .tup [.val (.slice none 0 0), .val (.int .i64 81)]) follows (And.intro (congrArg Value.bool g8) (And.intro (callPar (w := w) Tryd.f27.ntmps 6 n vc hn) (And.intro (show Seg.ok No (ob n v).row from ⟨hn, trivial⟩) (And.intro (show ∀ D : Nat → Prop, D 6 → (∀ k, k ∈ ([] : List Nat) → D k) → AV.ok D (.tup [.own 6 1 0 n, .val (.bool true)]) from fun _ h _ => ⟨h, trivial, trivial⟩) (And.intro hle (congrArg (Value.int .i64) hr)))))) (by kernel_rfl) ?_
      intro ρ w' hf; exact datR_nil rfl hf.to_below
    · rw [if_neg h1]
      have hr : (n : Int).tmod 2 = 0 := by rw [Int.tmod_eq_emod_of_nonneg (by omega)]; omega
      obtain ⟨ys, hys⟩ : ∃ ys, ys = jnL v := ⟨_, rfl⟩
      obtain ⟨m, hmd⟩ : ∃ m, m = (n + 1) / 2 := ⟨_, rfl⟩
      have hyl : ys.length = m := by rw [hys, jnL_len, hn, hmd]
      rw [← hys]
      have hjn : ∀ (ρ : Env) w', Fr No w w' → hasAll (ctx Tryd.prog w Tryd.f27.ntmps) ρ w' [(6, ob n v)] → Calls Tryd.prog 39 #[AV.conc ρ (.own 6 1 0 n)] w' fun e w'' => Below w'.heap.size w' w'' ∧ ∃ B C, e = .returned (AV.conc (ρ.up 19 B C) (.own 19 1 0 m)) ∧ Sits (ρ.up 19 B C) w'' 19 (ob m ys) ∧ (Vblk.alive (ρ.up 19 B C) 19 (ob m ys) → w'.heap.size ≤ B) := by
        intro ρ w' hf hh
        obtain ⟨A, c, e1, hS, hc, _⟩ := own_Sl hh.1.1 hn
        rw [e1]
        exact callG (w := w') Tryd.f27.ntmps 19 m (fun w2 hf2 => hys ▸ joinedA_c w2 A n c v (hS.frN hf2) hc hdg hnl) hyl ρ w' (Fr.refl _ _) trivial
      refine calls_vm [.val (.string s)] (fn := Tryd.f27) Tryd.func27 (by kernel_rfl) (by kernel_rfl) (by kernel_rfl) (by simp [AV.okL, AV.ok]) ?_
      refine wpK_endM (n := 400) (m := 0) (nx := 0) (hs := [(8, .eq (.val (.bool false))), (11, .callM [] (.tup [.own 6 1 0 n, .val (.bool true)]) (some (ob n v))), (18, .eq (.val (.int .i64 0))), (21, .callM [6] (.own 19 1 0 m) (some (ob m ys)))]) (v := .tup [.own 19 1 0 m, .val (.int .i64 0)]) (bs := [(19, ob m ys)]) follows [19] (And.intro (congrArg Value.bool g8) (And.intro (callPar (w := w) Tryd.f27.ntmps 6 n vc hn) (And.intro (show Seg.ok No (ob n v).row from ⟨hn, trivial⟩) (And.intro (show ∀ D : Nat → Prop, D 6 → (∀ k, k ∈ ([] : List Nat) → D k) → AV.ok D (.tup [.own 6 1 0 n, .val (.bool true)]) from fun _ h _ => ⟨h, trivial, trivial⟩) (And.intro hle (And.intro (congrArg (Value.int .i64) hr) (And.intro hjn (And.intro (show Seg.ok No (ob m ys).row from ⟨hyl, trivial⟩) (show ∀ D : Nat → Prop, D 19 → (∀ k, k ∈ [6] → D k) → AV.ok D (.own 19 1 0 m) from fun _ h _ => h))))))))) (by kernel_rfl) ?_
      intro ρ w' hf hh; exact datR_of hyl hf hh
end Go.Proofs.YtkanjdllaikoaaaDoor

