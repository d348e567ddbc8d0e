/- HexaBack, walked. -/
import Derived.Test.YtkanjdllaikoaaaDoorBkP
import Derived.Test.YtkanjdllaikoaaaDoorLw
import Derived.Test.YtkanjdllaikoaaaDoorSam
import Derived.Test.YtkanjdllaikoaaaDoorUqC
import Derived.Test.YtkanjdllaikoaaaDoorHD
set_option linter.unusedSimpArgs false
set_option linter.unusedVariables false
namespace Go.Proofs.YtkanjdllaikoaaaDoor
open Go Go.RowKit

set_option maxHeartbeats 8000000 in
theorem walkHexaBack (w : World) (A : Option Addr) (n c : Nat) (l : List Int) (hS : Sl .u8 w A n l) (hb : Bytes l) (hn : n ≤ 16777216) (x : Nat) (hx : x < T256) (u : Int) (h0 : 0 ≤ u) (h1 : u ≤ 18446744073709551615)
    (a : List Int) (ha : a.length = 20) (hba : Bytes a) (h : List Int) (hh : h.length = 32) (hbh : Bytes h) (hG : w.cell? ⟨0, 0, none⟩ = some (.int .u8 1)) :
    Calls Tryd.prog 6 #[.slice A n c, U x, .int .u64 u, adrV a, adrV h] w fun e w' => e = .returned (.bool true) ∧ Below w.heap.size w w' := by
  have e1 : l.length = n := hS.1
  obtain ⟨S, hSd⟩ : ∃ S, S = withX ⟨(hexL l).toArray⟩ := ⟨_, rfl⟩
  obtain ⟨Q, hQ⟩ : ∃ Q, Q = qtyS x := ⟨_, rfl⟩
  obtain ⟨V, hV⟩ : ∃ V, V = qtyS u.toNat := ⟨_, rfl⟩
  obtain ⟨K, hK⟩ : ∃ K, K = withX (strI (sumL a)) := ⟨_, rfl⟩
  obtain ⟨H, hH⟩ : ∃ H, H = withX ⟨(hexL h).toArray⟩ := ⟨_, rfl⟩
  have hut : u.toNat < 18446744073709551616 := by omega
  have hu2 : u.toNat < T256 := by rw [T256_eq]; omega
  have size_of : ∀ (s : ByteArray) (t : List Int), bytesI s = 48 :: 120 :: t → s.size = t.length + 2 := fun s t ht => by rw [← bytesI_len s, ht]; rfl
  have sS : S.size = 2 * n + 2 := by rw [hSd, size_of _ _ (withX_hex _), nums_len, hexL_len, e1]
  have sQ : Q.size ≤ 9000000000000 := by
    have := (qds_len x 64 hx (by omega) (by rw [T256_eq] at hx; omega)).2
    rw [hQ]; unfold qtyS; rw [size_of _ _ (withX_hex _), nums_len, qtyL_qds, List.length_map]; omega
  have sV : V.size ≤ 9000000000000 := by
    have := (qds_len u.toNat 64 hu2 (by omega) (by omega)).2
    rw [hV]; unfold qtyS; rw [size_of _ _ (withX_hex _), nums_len, qtyL_qds, List.length_map]; omega
  have sK : K.size ≤ 9000000000000 := by
    rw [hK, size_of _ _ (withX_bytes _ (sumL_byte a))]; unfold sumL; rw [capL_len, ha]; omega
  have sH : H.size ≤ 9000000000000 := by rw [hH, size_of _ _ (withX_hex _), nums_len, hexL_len, hh]; omega
  have hlent := call_lent (c := c) Tryd.f6.ntmps 5 hS (by omega)
  have hdata : ∀ (ρ : Env) w', Fr No w w' → hasAll (ctx Tryd.prog w Tryd.f6.ntmps) ρ w' [(5, gb n l)] → Calls Tryd.prog 9 #[AV.conc ρ (.lst 5 0 0 n (n + 70))] w' fun e w'' => e = .returned (AV.conc ρ (.tup [.val (.string S), .val (.int .i64 0)])) ∧ Below w'.heap.size w' w'' := by
    intro ρ w' hf hh'
    have := data_c w' _ n (n + 70) l (gb_sl hh'.1.1 e1) hb hn
    unfold dataR at this
    rw [← hSd] at this
    exact this
  have hpd := callDat (w := w) Tryd.f6.ntmps 16 n (fun w' _ => (show Calls Tryd.prog 27 #[.string S] w' (DatR w' (l, 0)) from by
    have := pdata_c w' S (by omega)
    rw [hSd, dataP_hex l hb, ← hSd] at this
    exact this)) e1
  have hsame : ∀ (ρ : Env) w', Fr No w w' → hasAll (ctx Tryd.prog w Tryd.f6.ntmps) ρ w' [(16, ob n l)] → Calls Tryd.prog 30 #[.slice A n c, AV.conc ρ (.own 16 1 0 n)] w' fun e w'' => e = .returned (AV.conc ρ (.val (.bool true))) ∧ Below w'.heap.size w' w'' := by
    intro ρ w' hf hh'
    obtain ⟨A', c', e, hSl, _⟩ := own_Sl hh'.1.1 e1
    rw [e]
    exact same_c w' A A' n c c' l (hS.frN hf) hSl (by omega)
  have qc : ∀ w', Fr No w w' → Calls Tryd.prog 14 #[U x] w' fun e w'' => e = .returned (.string Q) ∧ Below w'.heap.size w' w'' := fun w' _ => hQ ▸ qty_c w' x
  have pqc : ∀ w', Fr No w w' → Calls Tryd.prog 28 #[.string Q] w' fun e w'' => e = .returned (.tuple #[U x, .int .i64 0]) ∧ Below w'.heap.size w' w'' := fun w' _ => by
    have := pq_c w' Q sQ
    rw [hQ, qP_qty x 64 hx (by omega) (by rw [T256_eq] at hx; omega), ← hQ] at this
    exact this
  have uc : ∀ w', Fr No w w' → Calls Tryd.prog 16 #[.int .u64 u] w' fun e w'' => e = .returned (.string V) ∧ Below w'.heap.size w' w'' := fun w' _ => hV ▸ uint_c w' u h0 h1
  have hL : L u.toNat 0 = u := by rw [L0]; omega
  have puc : ∀ w', Fr No w w' → Calls Tryd.prog 29 #[.string V] w' fun e w'' => e = .returned (.tuple #[.int .u64 u, .int .i64 0]) ∧ Below w'.heap.size w' w'' := fun w' _ => by
    have := pu_c w' V sV
    rw [hV, qP_qty u.toNat 16 hu2 (by omega) (by omega), ← hV] at this
    dsimp only at this
    rw [hL] at this
    exact this
  have kc : ∀ w', Fr No w w' → Calls Tryd.prog 18 #[adrV a] w' fun e w'' => e = .returned (.string K) ∧ Below w'.heap.size w' w'' := fun w' hf => hK ▸ cks_c w' a ha hba (frN_cell hf hG)
  have pac : ∀ w', Fr No w w' → Calls Tryd.prog 22 #[.string K] w' fun e w'' => e = .returned (.tuple #[adrV a, .int .i64 0]) ∧ Below w'.heap.size w' w'' := fun w' hf => by
    have := paddr_c w' K sK (frN_cell hf hG)
    rw [hK, addrP_sum a hba ha, ← hK] at this
    exact this
  have hc : ∀ w', Fr No w w' → Calls Tryd.prog 20 #[adrV h] w' fun e w'' => e = .returned (.string H) ∧ Below w'.heap.size w' w'' := fun w' _ => hH ▸ htext_c w' h hh hbh
  have phc : ∀ w', Fr No w w' → Calls Tryd.prog 25 #[.string H] w' fun e w'' => e = .returned (.tuple #[adrV h, .int .i64 0]) ∧ Below w'.heap.size w' w'' := fun w' hf => by
    have := phash_c w' H sH
    rw [hH, hashP_hex h hbh hh, ← hH] at this
    exact this
  have hg : decide ((n : Int) > 16777216) = false := by simp; omega
  have hnn : (!decide ((0 : Int) = 0)) = false := rfl
  have hm2 : IntKind.i64.wrap (2 * (n : Int)) = 2 * (n : Int) := by rw [IntKind.wrap_i64]; omega
  have ha2 : IntKind.i64.wrap (2 + 2 * (n : Int)) = 2 + 2 * (n : Int) := by rw [IntKind.wrap_i64]; omega
  have hsz : decide ((S.size : Int) = 2 + 2 * (n : Int)) = true := by rw [sS]; simp; omega
  have huu : decide (u = u) = true := by simp
  refine calls_vm [.val (.slice A n c), .val (U x), .val (.int .u64 u), adrA a, .agg [.ints .u8 32 h]] (fn := Tryd.f6) Tryd.func6 (by kernel_rfl) (by kernel_rfl) (by kernel_rfl) ⟨trivial, trivial, trivial, ⟨ha, trivial⟩, ⟨hh, trivial⟩, trivial⟩ ?_
  refine wpK_end (n := 400) (m := 0) (nx := 0) (hs := [(25, .callM [] (.lst 5 0 0 n (n + 70)) (some (gb n l))), (26, .callM [5] (.tup [.val (.string S), .val (.int .i64 0)]) none), (31, .eq (.val (.bool false))), (41, .callM [] (.tup [.own 16 1 0 n, .val (.int .i64 0)]) (some (ob n l))), (46, .call (.val (.string Q))), (47, .call (.tup [.agg [.ints .u64 4 (limbs x)], .val (.int .i64 0)])), (15, .row [.ints .u64 4 (limbs 0)]), (52, .call (.val (.string V))), (53, .call (.val (.tuple #[.int .u64 u, .int .i64 0]))), (58, .call (.val (.string K))), (59, .call (.tup [.agg [.ints .u8 20 a], .val (.int .i64 0)])), (19, .row [.ints .u8 20 (List.replicate 20 0)]), (64, .call (.val (.string H))), (65, .call (.tup [.agg [.ints .u8 32 h], .val (.int .i64 0)])), (21, .row [.ints .u8 32 (List.replicate 32 0)]), (69, .call (.val (.int .i64 0))), (70, .eq (.val (.bool false))), (73, .call (.val (.int .i64 0))), (74, .eq (.val (.bool false))), (78, .call (.val (.int .i64 0))), (79, .eq (.val (.bool false))), (83, .call (.val (.int .i64 0))), (84, .eq (.val (.bool false))), (88, .call (.val (.int .i64 0))), (89, .eq (.val (.bool false))), (93, .call (.val (.int .i64 0))), (94, .eq (.val (.bool false))), (100, .eq (.val (.int .i64 (2 * (n : Int))))), (101, .eq (.val (.int .i64 (2 + 2 * (n : Int))))), (102, .eq (.val (.bool true))), (106, .callM [16] (.val (.bool true)) none), (111, .cmp true), (116, .eq (.val (.bool true))), (121, .cmp true), (126, .cmp true)]) (v := .val (.bool true)) follows (And.intro hlent (And.intro (show Seg.ok No (gb n l).row from ⟨by rw [roomJ_len l 70 (by omega), e1], trivial⟩) (And.intro (show ∀ D : Nat → Prop, D 5 → (∀ k, k ∈ ([] : List Nat) → D k) → AV.ok D (.lst 5 0 0 n (n + 70)) from fun _ h _ => h) (And.intro hdata (And.intro (show ∀ D : Nat → Prop, (∀ k, k ∈ [5] → D k) → AV.ok D (.tup [.val (.string S), .val (.int .i64 0)]) from fun _ _ => ⟨trivial, trivial, trivial⟩) (And.intro (congrArg Value.bool hg) (And.intro hpd (And.intro (show Seg.ok No (ob n l).row from ⟨e1, trivial⟩) (And.intro (show ∀ D : Nat → Prop, D 16 → (∀ k, k ∈ ([] : List Nat) → D k) → AV.ok D (.tup [.own 16 1 0 n, .val (.int .i64 0)]) from fun _ h _ => ⟨h, trivial, trivial⟩) (And.intro qc (And.intro pqc (And.intro (show AV.ok No (.tup [.agg [.ints .u64 4 (limbs x)], .val (.int .i64 0)]) from ⟨⟨rfl, trivial⟩, trivial, trivial⟩) (And.intro (fun ρ => (rfl : Seg.cells ρ [.ints .u64 4 (limbs 0)] = (Value.agg #[.int .u64 (L 0 0), .int .u64 (L 0 1), .int .u64 (L 0 2), .int .u64 (L 0 3)]).cells.toList)) (And.intro (show Seg.ok No [.ints .u64 4 (limbs 0)] from ⟨rfl, trivial⟩) (And.intro uc (And.intro puc (And.intro kc (And.intro pac (And.intro (show AV.ok No (.tup [.agg [.ints .u8 20 a], .val (.int .i64 0)]) from ⟨⟨ha, trivial⟩, trivial, trivial⟩) (And.intro (fun ρ => (rfl : Seg.cells ρ [.ints .u8 20 (List.replicate 20 0)] = (Value.agg (ints .u8 (List.replicate 20 0))).cells.toList)) (And.intro (show Seg.ok No [.ints .u8 20 (List.replicate 20 0)] from ⟨rfl, trivial⟩) (And.intro hc (And.intro phc (And.intro (show AV.ok No (.tup [.agg [.ints .u8 32 h], .val (.int .i64 0)]) from ⟨⟨hh, trivial⟩, trivial, trivial⟩) (And.intro (fun ρ => (rfl : Seg.cells ρ [.ints .u8 32 (List.replicate 32 0)] = (Value.agg (ints .u8 (List.replicate 32 0))).cells.toList)) (And.intro (show Seg.ok No [.ints .u8 32 (List.replicate 32 0)] from ⟨rfl, trivial⟩) (And.intro (vcall w (fun w => nm_c 0 w)) (And.intro (congrArg Value.bool hnn) (And.intro (vcall w (fun w => nm_c 0 w)) (And.intro (congrArg Value.bool hnn) (And.intro (vcall w (fun w => nm_c 0 w)) (And.intro (congrArg Value.bool hnn) (And.intro (vcall w (fun w => nm_c 0 w)) (And.intro (congrArg Value.bool hnn) (And.intro (vcall w (fun w => nm_c 0 w)) (And.intro (congrArg Value.bool hnn) (And.intro (vcall w (fun w => nm_c 0 w)) (And.intro (congrArg Value.bool hnn) (And.intro (congrArg (Value.int .i64) hm2) (And.intro (congrArg (Value.int .i64) ha2) (And.intro (congrArg Value.bool hsz) (And.intro hsame (And.intro (show ∀ D : Nat → Prop, (∀ k, k ∈ [16] → D k) → AV.ok D (.val (.bool true)) from fun _ _ => trivial) (And.intro (fun w => run_eq_U x w) (And.intro (congrArg Value.bool huu) (And.intro (fun w => run_eq_adr a ha w) (fun w => run_eq_hash h hh w))))))))))))))))))))))))))))))))))))))))))))))) (by kernel_rfl) ?_
  intro ρ w' hf; exact ⟨rfl, hf.to_below⟩
end Go.Proofs.YtkanjdllaikoaaaDoor

