/- HexaWrites, walked. -/
import Derived.Test.YtkanjdllaikoaaaDoorUqR
import Derived.Test.YtkanjdllaikoaaaDoorCks
set_option linter.unusedSimpArgs false
set_option linter.unusedVariables false
namespace Go.Proofs.YtkanjdllaikoaaaDoor
open Go Go.RowKit

theorem nm_c (v : Int) (w : World) : Calls Tryd.prog 11 #[.int .i64 v] w fun e w' => e = .returned (.int .i64 v) ∧ Below w.heap.size w w' := by
  refine calls_vm [.val (.int .i64 v)] (fn := Tryd.f11) Tryd.func11 (by kernel_rfl) (by kernel_rfl) (by kernel_rfl) (by simp [AV.okL, AV.ok]) ?_
  refine wpK_end (n := 400) (m := 0) (nx := 0) (hs := []) (v := .val (.int .i64 v)) follows trivial (by kernel_rfl) ?_
  intro ρ w' hf; exact ⟨rfl, hf.to_below⟩
theorem str_ne (s : ByteArray) : (!(s.toList == s.toList)) = false := by simp
theorem str_eq (s : ByteArray) : (s.toList == s.toList) = true := by simp
theorem room_lo (ρ : Env) (n : Nat) (l : List Int) (hl : l.length = n) (j : Nat) (hj : j < n + 70) : (Seg.cells ρ (gb n l).row)[0 + j]? = some (.int .u8 ((roomJ l 70).getD j 0)) := by
  rw [Nat.zero_add]
  simp only [Seg.cells, Seg.cell1, List.append_nil]
  exact vals_get .u8 _ j (by rw [roomJ_len l 70 (by omega)]; omega)
theorem gb_sl {ρ : Env} {w : World} {k n : Nat} {l : List Int} (h : Sits ρ w k (gb n l)) (hl : l.length = n) : Sl .u8 w (some ⟨ρ.b k, 0, none⟩) n l :=
  arr_Sl h hl fun j hj => by rw [room_lo ρ n l hl j (by omega), roomJ_lo l 70 j (by omega)]
theorem gb_slR {ρ : Env} {w : World} {k n : Nat} {l : List Int} (h : Sits ρ w k (gb n l)) (hl : l.length = n) : Sl .u8 w (some ⟨ρ.b k, 0, none⟩) (n + 70) (roomJ l 70) :=
  arr_Sl h (by rw [roomJ_len l 70 (by omega), hl]) fun j hj => room_lo ρ n l hl j hj
theorem bytes_rev {l : List Int} (h : Bytes l) : Bytes l.reverse := by
  have h1 : ∀ x ∈ l, 0 ≤ x ∧ x ≤ 255 := fun x hx => by
    obtain ⟨i, hi, rfl⟩ := List.mem_iff_getElem.1 hx
    have := h i hi
    rw [List.getD_eq_getElem?_getD, List.getElem?_eq_getElem hi] at this
    exact this
  intro i hi
  rw [List.getD_eq_getElem?_getD, List.getElem?_eq_getElem hi]
  exact h1 _ (List.mem_reverse.1 (List.getElem_mem hi))
theorem room_copy (l m : List Int) (n : Nat) (hl : l.length = n) (hm : m.length = n) : roomJ m 70 = (roomJ l 70).take 0 ++ (m ++ (roomJ l 70).drop (0 + n)) := by
  unfold roomJ
  rw [List.take_zero, List.nil_append, Nat.zero_add, ← hl, List.drop_left]
/-- A call that lends. -/
theorem call_lent {w : World} {A : Option Addr} {n c : Nat} {l : List Int} (k nm : Nat) (hS : Sl .u8 w A n l) (hn : n ≤ 9000000000000) :
    ∀ (ρ : Env) (w' : World), Fr No w w' → hasAll (ctx Tryd.prog w k) ρ w' [] → Calls Tryd.prog 8 #[.slice A n c] w' fun e w'' => Below w'.heap.size w' w'' ∧ ∃ B C, e = .returned (AV.conc (ρ.up nm B C) (.lst nm 0 0 n (n + 70))) ∧ Sits (ρ.up nm B C) w'' nm (gb n l) ∧ (Vblk.alive (ρ.up nm B C) nm (gb n l) → w'.heap.size ≤ B) := by
  intro ρ w' hf _
  refine (lent_c w' A n c l (hS.frN hf) hn).mono ?_
  rintro e w'' ⟨hb, B, rfl, hB, hlt⟩
  refine ⟨hb, B, 0, ?_, ?_, fun _ => hlt⟩
  · simp [AV.conc, Env.up_same]
  · unfold Sits
    simp only [Env.up_same, Seg.cells, Seg.cell1, List.append_nil]
    exact hB
set_option maxHeartbeats 4000000 in
theorem walkHexaWrites (w : World) (A : Option Addr) (n c : Nat) (l : List Int) (hS : Sl .u8 w A n l) (hb : Bytes l) (hn : n ≤ 16777216) (x : Nat) (u : Int) (h0 : 0 ≤ u) (h1 : u ≤ 18446744073709551615)
    (a : List Int) (ha : a.length = 20) (hba : Bytes a) (h : List Int) (hh : h.length = 32) (hbh : Bytes h) (hG : w.cell? ⟨0, 0, none⟩ = some (.int .u8 1)) (hT : TurnsIn w) (hR : RoundsIn w) :
    Calls Tryd.prog 3 #[.slice A n c, U x, .int .u64 u, adrV a, adrV h] w fun e w' => e = .returned (.bool true) ∧ Below w.heap.size w w' := by
  have e1 : l.length = n := hS.1
  have e2 : l.reverse.length = n := by simp [e1]
  have hb2 := bytes_rev hb
  obtain ⟨m, hm⟩ : ∃ m, m = l.reverse := ⟨_, rfl⟩
  rw [← hm] at e2 hb2
  obtain ⟨S, hSd⟩ : ∃ S, S = withX ⟨(hexL l).toArray⟩ := ⟨_, rfl⟩
  obtain ⟨T, hTd⟩ : ∃ T, T = withX ⟨(hexL m).toArray⟩ := ⟨_, rfl⟩
  obtain ⟨Q, hQ⟩ : ∃ Q, Q = qtyS x := ⟨_, rfl⟩
  obtain ⟨V, hV⟩ : ∃ V, V = qtyS u.toNat := ⟨_, rfl⟩
  obtain ⟨K, hK⟩ : ∃ K, K = withX (strI (sumL a)) := ⟨_, rfl⟩
  obtain ⟨H, hH⟩ : ∃ H, H = withX ⟨(hexL h).toArray⟩ := ⟨_, rfl⟩
  have hlent := call_lent (c := c) Tryd.f3.ntmps 5 hS (by omega)
  have hdata : ∀ (ρ : Env) w', Fr No w w' → hasAll (ctx Tryd.prog w Tryd.f3.ntmps) ρ w' [(5, gb n l)] → Calls Tryd.prog 9 #[AV.conc ρ (.lst 5 0 0 n (n + 70))] w' fun e w'' => e = .returned (AV.conc ρ (.tup [.val (.string S), .val (.int .i64 0)])) ∧ Below w'.heap.size w' w'' := by
    intro ρ w' hf hh'
    have := data_c w' _ n (n + 70) l (gb_sl hh'.1.1 e1) hb hn
    unfold dataR at this
    rw [← hSd] at this
    exact this
  have hdata2 : ∀ (ρ : Env) w', Fr No w w' → hasAll (ctx Tryd.prog w Tryd.f3.ntmps) ρ w' [(5, gb n m)] → Calls Tryd.prog 9 #[AV.conc ρ (.lst 5 0 0 n (n + 70))] w' fun e w'' => e = .returned (AV.conc ρ (.tup [.val (.string T), .val (.int .i64 0)])) ∧ Below w'.heap.size w' w'' := by
    intro ρ w' hf hh'
    have := data_c w' _ n (n + 70) m (gb_sl hh'.1.1 e2) hb2 hn
    unfold dataR at this
    rw [← hTd] at this
    exact this
  have hrd : ∀ w', Fr No w w' → Calls Tryd.prog 10 #[.slice A n c] w' fun e w'' => e = .returned (.tuple #[.string S, .int .i64 0]) ∧ Below w'.heap.size w' w'' := fun w' hf => hSd ▸ rdata_c w' A n c l (hS.frN hf) hb hn
  have hrd2 : ∀ (ρ : Env) w', Fr No w w' → hasAll (ctx Tryd.prog w Tryd.f3.ntmps) ρ w' [(37, ob n m)] → Calls Tryd.prog 10 #[AV.conc ρ (.own 37 1 0 n)] w' fun e w'' => e = .returned (AV.conc ρ (.tup [.val (.string T), .val (.int .i64 0)])) ∧ Below w'.heap.size w' w'' := by
    intro ρ w' hf hh'
    obtain ⟨A', c', e, hSl, _⟩ := own_Sl hh'.1.1 e2
    rw [e]
    have := rdata_c w' A' n c' m hSl hb2 hn
    unfold dataR at this
    rw [← hTd] at this
    exact this
  have hst1 : ∀ (ρ : Env) w', Fr No w w' → hasAll (ctx Tryd.prog w Tryd.f3.ntmps) ρ w' [(5, gb n l)] → Calls Tryd.prog 12 #[AV.conc ρ (.lst 5 0 0 n (n + 70)), .slice A n c] w' fun e w'' => e = .returned (AV.conc ρ (.val (.bool true))) ∧ Below w'.heap.size w' w'' := by
    intro ρ w' hf hh'
    exact still_c w' _ A n c l (gb_slR hh'.1.1 e1) (hS.frN hf) (by omega)
  have hst2 : ∀ (ρ : Env) w', Fr No w w' → hasAll (ctx Tryd.prog w Tryd.f3.ntmps) ρ w' [(5, gb n m), (37, ob n m)] → Calls Tryd.prog 12 #[AV.conc ρ (.lst 5 0 0 n (n + 70)), AV.conc ρ (.own 37 1 0 n)] w' fun e w'' => e = .returned (AV.conc ρ (.val (.bool true))) ∧ Below w'.heap.size w' w'' := by
    intro ρ w' hf hh'
    obtain ⟨A', c', e, hSl, _⟩ := own_Sl hh'.2.1.1 e2
    rw [e]
    exact still_c w' _ A' n c' m (gb_slR hh'.1.1 e2) hSl (by omega)
  have hbw := callG (w := w) Tryd.f3.ntmps 37 n (fun w' hf => hm ▸ backward_c w' A n c l (hS.frN hf) (by omega)) e2
  have qc : ∀ w', Fr No w w' → Calls Tryd.prog 14 #[U x] w' fun e w'' => e = .returned (.string Q) ∧ Below w'.heap.size w' w'' := fun w' _ => hQ ▸ qty_c w' x
  have rqc : ∀ w', Fr No w w' → Calls Tryd.prog 15 #[U x] w' fun e w'' => e = .returned (.string Q) ∧ Below w'.heap.size w' w'' := fun w' _ => hQ ▸ rqty_c w' x
  have uc : ∀ w', Fr No w w' → Calls Tryd.prog 16 #[.int .u64 u] w' fun e w'' => e = .returned (.string V) ∧ Below w'.heap.size w' w'' := fun w' _ => hV ▸ uint_c w' u h0 h1
  have ruc : ∀ w', Fr No w w' → Calls Tryd.prog 17 #[.int .u64 u] w' fun e w'' => e = .returned (.string V) ∧ Below w'.heap.size w' w'' := fun w' _ => hV ▸ ruint_c w' u h0 h1
  have kc : ∀ w', Fr No w w' → Calls Tryd.prog 18 #[adrV a] w' fun e w'' => e = .returned (.string K) ∧ Below w'.heap.size w' w'' := fun w' hf => hK ▸ cks_c w' a ha hba (frN_cell hf hG)
  have rkc : ∀ w', Fr No w w' → Calls Tryd.prog 19 #[adrV a] w' fun e w'' => e = .returned (.string K) ∧ Below w'.heap.size w' w'' := fun w' hf => hK ▸ rck_c w' a ha hba (hT.stay hf) (hR.stay hf)
  have hc : ∀ w', Fr No w w' → Calls Tryd.prog 20 #[adrV h] w' fun e w'' => e = .returned (.string H) ∧ Below w'.heap.size w' w'' := fun w' _ => hH ▸ htext_c w' h hh hbh
  have rhc : ∀ w', Fr No w w' → Calls Tryd.prog 21 #[adrV h] w' fun e w'' => e = .returned (.string H) ∧ Below w'.heap.size w' w'' := fun w' _ => hH ▸ rhtext_c w' h hh hbh
  have nS := str_ne S
  have nT := str_ne T
  have nQ := str_ne Q
  have nV := str_ne V
  have qK := str_eq K
  have qH := str_eq H
  have hcp : ∀ ρ, (Seg.cells ρ [.ints .u8 n ((m.drop 0).take n)]).take m.length = m.map (Value.int .u8) := by
    intro ρ
    simp only [Seg.cells, Seg.cell1, List.append_nil, List.drop_zero]
    rw [List.take_of_length_le (by rw [List.length_map, List.length_take]; omega), List.take_of_length_le (by omega)]
  have hxs := room_copy l m n e1 e2
  have hmin : n = Nat.min n n := by simp [Nat.min_def]
  have hnn : (!decide ((0 : Int) = 0)) = false := rfl
  refine calls_vm [.val (.slice A n c), .val (U x), .val (.int .u64 u), adrA a, .agg [.ints .u8 32 h]] (fn := Tryd.f3) Tryd.func3 (by kernel_rfl) (by kernel_rfl) (by kernel_rfl) ⟨trivial, trivial, trivial, ⟨ha, trivial⟩, ⟨hh, trivial⟩, trivial⟩ ?_
  refine wpK_end (n := 400) (m := 0) (nx := 0) (hs := [(18, .callM [] (.lst 5 0 0 n (n + 70)) (some (gb n l))), (21, .callM [5] (.tup [.val (.string S), .val (.int .i64 0)]) none), (26, .call (.val (.tuple #[.string S, .int .i64 0]))), (31, .eq (.val (.bool false))), (34, .call (.val (.int .i64 0))), (36, .eq (.val (.bool false))), (41, .callM [5] (.val (.bool true)) none), (45, .callM [] (.own 37 1 0 n) (some (ob n m))), (48, .copy m (roomJ m 70) n), (51, .callM [5] (.tup [.val (.string T), .val (.int .i64 0)]) none), (56, .callM [37] (.tup [.val (.string T), .val (.int .i64 0)]) none), (61, .eq (.val (.bool false))), (64, .call (.val (.int .i64 0))), (66, .eq (.val (.bool false))), (71, .callM [5, 37] (.val (.bool true)) none), (75, .call (.val (.string Q))), (77, .call (.val (.string Q))), (78, .eq (.val (.bool false))), (81, .call (.val (.string V))), (83, .call (.val (.string V))), (84, .eq (.val (.bool false))), (87, .call (.val (.string K))), (89, .call (.val (.string K))), (90, .eq (.val (.bool true))), (93, .call (.val (.string H))), (95, .call (.val (.string H))), (96, .eq (.val (.bool true)))]) (v := .val (.bool true)) follows (And.intro hlent (And.intro (show Seg.ok No (gb n l).row from ⟨by rw [roomJ_len l 70 (by omega), e1], trivial⟩) (And.intro (show ∀ D : Nat → Prop, D 5 → (∀ k, k ∈ ([] : List Nat) → D k) → AV.ok D (.lst 5 0 0 n (n + 70)) from fun _ h _ => h) (And.intro hdata (And.intro (show ∀ D : Nat → Prop, (∀ k, k ∈ ([5] : List Nat) → D k) → AV.ok D (.tup [.val (.string S), .val (.int .i64 0)]) from fun _ _ => ⟨trivial, trivial, trivial⟩) (And.intro hrd (And.intro (show Value.bool (!(S.toList == S.toList)) = Value.bool false from congrArg Value.bool nS) (And.intro (vcall w (fun w => nm_c 0 w)) (And.intro (congrArg Value.bool hnn) (And.intro hst1 (And.intro (show ∀ D : Nat → Prop, (∀ k, k ∈ ([5] : List Nat) → D k) → AV.ok D (.val (.bool true)) from fun _ _ => trivial) (And.intro hbw (And.intro (show Seg.ok No (ob n m).row from ⟨e2, trivial⟩) (And.intro (show ∀ D : Nat → Prop, D 37 → (∀ k, k ∈ ([] : List Nat) → D k) → AV.ok D (.own 37 1 0 n) from fun _ h _ => h) (And.intro hmin (And.intro e2 (And.intro (show 0 + n ≤ n + 70 by omega) (And.intro hxs (And.intro hcp (And.intro (show 0 + n ≤ n by omega) (And.intro hdata2 (And.intro (show ∀ D : Nat → Prop, (∀ k, k ∈ ([5] : List Nat) → D k) → AV.ok D (.tup [.val (.string T), .val (.int .i64 0)]) from fun _ _ => ⟨trivial, trivial, trivial⟩) (And.intro hrd2 (And.intro (show ∀ D : Nat → Prop, (∀ k, k ∈ ([37] : List Nat) → D k) → AV.ok D (.tup [.val (.string T), .val (.int .i64 0)]) from fun _ _ => ⟨trivial, trivial, trivial⟩) (And.intro (show Value.bool (!(T.toList == T.toList)) = Value.bool false from congrArg Value.bool nT) (And.intro (vcall w (fun w => nm_c 0 w)) (And.intro (congrArg Value.bool hnn) (And.intro hst2 (And.intro (show ∀ D : Nat → Prop, (∀ k, k ∈ ([5, 37] : List Nat) → D k) → AV.ok D (.val (.bool true)) from fun _ _ => trivial) (And.intro qc (And.intro rqc (And.intro (show Value.bool (!(Q.toList == Q.toList)) = Value.bool false from congrArg Value.bool nQ) (And.intro uc (And.intro ruc (And.intro (show Value.bool (!(V.toList == V.toList)) = Value.bool false from congrArg Value.bool nV) (And.intro kc (And.intro rkc (And.intro (show Value.bool (K.toList == K.toList) = Value.bool true from congrArg Value.bool qK) (And.intro hc (And.intro rhc (show Value.bool (H.toList == H.toList) = Value.bool true from congrArg Value.bool qH))))))))))))))))))))))))))))))))))))))))) (by kernel_rfl) ?_
  intro ρ w' hf; exact ⟨rfl, hf.to_below⟩
end Go.Proofs.YtkanjdllaikoaaaDoor

