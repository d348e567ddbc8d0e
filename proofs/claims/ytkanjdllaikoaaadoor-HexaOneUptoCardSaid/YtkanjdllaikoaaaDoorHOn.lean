/- HexaOne, walked. -/
import Derived.Test.YtkanjdllaikoaaaDoorOnP
import Derived.Test.YtkanjdllaikoaaaDoorLw
import Derived.Test.YtkanjdllaikoaaaDoorSam
import Derived.Test.YtkanjdllaikoaaaDoorUqC
import Derived.Test.YtkanjdllaikoaaaDoorHD
set_option linter.unusedSimpArgs false
set_option linter.unusedVariables false
namespace Go.Proofs.YtkanjdllaikoaaaDoor
open Go Go.RowKit

theorem str_neF (s : ByteArray) : (!(s.toList == s.toList)) = false := by simp
theorem str_eqT (s : ByteArray) : (s.toList == s.toList) = true := by simp
abbrev lbk (v : Nat) : Vblk := ⟨[.ints .u64 4 (limbs v)], 25, .arr⟩
def onQ (w : World) (e : Ending) (w' : World) : Prop := e = .returned (.bool true) ∧ Below w.heap.size w w'
set_option maxHeartbeats 4000000 in
theorem on_addr (w : World) (s : ByteArray) (hs : s.size ≤ 9000000000000) (hG : w.cell? ⟨0, 0, none⟩ = some (.int .u8 1)) : wpK (ctx Tryd.prog w Tryd.f7.ntmps) Tryd.f7 (onQ w) (regAt Tryd.f7 18) ⟨[(0, .val (.string s)), (5, .val (.string (lowS s)))], []⟩ := by
  have pc : ∀ w', Fr No w w' → Calls Tryd.prog 22 #[.string s] w' (pairR w' (addrP s).1 (addrP s).2) := fun w' hf => paddr_c w' s hs (frN_cell hf hG)
  obtain ⟨hB, hlow⟩ := addrP_low s
  have hla : (addrP s).1.length = 20 := by
    unfold addrP
    split
    · simp
    · split
      · split
        · simp
        · rw [prL_len]
      · simp
  generalize (addrP s).1 = a at *
  generalize (addrP s).2 = e at *
  obtain ⟨T, hT⟩ : ∃ T, T = lowS s := ⟨_, rfl⟩
  rw [← hT] at hlow ⊢
  obtain ⟨K, hK⟩ : ∃ K, K = withX (strI (sumL a)) := ⟨_, rfl⟩
  have kc : ∀ w', Fr No w w' → Calls Tryd.prog 18 #[adrV a] w' fun e w'' => e = .returned (.string K) ∧ Below w'.heap.size w' w'' := fun w' hf => hK ▸ cks_c w' a hla hB (frN_cell hf hG)
  have sK : K.size ≤ 9000000000000 := by
    have h1 := bytesI_len K
    rw [hK, withX_bytes _ (sumL_byte a)] at h1
    rw [hK, ← h1, List.length_cons, List.length_cons]; unfold sumL; rw [capL_len, hla]; omega
  have qT := str_eqT T
  by_cases he : e = 0
  · have g : decide (e = 0) = true := by simp [he]
    have g2 : (!decide (e = 0)) = false := by simp [he]
    have lc : ∀ w', Fr No w w' → Calls Tryd.prog 23 #[.string K] w' fun e w'' => e = .returned (.string T) ∧ Below w'.heap.size w' w'' := fun w' hf => by
      have := lower_c w' K sK
      rw [hK, hlow he, ← hK] at this
      exact this
    refine wpK_end (n := 400) (m := 0) (nx := 500) (hs := [(104, .call (.tup [.agg [.ints .u8 20 a], .val (.int .i64 e)])), (11, .row [.ints .u8 20 (List.replicate 20 0)]), (108, .call (.val (.int .i64 e))), (109, .eq (.val (.bool false))), (112, .call (.val (.string K))), (113, .call (.val (.string T))), (115, .eq (.val (.bool true)))]) (v := .val (.bool true)) follows (And.intro pc (And.intro (show AV.ok No (.tup [.agg [.ints .u8 20 a], .val (.int .i64 e)]) from ⟨⟨hla, trivial⟩, trivial, trivial⟩) (And.intro (fun ρ => (rfl : Seg.cells ρ [.ints .u8 20 (List.replicate 20 0)] = (Value.agg (ints .u8 (List.replicate 20 0))).cells.toList)) (And.intro (show Seg.ok No [.ints .u8 20 (List.replicate 20 0)] from ⟨rfl, trivial⟩) (And.intro (vcall w (fun w => nm_c (e) w)) (And.intro (congrArg Value.bool g2) (And.intro kc (And.intro lc (show Value.bool (T.toList == T.toList) = Value.bool true from congrArg Value.bool qT))))))))) (by kernel_rfl) ?_
    intro ρ w' hf; exact ⟨rfl, hf.to_below⟩
  · have g : decide (e = 0) = false := by simp [he]
    have g2 : (!decide (e = 0)) = true := by simp [he]
    refine wpK_end (n := 400) (m := 0) (nx := 500) (hs := [(104, .call (.tup [.agg [.ints .u8 20 a], .val (.int .i64 e)])), (11, .row [.ints .u8 20 (List.replicate 20 0)]), (108, .call (.val (.int .i64 e))), (109, .eq (.val (.bool true)))]) (v := .val (.bool true)) follows (And.intro pc (And.intro (show AV.ok No (.tup [.agg [.ints .u8 20 a], .val (.int .i64 e)]) from ⟨⟨hla, trivial⟩, trivial, trivial⟩) (And.intro (fun ρ => (rfl : Seg.cells ρ [.ints .u8 20 (List.replicate 20 0)] = (Value.agg (ints .u8 (List.replicate 20 0))).cells.toList)) (And.intro (show Seg.ok No [.ints .u8 20 (List.replicate 20 0)] from ⟨rfl, trivial⟩) (And.intro (vcall w (fun w => nm_c (e) w)) (congrArg Value.bool g2)))))) (by kernel_rfl) ?_
    intro ρ w' hf; exact ⟨rfl, hf.to_below⟩
set_option maxHeartbeats 4000000 in
theorem on_hash (w : World) (s : ByteArray) (hs : s.size ≤ 9000000000000) (hG : w.cell? ⟨0, 0, none⟩ = some (.int .u8 1)) : wpK (ctx Tryd.prog w Tryd.f7.ntmps) Tryd.f7 (onQ w) (regAt Tryd.f7 15) ⟨[(0, .val (.string s)), (5, .val (.string (lowS s)))], []⟩ := by
  have nxt := on_addr w s hs hG
  have pc : ∀ w', Fr No w w' → Calls Tryd.prog 25 #[.string s] w' (pairR w' (hashP s).1 (hashP s).2) := fun w' hf => phash_c w' s hs
  obtain ⟨hB, hlow⟩ := hashP_low s
  have hla : (hashP s).1.length = 32 := by
    unfold hashP
    split
    · simp
    · split
      · rw [prL_len]
      · simp
  generalize (hashP s).1 = a at *
  generalize (hashP s).2 = e at *
  obtain ⟨T, hT⟩ : ∃ T, T = lowS s := ⟨_, rfl⟩
  rw [← hT] at hlow nxt ⊢
  have nT := str_neF T
  by_cases he : e = 0
  · have g : decide (e = 0) = true := by simp [he]
    have hc : ∀ w', Fr No w w' → Calls Tryd.prog 20 #[adrV a] w' fun e w'' => e = .returned (.string T) ∧ Below w'.heap.size w' w'' := fun w' _ => hlow he ▸ htext_c w' a hla hB
    refine wpK_loop (n := 400) (m := 0) (nx := 500) (hs := [(90, .call (.tup [.agg [.ints .u8 32 a], .val (.int .i64 e)])), (10, .row [.ints .u8 32 (List.replicate 32 0)]), (94, .call (.val (.int .i64 e))), (95, .eq (.val (.bool true))), (98, .call (.val (.string T))), (100, .eq (.val (.bool false))), (88888, .subE)]) (st' := regAt Tryd.f7 18) (s' := ⟨[(0, .val (.string s)), (5, .val (.string T))], []⟩) follows [] [0, 5] [] (And.intro pc (And.intro (show AV.ok No (.tup [.agg [.ints .u8 32 a], .val (.int .i64 e)]) from ⟨⟨hla, trivial⟩, trivial, trivial⟩) (And.intro (fun ρ => (rfl : Seg.cells ρ [.ints .u8 32 (List.replicate 32 0)] = (Value.agg (ints .u8 (List.replicate 32 0))).cells.toList)) (And.intro (show Seg.ok No [.ints .u8 32 (List.replicate 32 0)] from ⟨rfl, trivial⟩) (And.intro (vcall w (fun w => nm_c (e) w)) (And.intro (congrArg Value.bool g) (And.intro hc (show Value.bool (!(T.toList == T.toList)) = Value.bool false from congrArg Value.bool nT)))))))) (by kernel_rfl) ?_
    exact nxt
  · have g : decide (e = 0) = false := by simp [he]
    refine wpK_loop (n := 400) (m := 0) (nx := 500) (hs := [(90, .call (.tup [.agg [.ints .u8 32 a], .val (.int .i64 e)])), (10, .row [.ints .u8 32 (List.replicate 32 0)]), (94, .call (.val (.int .i64 e))), (95, .eq (.val (.bool false))), (88888, .subE)]) (st' := regAt Tryd.f7 18) (s' := ⟨[(0, .val (.string s)), (5, .val (.string T))], []⟩) follows [] [0, 5] [] (And.intro pc (And.intro (show AV.ok No (.tup [.agg [.ints .u8 32 a], .val (.int .i64 e)]) from ⟨⟨hla, trivial⟩, trivial, trivial⟩) (And.intro (fun ρ => (rfl : Seg.cells ρ [.ints .u8 32 (List.replicate 32 0)] = (Value.agg (ints .u8 (List.replicate 32 0))).cells.toList)) (And.intro (show Seg.ok No [.ints .u8 32 (List.replicate 32 0)] from ⟨rfl, trivial⟩) (And.intro (vcall w (fun w => nm_c (e) w)) (congrArg Value.bool g)))))) (by kernel_rfl) ?_
    exact nxt
set_option maxHeartbeats 4000000 in
theorem on_uint (w : World) (s : ByteArray) (hs : s.size ≤ 9000000000000) (hG : w.cell? ⟨0, 0, none⟩ = some (.int .u8 1)) : wpK (ctx Tryd.prog w Tryd.f7.ntmps) Tryd.f7 (onQ w) (regAt Tryd.f7 12) ⟨[(0, .val (.string s)), (3, .ptr 1 0), (5, .val (.string (lowS s)))], [(1, lbk (qP s 64).1)]⟩ := by
  have nxt := on_hash w s hs hG
  have pc := fun w' (_ : Fr No w w') => pu_c w' s hs
  have hlow := qP_low s 16 (by omega)
  have hmore := qP_more s
  obtain ⟨Y, hY⟩ : ∃ Y, Y = (qP s 16).1 := ⟨_, rfl⟩
  obtain ⟨e, hE⟩ : ∃ e, e = (qP s 16).2 := ⟨_, rfl⟩
  obtain ⟨X, hX⟩ : ∃ X, X = (qP s 64).1 := ⟨_, rfl⟩
  obtain ⟨T, hT⟩ : ∃ T, T = lowS s := ⟨_, rfl⟩
  rw [← hE] at hlow hmore pc
  rw [← hY] at hlow pc
  rw [← hT] at hlow nxt ⊢
  rw [← hX]
  have nT := str_neF T
  obtain ⟨u, hu⟩ : ∃ u, u = L Y 0 := ⟨_, rfl⟩
  rw [← hu] at pc
  by_cases he : e = 0
  · have g : decide (e = 0) = true := by simp [he]
    obtain ⟨q1, q2⟩ := hlow he
    have hYu : (u.toNat = Y) ∧ 0 ≤ u ∧ u ≤ 18446744073709551615 := by rw [hu, L0]; omega
    have uc : ∀ w', Fr No w w' → Calls Tryd.prog 16 #[.int .u64 u] w' fun e w'' => e = .returned (.string T) ∧ Below w'.heap.size w' w'' := fun w' _ => by
      have := uint_c w' u hYu.2.1 hYu.2.2
      rw [hYu.1, q1] at this
      exact this
    have hXY : X = Y := by rw [hX, hY, hmore he]
    have hUX : Value.agg #[.int .u64 u, .int .u64 0, .int .u64 0, .int .u64 0] = U X := by rw [U_u64 u hYu.2.1 hYu.2.2, hYu.1, hXY]
    have hcmp : ∀ w, (Op.equal 25 (U X) (.agg #[.int .u64 u, .int .u64 0, .int .u64 0, .int .u64 0])).run Tryd.prog w = .ok true w := fun w => by rw [hUX]; exact run_eq_U X w
    refine wpK_loop (n := 400) (m := 0) (nx := 500) (hs := [(70, .call (.val (.tuple #[.int .u64 u, .int .i64 e]))), (74, .call (.val (.int .i64 e))), (75, .eq (.val (.bool true))), (78, .call (.val (.string T))), (80, .eq (.val (.bool false))), (85, .cmp true), (88888, .subE)]) (st' := regAt Tryd.f7 15) (s' := ⟨[(0, .val (.string s)), (5, .val (.string T))], []⟩) follows [] [0, 5] [] (And.intro pc (And.intro (vcall w (fun w => nm_c (e) w)) (And.intro (congrArg Value.bool g) (And.intro uc (And.intro (show Value.bool (!(T.toList == T.toList)) = Value.bool false from congrArg Value.bool nT) (fun w => hcmp w)))))) (by kernel_rfl) ?_
    exact nxt
  · have g : decide (e = 0) = false := by simp [he]
    refine wpK_loop (n := 400) (m := 0) (nx := 500) (hs := [(70, .call (.val (.tuple #[.int .u64 u, .int .i64 e]))), (74, .call (.val (.int .i64 e))), (75, .eq (.val (.bool false))), (88888, .subE)]) (st' := regAt Tryd.f7 15) (s' := ⟨[(0, .val (.string s)), (5, .val (.string T))], []⟩) follows [] [0, 5] [] (And.intro pc (And.intro (vcall w (fun w => nm_c (e) w)) (congrArg Value.bool g))) (by kernel_rfl) ?_
    exact nxt
set_option maxHeartbeats 4000000 in
theorem on_qty (w : World) (s : ByteArray) (hs : s.size ≤ 9000000000000) (hG : w.cell? ⟨0, 0, none⟩ = some (.int .u8 1)) (v0 : Nat) : wpK (ctx Tryd.prog w Tryd.f7.ntmps) Tryd.f7 (onQ w) (regAt Tryd.f7 9) ⟨[(0, .val (.string s)), (3, .ptr 1 0), (5, .val (.string (lowS s)))], [(1, lbk v0)]⟩ := by
  have nxt := on_uint w s hs hG
  have pc := fun w' (_ : Fr No w w') => pq_c w' s hs
  have hlow := qP_low s 64 (by omega)
  generalize (qP s 64).1 = X at *
  generalize (qP s 64).2 = e at *
  obtain ⟨T, hT⟩ : ∃ T, T = lowS s := ⟨_, rfl⟩
  rw [← hT] at hlow nxt ⊢
  have nT := str_neF T
  by_cases he : e = 0
  · have g : decide (e = 0) = true := by simp [he]
    have qc : ∀ w', Fr No w w' → Calls Tryd.prog 14 #[U X] w' fun e w'' => e = .returned (.string T) ∧ Below w'.heap.size w' w'' := fun w' _ => (hlow he).1 ▸ qty_c w' X
    refine wpK_loop (n := 400) (m := 0) (nx := 500) (hs := [(56, .call (.tup [.agg [.ints .u64 4 (limbs X)], .val (.int .i64 e)])), (60, .call (.val (.int .i64 e))), (61, .eq (.val (.bool true))), (64, .call (.val (.string T))), (66, .eq (.val (.bool false))), (88888, .subE)]) (st' := regAt Tryd.f7 12) (s' := ⟨[(0, .val (.string s)), (3, .ptr 1 0), (5, .val (.string T))], [(1, lbk X)]⟩) follows [] [0, 3, 5] [(1, 1)] (And.intro pc (And.intro (show AV.ok No (.tup [.agg [.ints .u64 4 (limbs X)], .val (.int .i64 e)]) from ⟨⟨rfl, trivial⟩, trivial, trivial⟩) (And.intro (vcall w (fun w => nm_c (e) w)) (And.intro (congrArg Value.bool g) (And.intro qc (show Value.bool (!(T.toList == T.toList)) = Value.bool false from congrArg Value.bool nT)))))) (by kernel_rfl) ?_
    exact nxt
  · have g : decide (e = 0) = false := by simp [he]
    refine wpK_loop (n := 400) (m := 0) (nx := 500) (hs := [(56, .call (.tup [.agg [.ints .u64 4 (limbs X)], .val (.int .i64 e)])), (60, .call (.val (.int .i64 e))), (61, .eq (.val (.bool false))), (88888, .subE)]) (st' := regAt Tryd.f7 12) (s' := ⟨[(0, .val (.string s)), (3, .ptr 1 0), (5, .val (.string T))], [(1, lbk X)]⟩) follows [] [0, 3, 5] [(1, 1)] (And.intro pc (And.intro (show AV.ok No (.tup [.agg [.ints .u64 4 (limbs X)], .val (.int .i64 e)]) from ⟨⟨rfl, trivial⟩, trivial, trivial⟩) (And.intro (vcall w (fun w => nm_c (e) w)) (congrArg Value.bool g)))) (by kernel_rfl) ?_
    exact nxt
theorem qty31 : qtyS 31 = ⟨#[48, 120, 49, 102]⟩ := by
  have : (qtyS 31).data.toList = [48, 120, 49, 102] := by decide +kernel
  have h : qtyS 31 = ⟨(qtyS 31).data.toList.toArray⟩ := by simp
  rw [h, this]
set_option maxHeartbeats 8000000 in
theorem walkHexaOne (w : World) (s : ByteArray) (hs : s.size ≤ 16777216) (hG : w.cell? ⟨0, 0, none⟩ = some (.int .u8 1)) :
    Calls Tryd.prog 7 #[.string s] w fun e w' => e = .returned (.bool true) ∧ Below w.heap.size w w' := by
  have nxt := on_qty w s (by omega) hG 31
  have q31 : ∀ w', Fr No w w' → Calls Tryd.prog 28 #[.string ⟨#[48, 120, 49, 102]⟩] w' fun e w'' => e = .returned (.tuple #[U 31, .int .i64 0]) ∧ Below w'.heap.size w' w'' := fun w' _ => by
    have := pq_c w' (qtyS 31) (by rw [qty31]; decide)
    rw [qP_qty 31 64 (by decide) (by decide) (by decide), qty31] at this
    exact this
  have t31 : ∀ w', Fr No w w' → Calls Tryd.prog 14 #[U 31] w' fun e w'' => e = .returned (.string ⟨#[48, 120, 49, 102]⟩) ∧ Below w'.heap.size w' w'' := fun w' _ => qty31 ▸ qty_c w' 31
  have lc : ∀ w', Fr No w w' → Calls Tryd.prog 23 #[.string s] w' fun e w'' => e = .returned (.string (lowS s)) ∧ Below w'.heap.size w' w'' := fun w' _ => lower_c w' s (by omega)
  obtain ⟨hB, hle, hlow⟩ := dataP_low s
  obtain ⟨n, hn⟩ : ∃ n, (dataP s).1.length = n := ⟨_, rfl⟩
  obtain ⟨e, hE⟩ : ∃ e, e = (dataP s).2 := ⟨_, rfl⟩
  obtain ⟨l, hl⟩ : ∃ l, l = (dataP s).1 := ⟨_, rfl⟩
  have hp : dataP s = (l, e) := by rw [hl, hE]
  rw [← hl] at hn hB hle hlow
  rw [← hE] at hlow
  have hpd := callDat (w := w) Tryd.f7.ntmps 25 n (fun w' _ => (show Calls Tryd.prog 27 #[.string s] w' (DatR w' (l, e)) from hp ▸ pdata_c w' s (by omega))) hn
  obtain ⟨T, hT⟩ : ∃ T, T = lowS s := ⟨_, rfl⟩
  rw [← hT] at hlow nxt lc
  obtain ⟨D, hD⟩ : ∃ D, D = withX ⟨(hexL l).toArray⟩ := ⟨_, rfl⟩
  rw [← hD] at hlow
  have hdc : ∀ (ρ : Env) w', Fr No w w' → hasAll (ctx Tryd.prog w Tryd.f7.ntmps) ρ w' [(25, ob n l)] → Calls Tryd.prog 9 #[AV.conc ρ (.own 25 1 0 n)] w' fun e w'' => e = .returned (AV.conc ρ (.tup [.val (.string D), .val (.int .i64 0)])) ∧ Below w'.heap.size w' w'' := by
    intro ρ w' hf hh
    obtain ⟨A, c, e1, hS, _⟩ := own_Sl hh.1.1 hn
    rw [e1]
    have := data_c w' A n c l hS hB (by omega)
    unfold dataR at this
    rw [← hD] at this
    exact this
  have hnn : (!decide ((0 : Int) = 0)) = false := rfl
  have nS := str_neF ⟨#[48, 120, 49, 102]⟩
  have nT := str_neF T
  by_cases he : e = 0
  · have g : decide (e = 0) = true := by simp [he]
    have hDT := hlow he
    subst hDT
    refine calls_vm [.val (.string s)] (fn := Tryd.f7) Tryd.func7 (by kernel_rfl) (by kernel_rfl) (by kernel_rfl) (by simp [AV.okL, AV.ok]) ?_
    refine wpK_loop (n := 400) (m := 0) (nx := 0) (hs := [(13, .call (.tup [.agg [.ints .u64 4 (limbs 31)], .val (.int .i64 0)])), (3, .row [.ints .u64 4 (limbs 0)]), (17, .call (.val (.int .i64 0))), (18, .eq (.val (.bool false))), (22, .cmp true), (26, .call (.val (.string ⟨#[48, 120, 49, 102]⟩))), (27, .eq (.val (.bool false))), (30, .call (.val (.string D))), (33, .callM [] (.tup [.own 25 1 0 n, .val (.int .i64 e)]) (some (ob n l))), (38, .callM [25] (.tup [.val (.string D), .val (.int .i64 0)]) none), (42, .call (.val (.int .i64 e))), (43, .eq (.val (.bool true))), (46, .call (.val (.int .i64 0))), (47, .eq (.val (.bool false))), (51, .eq (.val (.bool false))), (88888, .subE)]) (st' := regAt Tryd.f7 9) (s' := ⟨[(0, .val (.string s)), (3, .ptr 1 0), (5, .val (.string D))], [(1, lbk 31)]⟩) follows [] [0, 3, 5] [(1, 5)] (And.intro q31 (And.intro (show AV.ok No (.tup [.agg [.ints .u64 4 (limbs 31)], .val (.int .i64 0)]) from ⟨⟨rfl, trivial⟩, trivial, trivial⟩) (And.intro (fun ρ => (rfl : Seg.cells ρ [.ints .u64 4 (limbs 0)] = (Value.agg #[.int .u64 (L 0 0), .int .u64 (L 0 1), .int .u64 (L 0 2), .int .u64 (L 0 3)]).cells.toList)) (And.intro (show Seg.ok No [.ints .u64 4 (limbs 0)] from ⟨rfl, trivial⟩) (And.intro (vcall w (fun w => nm_c (0) w)) (And.intro (congrArg Value.bool hnn) (And.intro (fun w => run_eq_U 31 w) (And.intro t31 (And.intro (show Value.bool (!((⟨#[48, 120, 49, 102]⟩ : ByteArray).toList == (⟨#[48, 120, 49, 102]⟩ : ByteArray).toList)) = Value.bool false from congrArg Value.bool nS) (And.intro lc (And.intro hpd (And.intro (show Seg.ok No (ob n l).row from ⟨hn, trivial⟩) (And.intro (show ∀ D : Nat → Prop, D 25 → (∀ k, k ∈ ([] : List Nat) → D k) → AV.ok D (.tup [.own 25 1 0 n, .val (.int .i64 e)]) from fun _ h _ => ⟨h, trivial, trivial⟩) (And.intro hdc (And.intro (show ∀ G : Nat → Prop, (∀ k, k ∈ [25] → G k) → AV.ok G (.tup [.val (.string D), .val (.int .i64 0)]) from fun _ _ => ⟨trivial, trivial, trivial⟩) (And.intro (vcall w (fun w => nm_c (e) w)) (And.intro (congrArg Value.bool g) (And.intro (vcall w (fun w => nm_c (0) w)) (And.intro (congrArg Value.bool hnn) (show Value.bool (!(D.toList == D.toList)) = Value.bool false from congrArg Value.bool nT)))))))))))))))))))) (by kernel_rfl) ?_
    exact nxt
  · have g : decide (e = 0) = false := by simp [he]
    refine calls_vm [.val (.string s)] (fn := Tryd.f7) Tryd.func7 (by kernel_rfl) (by kernel_rfl) (by kernel_rfl) (by simp [AV.okL, AV.ok]) ?_
    refine wpK_loop (n := 400) (m := 0) (nx := 0) (hs := [(13, .call (.tup [.agg [.ints .u64 4 (limbs 31)], .val (.int .i64 0)])), (3, .row [.ints .u64 4 (limbs 0)]), (17, .call (.val (.int .i64 0))), (18, .eq (.val (.bool false))), (22, .cmp true), (26, .call (.val (.string ⟨#[48, 120, 49, 102]⟩))), (27, .eq (.val (.bool false))), (30, .call (.val (.string T))), (33, .callM [] (.tup [.own 25 1 0 n, .val (.int .i64 e)]) (some (ob n l))), (38, .callM [25] (.tup [.val (.string D), .val (.int .i64 0)]) none), (42, .call (.val (.int .i64 e))), (43, .eq (.val (.bool false))), (88888, .subE)]) (st' := regAt Tryd.f7 9) (s' := ⟨[(0, .val (.string s)), (3, .ptr 1 0), (5, .val (.string T))], [(1, lbk 31)]⟩) follows [] [0, 3, 5] [(1, 5)] (And.intro q31 (And.intro (show AV.ok No (.tup [.agg [.ints .u64 4 (limbs 31)], .val (.int .i64 0)]) from ⟨⟨rfl, trivial⟩, trivial, trivial⟩) (And.intro (fun ρ => (rfl : Seg.cells ρ [.ints .u64 4 (limbs 0)] = (Value.agg #[.int .u64 (L 0 0), .int .u64 (L 0 1), .int .u64 (L 0 2), .int .u64 (L 0 3)]).cells.toList)) (And.intro (show Seg.ok No [.ints .u64 4 (limbs 0)] from ⟨rfl, trivial⟩) (And.intro (vcall w (fun w => nm_c (0) w)) (And.intro (congrArg Value.bool hnn) (And.intro (fun w => run_eq_U 31 w) (And.intro t31 (And.intro (show Value.bool (!((⟨#[48, 120, 49, 102]⟩ : ByteArray).toList == (⟨#[48, 120, 49, 102]⟩ : ByteArray).toList)) = Value.bool false from congrArg Value.bool nS) (And.intro lc (And.intro hpd (And.intro (show Seg.ok No (ob n l).row from ⟨hn, trivial⟩) (And.intro (show ∀ D : Nat → Prop, D 25 → (∀ k, k ∈ ([] : List Nat) → D k) → AV.ok D (.tup [.own 25 1 0 n, .val (.int .i64 e)]) from fun _ h _ => ⟨h, trivial, trivial⟩) (And.intro hdc (And.intro (show ∀ G : Nat → Prop, (∀ k, k ∈ [25] → G k) → AV.ok G (.tup [.val (.string D), .val (.int .i64 0)]) from fun _ _ => ⟨trivial, trivial, trivial⟩) (And.intro (vcall w (fun w => nm_c (e) w)) (congrArg Value.bool g))))))))))))))))) (by kernel_rfl) ?_
    exact nxt
end Go.Proofs.YtkanjdllaikoaaaDoor

