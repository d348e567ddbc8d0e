/- The checksum of an address: the program. -/
import Derived.Test.YtkanjdllaikoaaaDoorCom
import Derived.Test.YtkanjdllaikoaaaDoorSpD
set_option linter.unusedSimpArgs false
set_option linter.unusedVariables false
namespace Go.Proofs.YtkanjdllaikoaaaDoor
open Go Go.RowKit

abbrev ixK (t : TypeId) (A : Addr) (i : Int) : Sem Next := do pure (.value (← Instr.indexAt t (.pointer (some A)) (.int .i64 i)))
theorem ix_arr {P : Program} {F : Nat → Prop} {w : World} {t e : TypeId} {n g : Nat} (hu : P.underlying t = some (.array n e)) (hs : (P.info? e).map (·.size) = some 1) {i : Nat} (hi : i < n) :
    ∀ (ρ : Env) (w' : World), Fr F w w' → (ixK t ⟨g, 0, none⟩ (i : Int)).run P w' = .ok (.value (.pointer (some ⟨g, i, none⟩))) w' := by
  intro ρ w' hf
  have hsz := size_one hs w'
  have h1 : (0 : Int) ≤ (i : Int) ∧ (i : Int) < (n : Int) := by omega
  unfold ixK
  simp [Instr.indexAt, asIntOf, run_underlying hu, Instr.sureAddr, hsz, h1, hi, add_at]
def ckS (S H c i : Nat) : AS := ⟨[(3, .val (.slice (some ⟨S, 0, none⟩) 40 c)), (4, .val (.pointer (some ⟨H, 0, none⟩))), (13, .val (.slice (some ⟨S, 0, none⟩) 40 c)), (14, .val (.int .i64 40)), (15, .val (.int .i64 (i : Int)))], []⟩
def ckS7 (S H c i : Nat) (x : Int) : AS := ⟨[(3, .val (.slice (some ⟨S, 0, none⟩) 40 c)), (4, .val (.pointer (some ⟨H, 0, none⟩))), (5, .val (.int .i64 (i : Int))), (6, .val (.int .u8 x)), (13, .val (.slice (some ⟨S, 0, none⟩) 40 c)), (14, .val (.int .i64 40)), (15, .val (.int .i64 (i : Int)))], []⟩
/-- Part of the letters, by the sum. -/
def mixL (h xs : List Int) (i : Nat) : List Int := capL h xs i ++ xs.drop i
theorem mixL_len (h xs : List Int) (i : Nat) (hi : i ≤ xs.length) : (mixL h xs i).length = xs.length := by unfold mixL; simp [capL_len]; omega
theorem mixL_at (h xs : List Int) (i : Nat) (hi : i < xs.length) : (mixL h xs i).getD i 0 = xs.getD i 0 := by
  unfold mixL
  rw [List.getD_eq_getElem?_getD, List.getElem?_append_right (by rw [capL_len]; omega), capL_len, Nat.sub_self, List.getElem?_drop, Nat.add_zero, ← List.getD_eq_getElem?_getD]
theorem drop_cons (xs : List Int) (i : Nat) (hi : i < xs.length) : xs.drop i = xs.getD i 0 :: xs.drop (i + 1) := by
  rw [List.drop_eq_getElem_cons hi]
  congr 1
  rw [List.getD_eq_getElem?_getD, List.getElem?_eq_getElem hi]
  rfl
theorem mixL_set (h xs : List Int) (i : Nat) (hi : i < xs.length) : (mixL h xs i).set i (capAt h i (xs.getD i 0)) = mixL h xs (i + 1) := by
  unfold mixL
  rw [capL_succ, List.set_append_right _ _ (by rw [capL_len]; omega), capL_len, Nat.sub_self, drop_cons xs i hi]
  simp
theorem mixL_same (h xs : List Int) (i : Nat) (hi : i < xs.length) (hc : capAt h i (xs.getD i 0) = xs.getD i 0) : mixL h xs i = mixL h xs (i + 1) := by
  unfold mixL
  rw [capL_succ, hc, drop_cons xs i hi]
  simp
theorem mixL_end (h xs : List Int) (n : Nat) (hn : xs.length = n) : mixL h xs n = capL h xs n := by
  unfold mixL
  rw [List.drop_of_length_le (by omega), List.append_nil]
theorem mixL_byte (h xs : List Int) (i : Nat) (hb : ByteL xs) (hi : i ≤ xs.length) : ByteL (mixL h xs i) := by
  refine (capL_byte h xs i hb hi).append fun x hx => hb x (List.mem_of_mem_drop hx)
theorem info8' : (Tryd.prog.info? 5).map (·.size) = some 1 := by kernel_rfl
theorem row_cell {w : World} {H : Nat} {h : List Int} {t : TypeId} (hH : w.heap[H]? = some (.cells (h.map (Value.int .u8)).toArray t (0, 0))) (j : Nat) (hj : j < h.length) : w.cell? ⟨H, j, none⟩ = some (.int .u8 (h.getD j 0)) := by
  unfold World.cell?
  rw [hH]
  have := vals_get .u8 h j hj
  simpa using this
theorem fr_row {w w' : World} {H : Nat} {x : Obj} (hf : Fr No w w') (h : w.heap[H]? = some x) : w'.heap[H]? = some x := by
  rw [hf.block H (Array.getElem?_eq_some_iff.1 h).1 (fun h => h)]; exact h
set_option maxHeartbeats 4000000 in
theorem ck_round (w0 : World) (S H c : Nat) (hSH : H ≠ S) (hS0 : w0.heap.size ≤ S) (h xs : List Int) (hxl : xs.length = 40) (hxb : ByteL xs) (hh : h.length = 32) (hhb : ByteL h) (hcc : 40 ≤ c) :
    ∀ (q i : Nat), i + q = 40 → ∀ (w : World), Fr No w0 w → CRow w S (mixL h xs i) → w.heap[H]? = some (.cells (h.map (Value.int .u8)).toArray 29 (0, 0)) → wpK (ctx Tryd.prog w Tryd.f18.ntmps) Tryd.f18 (strR w0 (withX (strI (capL h xs 40)))) (loopAt Tryd.f18 0) (ckS S H c i) := by
  intro q
  induction q with
  | zero =>
    intro i hi w hf0 hC hH
    obtain rfl : i = 40 := by omega
    have hlt : decide (((40 : Nat) : Int) < 40) = false := by simp
    rw [mixL_end h xs 40 hxl] at hC
    obtain ⟨ys, hys⟩ : ∃ ys, ys = capL h xs 40 := ⟨_, rfl⟩
    have hyl : ys.length = 40 := by rw [hys, capL_len]
    have hyb : ByteL ys := hys ▸ capL_byte h xs 40 hxb (by omega)
    rw [← hys] at hC ⊢
    have hcv : ∀ (ρ : Env) (w' : World), Fr No w w' → (cvB ⟨S, 0, none⟩ 40 c).run Tryd.prog w' = .ok (.value (.string (strI ys))) w' := fun ρ w' hf => strI_run w' _ 40 c ys (hyl ▸ (hC.fr hf).sl) hyb
    refine wpK_end (n := 400) (m := 0) (nx := 100) (hs := [(16, .eq (.val (.bool false))), (42, .as (.val (.string (strI ys)))), (43, .as (.val (.string (withX (strI ys)))))]) (v := .val (.string (withX (strI ys)))) follows (And.intro (congrArg Value.bool hlt) (And.intro hcv (cat_x (F := No) (w := w) (strI ys) (by rw [strI_size]; omega)))) (by kernel_rfl) ?_
    intro ρ w' hf
    exact ⟨rfl, (hf0.trans hf).to_below⟩
  | succ q ih =>
    intro i hi w hf0 hC hH
    have hlt : decide ((i : Int) < 40) = true := by simp; omega
    have hi40 : i < 40 := by omega
    have hix : i < xs.length := by omega
    have hw : IntKind.i64.wrap ((i : Int) + 1) = ((i + 1 : Nat) : Int) := by rw [IntKind.wrap_i64]; omega
    have hi2 : i / 2 < 32 := by omega
    have hq2 := half2 i (by omega)
    have hr2 := rem2 i
    have hm4 : IntKind.i64.wrap (4 * ((i % 2 : Nat) : Int)) = ((4 * (i % 2) : Nat) : Int) := by rw [IntKind.wrap_i64]; omega
    obtain ⟨y, hy⟩ : ∃ y, y = h.getD (i / 2) 0 := ⟨_, rfl⟩
    have hyb : 0 ≤ y ∧ y < 256 := hy ▸ hhb.at (i / 2) (by omega)
    obtain ⟨x, hx⟩ : ∃ x, x = xs.getD i 0 := ⟨_, rfl⟩
    have hxb' : 0 ≤ x ∧ x < 256 := hx ▸ hxb.at i hix
    have hnib : nib h i = if i % 2 = 0 then y / 16 else y % 16 := by unfold nib; rw [← hy]
    have hbit := nib_bit y i hyb
    rw [← hnib] at hbit
    have hadd : (⟨S, 0, none⟩ : Addr).add i = ⟨S, i, none⟩ := by rw [add_at, Nat.zero_add]
    have hixS : ∀ (ρ : Env) (w' : World), Fr No w w' → (slG 22 (some ⟨S, 0, none⟩) 40 c .i64 (i : Int)).run Tryd.prog w' = .ok (.value (.pointer (some ⟨S, i, none⟩))) w' := by
      have := sl_index (P := Tryd.prog) (F := No) (w := w) (A := ⟨S, 0, none⟩) (n := 40) (c := c) (k' := .i64) Tryd.underlying22 info8' hi40
      rw [hadd] at this
      exact this
    have hcS : ∀ w', Fr No w w' → w'.cell? ⟨S, i, none⟩ = some (.int .u8 x) := fun w' hf => by
      rw [(hC.fr hf).at i (by rw [mixL_len _ _ _ (by omega)]; exact hix), mixL_at h xs i hix, hx]
    have hcH : ∀ w', Fr No w w' → w'.cell? ⟨H, i / 2, none⟩ = some (.int .u8 y) := fun w' hf => by
      rw [row_cell (fr_row hf hH) (i / 2) (by omega), hy]
    have ih := ih (i + 1) (by omega)
    by_cases h97 : 97 ≤ x
    · have hg : decide (x ≥ 97) = true := by simp; omega
      by_cases h8 : 8 ≤ nib h i
      · have hz : x - 32 = capAt h i x := by unfold capAt; rw [if_pos ⟨h97, h8⟩]
        have hb1 : decide (8 ≤ nib h i) = true := by simp; omega
        have hs1 : IntKind.u8.wrap (x - 97) = x - 97 := by rw [IntKind.wrap_u8]; omega
        have hs2 : IntKind.u8.wrap (x - 97 + 65) = x - 32 := by rw [IntKind.wrap_u8]; omega
        refine wpK_loop (n := 400) (m := 0) (nx := 100) (hs := [(16, .eq (.val (.bool true))), (18, .as (.val (.pointer (some ⟨S, i, none⟩)))), (19, .as (.val (.int .u8 x))), (21, .eq (.val (.bool true))), (24, .eq (.val (.int .i64 ((i / 2 : Nat) : Int)))), (25, .as (.val (.pointer (some ⟨H, i / 2, none⟩)))), (26, .as (.val (.int .u8 y))), (28, .eq (.val (.int .i64 ((i % 2 : Nat) : Int)))), (29, .eq (.val (.int .i64 ((4 * (i % 2) : Nat) : Int)))), (32, .eq (.val (.bool true))), (88888, .subE)]) (st' := regAt Tryd.f18 7) (s' := ckS7 S H c i x) follows [] [3, 4, 5, 6, 13, 14, 15] [] (And.intro (congrArg Value.bool hlt) (And.intro hixS (And.intro (sl_load (F := No) (w := w) Tryd.underlying5 rfl hcS) (And.intro (congrArg Value.bool hg) (And.intro (congrArg (Value.int .i64) hq2) (And.intro (ix_arr (F := No) (w := w) (g := H) Tryd.underlying29 info8' hi2) (And.intro (sl_load (F := No) (w := w) Tryd.underlying5 rfl hcH) (And.intro (congrArg (Value.int .i64) hr2) (And.intro (congrArg (Value.int .i64) hm4) (congrArg Value.bool (hbit.trans hb1))))))))))) (by kernel_rfl) ?_
        refine wpL_region (by kernel_rfl) ?_
        refine wpL_op 6 (nx := 500) (hs := [(37, .eq (.val (.int .u8 (x - 97)))), (38, .eq (.val (.int .u8 (x - 32)))), (39, .as (.val (.pointer (some ⟨S, i, none⟩))))]) (tm := [(3, .val (.slice (some ⟨S, 0, none⟩) 40 c)), (4, .val (.pointer (some ⟨H, 0, none⟩))), (5, .val (.int .i64 (i : Int))), (6, .val (.int .u8 x)), (13, .val (.slice (some ⟨S, 0, none⟩) 40 c)), (14, .val (.int .i64 40)), (15, .val (.int .i64 (i : Int))), (34, .val (.slice (some ⟨S, 0, none⟩) 40 c)), (35, .val (.int .i64 (i : Int))), (36, .val (.int .u8 x)), (37, .val (.int .u8 (x - 97))), (38, .val (.int .u8 (x - 32))), (39, .val (.pointer (some ⟨S, i, none⟩)))]) (m := stB S i (x - 32)) (And.intro (congrArg (Value.int .u8) hs1) (And.intro (congrArg (Value.int .u8) hs2) hixS)) (by kernel_rfl) ?_
        intro w1 hf1
        obtain ⟨w2, hrun, hC2, hf2⟩ := stB_run w1 S i (x - 32) _ (hC.fr hf1) (by rw [mixL_len _ _ _ (by omega)]; exact hix)
        refine ⟨_, _, w2, hrun, rfl, ?_⟩
        rw [hz, hx, mixL_set h xs i hix] at hC2
        have hH2 : w2.heap[H]? = some (.cells (h.map (Value.int .u8)).toArray 29 (0, 0)) := by
          have h1 := fr_row hf1 hH
          rw [hf2.block H (Array.getElem?_eq_some_iff.1 h1).1 hSH]; exact h1
        have hf02 : Fr No w0 w2 := fr_new (hf0.trans hf1) hS0 hf2
        refine wpL_loop (n := 400) (m := 0) (nx := 500) (hs := [(40, .eq (.val (.int .i64 ((i + 1 : Nat) : Int))))]) (st' := loopAt Tryd.f18 0) (s' := ckS S H c (i + 1)) follows [] [3, 4, 13, 14, 15] [] (congrArg (Value.int .i64) hw) (by kernel_rfl) ?_
        exact ih w2 hf02 hC2 hH2
      · have hz : capAt h i x = x := by unfold capAt; rw [if_neg (fun e => h8 e.2)]
        have hb1 : decide (8 ≤ nib h i) = false := by simp; omega
        rw [mixL_same h xs i hix (by rw [← hx]; exact hz)] at hC
        refine wpK_loop (n := 400) (m := 0) (nx := 100) (hs := [(16, .eq (.val (.bool true))), (18, .as (.val (.pointer (some ⟨S, i, none⟩)))), (19, .as (.val (.int .u8 x))), (21, .eq (.val (.bool true))), (24, .eq (.val (.int .i64 ((i / 2 : Nat) : Int)))), (25, .as (.val (.pointer (some ⟨H, i / 2, none⟩)))), (26, .as (.val (.int .u8 y))), (28, .eq (.val (.int .i64 ((i % 2 : Nat) : Int)))), (29, .eq (.val (.int .i64 ((4 * (i % 2) : Nat) : Int)))), (32, .eq (.val (.bool false))), (40, .eq (.val (.int .i64 ((i + 1 : Nat) : Int))))]) (st' := loopAt Tryd.f18 0) (s' := ckS S H c (i + 1)) follows [] [3, 4, 13, 14, 15] [] (And.intro (congrArg Value.bool hlt) (And.intro hixS (And.intro (sl_load (F := No) (w := w) Tryd.underlying5 rfl hcS) (And.intro (congrArg Value.bool hg) (And.intro (congrArg (Value.int .i64) hq2) (And.intro (ix_arr (F := No) (w := w) (g := H) Tryd.underlying29 info8' hi2) (And.intro (sl_load (F := No) (w := w) Tryd.underlying5 rfl hcH) (And.intro (congrArg (Value.int .i64) hr2) (And.intro (congrArg (Value.int .i64) hm4) (And.intro (congrArg Value.bool (hbit.trans hb1)) (congrArg (Value.int .i64) hw))))))))))) (by kernel_rfl) ?_
        exact ih w hf0 hC hH
    · have hg : decide (x ≥ 97) = false := by simp; omega
      have hz : capAt h i x = x := by unfold capAt; rw [if_neg (fun e => h97 e.1)]
      rw [mixL_same h xs i hix (by rw [← hx]; exact hz)] at hC
      refine wpK_loop (n := 400) (m := 0) (nx := 100) (hs := [(16, .eq (.val (.bool true))), (18, .as (.val (.pointer (some ⟨S, i, none⟩)))), (19, .as (.val (.int .u8 x))), (21, .eq (.val (.bool false))), (40, .eq (.val (.int .i64 ((i + 1 : Nat) : Int))))]) (st' := loopAt Tryd.f18 0) (s' := ckS S H c (i + 1)) follows [] [3, 4, 13, 14, 15] [] (And.intro (congrArg Value.bool hlt) (And.intro hixS (And.intro (sl_load (F := No) (w := w) Tryd.underlying5 rfl hcS) (And.intro (congrArg Value.bool hg) (congrArg (Value.int .i64) hw))))) (by kernel_rfl) ?_
      exact ih w hf0 hC hH
set_option maxHeartbeats 1000000 in
theorem cks_c (w : World) (a : List Int) (ha : a.length = 20) (hb : Bytes a) (hG : w.cell? ⟨0, 0, none⟩ = some (.int .u8 1)) :
    Calls Tryd.prog 18 #[adrV a] w (strR w (withX (strI (sumL a)))) := by
  obtain ⟨T, hT⟩ : ∃ T : ByteArray, T = ⟨(hexL a).toArray⟩ := ⟨_, rfl⟩
  have hSz : T.size = 40 := hT ▸ stringSize a ha
  have hxs : bytesI T = nums (hexL a) := by rw [hT]; exact bytesI_mk _
  have hsm : ∀ (ρ : Env) w', Fr No w w' → hasAll (ctx Tryd.prog w Tryd.f18.ntmps) ρ w' [(0, ⟨[.ints .u8 20 a], 27, .arr⟩)] → Calls Tryd.prog 31 #[AV.conc ρ (.lst 0 0 0 20 20)] w' fun e w'' => e = .returned (AV.conc ρ (.val (.string T))) ∧ Below w'.heap.size w' w'' := by
    intro ρ w' hf hh
    have hSl : Sl .u8 w' (some ⟨ρ.b 0, 0, none⟩) 20 a := arr_Sl hh.1.1 ha fun j hj => by
      rw [Nat.zero_add]
      simp only [Seg.cells, Seg.cell1, List.append_nil]
      exact vals_get .u8 a j (by omega)
    have := written_c w' _ 20 20 a hSl hb (by omega)
    unfold wR at this
    rw [← hT] at this
    exact this
  refine calls_vm [adrA a] (fn := Tryd.f18) Tryd.func18 (by kernel_rfl) (by kernel_rfl) (by kernel_rfl) ⟨⟨ha, trivial⟩, trivial⟩ ?_
  refine wpK_loop (n := 400) (m := 0) (nx := 0) (hs := [(2, .subE), (88888, .subE)]) (st' := regAt Tryd.f18 1) (s' := ⟨[(1, .ptr 0 0)], [(0, ⟨[.ints .u8 20 a], 27, .arr⟩)]⟩) follows [] [1] [(0, 0)] trivial (by kernel_rfl) ?_
  refine wpL_region (by kernel_rfl) ?_
  refine wpL_plain 2 (nx := 10) (hs := [(7, .sub 0 20), (8, .callM [0] (.val (.string T)) none)]) [8] (tm := [(8, .val (.string T))]) (mem := [(0, ⟨[.ints .u8 20 a], 27, .arr⟩)]) (And.intro (rfl : (0 : Nat) = 0) (And.intro (rfl : (20 : Nat) = 20) (And.intro (Nat.zero_le 20) (And.intro (Nat.le_refl 20) (And.intro (Nat.succ_pos 19) (And.intro hsm (show ∀ D : Nat → Prop, (∀ k, k ∈ [0] → D k) → AV.ok D (.val (.string T)) from fun _ _ => trivial))))))) (by kernel_rfl) ?_
  intro ρ0 w1 hf1 _
  refine wpL_op 0 (nx := 500) (hs := []) (tm := [(8, .val (.string T))]) (m := cvS T) trivial (by kernel_rfl) ?_
  intro w2 hf2
  obtain ⟨c, w3, hrun, hc, hCR, hf3⟩ := cvS_run w2 T
  refine ⟨_, _, w3, hrun, rfl, ?_⟩
  obtain ⟨S, hS⟩ : ∃ S, S = w2.heap.size := ⟨_, rfl⟩
  rw [← hS] at hCR ⊢
  have hf03 : Fr No w w3 := (hf1.trans hf2).trans hf3
  have hS0 : w.heap.size ≤ S := by rw [hS]; exact (hf1.trans hf2).size
  have hSl := hCR.sl
  rw [bytesI_len, hSz] at hSl
  rw [hSz] at hc ⊢
  obtain ⟨X, hX⟩ : ∃ X, X = digL (nums (hexL a)) 1 := ⟨_, rfl⟩
  have hks : ∀ (ρ : Env) w', Fr No w3 w' → hasAll (ctx Tryd.prog w3 Tryd.f18.ntmps) ρ w' [(301, ⟨[.cell (.val (.slice (some ⟨S, 0, none⟩) 40 c))], 22, .arr⟩)] → Calls Tryd.prog 36 #[AV.conc ρ (.lst 301 0 0 1 1)] w' fun e w'' => e = .returned (AV.conc ρ (hashA X)) ∧ Below w'.heap.size w' w'' := by
    intro ρ w' hf hh
    have hP : Parts w' (some ⟨ρ.b 301, 0, none⟩) 1 [(some ⟨S, 0, none⟩, 40, c, bytesI T)] := by
      refine ⟨rfl, fun i hi => ⟨_, (some ⟨S, 0, none⟩, 40, c, bytesI T), rfl, ?_, ?_, hSl.frN hf, hc⟩⟩
      · exact (by have : i = 0 := by omega
                  subst this; rfl)
      · have : i = 0 := by omega
        subst this
        have := hh.1.1
        unfold Sits at this
        simp only [Seg.cells, Seg.cell1, AV.conc] at this
        show w'.cell? ((⟨ρ.b 301, 0, none⟩ : Addr).add 0) = _
        rw [add_at]
        unfold World.cell?
        rw [this]
        rfl
    have := ksum_c w' _ 1 1 _ hP (by omega) (frN_cell (hf03.trans hf) hG)
    have hj : joinT [(some ⟨S, 0, none⟩, 40, c, bytesI T)] = nums (hexL a) := by unfold joinT; simp [hxs]
    rw [hj, ← hX] at this
    exact this
  have hsum : sumL a = capL (hashOf X) (bytesI T) 40 := by unfold sumL; rw [← hX, ha, hxs]
  rw [hsum]
  refine wpL_loop (n := 400) (m := 0) (nx := 500) (hs := [(88888, .subE)]) (st' := regAt Tryd.f18 2) (s' := ⟨[(3, .val (.slice (some ⟨S, 0, none⟩) 40 c))], []⟩) follows [] [3] [] trivial (by kernel_rfl) ?_
  refine wpK_loop (n := 400) (m := 0) (nx := 300) (hs := [(12, .callM [301] (hashA X) none), (88888, .subE)]) (st' := regAt Tryd.f18 3) (s' := ⟨[(3, .val (.slice (some ⟨S, 0, none⟩) 40 c)), (4, .ptr 1 0)], [(1, ⟨[.ints .u8 32 (hashOf X)], 29, .arr⟩)]⟩) follows [] [3, 4] [(1, 303)] (And.intro hks (show ∀ D : Nat → Prop, (∀ k, k ∈ [301] → D k) → AV.ok D (hashA X) from fun D _ => hashA_ok X D)) (by kernel_rfl) ?_
  refine wpK_plain fun ρ w4 hf4 hM => ?_
  have hs := (hM.sits 1 _ rfl).1
  have hH4 : w4.heap[ρ.b 1]? = some (.cells ((hashOf X).map (Value.int .u8)).toArray 29 (0, 0)) := by
    unfold Sits at hs
    simp only [Seg.cells, Seg.cell1, List.append_nil] at hs
    exact hs
  have hHB : w3.heap.size ≤ ρ.b 1 := (hM.home 1 _ rfl trivial).elim (fun h => h.elim) id
  have hne : ρ.b 1 ≠ S := by have := hCR.lt; omega
  refine wpK_loop (n := 400) (m := 0) (nx := 0) (hs := []) (st' := loopAt Tryd.f18 0) (s' := ckS S (ρ.b 1) c 0) follows [] [3, 4, 13, 14, 15] [] trivial (by kernel_rfl) ?_
  refine ck_round w S (ρ.b 1) c hne hS0 (hashOf X) (bytesI T) (by rw [bytesI_len, hSz]) (fun x hx => bytesI_byte T x hx) (hashOf_len X) (hashOf_byte X) hc 40 0 (by omega) w4 (hf03.trans hf4) ?_ hH4
  have : mixL (hashOf X) (bytesI T) 0 = bytesI T := by unfold mixL capL; simp
  rw [this]
  exact hCR.fr hf4
end Go.Proofs.YtkanjdllaikoaaaDoor

