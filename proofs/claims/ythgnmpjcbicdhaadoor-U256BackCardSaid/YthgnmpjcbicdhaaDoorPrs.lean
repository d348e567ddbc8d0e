/- u256.Parse: the rounds. -/
import Derived.Test.YthgnmpjcbicdhaaDoorPsm
import Derived.Test.YthgnmpjcbicdhaaDoorMul
import Derived.Test.YthgnmpjcbicdhaaDoorAdd
import Derived.Test.YthgnmpjcbicdhaaDoorCmp
set_option linter.unusedSimpArgs false
set_option linter.unusedVariables false
namespace Go.Proofs.YthgnmpjcbicdhaaDoor
open Go Go.RowKit

abbrev siS (t : TypeId) (l : List UInt8) (i : Int) : Sem Next := do pure (.value (← Instr.index t (.string ⟨l.toArray⟩) (.int .i64 i)))
theorem sz_eq (l : List UInt8) : (⟨l.toArray⟩ : ByteArray).size = l.length := by
  show l.toArray.size = _
  simp
theorem si_runL (l : List UInt8) (i : Nat) (hi : i < l.length) (w : World) : (siS 9 l (i : Int)).run Tryd.prog w = .ok (.value (.int .u8 ((l.getD i 0).toNat : Int))) w := by
  have h0 : i < (⟨l.toArray⟩ : ByteArray).size := by rw [sz_eq]; exact hi
  have h1 : (0 : Int) ≤ (i : Int) ∧ (i : Int) < ((⟨l.toArray⟩ : ByteArray).size : Int) := by rw [sz_eq]; omega
  have h2 : (l.getD i 0) = ((⟨l.toArray⟩ : ByteArray)[i]'h0) := by
    rw [List.getD_eq_getElem?_getD, List.getElem?_eq_getElem hi]
    rfl
  rw [h2]
  unfold siS
  simp [Instr.index, asIntOf, h1, h0]
abbrev slH (l : List UInt8) (n : Int) : Sem Next := do pure (.value (← Instr.sliceAt 9 (.string ⟨l.toArray⟩) none (some (.int .i64 n)) none))
abbrev slL (l : List UInt8) (n : Int) : Sem Next := do pure (.value (← Instr.sliceAt 9 (.string ⟨l.toArray⟩) (some (.int .i64 n)) none none))
theorem ext_take (l : List UInt8) (n : Nat) : (⟨l.toArray⟩ : ByteArray).extract 0 n = ⟨(l.take n).toArray⟩ := by
  apply ByteArray.ext
  rw [ByteArray.data_extract]
  simp
theorem ext_drop (l : List UInt8) (n : Nat) : (⟨l.toArray⟩ : ByteArray).extract n (⟨l.toArray⟩ : ByteArray).size = ⟨(l.drop n).toArray⟩ := by
  apply ByteArray.ext
  rw [ByteArray.data_extract, sz_eq]
  simp only [Array.toList_extract, List.extract_eq_take_drop, List.extract_toArray]
  rw [List.take_of_length_le (by simp)]
theorem slH_run (l : List UInt8) (n : Nat) (h : n ≤ l.length) (w : World) : (slH l (n : Int)).run Tryd.prog w = .ok (.value (.string ⟨(l.take n).toArray⟩)) w := by
  have hsz := sz_eq l
  have hb := bounds_run (P := Tryd.prog) (w := w) (isSlice := false) (lo := none) (hi := some (.int .i64 ((n : Nat) : Int))) (len := (⟨l.toArray⟩ : ByteArray).size) (cap := (⟨l.toArray⟩ : ByteArray).size) (l := 0) (u := n) (Nat.zero_le _) (by rw [hsz]; exact h) (.inl ⟨rfl, rfl⟩) (.inr ⟨.i64, rfl⟩)
  unfold slH
  rw [← ext_take]
  simp [Instr.sliceAt, Instr.slice, run_underlying Tryd.underlying9] at hb ⊢
  simp [hb]
theorem slL_run (l : List UInt8) (n : Nat) (h : n ≤ l.length) (w : World) : (slL l (n : Int)).run Tryd.prog w = .ok (.value (.string ⟨(l.drop n).toArray⟩)) w := by
  have hsz := sz_eq l
  have hb := bounds_run (P := Tryd.prog) (w := w) (isSlice := false) (lo := some (.int .i64 ((n : Nat) : Int))) (hi := none) (len := (⟨l.toArray⟩ : ByteArray).size) (cap := (⟨l.toArray⟩ : ByteArray).size) (l := n) (u := (⟨l.toArray⟩ : ByteArray).size) (by rw [hsz]; exact h) (Nat.le_refl _) (.inr ⟨.i64, rfl⟩) (.inl ⟨rfl, rfl⟩)
  unfold slL
  rw [← ext_drop]
  simp [Instr.sliceAt, Instr.slice, run_underlying Tryd.underlying9] at hb ⊢
  simp [hb]
def PR (w : World) (l : List UInt8) (e : Ending) (w' : World) : Prop := e = .returned (.tuple #[U (pV l), .int .i64 (pE l)]) ∧ Below w.heap.size w w'
theorem pr_bad {w : World} {l : List UInt8} {e : Int} (h : pE l = e) (h0 : e ≠ 0) {w' : World} (hf : Fr No w w') : PR w l (.returned (.tuple #[.agg #[.int .u64 0, .int .u64 0, .int .u64 0, .int .u64 0], .int .i64 e])) w' := by
  refine ⟨?_, hf.to_below⟩
  rw [pV_bad (by rw [h]; exact h0), h, ← U_zero]
abbrev zb : Vblk := ⟨[.cell (.val (.int .u64 0)), .cell (.val (.int .u64 0)), .cell (.val (.int .u64 0)), .cell (.val (.int .u64 0))], 24, .arr⟩
def pS (l : List UInt8) (i : Int) : AS := ⟨[(0, .val (.string ⟨l.toArray⟩)), (2, .ptr 2 0), (3, .val (.int .i64 0)), (13, .val (.int .i64 (l.length : Int))), (14, .val (.int .i64 i))], [(2, zb)]⟩
def pS2 (l : List UInt8) : AS := ⟨[(0, .val (.string ⟨l.toArray⟩)), (2, .ptr 2 0), (3, .val (.int .i64 0))], [(2, zb)]⟩
def qS (l : List UInt8) (x : Nat) : AS := ⟨[(0, .val (.string ⟨l.toArray⟩)), (2, .ptr 2 0), (3, .val (.int .i64 0)), (5, .ptr 5 0)], [(2, zb), (5, cb x)]⟩
set_option maxHeartbeats 4000000 in
theorem pd_round (w : World) (l : List UInt8) (hn : l.length ≤ 9223372036854775807) (hk : allDg l → wpK (ctx Tryd.prog w Tryd.f5.ntmps) Tryd.f5 (PR w l) (regAt Tryd.f5 7) (pS2 l)) :
    ∀ (q i : Nat), i + q = l.length → (∀ j, j < i → isD (l.getD j 0)) → wpK (ctx Tryd.prog w Tryd.f5.ntmps) Tryd.f5 (PR w l) (loopAt Tryd.f5 0) (pS l (i : Int)) := by
  intro q
  induction q with
  | zero =>
    intro i hi hd
    have hlt : decide ((i : Int) < (l.length : Int)) = false := by simp; omega
    refine wpK_loop (n := 400) (m := 0) (nx := 0) (hs := [(15, .eq (.val (.bool false))), (88888, .subE)]) (st' := regAt Tryd.f5 7) (s' := pS2 l) follows [] [0, 2, 3] [(2, 2)] (congrArg Value.bool hlt) (by kernel_rfl) ?_
    exact hk (fun j hj => hd j (by omega))
  | succ q ih =>
    intro i hi hd
    have hlt : decide ((i : Int) < (l.length : Int)) = true := by simp; omega
    have hil : i < l.length := by omega
    have hw : IntKind.i64.wrap ((i : Int) + 1) = ((i + 1 : Nat) : Int) := by rw [IntKind.wrap_i64]; omega
    have hix : ∀ (ρ : Env) (w' : World), Fr No w w' → (siS 9 l (i : Int)).run Tryd.prog w' = .ok (.value (.int .u8 ((l.getD i 0).toNat : Int))) w' := fun ρ w' _ => si_runL l i hil w'
    obtain ⟨c, hc⟩ : ∃ c, c = l.getD i 0 := ⟨_, rfl⟩
    rw [← hc] at hix
    have hbad : ¬ isD c → pE l = 12 := fun h => pE_bad (.inr fun ha => h (hc ▸ ha i hil))
    unfold isD at hbad
    by_cases h48 : c.toNat < 48
    · have hg : decide ((c.toNat : Int) < 48) = true := by simp; omega
      refine wpK_end (n := 400) (m := 0) (nx := 200) (hs := [(15, .eq (.val (.bool true))), (19, .as (.val (.int .u8 (c.toNat : Int)))), (20, .eq (.val (.bool true)))]) (v := .tup [.agg [.cell (.val (.int .u64 0)), .cell (.val (.int .u64 0)), .cell (.val (.int .u64 0)), .cell (.val (.int .u64 0))], .val (.int .i64 12)]) follows (And.intro (congrArg Value.bool hlt) (And.intro hix (congrArg Value.bool hg))) (by kernel_rfl) ?_
      intro ρ w' hf; exact pr_bad (e := 12) (hbad (by omega)) (by decide) hf
    · have hg : decide ((c.toNat : Int) < 48) = false := by simp; omega
      by_cases h57 : 57 < c.toNat
      · have hg2 : decide ((c.toNat : Int) > 57) = true := by simp; omega
        refine wpK_end (n := 400) (m := 0) (nx := 200) (hs := [(15, .eq (.val (.bool true))), (19, .as (.val (.int .u8 (c.toNat : Int)))), (20, .eq (.val (.bool false))), (24, .as (.val (.int .u8 (c.toNat : Int)))), (25, .eq (.val (.bool true)))]) (v := .tup [.agg [.cell (.val (.int .u64 0)), .cell (.val (.int .u64 0)), .cell (.val (.int .u64 0)), .cell (.val (.int .u64 0))], .val (.int .i64 12)]) follows (And.intro (congrArg Value.bool hlt) (And.intro hix (And.intro (congrArg Value.bool hg) (And.intro hix (congrArg Value.bool hg2))))) (by kernel_rfl) ?_
        intro ρ w' hf; exact pr_bad (e := 12) (hbad (by omega)) (by decide) hf
      · have hg2 : decide ((c.toNat : Int) > 57) = false := by simp; omega
        refine wpK_loop (n := 400) (m := 0) (nx := 200) (hs := [(15, .eq (.val (.bool true))), (19, .as (.val (.int .u8 (c.toNat : Int)))), (20, .eq (.val (.bool false))), (24, .as (.val (.int .u8 (c.toNat : Int)))), (25, .eq (.val (.bool false))), (28, .eq (.val (.int .i64 ((i + 1 : Nat) : Int))))]) (st' := loopAt Tryd.f5 0) (s' := pS l ((i + 1 : Nat) : Int)) follows [] [0, 2, 3, 13, 14] [(2, 2)] (And.intro (congrArg Value.bool hlt) (And.intro hix (And.intro (congrArg Value.bool hg) (And.intro hix (And.intro (congrArg Value.bool hg2) (congrArg (Value.int .i64) hw)))))) (by kernel_rfl) ?_
        refine ih (i + 1) (by omega) (fun j hj => ?_)
        rcases Nat.lt_or_ge j i with h | h
        · exact hd j h
        · obtain rfl : j = i := by omega
          rw [← hc]
          exact ⟨by omega, by omega⟩
set_option maxHeartbeats 8000000 in
theorem pc_round (w : World) (hT : TensIn w) (l : List UInt8) (ha : allDg l) (h0 : l ≠ []) (hlead : ¬ (1 < l.length ∧ l.getD 0 0 = 48)) :
    ∀ (q k : Nat), k + q = l.length → dvL 0 (l.take k) < T256 → wpK (ctx Tryd.prog w Tryd.f5.ntmps) Tryd.f5 (PR w l) (loopAt Tryd.f5 1) (qS (l.drop k) (dvL 0 (l.take k))) := by
  intro q
  induction q using Nat.strongRecOn with
  | _ q ih =>
    intro k hk hx
    have hszk : ((⟨(l.drop k).toArray⟩ : ByteArray).size : Int) = (q : Int) := by rw [sz_eq, List.length_drop]; omega
    obtain ⟨x, hxe⟩ : ∃ x, x = dvL 0 (l.take k) := ⟨_, rfl⟩
    rw [← hxe] at hx ⊢
    by_cases hq : q = 0
    · subst hq
      have hg : decide (((0 : Nat) : Int) > 0) = false := by decide
      have hfull : l.take k = l := List.take_of_length_le (by omega)
      have hE : pE l = 0 := pE_ok h0 ha hlead (by rw [← hfull, ← hxe]; exact hx)
      have hVx : pV l = x := by rw [pV_ok hE, hxe, hfull]
      refine wpK_end (n := 400) (m := 0) (nx := 200) (hs := [(49, .eq (.val (.int .i64 ((0 : Nat) : Int)))), (50, .eq (.val (.bool false)))]) (v := .tup [.agg [.cell (.val (.int .u64 (L x 0))), .cell (.val (.int .u64 (L x 1))), .cell (.val (.int .u64 (L x 2))), .cell (.val (.int .u64 (L x 3)))], .val (.int .i64 0)]) follows (And.intro (congrArg (Value.int .i64) hszk) (congrArg Value.bool hg)) (by kernel_rfl) ?_
      intro ρ w' hf
      refine ⟨?_, hf.to_below⟩
      rw [hVx, hE]
      rfl
    · have hg : decide ((q : Int) > 0) = true := by simp; omega
      obtain ⟨n, hn⟩ : ∃ n, n = min q 19 := ⟨_, rfl⟩
      have hnq : n ≤ q := by omega
      have hn19 : n ≤ 19 := by omega
      have hn1 : 1 ≤ n := by omega
      have hmin : (if (19 : Int) < (q : Int) then (19 : Int) else (q : Int)) = (n : Int) := by split <;> omega
      have hs1 : ∀ (ρ : Env) (w' : World), Fr No w w' → (slH (l.drop k) (n : Int)).run Tryd.prog w' = .ok (.value (.string ⟨((l.drop k).take n).toArray⟩)) w' := fun ρ w' _ => slH_run _ n (by rw [List.length_drop]; omega) w'
      have hs2 : ∀ (ρ : Env) (w' : World), Fr No w w' → (slL (l.drop k) (n : Int)).run Tryd.prog w' = .ok (.value (.string ⟨(l.drop (k + n)).toArray⟩)) w' := fun ρ w' _ => by
        have := slL_run (l.drop k) n (by rw [List.length_drop]; omega) w'
        rwa [List.drop_drop] at this
      obtain ⟨v, hv⟩ : ∃ v, v = dvL 0 ((l.drop k).take n) := ⟨_, rfl⟩
      have hcl : ((l.drop k).take n).length = n := by rw [List.length_take, List.length_drop]; omega
      have hcd : allDg ((l.drop k).take n) := allDg_take (allDg_drop ha k) n
      have hv10 : v < 10 ^ n := by have := dvL_lt _ hcd; rwa [← hv, hcl] at this
      have hp19 : 10 ^ n ≤ 10 ^ 19 := Nat.pow_le_pow_right (by decide) hn19
      have e19 : (10 : Nat) ^ 19 = 10000000000000000000 := by decide
      have hv64 : v < 18446744073709551616 := by omega
      have ht64 : 10 ^ n < 18446744073709551616 := by omega
      have hpu : ∀ w' : World, Calls Tryd.prog 15 #[.string ⟨((l.drop k).take n).toArray⟩, .int .i64 10, .int .i64 64] w' fun e w'' => e = .returned (.tuple #[.int .u64 (v : Int), .nilIface]) ∧ Below w'.heap.size w' w'' := by
        intro w'
        have hok := pU_ok _ hcd (fun e => by rw [e] at hcl; simp at hcl; omega) (by omega)
        rw [← hv] at hok
        refine (Tryd.strconv_ParseUint_10_at64_ok ⟨((l.drop k).take n).toArray⟩ (by rw [sz_eq, hcl]; omega) v hok w').mono ?_
        rintro e w'' ⟨rfl, h⟩
        refine ⟨rfl, ?_⟩
        rcases h with rfl | rfl
        · exact Below.refl _ _
        · exact ⟨rfl, rfl, rfl, by rw [Lib.bytesWorld_size]; omega, fun k hk => Lib.bytesWorld_at_old w' 5 _ k hk⟩
      have hix : ∀ (ρ : Env) (w' : World), Fr No w w' → (ixT 47 ⟨0, 0, none⟩ (n : Int)).run Tryd.prog w' = .ok (.value (.pointer (some ⟨0, n, none⟩))) w' := tab_index (w := w) (g := 0) (i := n) Tryd.underlying47 infU64 (by omega)
      have hld : ∀ (ρ : Env) (w' : World), Fr No w w' → (ldaT 22 ⟨0, n, none⟩).run Tryd.prog w' = .ok (.value (.int .u64 ((10 ^ n : Nat) : Int))) w' := tab_load Tryd.underlying22 rfl (hT n (by omega))
      obtain ⟨t, ht⟩ : ∃ t, t = 10 ^ n := ⟨_, rfl⟩
      rw [← ht] at hld ht64 hv10
      have htT : t < T256 := Nat.lt_trans ht64 (by decide)
      have hvT : v < T256 := Nat.lt_trans hv64 (by decide)
      have hf1 := fun w' => from_c t ht64 w'
      have hf2 := fun w' => from_c v hv64 w'
      have hm := fun w' => mul_c x t hx htT w'
      obtain ⟨h, hh⟩ : ∃ h, h = x * t / T256 := ⟨_, rfl⟩
      obtain ⟨lo, hlo⟩ : ∃ lo, lo = x * t % T256 := ⟨_, rfl⟩
      have hloT : lo < T256 := hlo ▸ Nat.mod_lt _ T256_pos
      have hhT : h < T256 := hh ▸ Nat.div_lt_of_lt_mul (Nat.mul_lt_mul'' hx htT)
      rw [← hh, ← hlo] at hm
      have had := fun w' => add_c lo v hloT hvT w'
      obtain ⟨s, hs⟩ : ∃ s, s = (lo + v) % T256 := ⟨_, rfl⟩
      obtain ⟨cy, hcy⟩ : ∃ cy, cy = (lo + v) / T256 := ⟨_, rfl⟩
      rw [← hs, ← hcy] at had
      have hsT : s < T256 := hs ▸ Nat.mod_lt _ T256_pos
      have hval : dvL 0 (l.take (k + n)) = x * t + v := by rw [dv_chunk l k n (by omega), ← hxe, ← hv, ht]
      have hfull : x * t + v = h * T256 + cy * T256 + s := by
        have e1 : x * t = h * T256 + lo := by rw [hh, hlo, Nat.div_add_mod']
        have e2 : lo + v = cy * T256 + s := by rw [hcy, hs, Nat.div_add_mod']
        omega
      have hbig : ¬ dvL 0 (l.take (k + n)) < T256 → pE l = 11 := fun hb => pE_long h0 ha hlead (fun hc => hb (Nat.lt_of_le_of_lt (dv_part l _) hc))
      by_cases hh0 : h = 0
      · subst hh0
        by_cases hc0 : cy = 0
        · subst hc0
          have hcmp : decide (((0 : Nat) : Int) > 0) = false := by decide
          have hs3 : dvL 0 (l.take (k + n)) = s := by rw [hval, hfull]; omega
          refine wpK_loop (n := 400) (m := 0) (nx := 200) (hs := [(49, .eq (.val (.int .i64 (q : Int)))), (50, .eq (.val (.bool true))), (52, .eq (.val (.int .i64 (q : Int)))), (53, .eq (.val (.int .i64 (n : Int)))), (57, .as (.val (.string ⟨((l.drop k).take n).toArray⟩))), (58, .call (.tup [.val (.int .u64 (v : Int)), .val .nilIface])), (63, .as (.val (.string ⟨(l.drop (k + n)).toArray⟩))), (67, .as (.val (.pointer (some ⟨0, n, none⟩)))), (68, .as (.val (.int .u64 (t : Int)))), (69, .call (.val (U t))), (70, .call (.tup [.val (U 0), .val (U lo)])), (76, .call (.val (U v))), (77, .call (.tup [.val (U s), .val (.int .u64 ((0 : Nat) : Int))])), (82, .cmp true), (85, .eq (.val (.bool false)))]) (st' := loopAt Tryd.f5 1) (s' := qS (l.drop (k + n)) s) follows [] [0, 2, 3, 5] [(2, 2), (5, 5)] (And.intro (congrArg (Value.int .i64) hszk) (And.intro (congrArg Value.bool hg) (And.intro (congrArg (Value.int .i64) hszk) (And.intro (congrArg (Value.int .i64) hmin) (And.intro hs1 (And.intro (vcall w (fun w => hpu w)) (And.intro (show AV.ok No (.tup [.val (.int .u64 (v : Int)), .val .nilIface]) from ⟨trivial, trivial, trivial⟩) (And.intro hs2 (And.intro hix (And.intro hld (And.intro (vcall w (fun w => hf1 w)) (And.intro (vcall w (fun w => hm w)) (And.intro (show AV.ok No (.tup [.val (U 0), .val (U lo)]) from ⟨trivial, trivial, trivial⟩) (And.intro (vcall w (fun w => hf2 w)) (And.intro (vcall w (fun w => had w)) (And.intro (show AV.ok No (.tup [.val (U s), .val (.int .u64 ((0 : Nat) : Int))]) from ⟨trivial, trivial, trivial⟩) (And.intro (fun w => eqU_zz w) (congrArg Value.bool hcmp)))))))))))))))))) (by kernel_rfl) ?_
          rw [← hs3]
          exact ih (q - n) (by omega) (k + n) (by omega) (by rw [hs3]; exact hsT)
        · have hcmp : decide (((cy : Nat) : Int) > 0) = true := by simp; omega
          have hov : ¬ dvL 0 (l.take (k + n)) < T256 := by
            rw [hval, hfull]
            have : 1 * T256 ≤ cy * T256 := Nat.mul_le_mul_right _ (by omega)
            omega
          refine wpK_end (n := 400) (m := 0) (nx := 200) (hs := [(49, .eq (.val (.int .i64 (q : Int)))), (50, .eq (.val (.bool true))), (52, .eq (.val (.int .i64 (q : Int)))), (53, .eq (.val (.int .i64 (n : Int)))), (57, .as (.val (.string ⟨((l.drop k).take n).toArray⟩))), (58, .call (.tup [.val (.int .u64 (v : Int)), .val .nilIface])), (63, .as (.val (.string ⟨(l.drop (k + n)).toArray⟩))), (67, .as (.val (.pointer (some ⟨0, n, none⟩)))), (68, .as (.val (.int .u64 (t : Int)))), (69, .call (.val (U t))), (70, .call (.tup [.val (U 0), .val (U lo)])), (76, .call (.val (U v))), (77, .call (.tup [.val (U s), .val (.int .u64 ((cy : Nat) : Int))])), (82, .cmp true), (85, .eq (.val (.bool true)))]) (v := .tup [.agg [.cell (.val (.int .u64 0)), .cell (.val (.int .u64 0)), .cell (.val (.int .u64 0)), .cell (.val (.int .u64 0))], .val (.int .i64 11)]) follows (And.intro (congrArg (Value.int .i64) hszk) (And.intro (congrArg Value.bool hg) (And.intro (congrArg (Value.int .i64) hszk) (And.intro (congrArg (Value.int .i64) hmin) (And.intro hs1 (And.intro (vcall w (fun w => hpu w)) (And.intro (show AV.ok No (.tup [.val (.int .u64 (v : Int)), .val .nilIface]) from ⟨trivial, trivial, trivial⟩) (And.intro hs2 (And.intro hix (And.intro hld (And.intro (vcall w (fun w => hf1 w)) (And.intro (vcall w (fun w => hm w)) (And.intro (show AV.ok No (.tup [.val (U 0), .val (U lo)]) from ⟨trivial, trivial, trivial⟩) (And.intro (vcall w (fun w => hf2 w)) (And.intro (vcall w (fun w => had w)) (And.intro (show AV.ok No (.tup [.val (U s), .val (.int .u64 ((cy : Nat) : Int))]) from ⟨trivial, trivial, trivial⟩) (And.intro (fun w => eqU_zz w) (congrArg Value.bool hcmp)))))))))))))))))) (by kernel_rfl) ?_
          intro ρ w' hf; exact pr_bad (e := 11) (hbig hov) (by decide) hf
      · have hov : ¬ dvL 0 (l.take (k + n)) < T256 := by
          rw [hval, hfull]
          have : 1 * T256 ≤ h * T256 := Nat.mul_le_mul_right _ (by omega)
          omega
        refine wpK_end (n := 400) (m := 0) (nx := 200) (hs := [(49, .eq (.val (.int .i64 (q : Int)))), (50, .eq (.val (.bool true))), (52, .eq (.val (.int .i64 (q : Int)))), (53, .eq (.val (.int .i64 (n : Int)))), (57, .as (.val (.string ⟨((l.drop k).take n).toArray⟩))), (58, .call (.tup [.val (.int .u64 (v : Int)), .val .nilIface])), (63, .as (.val (.string ⟨(l.drop (k + n)).toArray⟩))), (67, .as (.val (.pointer (some ⟨0, n, none⟩)))), (68, .as (.val (.int .u64 (t : Int)))), (69, .call (.val (U t))), (70, .call (.tup [.val (U h), .val (U lo)])), (76, .call (.val (U v))), (77, .call (.tup [.val (U s), .val (.int .u64 ((cy : Nat) : Int))])), (82, .cmp false)]) (v := .tup [.agg [.cell (.val (.int .u64 0)), .cell (.val (.int .u64 0)), .cell (.val (.int .u64 0)), .cell (.val (.int .u64 0))], .val (.int .i64 11)]) follows (And.intro (congrArg (Value.int .i64) hszk) (And.intro (congrArg Value.bool hg) (And.intro (congrArg (Value.int .i64) hszk) (And.intro (congrArg (Value.int .i64) hmin) (And.intro hs1 (And.intro (vcall w (fun w => hpu w)) (And.intro (show AV.ok No (.tup [.val (.int .u64 (v : Int)), .val .nilIface]) from ⟨trivial, trivial, trivial⟩) (And.intro hs2 (And.intro hix (And.intro hld (And.intro (vcall w (fun w => hf1 w)) (And.intro (vcall w (fun w => hm w)) (And.intro (show AV.ok No (.tup [.val (U h), .val (U lo)]) from ⟨trivial, trivial, trivial⟩) (And.intro (vcall w (fun w => hf2 w)) (And.intro (vcall w (fun w => had w)) (And.intro (show AV.ok No (.tup [.val (U s), .val (.int .u64 ((cy : Nat) : Int))]) from ⟨trivial, trivial, trivial⟩) (fun w => eqU_ne h hhT hh0 w))))))))))))))))) (by kernel_rfl) ?_
        intro ρ w' hf; exact pr_bad (e := 11) (hbig hov) (by decide) hf
end Go.Proofs.YthgnmpjcbicdhaaDoor

