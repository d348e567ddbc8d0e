/- The statement NibbleKeys, in its second form: whatever the bytes (of bulk at most 1048576) the call returns true and leaves them as they were. -/
import Derived.Test.YtdagliimdmbeaaaNLaw
set_option linter.unusedSimpArgs false
set_option linter.unusedVariables false
namespace Go.Proofs.Ytdagliimdmbeaaa
open Go Go.ChangeShapes Go.WideShapes Go.ChangeAt Go.RowKit Go.Proofs.YtdagliimdmbeaaaW.PrintWords Go.Proofs.YtdagliimdmbeaaaW.PrintLast Go.Proofs.YtdagliimdmbeaaaW.PrintMore Go.Proofs.Ytdagliimdmbeaaa.Fn

set_option maxHeartbeats 8000000 in
set_option maxRecDepth 100000 in
theorem walkNibbleKeys (w : World) (A0 : Option Addr) (c0 : Nat) (l : List Int) (hr : Kd.C (Kd.int .u8) w A0 l.length l) (hc : l.length ≤ c0) (hb : Bytes l) (hl : l.length ≤ 1048576) :
    Calls Try.prog 4 #[.slice A0 l.length c0] w fun e w' => e = .returned (.bool true) ∧ Below w.heap.size w w' := by
  obtain ⟨K, hK⟩ : ∃ K, K = l.length + 5 := ⟨_, rfl⟩
  obtain ⟨n, hn⟩ : ∃ n, n = ofN l := ⟨_, rfl⟩
  obtain ⟨⟨r, f⟩, hA⟩ : ∃ x, x = keyA l := ⟨_, rfl⟩
  have u1 : nibble_Of.f K l = some n := by rw [hn]; exact of_f l hl hb K (by omega)
  have u2 : nibble_Key.f K l = some (r, f) := by rw [hA]; exact key_f l (by omega) hb K (by omega)
  have u3 : waybillref11_Key.f K l = some (r, f) := by rw [hA]; exact rkey_f l (by omega) hb K (by omega)
  have u4 : waybillref11_Of.f K l = some n := by rw [hn]; exact rof_f l hl hb K (by omega)
  have hnl : n.length ≤ 2097152 := by rw [hn, ofN_length]; omega
  have hrl : r.length ≤ 1048576 := by
    have h1 : r = (keyA l).1 := by rw [← hA]
    rw [h1]; exact Nat.le_trans (keyA_length l) hl
  have s1 : waybilllaw11_same.f (n.length + 1) n n = some true := by rw [same_f n n (by omega) _ (by omega)]; simp
  have s2 : waybilllaw11_same.f (r.length + 1) r r = some true := by rw [same_f r r (by omega) _ (by omega)]; simp
  have Hr := Lib.hid hr; have Hc := Lib.hid hc; have Hl := Lib.hid hl; have U1 := Lib.hid u1; have U2 := Lib.hid u2; have U3 := Lib.hid u3; have U4 := Lib.hid u4; have Hrl := Lib.hid hrl; have Hn := Lib.hid hnl; have S1 := Lib.hid s1; have S2 := Lib.hid s2
  clear hr hc hb hl u1 u2 u3 u4 hrl hnl s1 s2 hA hK hn
  go_enter Try.func4, Try.ntmps4
  go_wp2_with fail
  refine (lent_c _ _ l _ Hr.out (by have := Hl.out; omega)).mono ?_
  rintro e w1 ⟨rfl, hbox1, hb1⟩
  have HI1 := Lib.hid (lent_C hbox1 (by have := Hl.out; omega))
  have HX1 := Lib.hid hbox1
  have B1 := Lib.hid hb1
  clear hbox1 hb1
  go_wp2_with fail
  refine (nibble_Of.calls K _ _ l n _ HI1.out (by omega) U1.out).mono ?_
  rintro e w2 ⟨v2, rfl, hR2, hb2⟩
  obtain ⟨A2, d2, rfl, hd2, hC2⟩ := Kd.R_reads hR2
  have R2 := Lib.hid hR2
  have B2 := Lib.hid hb2
  have D2 := Lib.hid hd2
  have C2 := Lib.hid hC2
  clear hR2 hb2 hd2 hC2
  go_wp2_with fail
  refine (nibble_Of.calls K _ _ l n _ (Kd.C_below HI1.out B2.out) (by omega) U1.out).mono ?_
  rintro e w3 ⟨v3, rfl, hR3, hb3⟩
  obtain ⟨A3, d3, rfl, hd3, hC3⟩ := Kd.R_reads hR3
  have R3 := Lib.hid hR3
  have B3 := Lib.hid hb3
  have D3 := Lib.hid hd3
  have C3 := Lib.hid hC3
  clear hR3 hb3 hd3 hC3
  go_wp2_with fail
  refine (nibble_Key.calls K _ _ l r f _ (Kd.C_below HI1.out (Bl.trans B2.out B3.out)) (by omega) U2.out).mono ?_
  rintro e w4 ⟨v4, rfl, hR4, hb4⟩
  obtain ⟨A4, d4, rfl, hd4, hC4⟩ := Kd.R_reads hR4
  have R4 := Lib.hid hR4
  have B4 := Lib.hid hb4
  have D4 := Lib.hid hd4
  have C4 := Lib.hid hC4
  clear hR4 hb4 hd4 hC4
  go_wp2_with fail
  refine (nibble_Key.calls K _ _ l r f _ (Kd.C_below HI1.out (Bl.trans (Bl.trans B2.out B3.out) B4.out)) (by omega) U2.out).mono ?_
  rintro e w5 ⟨v5, rfl, hR5, hb5⟩
  obtain ⟨A5, d5, rfl, hd5, hC5⟩ := Kd.R_reads hR5
  have R5 := Lib.hid hR5
  have B5 := Lib.hid hb5
  have D5 := Lib.hid hd5
  have C5 := Lib.hid hC5
  clear hR5 hb5 hd5 hC5
  go_wp2_with fail
  refine (waybillref11_Key.calls K _ _ l r f _ (Kd.C_below Hr.out (Bl.trans (Bl.trans (Bl.trans (Bl.trans B1.out B2.out) B3.out) B4.out) B5.out)) Hc.out U3.out).mono ?_
  rintro e w6 ⟨v6, rfl, hR6, hb6⟩
  obtain ⟨A6, d6, rfl, hd6, hC6⟩ := Kd.R_reads hR6
  have R6 := Lib.hid hR6
  have B6 := Lib.hid hb6
  have D6 := Lib.hid hd6
  have C6 := Lib.hid hC6
  clear hR6 hb6 hd6 hC6
  go_wp2_with fail
  refine (waybillref11_Of.calls K _ _ l n _ (Kd.C_below Hr.out (Bl.trans (Bl.trans (Bl.trans (Bl.trans (Bl.trans B1.out B2.out) B3.out) B4.out) B5.out) B6.out)) Hc.out U4.out).mono ?_
  rintro e w7 ⟨v7, rfl, hR7, hb7⟩
  obtain ⟨A7, d7, rfl, hd7, hC7⟩ := Kd.R_reads hR7
  have R7 := Lib.hid hR7
  have B7 := Lib.hid hb7
  have D7 := Lib.hid hd7
  have C7 := Lib.hid hC7
  clear hR7 hb7 hd7 hC7
  go_wp2_with fail
  refine (waybilllaw11_same.calls (n.length + 1) _ _ n _ _ n true _ (Kd.C_below C2.out (Bl.trans (Bl.trans (Bl.trans (Bl.trans B3.out B4.out) B5.out) B6.out) B7.out)) D2.out C7.out D7.out S1.out).mono ?_
  rintro e w8 ⟨rfl, hq8⟩
  have B8 := Lib.hid (show Bl _ _ from hq8.below)
  clear hq8
  go_wp2_with fail
  refine (waybilllaw11_same.calls (n.length + 1) _ _ n _ _ n true _ (Kd.C_below C3.out (Bl.trans (Bl.trans (Bl.trans (Bl.trans B4.out B5.out) B6.out) B7.out) B8.out)) D3.out (Kd.C_below C7.out B8.out) D7.out S1.out).mono ?_
  rintro e w9 ⟨rfl, hq9⟩
  have B9 := Lib.hid (show Bl _ _ from hq9.below)
  clear hq9
  go_wp2_with fail
  refine (waybilllaw11_same.calls (r.length + 1) _ _ r _ _ r true _ (Kd.C_below C4.out (Bl.trans (Bl.trans (Bl.trans (Bl.trans B5.out B6.out) B7.out) B8.out) B9.out)) D4.out (Kd.C_below C6.out (Bl.trans (Bl.trans B7.out B8.out) B9.out)) D6.out S2.out).mono ?_
  rintro e w10 ⟨rfl, hq10⟩
  have B10 := Lib.hid (show Bl _ _ from hq10.below)
  clear hq10
  go_wp2_with fail
  refine (waybilllaw11_same.calls (r.length + 1) _ _ r _ _ r true _ (Kd.C_below C5.out (Bl.trans (Bl.trans (Bl.trans (Bl.trans B6.out B7.out) B8.out) B9.out) B10.out)) D5.out (Kd.C_below C6.out (Bl.trans (Bl.trans (Bl.trans B7.out B8.out) B9.out) B10.out)) D6.out S2.out).mono ?_
  rintro e w11 ⟨rfl, hq11⟩
  have B11 := Lib.hid (show Bl _ _ from hq11.below)
  clear hq11
  go_wp2_with fail
  refine (waybilllaw11_num.calls  f f _  rfl).mono ?_
  rintro e w12 ⟨rfl, hq12⟩
  have B12 := Lib.hid (show Bl _ _ from hq12.below)
  clear hq12
  go_wp2_with fail
  refine (still_c _ _ _ l _ (Box.call HX1.out (Bl.trans (Bl.trans (Bl.trans (Bl.trans (Bl.trans (Bl.trans (Bl.trans (Bl.trans (Bl.trans (Bl.trans B2.out B3.out) B4.out) B5.out) B6.out) B7.out) B8.out) B9.out) B10.out) B11.out) B12.out)) (Kd.C_below Hr.out (Bl.trans (Bl.trans (Bl.trans (Bl.trans (Bl.trans (Bl.trans (Bl.trans (Bl.trans (Bl.trans (Bl.trans (Bl.trans B1.out B2.out) B3.out) B4.out) B5.out) B6.out) B7.out) B8.out) B9.out) B10.out) B11.out) B12.out)) (by have := Hl.out; omega)).mono ?_
  rintro e w13 ⟨rfl, hq13⟩
  have B13 := Lib.hid (show Bl _ _ from hq13.below)
  clear hq13
  go_wp2_with fail
  have T0 := made R2.out (Bl.alloc (Bl.trans (Bl.trans (Bl.trans (Bl.trans (Bl.trans (Bl.trans (Bl.trans (Bl.trans (Bl.trans (Bl.trans B3.out B4.out) B5.out) B6.out) B7.out) B8.out) B9.out) B10.out) B11.out) B12.out) B13.out) (.cells #[.slice A2 n.length d2, .slice A3 n.length d3, .slice A4 r.length d4, .slice A5 r.length d5] 22))
  have T1 := made R3.out (Bl.alloc (Bl.trans (Bl.trans (Bl.trans (Bl.trans (Bl.trans (Bl.trans (Bl.trans (Bl.trans (Bl.trans B4.out B5.out) B6.out) B7.out) B8.out) B9.out) B10.out) B11.out) B12.out) B13.out) (.cells #[.slice A2 n.length d2, .slice A3 n.length d3, .slice A4 r.length d4, .slice A5 r.length d5] 22))
  have T2 := made R4.out (Bl.alloc (Bl.trans (Bl.trans (Bl.trans (Bl.trans (Bl.trans (Bl.trans (Bl.trans (Bl.trans B5.out B6.out) B7.out) B8.out) B9.out) B10.out) B11.out) B12.out) B13.out) (.cells #[.slice A2 n.length d2, .slice A3 n.length d3, .slice A4 r.length d4, .slice A5 r.length d5] 22))
  have T3 := made R5.out (Bl.alloc (Bl.trans (Bl.trans (Bl.trans (Bl.trans (Bl.trans (Bl.trans (Bl.trans B6.out B7.out) B8.out) B9.out) B10.out) B11.out) B12.out) B13.out) (.cells #[.slice A2 n.length d2, .slice A3 n.length d3, .slice A4 r.length d4, .slice A5 r.length d5] 22))
  have CH := (Chain.cons (lo := w1.heap.size) (mid := w2.heap.size) (Bl.size B2.out) T0.1 (fun k e => Nat.lt_of_lt_of_le (T0.2 k e) (Bl.size (Bl.refl _))) (Chain.cons (lo := w2.heap.size) (mid := w3.heap.size) (Bl.size B3.out) T1.1 (fun k e => Nat.lt_of_lt_of_le (T1.2 k e) (Bl.size (Bl.refl _))) (Chain.cons (lo := w3.heap.size) (mid := w4.heap.size) (Bl.size B4.out) T2.1 (fun k e => Nat.lt_of_lt_of_le (T2.2 k e) (Bl.size (Bl.refl _))) (Chain.cons (lo := w4.heap.size) (mid := w5.heap.size) (Bl.size B5.out) T3.1 (fun k e => Nat.lt_of_lt_of_le (T3.2 k e) (Bl.size (Bl.refl _))) (Chain.nil (Nat.le_refl _))))))
  have RW := CH.rows (base := w.heap.size) (g := w13.heap.size) (Bl.size B1.out) (Bl.size (Bl.trans (Bl.trans (Bl.trans (Bl.trans (Bl.trans (Bl.trans (Bl.trans B6.out B7.out) B8.out) B9.out) B10.out) B11.out) B12.out) B13.out)) (Box.new w13 w13.heap.size _ _ rfl)
  have hsm : ∀ j, (row_ [n, n, r, r] j).length ≤ 140737488351232 := by
    intro j; have := Hn.out; have := Hrl.out
    rcases j with _ | _ | _ | _ | j <;> simp [row_] <;> omega
  have BXin := Box.alloc (Box.call HX1.out (Bl.trans (Bl.trans (Bl.trans (Bl.trans (Bl.trans (Bl.trans (Bl.trans (Bl.trans (Bl.trans (Bl.trans (Bl.trans B2.out B3.out) B4.out) B5.out) B6.out) B7.out) B8.out) B9.out) B10.out) B11.out) B12.out) B13.out)) (.cells #[.slice A2 n.length d2, .slice A3 n.length d3, .slice A4 r.length d4, .slice A5 r.length d5] 22)
  have ltin := Box.lt HX1.out
  have hz : w.heap.size ≤ w1.heap.size := Bl.size B1.out
  have hzin : w1.heap.size ≤ w1.heap.size := Bl.size (Bl.refl _)
  refine (apart_c w _ _ 4 [.slice A2 n.length d2, .slice A3 n.length d3, .slice A4 r.length d4, .slice A5 r.length d5] [n, n, r, r] RW rfl (by simp) hsm (Bl.alloc (Bl.trans (Bl.trans (Bl.trans (Bl.trans (Bl.trans (Bl.trans (Bl.trans (Bl.trans (Bl.trans (Bl.trans (Bl.trans (Bl.trans B1.out B2.out) B3.out) B4.out) B5.out) B6.out) B7.out) B8.out) B9.out) B10.out) B11.out) B12.out) B13.out) (.cells #[.slice A2 n.length d2, .slice A3 n.length d3, .slice A4 r.length d4, .slice A5 r.length d5] 22))).mono ?_
  rintro e w14 ⟨rfl, hb14, hfr⟩
  have hXin : Box w14 (w.heap.size) (marks l 70).toArray 5 := by
    have h9 := hfr (w.heap.size) BXin.lt (fun j hj e => by have := (CH.own j hj).2 _ e; omega)
    unfold Box at BXin ⊢
    rw [h9]; exact BXin
  have HXXin := Lib.hid hXin
  have G14 := Lib.hid (show Bl _ _ from hb14)
  clear hb14 hfr hsm RW CH hz T0 T1 T2 T3 BXin ltin hXin hzin
  go_wp2_with fail
  refine (still_c _ _ _ l _ HXXin.out (Kd.C_below Hr.out G14.out) (by have := Hl.out; omega)).mono ?_
  rintro e w15 ⟨rfl, hq15⟩
  have B15 := Lib.hid (show Bl _ _ from hq15.below)
  clear hq15
  go_wp2_with fail
  go_ret
  exact ⟨rfl, (Bl.trans G14.out B15.out)⟩

--ROW--
set_option maxHeartbeats 1000000 in
set_option maxRecDepth 100000 in
theorem liftedNibbleKeys (os : Os) (started : os.Started) (H : Type) (enc : TypeId × Value → H) (F : Stop.Interp) :
    ReturnsInHanded {} Try.checked os 4 .any ((Rows.OpenSpec.upto Rows.nibbleKeysSpec).pre6 enc Try.prog Try.f4 Rows.nibbleKeysUptoRow.domain false) (((Rows.OpenSpec.upto Rows.nibbleKeysSpec).at F).post enc Try.prog Try.f4 false true false false) := by
  refine returnsInHanded_of_cond (C := Try.checked) (s := Rows.OpenSpec.upto Rows.nibbleKeysSpec) (k := Rows.uptoSmall) rfl own started (by kernel_rfl) Try.func4
    (OpenSpec.witness (enc := enc) (C := Try.checked) (s := Rows.OpenSpec.upto Rows.nibbleKeysSpec) (k := Rows.uptoSmall) rfl false ⟨#[], #[.slice none 0 0], []⟩ 8 (by kernel_rfl) (by kernel_rfl) (by kernel_rfl)
      (x := ([.nil], [], [])) (by kernel_rfl) rfl (by kernel_rfl)) ?_
  intro W base args ds gs before hval0 hW hcnd hk _
  have hval : ∀ (j : Nat) t v, Try.f4.params[j]? = some t → args[j]? = some v → Value.okWide Try.prog W .any base t v := hval0
  have hW' := hW
  obtain ⟨p, q, hA0, hV, rfl, hfz, hnd⟩ := hW
  have hA : DataW.TrodAll enc Try.prog W 0 (fun _ => true) true Try.f4.params.toList args.toList ds p := hA0
  rw [Try.params4] at hA hval
  obtain ⟨v0, vs0, d0, ds0, p0, q0, hargs, rfl, rfl, h0, r0⟩ := trodAll_cons hA
  obtain ⟨rfl, rfl, rfl⟩ := trodAll_nil r0
  obtain rfl : args = #[v0] := by cases args; simp_all
  obtain ⟨rfl, rfl⟩ := trodVars_none hV
  have hbulk := bulk_small hk
  have k0 := h0
  have lt0 : ∀ x ∈ p0, x.block < W.heap.size := by obtain ⟨m, hm⟩ := k0; exact DataW.trod_lt m _ _ _ hm
  obtain ⟨A0, c0, l0, rfl, hC0, hc0, hb0, hn0⟩ := open_bytes (hval 0 22 v0 rfl rfl) h0
  have hl0 : l0.length ≤ 1048576 := Nat.le_trans hn0 (Nat.le_trans (bulk_part (by simp)) hbulk)
  clear hA0 hval0
  refine (walkNibbleKeys W A0 c0 l0 hC0 hc0 hb0 hl0).mono fun e W' ⟨he, bel⟩ => ?_
  subst he
  exact ⟨_, rfl, _, _, _, [], _, [], hW', trodAll_mk1 (shut_bool Try.underlying4 _), (trodAll_cons_mk (Below.trod laidOut (by kernel_rfl) (of_decide_eq_true (by kernel_rfl)) k0 bel lt0) trodAll_mk0), rfl, bel.frame _, fun h => by cases h⟩

theorem provedNibbleKeys : Rows.NibbleKeysUptoSaid :=
  OpenClaim.holds_of_cond 4 Try.f4 rfl rfl rfl rfl rfl rfl rfl ⟨rfl, rfl, rfl, rfl, rfl⟩ rfl rfl rfl rfl rfl (by kernel_rfl) Try.func4 (by kernel_rfl)
    (of_decide_eq_true (by kernel_rfl)) (by unfold Func.isWrapper; first | (rw [if_pos (by decide +kernel)]; kernel_rfl) | (rw [if_neg (by decide +kernel)]; exact ⟨rfl, rfl⟩))
    (fun os started H enc _ F => liftedNibbleKeys os started H enc F)
end Go.Proofs.Ytdagliimdmbeaaa
