/- The statement NibbleOne, in its second form: whatever the bytes (of bulk at most 1048576) and the mark, the call returns true and leaves them as they were. -/
import Derived.Test.YtdagliimdmbeaaaNLaw
import Derived.Test.YtdagliimdmbeaaaNPack
set_option linter.unusedSimpArgs false
set_option linter.unusedVariables false
namespace Go.Proofs.Ytdagliimdmbeaaa
open Go Go.ChangeShapes Go.WideShapes Go.ChangeAt Go.RowKit Go.Proofs.YtdagliimdmbeaaaW.PrintWords Go.Proofs.YtdagliimdmbeaaaW.PrintLast Go.Proofs.YtdagliimdmbeaaaW.PrintMore Go.Proofs.Ytdagliimdmbeaaa.Fn

set_option maxHeartbeats 8000000 in
set_option maxRecDepth 100000 in
theorem walkNibbleOne (w : World) (A0 : Option Addr) (c0 : Nat) (l : List Int) (hr : Kd.C (Kd.int .u8) w A0 l.length l) (hc : l.length ≤ c0) (hb : Bytes l) (hl : l.length ≤ 1048576)
    (A1 : Option Addr) (c1 : Nat) (p : List Int) (hs : Kd.C (Kd.int .u8) w A1 p.length p) (hd : p.length ≤ c1) (hbp : Bytes p) (hlp : p.length ≤ 1048576) (leaf : Bool) :
    Calls Try.prog 9 #[.slice A0 l.length c0, .slice A1 p.length c1, .bool leaf] w fun e w' => e = .returned (.bool true) ∧ Below w.heap.size w w' := by
  obtain ⟨K, hK⟩ : ∃ K, K = 4 * l.length + 4 * p.length + 9 := ⟨_, rfl⟩
  obtain ⟨m, hm⟩ : ∃ m, m = rowN p := ⟨_, rfl⟩
  have hmK : m.length = p.length := by rw [hm, rowN_len]
  have hmn : ∀ x ∈ m, 0 ≤ x ∧ x ≤ 15 := by rw [hm]; exact rowN_nib p
  have hmb : Bytes m := fun x hx => by have := hmn x hx; omega
  have hmf : fineN m = true := by rw [hm]; exact rowN_fine p
  have u3 : waybilllaw11_row.f K p = some m := by rw [hm]; exact row_f p (by omega) hbp K (by omega)
  obtain ⟨q, hq⟩ : ∃ q, q = (packA m leaf).1 := ⟨_, rfl⟩
  have hq2 : (packA m leaf).2 = 0 := by unfold packA; rw [if_pos hmf]; split <;> rfl
  have hql : q.length = m.length / 2 + 1 := by
    rw [hq]; unfold packA; rw [if_pos hmf]; split
    · simp [keyN_length]; omega
    · simp [keyN_length]
  have u4 : nibble_Pack.f K m leaf = some (q, 0) := by rw [pack_f m leaf (by omega) hmb K (by omega), hq, ← hq2]
  obtain ⟨⟨r, mk, e⟩, hA⟩ : ∃ x, x = unpA l := ⟨_, rfl⟩
  have u1 : nibble_Unpack.f K l = some (r, mk, e) := by rw [hA]; exact unp_f l hl hb K (by omega)
  have d3 : ((q.length : Int) == 0) = false := by rw [beq_eq_false_iff_ne]; omega
  have Hr := Lib.hid hr; have Hc := Lib.hid hc; have Hl := Lib.hid hl; have Hs := Lib.hid hs; have Hd := Lib.hid hd; have U1 := Lib.hid u1; have U3 := Lib.hid u3; have U4 := Lib.hid u4
  by_cases he : e = 0
  · subst he
    have hp := pack_unp l hb (by rw [← hA])
    rw [← hA] at hp
    have hrl : r.length ≤ 2 * l.length := by
      have : (unpA l).1.length ≤ 2 * l.length := by
        unfold unpA; split
        · simp
        · split
          · simp
          · split
            · simp [ofN_length]; omega
            · split
              · simp [ofN_length]; omega
              · simp
      rw [← hA] at this; exact this
    have u5 : nibble_Pack.f K r mk = some (l, 0) := by rw [pack_f r mk (by omega) (fun x hx => by have := hp.2 x hx; omega) K (by omega)]; exact congrArg some hp.1
    have s1 : waybilllaw11_same.f (l.length + 1) l l = some true := by rw [same_f l l (by omega) _ (by omega)]; simp
    have U5 := Lib.hid u5; have S1 := Lib.hid s1
    clear hr hc hb hl hs hd hbp hlp u1 u3 u4 u5 s1 hA hK hm hmn hmb hmf hmK hq hq2 hql hp hrl
    go_enter Try.func9, Try.ntmps9
    go_wp2_with fail
    refine (lent_c _ _ l _ Hr.out (by have := Hl.out; omega)).mono ?_
    rintro e w1 ⟨rfl, hbox1, hb1⟩
    have HI1 := Lib.hid (lent_C hbox1 (by have := Hl.out; omega))
    have HX1 := Lib.hid hbox1
    have B1 := Lib.hid hb1
    clear hbox1 hb1
    go_wp2_with fail
    refine (nibble_Unpack.calls K _ _ l r mk 0 _ HI1.out (by omega) U1.out).mono ?_
    rintro e w2 ⟨v2, rfl, hR2, hb2⟩
    obtain ⟨A2, d2, rfl, hd2, hC2⟩ := Kd.R_reads hR2
    have L2 := Lib.hid (made_lt hR2)
    have R2 := Lib.hid hR2
    have B2 := Lib.hid hb2
    have D2 := Lib.hid hd2
    have C2 := Lib.hid hC2
    clear hR2 hb2 hd2 hC2
    go_wp2_with fail
    refine (waybilllaw11_row.calls K _ _ p m _ (Kd.C_below Hs.out (Bl.trans B1.out B2.out)) Hd.out U3.out).mono ?_
    rintro e w3 ⟨v3, rfl, hR3, hb3⟩
    obtain ⟨A3, d3, rfl, hd3, hC3⟩ := Kd.R_reads hR3
    have L3 := Lib.hid (made_lt hR3)
    have R3 := Lib.hid hR3
    have B3 := Lib.hid hb3
    have D3 := Lib.hid hd3
    have C3 := Lib.hid hC3
    clear hR3 hb3 hd3 hC3
    go_wp2_with fail
    refine (nibble_Pack.calls K _ _ m leaf q 0 _ C3.out D3.out U4.out).mono ?_
    rintro e w4 ⟨v4, rfl, hR4, hb4⟩
    obtain ⟨A4, d4, rfl, hd4, hC4⟩ := Kd.R_reads hR4
    have L4 := Lib.hid (made_lt hR4)
    have R4 := Lib.hid hR4
    have B4 := Lib.hid hb4
    have D4 := Lib.hid hd4
    have C4 := Lib.hid hC4
    clear hR4 hb4 hd4 hC4
    go_wp2_with fail
    refine (waybilllaw11_num.calls  0 0 _  rfl).mono ?_
    rintro e w5 ⟨rfl, hq5⟩
    have B5 := Lib.hid (show Bl _ _ from hq5.below)
    clear hq5
    go_wp2_with fail
    refine (waybilllaw11_num.calls  0 0 _  rfl).mono ?_
    rintro e w6 ⟨rfl, hq6⟩
    have B6 := Lib.hid (show Bl _ _ from hq6.below)
    clear hq6
    go_wp2_with fail
    refine (nibble_Pack.calls K _ _ r mk l 0 _ (Kd.C_below C2.out (Bl.trans (Bl.trans (Bl.trans B3.out B4.out) B5.out) B6.out)) D2.out U5.out).mono ?_
    rintro e w7 ⟨v7, rfl, hR7, hb7⟩
    obtain ⟨A7, d7, rfl, hd7, hC7⟩ := Kd.R_reads hR7
    have L7 := Lib.hid (made_lt hR7)
    have R7 := Lib.hid hR7
    have B7 := Lib.hid hb7
    have D7 := Lib.hid hd7
    have C7 := Lib.hid hC7
    clear hR7 hb7 hd7 hC7
    go_wp2_with fail
    refine (waybilllaw11_num.calls  0 0 _  rfl).mono ?_
    rintro e w8 ⟨rfl, hq8⟩
    have B8 := Lib.hid (show Bl _ _ from hq8.below)
    clear hq8
    go_wp2_with fail
    refine (waybilllaw11_same.calls (l.length + 1) _ _ l _ _ l true _ (Kd.C_below C7.out B8.out) D7.out (Kd.C_below Hr.out (Bl.trans (Bl.trans (Bl.trans (Bl.trans (Bl.trans (Bl.trans (Bl.trans B1.out B2.out) B3.out) B4.out) B5.out) B6.out) B7.out) B8.out)) Hc.out S1.out).mono ?_
    rintro e w9 ⟨rfl, hq9⟩
    have B9 := Lib.hid (show Bl _ _ from hq9.below)
    clear hq9
    go_wp2_with fail
    go_ret
    exact ⟨rfl, (Bl.trans (Bl.trans (Bl.trans (Bl.trans (Bl.trans (Bl.trans (Bl.trans (Bl.trans B1.out B2.out) B3.out) B4.out) B5.out) B6.out) B7.out) B8.out) B9.out)⟩

  · have hf := unp_fail l (by rw [← hA]; exact he)
    rw [← hA] at hf
    obtain ⟨h1, h2⟩ := hf
    simp only at h1 h2
    subst h1 h2
    have hne : q ≠ l := by
      intro h
      have h3 := unp_pack m leaf hmn
      rw [← hq, h, ← hA] at h3
      simp only [Prod.mk.injEq] at h3
      exact he h3.2.2
    have s1 : waybilllaw11_same.f (q.length + 1) q l = some false := by rw [same_f q l (by omega) _ (by omega)]; simp [hne]
    have d4 : (e != 0) = true := by rw [bne_iff_ne]; exact he
    have S1 := Lib.hid s1
    clear hr hc hb hl hs hd hbp hlp u1 u3 u4 s1 hA hK hm hmn hmb hmf hmK hq hq2 hql hne he
    go_enter Try.func9, Try.ntmps9
    go_wp2_with fail
    refine (lent_c _ _ l _ Hr.out (by have := Hl.out; omega)).mono ?_
    rintro e w1 ⟨rfl, hbox1, hb1⟩
    have HI1 := Lib.hid (lent_C hbox1 (by have := Hl.out; omega))
    have HX1 := Lib.hid hbox1
    have B1 := Lib.hid hb1
    clear hbox1 hb1
    go_wp2_with fail
    refine (nibble_Unpack.calls K _ _ l ([] : List Int) false e _ HI1.out (by omega) U1.out).mono ?_
    rintro e w2 ⟨v2, rfl, hR2, hb2⟩
    obtain ⟨A2, d2, rfl, hd2, hC2⟩ := Kd.R_reads hR2
    have L2 := Lib.hid (made_lt hR2)
    have R2 := Lib.hid hR2
    have B2 := Lib.hid hb2
    have D2 := Lib.hid hd2
    have C2 := Lib.hid hC2
    clear hR2 hb2 hd2 hC2
    go_wp2_with fail
    refine (waybilllaw11_row.calls K _ _ p m _ (Kd.C_below Hs.out (Bl.trans B1.out B2.out)) Hd.out U3.out).mono ?_
    rintro e w3 ⟨v3, rfl, hR3, hb3⟩
    obtain ⟨A3, d3, rfl, hd3, hC3⟩ := Kd.R_reads hR3
    have L3 := Lib.hid (made_lt hR3)
    have R3 := Lib.hid hR3
    have B3 := Lib.hid hb3
    have D3 := Lib.hid hd3
    have C3 := Lib.hid hC3
    clear hR3 hb3 hd3 hC3
    go_wp2_with fail
    refine (nibble_Pack.calls K _ _ m leaf q 0 _ C3.out D3.out U4.out).mono ?_
    rintro e w4 ⟨v4, rfl, hR4, hb4⟩
    obtain ⟨A4, d4, rfl, hd4, hC4⟩ := Kd.R_reads hR4
    have L4 := Lib.hid (made_lt hR4)
    have R4 := Lib.hid hR4
    have B4 := Lib.hid hb4
    have D4 := Lib.hid hd4
    have C4 := Lib.hid hC4
    clear hR4 hb4 hd4 hC4
    go_wp2_with fail
    refine (waybilllaw11_num.calls  0 0 _  rfl).mono ?_
    rintro e w5 ⟨rfl, hq5⟩
    have B5 := Lib.hid (show Bl _ _ from hq5.below)
    clear hq5
    go_wp2_with fail
    refine (waybilllaw11_num.calls  e e _  rfl).mono ?_
    rintro e w6 ⟨rfl, hq6⟩
    have B6 := Lib.hid (show Bl _ _ from hq6.below)
    clear hq6
    go_wp2_with fail
    refine (waybilllaw11_same.calls (q.length + 1) _ _ q _ _ l false _ (Kd.C_below C4.out (Bl.trans B5.out B6.out)) D4.out (Kd.C_below Hr.out (Bl.trans (Bl.trans (Bl.trans (Bl.trans (Bl.trans B1.out B2.out) B3.out) B4.out) B5.out) B6.out)) Hc.out S1.out).mono ?_
    rintro e w7 ⟨rfl, hq7⟩
    have B7 := Lib.hid (show Bl _ _ from hq7.below)
    clear hq7
    go_wp2_with fail
    go_ret
    exact ⟨rfl, (Bl.trans (Bl.trans (Bl.trans (Bl.trans (Bl.trans (Bl.trans B1.out B2.out) B3.out) B4.out) B5.out) B6.out) B7.out)⟩

--ROW--
set_option maxHeartbeats 1000000 in
set_option maxRecDepth 100000 in
theorem liftedNibbleOne (os : Os) (started : os.Started) (H : Type) (enc : TypeId × Value → H) (F : Stop.Interp) :
    ReturnsInHanded {} Try.checked os 9 .any ((Rows.OpenSpec.upto Rows.nibbleOneSpec).pre6 enc Try.prog Try.f9 Rows.nibbleOneUptoRow.domain false) (((Rows.OpenSpec.upto Rows.nibbleOneSpec).at F).post enc Try.prog Try.f9 false true false false) := by
  refine returnsInHanded_of_cond (C := Try.checked) (s := Rows.OpenSpec.upto Rows.nibbleOneSpec) (k := Rows.uptoSmall) rfl own started (by kernel_rfl) Try.func9
    (OpenSpec.witness (enc := enc) (C := Try.checked) (s := Rows.OpenSpec.upto Rows.nibbleOneSpec) (k := Rows.uptoSmall) rfl false ⟨#[], #[.slice none 0 0, .slice none 0 0, .bool false], []⟩ 8 (by kernel_rfl) (by kernel_rfl) (by kernel_rfl)
      (x := ([.nil, .nil, .lit (.bool false)], [], [])) (by kernel_rfl) rfl (by kernel_rfl)) ?_
  intro W base args ds gs before hval0 hW hcnd hk _
  have hval : ∀ (j : Nat) t v, Try.f9.params[j]? = some t → args[j]? = some v → Value.okWide Try.prog W .any base t v := hval0
  have hW' := hW
  obtain ⟨p, q, hA0, hV, rfl, hfz, hnd⟩ := hW
  have hA : DataW.TrodAll enc Try.prog W 0 (fun _ => true) true Try.f9.params.toList args.toList ds p := hA0
  rw [Try.params9] at hA hval
  obtain ⟨v0, vs0, d0, ds0, p0, q0, hargs, rfl, rfl, h0, r0⟩ := trodAll_cons hA
  obtain ⟨v1, vs1, d1, ds1, p1, q1, rfl, rfl, rfl, h1, r1⟩ := trodAll_cons r0
  obtain ⟨v2, vs2, d2, ds2, p2, q2, rfl, rfl, rfl, h2, r2⟩ := trodAll_cons r1
  obtain ⟨rfl, rfl, rfl⟩ := trodAll_nil r2
  obtain rfl : args = #[v0, v1, v2] := by cases args; simp_all
  obtain ⟨rfl, rfl⟩ := trodVars_none hV
  have hbulk := bulk_small hk
  have k0 := h0
  have lt0 : ∀ x ∈ p0, x.block < W.heap.size := by obtain ⟨m, hm⟩ := k0; exact DataW.trod_lt m _ _ _ hm
  obtain ⟨A0, c0, l0, rfl, hC0, hc0, hb0, hn0⟩ := open_bytes (hval 0 22 v0 rfl rfl) h0
  have hl0 : l0.length ≤ 1048576 := Nat.le_trans hn0 (Nat.le_trans (bulk_part (by simp)) hbulk)
  have k1 := h1
  have lt1 : ∀ x ∈ p1, x.block < W.heap.size := by obtain ⟨m, hm⟩ := k1; exact DataW.trod_lt m _ _ _ hm
  obtain ⟨A1, c1, l1, rfl, hC1, hc1, hb1, hn1⟩ := open_bytes (hval 1 22 v1 rfl rfl) h1
  have hl1 : l1.length ≤ 1048576 := Nat.le_trans hn1 (Nat.le_trans (bulk_part (by simp)) hbulk)
  obtain ⟨a2, rfl, rfl, rfl⟩ := open_bool Try.underlying4 (hval 2 4 v2 rfl rfl) h2
  clear hA0 hval0
  refine (walkNibbleOne W A0 c0 l0 hC0 hc0 hb0 hl0 A1 c1 l1 hC1 hc1 hb1 hl1 a2).mono fun e W' ⟨he, bel⟩ => ?_
  subst he
  exact ⟨_, rfl, _, _, _, [], _, [], hW', trodAll_mk1 (shut_bool Try.underlying4 _), (trodAll_cons_mk (Below.trod laidOut (by kernel_rfl) (of_decide_eq_true (by kernel_rfl)) k0 bel lt0) (trodAll_cons_mk (Below.trod laidOut (by kernel_rfl) (of_decide_eq_true (by kernel_rfl)) k1 bel lt1) (trodAll_cons_mk (shut_bool Try.underlying4 _) trodAll_mk0))), rfl, bel.frame _, fun h => by cases h⟩

theorem provedNibbleOne : Rows.NibbleOneUptoSaid :=
  OpenClaim.holds_of_cond 9 Try.f9 rfl rfl rfl rfl rfl rfl rfl ⟨rfl, rfl, rfl, rfl, rfl⟩ rfl rfl rfl rfl rfl (by kernel_rfl) Try.func9 (by kernel_rfl)
    (of_decide_eq_true (by kernel_rfl)) (by unfold Func.isWrapper; first | (rw [if_pos (by decide +kernel)]; kernel_rfl) | (rw [if_neg (by decide +kernel)]; exact ⟨rfl, rfl⟩))
    (fun os started H enc _ F => liftedNibbleOne os started H enc F)
end Go.Proofs.Ytdagliimdmbeaaa
