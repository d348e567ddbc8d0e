/- The statement NibbleBack, in its second form: whatever the bytes (of bulk at most 1048576) and the mark, the call returns true and leaves them as they were. -/
import Derived.Test.YtdagliimdmbeaaaNLaw
import Derived.Test.YtdagliimdmbeaaaNPack
set_option linter.unusedSimpArgs false
set_option linter.unusedVariables false
namespace Go.Proofs.Ytdagliimdmbeaaa
open Go Go.ChangeShapes Go.WideShapes Go.ChangeAt Go.RowKit Go.Proofs.YtdagliimdmbeaaaW.PrintWords Go.Proofs.YtdagliimdmbeaaaW.PrintLast Go.Proofs.YtdagliimdmbeaaaW.PrintMore Go.Proofs.Ytdagliimdmbeaaa.Fn

set_option maxHeartbeats 8000000 in
set_option maxRecDepth 100000 in
theorem walkNibbleBack (w : World) (A0 : Option Addr) (c0 : Nat) (l : List Int) (hr : Kd.C (Kd.int .u8) w A0 l.length l) (hc : l.length ≤ c0) (hb : Bytes l) (hl : l.length ≤ 1048576)
    (A1 : Option Addr) (c1 : Nat) (p : List Int) (hs : Kd.C (Kd.int .u8) w A1 p.length p) (hd : p.length ≤ c1) (hbp : Bytes p) (hlp : p.length ≤ 1048576) (leaf : Bool) :
    Calls Try.prog 8 #[.slice A0 l.length c0, .slice A1 p.length c1, .bool leaf] w fun e w' => e = .returned (.bool true) ∧ Below w.heap.size w w' := by
  obtain ⟨K, hK⟩ : ∃ K, K = 4 * l.length + 4 * p.length + 9 := ⟨_, rfl⟩
  obtain ⟨n, hn⟩ : ∃ n, n = ofN l := ⟨_, rfl⟩
  have hnl : n.length = 2 * l.length := by rw [hn, ofN_length]
  have hnb : Bytes n := by rw [hn]; exact fun x hx => by have := ofN_bytes l hb x hx; omega
  have hnf : fineN n = true := by rw [hn]; unfold fineN; rw [List.all_eq_true]; intro x hx; simpa using (ofN_bytes l hb x hx).2
  obtain ⟨m, hm⟩ : ∃ m, m = rowN p := ⟨_, rfl⟩
  have hml : m.length ≤ 1048576 := by rw [hm, rowN_len]; exact hlp
  have hmn : ∀ x ∈ m, 0 ≤ x ∧ x ≤ 15 := by rw [hm]; exact rowN_nib p
  have hmb : Bytes m := fun x hx => by have := hmn x hx; omega
  have hmf : fineN m = true := by rw [hm]; exact rowN_fine p
  have hmK : m.length = p.length := by rw [hm, rowN_len]
  have u1 : nibble_Of.f K l = some n := by rw [hn]; exact of_f l hl hb K (by omega)
  have u2 : nibble_Key.f K n = some (l, 0) := by rw [key_f n (by omega) hnb K (by omega), key_fine hnf (by omega), hn, keyN_ofN]
  have u3 : waybilllaw11_row.f K p = some m := by rw [hm]; exact row_f p (by omega) hbp K (by omega)
  obtain ⟨q, hq⟩ : ∃ q, q = (packA m leaf).1 := ⟨_, rfl⟩
  have hq2 : (packA m leaf).2 = 0 := by unfold packA; rw [if_pos hmf]; split <;> rfl
  have hql : q.length = m.length / 2 + 1 := by
    rw [hq]; unfold packA; rw [if_pos hmf]; split
    · simp [keyN_length]; omega
    · simp [keyN_length]
  have u4 : nibble_Pack.f K m leaf = some (q, 0) := by rw [pack_f m leaf (by omega) hmb K (by omega), hq, ← hq2]
  have u5 : nibble_Unpack.f K q = some (m, leaf, 0) := by rw [unp_f q (by omega) (by rw [hq]; exact packA_bytes m leaf hmn) K (by omega), hq, unp_pack m leaf hmn]
  obtain ⟨⟨t, z⟩, hA⟩ : ∃ x, x = keyA m := ⟨_, rfl⟩
  have u6 : nibble_Key.f K m = some (t, z) := by rw [hA]; exact key_f m (by omega) hmb K (by omega)
  have s1 : waybilllaw11_same.f (l.length + 1) l l = some true := by rw [same_f l l (by omega) _ (by omega)]; simp
  have s2 : waybilllaw11_same.f (m.length + 1) m m = some true := by rw [same_f m m (by omega) _ (by omega)]; simp
  have Hr := Lib.hid hr; have Hc := Lib.hid hc; have Hl := Lib.hid hl; have Hs := Lib.hid hs; have Hd := Lib.hid hd; have U1 := Lib.hid u1; have U2 := Lib.hid u2; have U3 := Lib.hid u3; have U4 := Lib.hid u4; have U5 := Lib.hid u5; have U6 := Lib.hid u6; have Hml := Lib.hid hml; have S1 := Lib.hid s1; have S2 := Lib.hid s2; have Hql := Lib.hid hql
  by_cases hodd : m.length % 2 = 1
  · have e0 : t = [] ∧ z = 110 := by
      have h1 : keyA m = ([], 110) := if_neg (fun h => by omega)
      rw [h1] at hA; simpa using hA
    obtain ⟨rfl, rfl⟩ := e0
    have d1 : ((m.length : Int) % 2 == 1) = true := by rw [beq_iff_eq]; omega
    have d2 : ((q.length : Int) != (m.length : Int) / 2 + 1) = false := by rw [bne_eq_false_iff_eq]; omega
    have hmI : (m.length : Int) ≤ 1048576 := by omega
    clear hr hc hb hl hs hd hbp hlp u1 u2 u3 u4 u5 u6 s1 s2 hA hK hn hnl hnb hnf hm hml hmn hmb hmf hmK hq hq2 hql hodd
    go_enter Try.func8, Try.ntmps8
    go_wp2_with fail
    refine (lent_c _ _ l _ Hr.out (by have := Hl.out; omega)).mono ?_
    rintro e w1 ⟨rfl, hbox1, hb1⟩
    have HI1 := Lib.hid (lent_C hbox1 (by have := Hl.out; omega))
    have HX1 := Lib.hid hbox1
    have B1 := Lib.hid hb1
    clear hbox1 hb1
    go_wp2_with fail
    refine (nibble_Of.calls K _ _ l n _ HI1.out (by omega) U1.out).mono ?_
    rintro e w2 ⟨v2, rfl, hR2, hb2⟩
    obtain ⟨A2, d2, rfl, hd2, hC2⟩ := Kd.R_reads hR2
    have L2 := Lib.hid (made_lt hR2)
    have R2 := Lib.hid hR2
    have B2 := Lib.hid hb2
    have D2 := Lib.hid hd2
    have C2 := Lib.hid hC2
    clear hR2 hb2 hd2 hC2
    go_wp2_with fail
    refine (nibble_Key.calls K _ _ n l 0 _ C2.out D2.out U2.out).mono ?_
    rintro e w3 ⟨v3, rfl, hR3, hb3⟩
    obtain ⟨A3, d3, rfl, hd3, hC3⟩ := Kd.R_reads hR3
    have L3 := Lib.hid (made_lt hR3)
    have R3 := Lib.hid hR3
    have B3 := Lib.hid hb3
    have D3 := Lib.hid hd3
    have C3 := Lib.hid hC3
    clear hR3 hb3 hd3 hC3
    go_wp2_with fail
    refine (waybilllaw11_row.calls K _ _ p m _ (Kd.C_below Hs.out (Bl.trans (Bl.trans B1.out B2.out) B3.out)) Hd.out U3.out).mono ?_
    rintro e w4 ⟨v4, rfl, hR4, hb4⟩
    obtain ⟨A4, d4, rfl, hd4, hC4⟩ := Kd.R_reads hR4
    have L4 := Lib.hid (made_lt hR4)
    have R4 := Lib.hid hR4
    have B4 := Lib.hid hb4
    have D4 := Lib.hid hd4
    have C4 := Lib.hid hC4
    clear hR4 hb4 hd4 hC4
    go_wp2_with fail
    refine (lent_c _ _ m _ C4.out (by have := Hml.out; omega)).mono ?_
    rintro e w5 ⟨rfl, hbox5, hb5⟩
    have HI5 := Lib.hid (lent_C hbox5 (by have := Hml.out; omega))
    have HX5 := Lib.hid hbox5
    have B5 := Lib.hid hb5
    clear hbox5 hb5
    go_wp2_with fail
    refine (nibble_Pack.calls K _ _ m leaf q 0 _ HI5.out (by omega) U4.out).mono ?_
    rintro e w6 ⟨v6, rfl, hR6, hb6⟩
    obtain ⟨A6, d6, rfl, hd6, hC6⟩ := Kd.R_reads hR6
    have L6 := Lib.hid (made_lt hR6)
    have R6 := Lib.hid hR6
    have B6 := Lib.hid hb6
    have D6 := Lib.hid hd6
    have C6 := Lib.hid hC6
    clear hR6 hb6 hd6 hC6
    go_wp2_with fail
    refine (nibble_Unpack.calls K _ _ q m leaf 0 _ C6.out D6.out U5.out).mono ?_
    rintro e w7 ⟨v7, rfl, hR7, hb7⟩
    obtain ⟨A7, d7, rfl, hd7, hC7⟩ := Kd.R_reads hR7
    have L7 := Lib.hid (made_lt hR7)
    have R7 := Lib.hid hR7
    have B7 := Lib.hid hb7
    have D7 := Lib.hid hd7
    have C7 := Lib.hid hC7
    clear hR7 hb7 hd7 hC7
    go_wp2_with fail
    refine (waybilllaw11_num.calls  0 0 _  rfl).mono ?_
    rintro e w8 ⟨rfl, hq8⟩
    have B8 := Lib.hid (show Bl _ _ from hq8.below)
    clear hq8
    go_wp2_with fail
    refine (waybilllaw11_num.calls  0 0 _  rfl).mono ?_
    rintro e w9 ⟨rfl, hq9⟩
    have B9 := Lib.hid (show Bl _ _ from hq9.below)
    clear hq9
    go_wp2_with fail
    refine (waybilllaw11_num.calls  0 0 _  rfl).mono ?_
    rintro e w10 ⟨rfl, hq10⟩
    have B10 := Lib.hid (show Bl _ _ from hq10.below)
    clear hq10
    go_wp2_with fail
    refine (waybilllaw11_same.calls (l.length + 1) _ _ l _ _ l true _ (Kd.C_below C3.out (Bl.trans (Bl.trans (Bl.trans (Bl.trans (Bl.trans (Bl.trans B4.out B5.out) B6.out) B7.out) B8.out) B9.out) B10.out)) D3.out (Kd.C_below Hr.out (Bl.trans (Bl.trans (Bl.trans (Bl.trans (Bl.trans (Bl.trans (Bl.trans (Bl.trans (Bl.trans B1.out B2.out) B3.out) B4.out) B5.out) B6.out) B7.out) B8.out) B9.out) B10.out)) Hc.out S1.out).mono ?_
    rintro e w11 ⟨rfl, hq11⟩
    have B11 := Lib.hid (show Bl _ _ from hq11.below)
    clear hq11
    go_wp2_with fail
    refine (waybilllaw11_same.calls (m.length + 1) _ _ m _ _ m true _ (Kd.C_below C7.out (Bl.trans (Bl.trans (Bl.trans B8.out B9.out) B10.out) B11.out)) D7.out (Kd.C_below C4.out (Bl.trans (Bl.trans (Bl.trans (Bl.trans (Bl.trans (Bl.trans B5.out B6.out) B7.out) B8.out) B9.out) B10.out) B11.out)) D4.out S2.out).mono ?_
    rintro e w12 ⟨rfl, hq12⟩
    have B12 := Lib.hid (show Bl _ _ from hq12.below)
    clear hq12
    go_wp2_with fail
    refine (lent_c _ _ m _ (Kd.C_below C4.out (Bl.trans (Bl.trans (Bl.trans (Bl.trans (Bl.trans (Bl.trans (Bl.trans B5.out B6.out) B7.out) B8.out) B9.out) B10.out) B11.out) B12.out)) (by have := Hml.out; omega)).mono ?_
    rintro e w13 ⟨rfl, hbox13, hb13⟩
    have HI13 := Lib.hid (lent_C hbox13 (by have := Hml.out; omega))
    have HX13 := Lib.hid hbox13
    have B13 := Lib.hid hb13
    clear hbox13 hb13
    go_wp2_with fail
    refine (nibble_Key.calls K _ _ m ([] : List Int) 110 _ HI13.out (by omega) U6.out).mono ?_
    rintro e w14 ⟨v14, rfl, hR14, hb14⟩
    obtain ⟨A14, d14, rfl, hd14, hC14⟩ := Kd.R_reads hR14
    have L14 := Lib.hid (made_lt hR14)
    have R14 := Lib.hid hR14
    have B14 := Lib.hid hb14
    have D14 := Lib.hid hd14
    have C14 := Lib.hid hC14
    clear hR14 hb14 hd14 hC14
    go_wp2_with fail
    refine (waybilllaw11_num.calls  110 110 _  rfl).mono ?_
    rintro e w15 ⟨rfl, hq15⟩
    have B15 := Lib.hid (show Bl _ _ from hq15.below)
    clear hq15
    go_wp2_with fail
    go_ret
    exact ⟨rfl, (Bl.trans (Bl.trans (Bl.trans (Bl.trans (Bl.trans (Bl.trans (Bl.trans (Bl.trans (Bl.trans (Bl.trans (Bl.trans (Bl.trans (Bl.trans (Bl.trans B1.out B2.out) B3.out) B4.out) B5.out) B6.out) B7.out) B8.out) B9.out) B10.out) B11.out) B12.out) B13.out) B14.out) B15.out)⟩

  · have hkf := key_fine hmf (by omega)
    rw [hkf] at hA
    simp only [Prod.mk.injEq] at hA
    obtain ⟨ht, hz⟩ := hA
    subst hz
    have htl : t.length ≤ 1048576 := by rw [ht, keyN_length]; omega
    have u7 : nibble_Of.f K t = some m := by rw [of_f t htl (by rw [ht]; exact keyN_bytes m hmn) K (by rw [ht, keyN_length]; omega), ht, ofN_keyN m hmn (by omega)]
    have d1 : ((m.length : Int) % 2 == 1) = false := by rw [beq_eq_false_iff_ne]; omega
    have d2 : ((q.length : Int) != (m.length : Int) / 2 + 1) = false := by rw [bne_eq_false_iff_eq]; omega
    have hmI : (m.length : Int) ≤ 1048576 := by omega
    have U7 := Lib.hid u7
    clear hr hc hb hl hs hd hbp hlp u1 u2 u3 u4 u5 u6 s1 s2 hK hn hnl hnb hnf hm hml hmn hmb hmf hmK hq hq2 hql hodd hkf ht htl u7
    go_enter Try.func8, Try.ntmps8
    go_wp2_with fail
    refine (lent_c _ _ l _ Hr.out (by have := Hl.out; omega)).mono ?_
    rintro e w1 ⟨rfl, hbox1, hb1⟩
    have HI1 := Lib.hid (lent_C hbox1 (by have := Hl.out; omega))
    have HX1 := Lib.hid hbox1
    have B1 := Lib.hid hb1
    clear hbox1 hb1
    go_wp2_with fail
    refine (nibble_Of.calls K _ _ l n _ HI1.out (by omega) U1.out).mono ?_
    rintro e w2 ⟨v2, rfl, hR2, hb2⟩
    obtain ⟨A2, d2, rfl, hd2, hC2⟩ := Kd.R_reads hR2
    have L2 := Lib.hid (made_lt hR2)
    have R2 := Lib.hid hR2
    have B2 := Lib.hid hb2
    have D2 := Lib.hid hd2
    have C2 := Lib.hid hC2
    clear hR2 hb2 hd2 hC2
    go_wp2_with fail
    refine (nibble_Key.calls K _ _ n l 0 _ C2.out D2.out U2.out).mono ?_
    rintro e w3 ⟨v3, rfl, hR3, hb3⟩
    obtain ⟨A3, d3, rfl, hd3, hC3⟩ := Kd.R_reads hR3
    have L3 := Lib.hid (made_lt hR3)
    have R3 := Lib.hid hR3
    have B3 := Lib.hid hb3
    have D3 := Lib.hid hd3
    have C3 := Lib.hid hC3
    clear hR3 hb3 hd3 hC3
    go_wp2_with fail
    refine (waybilllaw11_row.calls K _ _ p m _ (Kd.C_below Hs.out (Bl.trans (Bl.trans B1.out B2.out) B3.out)) Hd.out U3.out).mono ?_
    rintro e w4 ⟨v4, rfl, hR4, hb4⟩
    obtain ⟨A4, d4, rfl, hd4, hC4⟩ := Kd.R_reads hR4
    have L4 := Lib.hid (made_lt hR4)
    have R4 := Lib.hid hR4
    have B4 := Lib.hid hb4
    have D4 := Lib.hid hd4
    have C4 := Lib.hid hC4
    clear hR4 hb4 hd4 hC4
    go_wp2_with fail
    refine (lent_c _ _ m _ C4.out (by have := Hml.out; omega)).mono ?_
    rintro e w5 ⟨rfl, hbox5, hb5⟩
    have HI5 := Lib.hid (lent_C hbox5 (by have := Hml.out; omega))
    have HX5 := Lib.hid hbox5
    have B5 := Lib.hid hb5
    clear hbox5 hb5
    go_wp2_with fail
    refine (nibble_Pack.calls K _ _ m leaf q 0 _ HI5.out (by omega) U4.out).mono ?_
    rintro e w6 ⟨v6, rfl, hR6, hb6⟩
    obtain ⟨A6, d6, rfl, hd6, hC6⟩ := Kd.R_reads hR6
    have L6 := Lib.hid (made_lt hR6)
    have R6 := Lib.hid hR6
    have B6 := Lib.hid hb6
    have D6 := Lib.hid hd6
    have C6 := Lib.hid hC6
    clear hR6 hb6 hd6 hC6
    go_wp2_with fail
    refine (nibble_Unpack.calls K _ _ q m leaf 0 _ C6.out D6.out U5.out).mono ?_
    rintro e w7 ⟨v7, rfl, hR7, hb7⟩
    obtain ⟨A7, d7, rfl, hd7, hC7⟩ := Kd.R_reads hR7
    have L7 := Lib.hid (made_lt hR7)
    have R7 := Lib.hid hR7
    have B7 := Lib.hid hb7
    have D7 := Lib.hid hd7
    have C7 := Lib.hid hC7
    clear hR7 hb7 hd7 hC7
    go_wp2_with fail
    refine (waybilllaw11_num.calls  0 0 _  rfl).mono ?_
    rintro e w8 ⟨rfl, hq8⟩
    have B8 := Lib.hid (show Bl _ _ from hq8.below)
    clear hq8
    go_wp2_with fail
    refine (waybilllaw11_num.calls  0 0 _  rfl).mono ?_
    rintro e w9 ⟨rfl, hq9⟩
    have B9 := Lib.hid (show Bl _ _ from hq9.below)
    clear hq9
    go_wp2_with fail
    refine (waybilllaw11_num.calls  0 0 _  rfl).mono ?_
    rintro e w10 ⟨rfl, hq10⟩
    have B10 := Lib.hid (show Bl _ _ from hq10.below)
    clear hq10
    go_wp2_with fail
    refine (waybilllaw11_same.calls (l.length + 1) _ _ l _ _ l true _ (Kd.C_below C3.out (Bl.trans (Bl.trans (Bl.trans (Bl.trans (Bl.trans (Bl.trans B4.out B5.out) B6.out) B7.out) B8.out) B9.out) B10.out)) D3.out (Kd.C_below Hr.out (Bl.trans (Bl.trans (Bl.trans (Bl.trans (Bl.trans (Bl.trans (Bl.trans (Bl.trans (Bl.trans B1.out B2.out) B3.out) B4.out) B5.out) B6.out) B7.out) B8.out) B9.out) B10.out)) Hc.out S1.out).mono ?_
    rintro e w11 ⟨rfl, hq11⟩
    have B11 := Lib.hid (show Bl _ _ from hq11.below)
    clear hq11
    go_wp2_with fail
    refine (waybilllaw11_same.calls (m.length + 1) _ _ m _ _ m true _ (Kd.C_below C7.out (Bl.trans (Bl.trans (Bl.trans B8.out B9.out) B10.out) B11.out)) D7.out (Kd.C_below C4.out (Bl.trans (Bl.trans (Bl.trans (Bl.trans (Bl.trans (Bl.trans B5.out B6.out) B7.out) B8.out) B9.out) B10.out) B11.out)) D4.out S2.out).mono ?_
    rintro e w12 ⟨rfl, hq12⟩
    have B12 := Lib.hid (show Bl _ _ from hq12.below)
    clear hq12
    go_wp2_with fail
    refine (lent_c _ _ m _ (Kd.C_below C4.out (Bl.trans (Bl.trans (Bl.trans (Bl.trans (Bl.trans (Bl.trans (Bl.trans B5.out B6.out) B7.out) B8.out) B9.out) B10.out) B11.out) B12.out)) (by have := Hml.out; omega)).mono ?_
    rintro e w13 ⟨rfl, hbox13, hb13⟩
    have HI13 := Lib.hid (lent_C hbox13 (by have := Hml.out; omega))
    have HX13 := Lib.hid hbox13
    have B13 := Lib.hid hb13
    clear hbox13 hb13
    go_wp2_with fail
    refine (nibble_Key.calls K _ _ m t 0 _ HI13.out (by omega) U6.out).mono ?_
    rintro e w14 ⟨v14, rfl, hR14, hb14⟩
    obtain ⟨A14, d14, rfl, hd14, hC14⟩ := Kd.R_reads hR14
    have L14 := Lib.hid (made_lt hR14)
    have R14 := Lib.hid hR14
    have B14 := Lib.hid hb14
    have D14 := Lib.hid hd14
    have C14 := Lib.hid hC14
    clear hR14 hb14 hd14 hC14
    go_wp2_with fail
    refine (waybilllaw11_num.calls  0 0 _  rfl).mono ?_
    rintro e w15 ⟨rfl, hq15⟩
    have B15 := Lib.hid (show Bl _ _ from hq15.below)
    clear hq15
    go_wp2_with fail
    refine (nibble_Of.calls K _ _ t m _ (Kd.C_below C14.out B15.out) D14.out U7.out).mono ?_
    rintro e w16 ⟨v16, rfl, hR16, hb16⟩
    obtain ⟨A16, d16, rfl, hd16, hC16⟩ := Kd.R_reads hR16
    have L16 := Lib.hid (made_lt hR16)
    have R16 := Lib.hid hR16
    have B16 := Lib.hid hb16
    have D16 := Lib.hid hd16
    have C16 := Lib.hid hC16
    clear hR16 hb16 hd16 hC16
    go_wp2_with fail
    refine (waybilllaw11_same.calls (m.length + 1) _ _ m _ _ m true _ C16.out D16.out (Kd.C_below C4.out (Bl.trans (Bl.trans (Bl.trans (Bl.trans (Bl.trans (Bl.trans (Bl.trans (Bl.trans (Bl.trans (Bl.trans (Bl.trans B5.out B6.out) B7.out) B8.out) B9.out) B10.out) B11.out) B12.out) B13.out) B14.out) B15.out) B16.out)) D4.out S2.out).mono ?_
    rintro e w17 ⟨rfl, hq17⟩
    have B17 := Lib.hid (show Bl _ _ from hq17.below)
    clear hq17
    go_wp2_with fail
    go_ret
    exact ⟨rfl, (Bl.trans (Bl.trans (Bl.trans (Bl.trans (Bl.trans (Bl.trans (Bl.trans (Bl.trans (Bl.trans (Bl.trans (Bl.trans (Bl.trans (Bl.trans (Bl.trans (Bl.trans (Bl.trans B1.out B2.out) B3.out) B4.out) B5.out) B6.out) B7.out) B8.out) B9.out) B10.out) B11.out) B12.out) B13.out) B14.out) B15.out) B16.out) B17.out)⟩

--ROW--
set_option maxHeartbeats 1000000 in
set_option maxRecDepth 100000 in
theorem liftedNibbleBack (os : Os) (started : os.Started) (H : Type) (enc : TypeId × Value → H) (F : Stop.Interp) :
    ReturnsInHanded {} Try.checked os 8 .any ((Rows.OpenSpec.upto Rows.nibbleBackSpec).pre6 enc Try.prog Try.f8 Rows.nibbleBackUptoRow.domain false) (((Rows.OpenSpec.upto Rows.nibbleBackSpec).at F).post enc Try.prog Try.f8 false true false false) := by
  refine returnsInHanded_of_cond (C := Try.checked) (s := Rows.OpenSpec.upto Rows.nibbleBackSpec) (k := Rows.uptoSmall) rfl own started (by kernel_rfl) Try.func8
    (OpenSpec.witness (enc := enc) (C := Try.checked) (s := Rows.OpenSpec.upto Rows.nibbleBackSpec) (k := Rows.uptoSmall) rfl false ⟨#[], #[.slice none 0 0, .slice none 0 0, .bool false], []⟩ 8 (by kernel_rfl) (by kernel_rfl) (by kernel_rfl)
      (x := ([.nil, .nil, .lit (.bool false)], [], [])) (by kernel_rfl) rfl (by kernel_rfl)) ?_
  intro W base args ds gs before hval0 hW hcnd hk _
  have hval : ∀ (j : Nat) t v, Try.f8.params[j]? = some t → args[j]? = some v → Value.okWide Try.prog W .any base t v := hval0
  have hW' := hW
  obtain ⟨p, q, hA0, hV, rfl, hfz, hnd⟩ := hW
  have hA : DataW.TrodAll enc Try.prog W 0 (fun _ => true) true Try.f8.params.toList args.toList ds p := hA0
  rw [Try.params8] at hA hval
  obtain ⟨v0, vs0, d0, ds0, p0, q0, hargs, rfl, rfl, h0, r0⟩ := trodAll_cons hA
  obtain ⟨v1, vs1, d1, ds1, p1, q1, rfl, rfl, rfl, h1, r1⟩ := trodAll_cons r0
  obtain ⟨v2, vs2, d2, ds2, p2, q2, rfl, rfl, rfl, h2, r2⟩ := trodAll_cons r1
  obtain ⟨rfl, rfl, rfl⟩ := trodAll_nil r2
  obtain rfl : args = #[v0, v1, v2] := by cases args; simp_all
  obtain ⟨rfl, rfl⟩ := trodVars_none hV
  have hbulk := bulk_small hk
  have k0 := h0
  have lt0 : ∀ x ∈ p0, x.block < W.heap.size := by obtain ⟨m, hm⟩ := k0; exact DataW.trod_lt m _ _ _ hm
  obtain ⟨A0, c0, l0, rfl, hC0, hc0, hb0, hn0⟩ := open_bytes (hval 0 22 v0 rfl rfl) h0
  have hl0 : l0.length ≤ 1048576 := Nat.le_trans hn0 (Nat.le_trans (bulk_part (by simp)) hbulk)
  have k1 := h1
  have lt1 : ∀ x ∈ p1, x.block < W.heap.size := by obtain ⟨m, hm⟩ := k1; exact DataW.trod_lt m _ _ _ hm
  obtain ⟨A1, c1, l1, rfl, hC1, hc1, hb1, hn1⟩ := open_bytes (hval 1 22 v1 rfl rfl) h1
  have hl1 : l1.length ≤ 1048576 := Nat.le_trans hn1 (Nat.le_trans (bulk_part (by simp)) hbulk)
  obtain ⟨a2, rfl, rfl, rfl⟩ := open_bool Try.underlying4 (hval 2 4 v2 rfl rfl) h2
  clear hA0 hval0
  refine (walkNibbleBack W A0 c0 l0 hC0 hc0 hb0 hl0 A1 c1 l1 hC1 hc1 hb1 hl1 a2).mono fun e W' ⟨he, bel⟩ => ?_
  subst he
  exact ⟨_, rfl, _, _, _, [], _, [], hW', trodAll_mk1 (shut_bool Try.underlying4 _), (trodAll_cons_mk (Below.trod laidOut (by kernel_rfl) (of_decide_eq_true (by kernel_rfl)) k0 bel lt0) (trodAll_cons_mk (Below.trod laidOut (by kernel_rfl) (of_decide_eq_true (by kernel_rfl)) k1 bel lt1) (trodAll_cons_mk (shut_bool Try.underlying4 _) trodAll_mk0))), rfl, bel.frame _, fun h => by cases h⟩

theorem provedNibbleBack : Rows.NibbleBackUptoSaid :=
  OpenClaim.holds_of_cond 8 Try.f8 rfl rfl rfl rfl rfl rfl rfl ⟨rfl, rfl, rfl, rfl, rfl⟩ rfl rfl rfl rfl rfl (by kernel_rfl) Try.func8 (by kernel_rfl)
    (of_decide_eq_true (by kernel_rfl)) (by unfold Func.isWrapper; first | (rw [if_pos (by decide +kernel)]; kernel_rfl) | (rw [if_neg (by decide +kernel)]; exact ⟨rfl, rfl⟩))
    (fun os started H enc _ F => liftedNibbleBack os started H enc F)
end Go.Proofs.Ytdagliimdmbeaaa
