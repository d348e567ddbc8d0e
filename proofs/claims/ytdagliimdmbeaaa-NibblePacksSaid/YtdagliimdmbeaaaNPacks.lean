/- The statement NibblePacks: whatever the bytes and the mark, the call returns true and leaves them as they were. -/
import Derived.Test.YtdagliimdmbeaaaNLaw
import Derived.Test.YtdagliimdmbeaaaNPack
set_option linter.unusedSimpArgs false
set_option linter.unusedVariables false
namespace Go.Proofs.Ytdagliimdmbeaaa
open Go Go.ChangeShapes Go.WideShapes Go.ChangeAt Go.RowKit Go.Proofs.YtdagliimdmbeaaaW.PrintWords Go.Proofs.YtdagliimdmbeaaaW.PrintLast Go.Proofs.YtdagliimdmbeaaaW.PrintMore Go.Proofs.Ytdagliimdmbeaaa.Fn


theorem back_l0 (l : List Int) (hl : l.length ≤ 140737488351232) : ∀ (i k : Nat) (acc : List Int), i ≤ l.length → i < k → acc.length + i ≤ l.length → waybilllaw11_backward.l0 k l acc ((i : Int) - 1) = some (acc ++ (l.take i).reverse)
  | 0, k, acc, hi, hk, ha => by
    obtain ⟨k, rfl⟩ : ∃ q, k = q + 1 := ⟨k - 1, by omega⟩
    simp only [waybilllaw11_backward.l0]; rw [if_neg (by omega)]; simp
  | i + 1, k, acc, hi, hk, ha => by
    obtain ⟨k, rfl⟩ : ∃ q, k = q + 1 := ⟨k - 1, by omega⟩
    have e : ((i + 1 : Nat) : Int) - 1 = (i : Int) := by omega
    have hw : wrap64 ((i : Int) - 1) = (i : Int) - 1 := by unfold wrap64; omega
    have hlt : i < l.length := by omega
    have hr : rd l (i : Int) = l[i] := by simp [rd, hlt]
    have ih := back_l0 l hl i k (acc ++ [l[i]]) (by omega) (by omega) (by simp; omega)
    rw [e]
    simp only [waybilllaw11_backward.l0]
    rw [if_pos (by omega), if_pos (by omega), if_pos (by omega), if_pos (by omega), hw, hr, ih, List.take_succ_eq_append_getElem hlt, List.reverse_append, List.append_assoc]
    rfl
theorem back_f (l : List Int) (hl : l.length ≤ 140737488351232) (k : Nat) (hk : l.length < k) : waybilllaw11_backward.f k l = some l.reverse := by
  have := back_l0 l hl l.length k [] (by omega) hk (by simp)
  unfold waybilllaw11_backward.f
  rw [show wrap64 ((l.length : Int) - 1) = (l.length : Int) - 1 by unfold wrap64; omega, this]
  simp

set_option maxHeartbeats 8000000 in
set_option maxRecDepth 100000 in
theorem walkNibblePacks (w : World) (A0 : Option Addr) (c0 : Nat) (l : List Int) (hr : Kd.C (Kd.int .u8) w A0 l.length l) (hc : l.length ≤ c0) (hb : Bytes l) (hl : l.length ≤ 140737488351232) (leaf : Bool) :
    Calls Try.prog 5 #[.slice A0 l.length c0, .bool leaf] w fun e w' => e = .returned (.bool true) ∧ Below w.heap.size w w' := by
  obtain ⟨K, hK⟩ : ∃ K, K = l.length + 5 := ⟨_, rfl⟩
  obtain ⟨o, ho⟩ : ∃ o, o = l.reverse := ⟨_, rfl⟩
  have hol : o.length = l.length := by rw [ho]; simp
  have hob : Bytes o := by rw [ho]; intro x hx; exact hb x (by simpa using hx)
  obtain ⟨⟨r, f⟩, hA⟩ : ∃ x, x = packA l leaf := ⟨_, rfl⟩
  obtain ⟨⟨s, q⟩, hA2⟩ : ∃ x, x = packA o leaf := ⟨_, rfl⟩
  have u1 : nibble_Pack.f K l leaf = some (r, f) := by rw [hA]; exact pack_f l leaf hl hb K (by omega)
  have u2 : waybillref11_Pack.f K l leaf = some (r, f) := by rw [hA]; exact rpack_f l leaf hl hb K (by omega)
  have u3 : nibble_Pack.f K o leaf = some (s, q) := by rw [hA2]; exact pack_f o leaf (by omega) hob K (by omega)
  have u4 : waybillref11_Pack.f K o leaf = some (s, q) := by rw [hA2]; exact rpack_f o leaf (by omega) hob K (by omega)
  have u5 : waybilllaw11_backward.f K l = some o := by rw [ho]; exact back_f l hl K (by omega)
  have hrl : r.length ≤ 140737488351232 := by
    have h1 : r = (packA l leaf).1 := by rw [← hA]
    have h2 := packA_len l leaf
    rw [h1]; omega
  have hsl : s.length ≤ 140737488351232 := by
    have h1 : s = (packA o leaf).1 := by rw [← hA2]
    have h2 := packA_len o leaf
    rw [h1]; omega
  have s1 : waybilllaw11_same.f (r.length + 1) r r = some true := by rw [same_f r r (by omega) _ (by omega)]; simp
  have s2 : waybilllaw11_same.f (s.length + 1) s s = some true := by rw [same_f s s (by omega) _ (by omega)]; simp
  have Hr := Lib.hid hr; have Hc := Lib.hid hc; have Hl := Lib.hid hl; have U1 := Lib.hid u1; have U2 := Lib.hid u2; have U3 := Lib.hid u3; have U4 := Lib.hid u4; have U5 := Lib.hid u5; have Hrl := Lib.hid hrl; have Hsl := Lib.hid hsl; have S1 := Lib.hid s1; have S2 := Lib.hid s2; have HE := Lib.hid hol
  clear hr hc hb hl u1 u2 u3 u4 u5 hrl hsl s1 s2 hA hA2 hK ho hol hob
  go_enter Try.func5, Try.ntmps5
  go_wp2_with fail
  refine (lent_c _ _ l _ Hr.out Hl.out).mono ?_
  rintro e w1 ⟨rfl, hbox1, hb1⟩
  have HI1 := Lib.hid (lent_C hbox1 Hl.out)
  have HX1 := Lib.hid hbox1
  have B1 := Lib.hid hb1
  clear hbox1 hb1
  go_wp2_with fail
  refine (nibble_Pack.calls K _ _ l leaf r f _ HI1.out (by omega) U1.out).mono ?_
  rintro e w2 ⟨v2, rfl, hR2, hb2⟩
  obtain ⟨A2, d2, rfl, hd2, hC2⟩ := Kd.R_reads hR2
  have L2 := Lib.hid (made_lt hR2)
  have R2 := Lib.hid hR2
  have B2 := Lib.hid hb2
  have D2 := Lib.hid hd2
  have C2 := Lib.hid hC2
  clear hR2 hb2 hd2 hC2
  go_wp2_with fail
  refine (nibble_Pack.calls K _ _ l leaf r f _ (Kd.C_below HI1.out B2.out) (by omega) U1.out).mono ?_
  rintro e w3 ⟨v3, rfl, hR3, hb3⟩
  obtain ⟨A3, d3, rfl, hd3, hC3⟩ := Kd.R_reads hR3
  have L3 := Lib.hid (made_lt hR3)
  have R3 := Lib.hid hR3
  have B3 := Lib.hid hb3
  have D3 := Lib.hid hd3
  have C3 := Lib.hid hC3
  clear hR3 hb3 hd3 hC3
  go_wp2_with fail
  refine (waybillref11_Pack.calls K _ _ l leaf r f _ (Kd.C_below Hr.out (Bl.trans (Bl.trans B1.out B2.out) B3.out)) Hc.out U2.out).mono ?_
  rintro e w4 ⟨v4, rfl, hR4, hb4⟩
  obtain ⟨A4, d4, rfl, hd4, hC4⟩ := Kd.R_reads hR4
  have L4 := Lib.hid (made_lt hR4)
  have R4 := Lib.hid hR4
  have B4 := Lib.hid hb4
  have D4 := Lib.hid hd4
  have C4 := Lib.hid hC4
  clear hR4 hb4 hd4 hC4
  go_wp2_with fail
  refine (waybilllaw11_same.calls (r.length + 1) _ _ r _ _ r true _ (Kd.C_below C2.out (Bl.trans B3.out B4.out)) D2.out C4.out D4.out S1.out).mono ?_
  rintro e w5 ⟨rfl, hq5⟩
  have B5 := Lib.hid (show Bl _ _ from hq5.below)
  clear hq5
  go_wp2_with fail
  refine (waybilllaw11_same.calls (r.length + 1) _ _ r _ _ r true _ (Kd.C_below C3.out (Bl.trans B4.out B5.out)) D3.out (Kd.C_below C4.out B5.out) D4.out S1.out).mono ?_
  rintro e w6 ⟨rfl, hq6⟩
  have B6 := Lib.hid (show Bl _ _ from hq6.below)
  clear hq6
  go_wp2_with fail
  refine (waybilllaw11_num.calls  f f _  rfl).mono ?_
  rintro e w7 ⟨rfl, hq7⟩
  have B7 := Lib.hid (show Bl _ _ from hq7.below)
  clear hq7
  go_wp2_with fail
  refine (still_c _ _ _ l _ (Box.call HX1.out (Bl.trans (Bl.trans (Bl.trans (Bl.trans (Bl.trans B2.out B3.out) B4.out) B5.out) B6.out) B7.out)) (Kd.C_below Hr.out (Bl.trans (Bl.trans (Bl.trans (Bl.trans (Bl.trans (Bl.trans B1.out B2.out) B3.out) B4.out) B5.out) B6.out) B7.out)) Hl.out).mono ?_
  rintro e w8 ⟨rfl, hq8⟩
  have B8 := Lib.hid (show Bl _ _ from hq8.below)
  clear hq8
  go_wp2_with fail
  refine (waybilllaw11_backward.calls K _ _ l o _ (Kd.C_below Hr.out (Bl.trans (Bl.trans (Bl.trans (Bl.trans (Bl.trans (Bl.trans (Bl.trans B1.out B2.out) B3.out) B4.out) B5.out) B6.out) B7.out) B8.out)) Hc.out U5.out).mono ?_
  rintro e w9 ⟨v9, rfl, hR9, hb9⟩
  obtain ⟨A9, d9, rfl, hd9, hC9⟩ := Kd.R_reads hR9
  have L9 := Lib.hid (made_lt hR9)
  have R9 := Lib.hid hR9
  have B9 := Lib.hid hb9
  have D9 := Lib.hid hd9
  have C9 := Lib.hid hC9
  clear hR9 hb9 hd9 hC9
  have hcb := (Box.call HX1.out (Bl.trans (Bl.trans (Bl.trans (Bl.trans (Bl.trans (Bl.trans (Bl.trans B2.out B3.out) B4.out) B5.out) B6.out) B7.out) B8.out) B9.out))
  have hcs := Kd.own_of_R R9.out
  have HCB := Lib.hid hcb; have HCS := Lib.hid hcs; clear hcb hcs
  go_wp2_with ((with_reducible refine gate_builtin (b := .copy) (xs := #[.tmp 62, .tmp 63]) rfl ?_); refine wpList_copy_marks _ rfl (.tmp 62) (.tmp 63) rfl (w.heap.size) l o A9 d9 HCB.out (own_news HCS.out) HE.out rfl rfl ?_; intro w10 hX10 hg10; have HX10 := Lib.hid hX10; have GB10 := Lib.hid hg10; clear hX10 hg10)
  have G10 := Lib.hid (show Bl w w10 from Below.grown (Bl.trans (Bl.trans (Bl.trans (Bl.trans (Bl.trans (Bl.trans (Bl.trans (Bl.trans B1.out B2.out) B3.out) B4.out) B5.out) B6.out) B7.out) B8.out) B9.out) GB10.out (Bl.size (Bl.trans (Bl.trans (Bl.trans (Bl.trans (Bl.trans (Bl.trans (Bl.trans (Bl.trans B1.out B2.out) B3.out) B4.out) B5.out) B6.out) B7.out) B8.out) B9.out)) (fun q e => by cases e; exact Bl.size (Bl.refl _)))
  have Z10 := Lib.hid GB10.out.size
  have R2_10 := Lib.hid (R_past (Kd.R_below R2.out (Bl.trans (Bl.trans (Bl.trans (Bl.trans (Bl.trans (Bl.trans B3.out B4.out) B5.out) B6.out) B7.out) B8.out) B9.out)) GB10.out (Nat.lt_of_lt_of_le (Box.lt HX1.out) (Nat.le_refl _)))
  have R3_10 := Lib.hid (R_past (Kd.R_below R3.out (Bl.trans (Bl.trans (Bl.trans (Bl.trans (Bl.trans B4.out B5.out) B6.out) B7.out) B8.out) B9.out)) GB10.out (Nat.lt_of_lt_of_le (Box.lt HX1.out) (Bl.size B2.out)))
  have R4_10 := Lib.hid (R_past (Kd.R_below R4.out (Bl.trans (Bl.trans (Bl.trans (Bl.trans B5.out B6.out) B7.out) B8.out) B9.out)) GB10.out (Nat.lt_of_lt_of_le (Box.lt HX1.out) (Nat.le_trans (Bl.size B2.out) (Bl.size B3.out))))
  have R9_10 := Lib.hid (R_past R9.out GB10.out (Nat.lt_of_lt_of_le (Box.lt HX1.out) (Nat.le_trans (Nat.le_trans (Nat.le_trans (Nat.le_trans (Nat.le_trans (Nat.le_trans (Bl.size B2.out) (Bl.size B3.out)) (Bl.size B4.out)) (Bl.size B5.out)) (Bl.size B6.out)) (Bl.size B7.out)) (Bl.size B8.out))))
  refine calls_of_args (args' := #[.slice (some ⟨w.heap.size, 0, none⟩) o.length (o.length + 70), .bool leaf]) (by rw [HE.out]) ?_
  refine (nibble_Pack.calls K _ _ o leaf s q _ (lent_C HX10.out (by rw [HE.out]; exact Hl.out)) (by omega) U3.out).mono ?_
  rintro e w11 ⟨v11, rfl, hR11, hb11⟩
  obtain ⟨A11, d11, rfl, hd11, hC11⟩ := Kd.R_reads hR11
  have L11 := Lib.hid (made_lt hR11)
  have R11 := Lib.hid hR11
  have B11 := Lib.hid hb11
  have D11 := Lib.hid hd11
  have C11 := Lib.hid hC11
  clear hR11 hb11 hd11 hC11
  go_wp2_with fail
  refine (waybillref11_Pack.calls K _ _ o leaf s q _ (Kd.C_below (Kd.R_reads' R9_10.out).2.2 B11.out) D9.out U4.out).mono ?_
  rintro e w12 ⟨v12, rfl, hR12, hb12⟩
  obtain ⟨A12, d12, rfl, hd12, hC12⟩ := Kd.R_reads hR12
  have L12 := Lib.hid (made_lt hR12)
  have R12 := Lib.hid hR12
  have B12 := Lib.hid hb12
  have D12 := Lib.hid hd12
  have C12 := Lib.hid hC12
  clear hR12 hb12 hd12 hC12
  go_wp2_with fail
  refine (waybilllaw11_same.calls (s.length + 1) _ _ s _ _ s true _ (Kd.C_below C11.out B12.out) D11.out C12.out D12.out S2.out).mono ?_
  rintro e w13 ⟨rfl, hq13⟩
  have B13 := Lib.hid (show Bl _ _ from hq13.below)
  clear hq13
  go_wp2_with fail
  refine (waybilllaw11_num.calls  q q _  rfl).mono ?_
  rintro e w14 ⟨rfl, hq14⟩
  have B14 := Lib.hid (show Bl _ _ from hq14.below)
  clear hq14
  go_wp2_with fail
  refine (waybilllaw11_same.calls (r.length + 1) _ _ r _ _ r true _ (Kd.C_below (Kd.R_reads' R2_10.out).2.2 (Bl.trans (Bl.trans (Bl.trans B11.out B12.out) B13.out) B14.out)) D2.out (Kd.C_below (Kd.R_reads' R4_10.out).2.2 (Bl.trans (Bl.trans (Bl.trans B11.out B12.out) B13.out) B14.out)) D4.out S1.out).mono ?_
  rintro e w15 ⟨rfl, hq15⟩
  have B15 := Lib.hid (show Bl _ _ from hq15.below)
  clear hq15
  go_wp2_with fail
  refine (waybilllaw11_same.calls (r.length + 1) _ _ r _ _ r true _ (Kd.C_below (Kd.R_reads' R3_10.out).2.2 (Bl.trans (Bl.trans (Bl.trans (Bl.trans B11.out B12.out) B13.out) B14.out) B15.out)) D3.out (Kd.C_below (Kd.R_reads' R4_10.out).2.2 (Bl.trans (Bl.trans (Bl.trans (Bl.trans B11.out B12.out) B13.out) B14.out) B15.out)) D4.out S1.out).mono ?_
  rintro e w16 ⟨rfl, hq16⟩
  have B16 := Lib.hid (show Bl _ _ from hq16.below)
  clear hq16
  go_wp2_with fail
  have T0 := made_own R2_10.out (Bl.alloc (Bl.trans (Bl.trans (Bl.trans (Bl.trans (Bl.trans B11.out B12.out) B13.out) B14.out) B15.out) B16.out) (.cells #[.slice A2 r.length d2, .slice A3 r.length d3, .slice A11 s.length d11] 22))
  have T1 := made_own R3_10.out (Bl.alloc (Bl.trans (Bl.trans (Bl.trans (Bl.trans (Bl.trans B11.out B12.out) B13.out) B14.out) B15.out) B16.out) (.cells #[.slice A2 r.length d2, .slice A3 r.length d3, .slice A11 s.length d11] 22))
  have T2 := made_own R11.out (Bl.alloc (Bl.trans (Bl.trans (Bl.trans (Bl.trans B12.out B13.out) B14.out) B15.out) B16.out) (.cells #[.slice A2 r.length d2, .slice A3 r.length d3, .slice A11 s.length d11] 22))
  have CH := (Chain.cons (lo := w1.heap.size) (mid := w2.heap.size) (Bl.size B2.out) T0 (fun k e => Nat.lt_of_lt_of_le (L2.out k e) (Nat.le_refl _)) (Chain.cons (lo := w2.heap.size) (mid := w10.heap.size) (Nat.le_trans (Nat.le_trans (Nat.le_trans (Nat.le_trans (Nat.le_trans (Nat.le_trans (Nat.le_trans (Bl.size B3.out) (Bl.size B4.out)) (Bl.size B5.out)) (Bl.size B6.out)) (Bl.size B7.out)) (Bl.size B8.out)) (Bl.size B9.out)) Z10.out) T1 (fun k e => Nat.lt_of_lt_of_le (L3.out k e) (Nat.le_trans (Nat.le_trans (Nat.le_trans (Nat.le_trans (Nat.le_trans (Nat.le_trans (Bl.size B4.out) (Bl.size B5.out)) (Bl.size B6.out)) (Bl.size B7.out)) (Bl.size B8.out)) (Bl.size B9.out)) Z10.out)) (Chain.cons (lo := w10.heap.size) (mid := w11.heap.size) (Bl.size B11.out) T2 (fun k e => Nat.lt_of_lt_of_le (L11.out k e) (Nat.le_refl _)) (Chain.nil (Nat.le_refl _)))))
  have RW := CH.rows (base := w.heap.size) (g := w16.heap.size) (Bl.size B1.out) (Nat.le_trans (Nat.le_trans (Nat.le_trans (Nat.le_trans (Bl.size B12.out) (Bl.size B13.out)) (Bl.size B14.out)) (Bl.size B15.out)) (Bl.size B16.out)) (Box.new w16 w16.heap.size _ _ rfl)
  have hsm : ∀ j, (row_ [r, r, s] j).length ≤ 140737488351232 := by
    intro j; have := Hrl.out; have := Hsl.out
    rcases j with _ | _ | _ | j <;> simp [row_] <;> omega
  have BXin := Box.alloc (Box.call HX10.out (Bl.trans (Bl.trans (Bl.trans (Bl.trans (Bl.trans B11.out B12.out) B13.out) B14.out) B15.out) B16.out)) (.cells #[.slice A2 r.length d2, .slice A3 r.length d3, .slice A11 s.length d11] 22)
  have ltin := Box.lt HX10.out
  have hz : w.heap.size ≤ w1.heap.size := (Bl.size B1.out)
  have hzin : w.heap.size < w1.heap.size := Nat.lt_of_lt_of_le (Box.lt HX1.out) (Nat.le_refl _)
  refine (apart_c w _ _ 3 [.slice A2 r.length d2, .slice A3 r.length d3, .slice A11 s.length d11] [r, r, s] RW rfl (by simp) hsm (Bl.alloc (Bl.trans (Bl.trans (Bl.trans (Bl.trans (Bl.trans (Bl.trans G10.out B11.out) B12.out) B13.out) B14.out) B15.out) B16.out) (.cells #[.slice A2 r.length d2, .slice A3 r.length d3, .slice A11 s.length d11] 22))).mono ?_
  rintro e w17 ⟨rfl, hb17, hfr⟩
  have hXin : Box w17 (w.heap.size) (marks o 70).toArray 5 := by
    have h9 := hfr (w.heap.size) BXin.lt (fun j hj e => by have := (CH.own j hj).2 _ e; omega)
    unfold Box at BXin ⊢
    rw [h9]; exact BXin
  have HXXin := Lib.hid hXin
  have hoother := made_own R9_10.out (Bl.alloc (Bl.trans (Bl.trans (Bl.trans (Bl.trans (Bl.trans B11.out B12.out) B13.out) B14.out) B15.out) B16.out) (.cells #[.slice A2 r.length d2, .slice A3 r.length d3, .slice A11 s.length d11] 22))
  have hmother := own_move hoother (w1 := w17) (fun q hq => hfr q (own_lt hoother q hq) (fun j hj e => by
    have z1 : w1.heap.size ≤ w2.heap.size := (Bl.size B2.out)
    have z2 : w2.heap.size ≤ w3.heap.size := (Bl.size B3.out)
    have z3 : w3.heap.size ≤ w4.heap.size := (Bl.size B4.out)
    have z4 : w4.heap.size ≤ w5.heap.size := (Bl.size B5.out)
    have z5 : w5.heap.size ≤ w6.heap.size := (Bl.size B6.out)
    have z6 : w6.heap.size ≤ w7.heap.size := (Bl.size B7.out)
    have z7 : w7.heap.size ≤ w8.heap.size := (Bl.size B8.out)
    have z8 : w8.heap.size ≤ w9.heap.size := (Bl.size B9.out)
    have z9 : w9.heap.size ≤ w10.heap.size := Z10.out
    have z10 : w10.heap.size ≤ w11.heap.size := (Bl.size B11.out)
    have q1 := L9.out q hq; have q2 := own_base hoother q hq
    rcases j with _ | _ | _ | j
    · have q3 := L2.out q e; have q4 := own_base T0 q e; omega
    · have q3 := L3.out q e; have q4 := own_base T1 q e; omega
    · have q3 := L11.out q e; have q4 := own_base T2 q e; omega
    · simp at hj; omega))
  have HKother := Lib.hid (show Kd.R (Kd.int .u8) 5 w17 w8.heap.size (fun _ => True) (.slice A9 o.length d9 : Value) o from Kd.R_of_own hmother (fun _ _ => trivial))
  clear hoother hmother
  have G17 := Lib.hid (show Bl _ _ from hb17)
  clear hb17 hfr hsm RW CH hz T0 T1 T2 BXin ltin hXin hzin
  go_wp2_with fail
  refine calls_of_args (args' := #[.slice (some ⟨w.heap.size, 0, none⟩) o.length (o.length + 70), .slice A9 o.length d9]) (by rw [HE.out]) ?_
  refine (still_c _ _ _ o _ HXXin.out (Kd.R_reads' HKother.out).2.2 (by rw [HE.out]; exact Hl.out)).mono ?_
  rintro e w18 ⟨rfl, hq18⟩
  have B18 := Lib.hid (show Bl _ _ from hq18.below)
  clear hq18
  go_wp2_with fail
  go_ret
  exact ⟨rfl, (Bl.trans G17.out B18.out)⟩

--ROW--
set_option maxHeartbeats 1000000 in
set_option maxRecDepth 100000 in
theorem liftedNibblePacks (os : Os) (started : os.Started) (H : Type) (enc : TypeId × Value → H) :
    ReturnsInHanded {} Try.checked os 5 .any (Rows.nibblePacksSpec.pre6 enc Try.prog Try.f5 Rows.nibblePacksRow.domain false) (Rows.nibblePacksSpec.post enc Try.prog Try.f5 false true false false) := by
  refine returnsInHanded_of_change_sized (C := Try.checked) own started (by kernel_rfl) Try.func5
    (ChangeSpec.witness6 (enc := enc) (C := Try.checked) false ⟨#[], #[.slice none 0 0, .bool false], []⟩ 8 (by kernel_rfl) (by kernel_rfl) (by kernel_rfl) (by kernel_rfl)) ?_
  intro W base args ds gs before hval0 hW hcnd hsz0 _
  have hsz : (DataW.weightsEach Try.prog (Try.f5.params.toList ++ Rows.nibblePacksSpec.plain.varTypes Try.prog) (ds ++ gs)).all (· ≤ reachBytes) = true := hsz0
  have hval : ∀ (j : Nat) t v, Try.f5.params[j]? = some t → args[j]? = some v → Value.okWide Try.prog W .any base t v := hval0
  have hW' := hW
  obtain ⟨p, q, hA0, hV, rfl, hfz, hnd⟩ := hW
  have hA : DataW.TrodAll enc Try.prog W 0 (fun _ => true) true Try.f5.params.toList args.toList ds p := hA0
  rw [Try.params5] at hA hval hsz
  obtain ⟨v0, vs0, d0, ds0, p0, q0, hargs, rfl, rfl, h0, r0⟩ := trodAll_cons hA
  obtain ⟨v1, vs1, d1, ds1, p1, q1, rfl, rfl, rfl, h1, r1⟩ := trodAll_cons r0
  obtain ⟨rfl, rfl, rfl⟩ := trodAll_nil r1
  obtain rfl : args = #[v0, v1] := by cases args; simp_all
  obtain ⟨rfl, rfl⟩ := trodVars_none hV
  have k0 := h0
  have lt0 : ∀ x ∈ p0, x.block < W.heap.size := by obtain ⟨m, hm⟩ := k0; exact DataW.trod_lt m _ _ _ hm
  obtain ⟨A0, c0, l0, rfl, hC0, hc0, hb0, hn0⟩ := open_bytes (hval 0 22 v0 rfl rfl) h0
  have hl0 : l0.length ≤ 140737488351232 := by have hz : l0.length * 1 ≤ 140737488351232 := Go.Proofs.YtdagliimdmbeaaaW.PrintWords.sized_ints hsz (j := 0) (t := 22) rfl rfl Try.underlying22 Try.underlying5 (by kernel_rfl) (by kernel_rfl) h0; omega
  obtain ⟨a1, rfl, rfl, rfl⟩ := open_bool Try.underlying4 (hval 1 4 v1 rfl rfl) h1
  clear hA0 hval0
  refine (walkNibblePacks W A0 c0 l0 hC0 hc0 hb0 hl0 a1).mono fun e W' ⟨he, bel⟩ => ?_
  subst he
  exact ⟨_, rfl, _, _, _, [], _, [], hW', trodAll_mk1 (shut_bool Try.underlying4 _), (trodAll_cons_mk (Below.trod laidOut (by kernel_rfl) (of_decide_eq_true (by kernel_rfl)) k0 bel lt0) (trodAll_cons_mk (shut_bool Try.underlying4 _) trodAll_mk0)), rfl, bel.frame _, fun h => by cases h⟩

theorem provedNibblePacks : Rows.NibblePacksSaid :=
  OpenClaim.holds_of_wide 5 Try.f5 rfl rfl rfl rfl rfl rfl rfl ⟨rfl, rfl, rfl, rfl, rfl⟩ rfl rfl rfl rfl rfl (by kernel_rfl) Try.func5 (by kernel_rfl)
    (of_decide_eq_true (by kernel_rfl)) (by unfold Func.isWrapper; first | (rw [if_pos (by decide +kernel)]; kernel_rfl) | (rw [if_neg (by decide +kernel)]; exact ⟨rfl, rfl⟩))
    (fun os started H enc _ => liftedNibblePacks os started H enc)
end Go.Proofs.Ytdagliimdmbeaaa
