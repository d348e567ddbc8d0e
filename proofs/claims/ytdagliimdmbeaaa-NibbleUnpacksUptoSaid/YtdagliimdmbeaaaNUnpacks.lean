/- The statement NibbleUnpacks, in its second form: whatever the bytes (of bulk at most 1048576) the call returns true and leaves them as they were. -/
import Derived.Test.YtdagliimdmbeaaaNLaw
set_option linter.unusedSimpArgs false
set_option linter.unusedVariables false
namespace Go.Proofs.Ytdagliimdmbeaaa
open Go Go.ChangeShapes Go.WideShapes Go.ChangeAt Go.RowKit Go.Proofs.YtdagliimdmbeaaaW.PrintWords Go.Proofs.YtdagliimdmbeaaaW.PrintLast Go.Proofs.YtdagliimdmbeaaaW.PrintMore Go.Proofs.Ytdagliimdmbeaaa.Fn

theorem unpA_len (d : List Int) : (unpA d).1.length ≤ 2 * d.length := by
  unfold unpA
  split
  · simp
  · split
    · simp
    · split
      · simp [ofN_length]; omega
      · split
        · simp [ofN_length]; omega
        · simp

set_option maxHeartbeats 4000000 in
set_option maxRecDepth 100000 in
theorem walkNibbleUnpacks (w : World) (A0 : Option Addr) (c0 : Nat) (l : List Int) (hr : Kd.C (Kd.int .u8) w A0 l.length l) (hc : l.length ≤ c0) (hb : Bytes l) (hl : l.length ≤ 1048576) :
    Calls Try.prog 3 #[.slice A0 l.length c0] w fun e w' => e = .returned (.bool true) ∧ Below w.heap.size w w' := by
  obtain ⟨K, hK⟩ : ∃ K, K = l.length + 5 := ⟨_, rfl⟩
  obtain ⟨⟨r, m, f⟩, hA⟩ : ∃ x, x = unpA l := ⟨_, rfl⟩
  have u1 : nibble_Unpack.f K l = some (r, m, f) := by rw [hA]; exact unp_f l hl hb K (by omega)
  have u2 : waybillref11_Unpack.f K l = some (r, m, f) := by rw [hA]; exact runp_f l hl hb K (by omega)
  have hrl : r.length ≤ 2097152 := by
    have h1 : r = (unpA l).1 := by rw [← hA]
    rw [h1]; have := unpA_len l; omega
  have s1 : waybilllaw11_same.f (r.length + 1) r r = some true := by rw [same_f r r (by omega) _ (by omega)]; simp
  have Hr := Lib.hid hr; have Hc := Lib.hid hc; have Hl := Lib.hid hl; have U1 := Lib.hid u1; have U2 := Lib.hid u2; have Hrl := Lib.hid hrl; have S1 := Lib.hid s1
  clear hr hc hb hl u1 u2 hrl s1 hA hK
  go_enter Try.func3, Try.ntmps3
  go_wp2_with fail
  refine (lent_c A0 c0 l _ Hr.out (by have := Hl.out; omega)).mono ?_
  rintro e w1 ⟨rfl, hbox1, hb1⟩
  have HX := Lib.hid hbox1; have B1 := Lib.hid hb1; have HI := Lib.hid (lent_C hbox1 (by have := Hl.out; omega))
  clear hbox1 hb1
  go_wp2_with fail
  refine (nibble_Unpack.calls K _ _ l r m f _ HI.out (by omega) U1.out).mono ?_
  rintro e w2 ⟨v1, rfl, hR1, hb2⟩
  obtain ⟨A1, d1, rfl, hd1, hC1⟩ := Kd.R_reads hR1
  have R1 := Lib.hid hR1; have B2 := Lib.hid hb2; have D1 := Lib.hid hd1; have C1 := Lib.hid hC1
  clear hR1 hb2 hd1 hC1
  go_wp2_with fail
  refine (nibble_Unpack.calls K _ _ l r m f _ (Kd.C_below HI.out B2.out) (by omega) U1.out).mono ?_
  rintro e w3 ⟨v2, rfl, hR2, hb3⟩
  obtain ⟨A2, d2, rfl, hd2, hC2⟩ := Kd.R_reads hR2
  have R2 := Lib.hid hR2; have B3 := Lib.hid hb3; have D2 := Lib.hid hd2; have C2 := Lib.hid hC2
  clear hR2 hb3 hd2 hC2
  have G2 := Lib.hid (below_then B1.out B1.out.size B2.out)
  have G3 := Lib.hid (below_then G2.out G2.out.size B3.out)
  go_wp2_with fail
  refine (waybillref11_Unpack.calls K _ _ l r m f _ (Kd.C_below Hr.out G3.out) Hc.out U2.out).mono ?_
  rintro e w4 ⟨v3, rfl, hR3, hb4⟩
  obtain ⟨A3, d3, rfl, hd3, hC3⟩ := Kd.R_reads hR3
  have B4 := Lib.hid hb4; have D3 := Lib.hid hd3; have C3 := Lib.hid hC3
  clear hR3 hb4 hd3 hC3
  have G4 := Lib.hid (below_then G3.out G3.out.size B4.out)
  have B24 := Lib.hid (below_then B3.out B3.out.size B4.out)
  have B14 := Lib.hid (below_then B2.out B2.out.size B24.out)
  go_wp2_with fail
  refine (waybilllaw11_same.calls (r.length + 1) _ _ r _ _ r true _ (Kd.C_below C1.out B24.out) D1.out C3.out D3.out S1.out).mono ?_
  rintro e w5 ⟨rfl, hq5⟩
  have B5 := Lib.hid hq5.below
  clear hq5
  go_wp2_with fail
  refine (waybilllaw11_same.calls (r.length + 1) _ _ r _ _ r true _ (Kd.C_below C2.out (below_then B4.out B4.out.size B5.out)) D2.out (Kd.C_below C3.out B5.out) D3.out S1.out).mono ?_
  rintro e w6 ⟨rfl, hq6⟩
  have B6 := Lib.hid hq6.below
  clear hq6
  go_wp2_with fail
  refine (waybilllaw11_num.calls f f _ rfl).mono ?_
  rintro e w7 ⟨rfl, hq7⟩
  have B7 := Lib.hid hq7.below
  clear hq7
  have B47 := Lib.hid (below_then B5.out B5.out.size (below_then B6.out B6.out.size B7.out))
  have B17 := Lib.hid (below_then B14.out B14.out.size B47.out)
  have G7 := Lib.hid (below_then B1.out B1.out.size B17.out)
  go_wp2_with fail
  refine (still_c _ A0 c0 l _ (HX.out.below B17.out HX.out.lt) (Kd.C_below Hr.out G7.out) (by have := Hl.out; omega)).mono ?_
  rintro e w8 ⟨rfl, hq8⟩
  have B8 := Lib.hid hq8.below
  clear hq8
  have B48 := Lib.hid (below_then B47.out B47.out.size B8.out)
  have B18 := Lib.hid (below_then B17.out B17.out.size B8.out)
  have G8 := Lib.hid (below_then G7.out G7.out.size B8.out)
  go_wp2_with fail
  have hlt1 := HX.out.lt
  have E2 := below_then B24.out B24.out.size B48.out
  have E3 := below_then B4.out B4.out.size B48.out
  have T1 := made R1.out (E2.alloc E2.size (.cells #[.slice A1 r.length d1, .slice A2 r.length d2] 22))
  have T2 := made R2.out (E3.alloc E3.size (.cells #[.slice A1 r.length d1, .slice A2 r.length d2] 22))
  have CH := Chain.cons (lo := w1.heap.size) B2.out.size T1.1 T1.2 (Chain.cons B3.out.size T2.1 T2.2 (Chain.nil (Nat.le_refl _)))
  have RW := CH.rows (base := w.heap.size) (g := w8.heap.size) B1.out.size E3.size (Box.new w8 w8.heap.size _ _ rfl)
  have hsm : ∀ j, (row_ [r, r] j).length ≤ 140000000000000 := by
    intro j; have := Hrl.out
    rcases j with _ | _ | j <;> simp [row_] <;> omega
  have GA := G8.out.alloc G8.out.size (.cells #[.slice A1 r.length d1, .slice A2 r.length d2] 22)
  have BX := (HX.out.below B18.out HX.out.lt).alloc (.cells #[.slice A1 r.length d1, .slice A2 r.length d2] 22)
  refine (apart_c w _ _ 2 [.slice A1 r.length d1, .slice A2 r.length d2] [r, r] RW rfl (by simp) hsm GA).mono ?_
  rintro e w9 ⟨rfl, hb9, hfr⟩
  have hX9 : Box w9 w.heap.size (marks l 70).toArray 5 := by
    have h9 := hfr w.heap.size BX.lt (fun j hj e => by have := (CH.own j hj).2 _ e; omega)
    unfold Box at BX ⊢
    rw [h9]; exact BX
  have HX9 := Lib.hid hX9; have B9 := Lib.hid hb9
  clear hX9 hb9 hfr BX GA hsm RW CH T1 T2 E2 E3 hlt1
  go_wp2_with fail
  refine (still_c _ A0 c0 l _ HX9.out (Kd.C_below Hr.out B9.out) (by have := Hl.out; omega)).mono ?_
  rintro e w10 ⟨rfl, hq10⟩
  have B10 := Lib.hid (below_then B9.out B9.out.size hq10.below)
  clear hq10
  go_wp2_with fail
  go_ret
  exact ⟨rfl, B10.out⟩

--ROW--
set_option maxHeartbeats 1000000 in
set_option maxRecDepth 100000 in
theorem liftedNibbleUnpacks (os : Os) (started : os.Started) (H : Type) (enc : TypeId × Value → H) (F : Stop.Interp) :
    ReturnsInHanded {} Try.checked os 3 .any ((Rows.OpenSpec.upto Rows.nibbleUnpacksSpec).pre6 enc Try.prog Try.f3 Rows.nibbleUnpacksUptoRow.domain false) (((Rows.OpenSpec.upto Rows.nibbleUnpacksSpec).at F).post enc Try.prog Try.f3 false true false false) := by
  refine returnsInHanded_of_cond (C := Try.checked) (s := Rows.OpenSpec.upto Rows.nibbleUnpacksSpec) (k := Rows.uptoSmall) rfl own started (by kernel_rfl) Try.func3
    (OpenSpec.witness (enc := enc) (C := Try.checked) (s := Rows.OpenSpec.upto Rows.nibbleUnpacksSpec) (k := Rows.uptoSmall) rfl false ⟨#[], #[.slice none 0 0], []⟩ 8 (by kernel_rfl) (by kernel_rfl) (by kernel_rfl)
      (x := ([.nil], [], [])) (by kernel_rfl) rfl (by kernel_rfl)) ?_
  intro W base args ds gs before hval0 hW hcnd hk _
  have hval : ∀ (j : Nat) t v, Try.f3.params[j]? = some t → args[j]? = some v → Value.okWide Try.prog W .any base t v := hval0
  have hW' := hW
  obtain ⟨p, q, hA0, hV, rfl, hfz, hnd⟩ := hW
  have hA : DataW.TrodAll enc Try.prog W 0 (fun _ => true) true Try.f3.params.toList args.toList ds p := hA0
  rw [Try.params3] at hA hval
  obtain ⟨v0, vs0, d0, ds0, p0, q0, hargs, rfl, rfl, h0, r0⟩ := trodAll_cons hA
  obtain ⟨rfl, rfl, rfl⟩ := trodAll_nil r0
  obtain rfl : args = #[v0] := by cases args; simp_all
  obtain ⟨rfl, rfl⟩ := trodVars_none hV
  have hbulk := bulk_small hk
  have k0 := h0
  have lt0 : ∀ x ∈ p0, x.block < W.heap.size := by obtain ⟨m, hm⟩ := k0; exact DataW.trod_lt m _ _ _ hm
  obtain ⟨A0, c0, l0, rfl, hC0, hc0, hb0, hn0⟩ := open_bytes (hval 0 22 v0 rfl rfl) h0
  have hl0 : l0.length ≤ 1048576 := Nat.le_trans hn0 (Nat.le_trans (bulk_part (by simp)) hbulk)
  clear hA0 hval0
  refine (walkNibbleUnpacks W A0 c0 l0 hC0 hc0 hb0 hl0).mono fun e W' ⟨he, bel⟩ => ?_
  subst he
  exact ⟨_, rfl, _, _, _, [], _, [], hW', trodAll_mk1 (shut_bool Try.underlying4 _), (trodAll_cons_mk (Below.trod laidOut (by kernel_rfl) (of_decide_eq_true (by kernel_rfl)) k0 bel lt0) trodAll_mk0), rfl, bel.frame _, fun h => by cases h⟩

theorem provedNibbleUnpacks : Rows.NibbleUnpacksUptoSaid :=
  OpenClaim.holds_of_cond 3 Try.f3 rfl rfl rfl rfl rfl rfl rfl ⟨rfl, rfl, rfl, rfl, rfl⟩ rfl rfl rfl rfl rfl (by kernel_rfl) Try.func3 (by kernel_rfl)
    (of_decide_eq_true (by kernel_rfl)) (by unfold Func.isWrapper; first | (rw [if_pos (by decide +kernel)]; kernel_rfl) | (rw [if_neg (by decide +kernel)]; exact ⟨rfl, rfl⟩))
    (fun os started H enc _ F => liftedNibbleUnpacks os started H enc F)
end Go.Proofs.Ytdagliimdmbeaaa
