/- The statement NibbleOrder, in its second form: whatever the bytes (of bulk at most 1048576), the call returns true and leaves them as they were. -/
import Derived.Test.YtdagliimdmbeaaaNLaw
import Derived.Test.YtdagliimdmbeaaaNCmp
set_option linter.unusedSimpArgs false
set_option linter.unusedVariables false
namespace Go.Proofs.Ytdagliimdmbeaaa
open Go Go.ChangeShapes Go.WideShapes Go.ChangeAt Go.RowKit Go.Proofs.YtdagliimdmbeaaaW.PrintWords Go.Proofs.YtdagliimdmbeaaaW.PrintLast Go.Proofs.YtdagliimdmbeaaaW.PrintMore Go.Proofs.Ytdagliimdmbeaaa.Fn


theorem lit_C {w : World} {g : Nat} {x : Int} (h : Box w g #[.int .u8 x] 5) : Kd.C (Kd.int .u8) w (some ⟨g, 0, none⟩) [x].length [x] := by
  refine Kd.C_of_reads (d := (0 : Int)) (h1 := fun _ => rfl) ⟨rfl, by simp, fun _ => ⟨_, rfl, fun j hj => ?_⟩⟩
  obtain rfl : j = 0 := by simp at hj; omega
  rw [Addr.add_lit, h.cell]; rfl
set_option maxHeartbeats 16000000 in
set_option maxRecDepth 100000 in
theorem walkNibbleOrder (w : World) (A0 : Option Addr) (c0 : Nat) (a : List Int) (ha : Kd.C (Kd.int .u8) w A0 a.length a) (hac : a.length ≤ c0) (hba : Bytes a) (hla : a.length ≤ 1048576)
    (A1 : Option Addr) (c1 : Nat) (b : List Int) (hb : Kd.C (Kd.int .u8) w A1 b.length b) (hbc : b.length ≤ c1) (hbb : Bytes b) (hlb : b.length ≤ 1048576)
    (A2 : Option Addr) (c2 : Nat) (c : List Int) (hc : Kd.C (Kd.int .u8) w A2 c.length c) (hcc : c.length ≤ c2) (hbc' : Bytes c) (hlc : c.length ≤ 1048576) :
    Calls Try.prog 7 #[.slice A0 a.length c0, .slice A1 b.length c1, .slice A2 c.length c2] w fun e w' => e = .returned (.bool true) ∧ Below w.heap.size w w' := by
  obtain ⟨K, hK⟩ : ∃ K, K = 2 * a.length + 2 * b.length + 2 * c.length + 9 := ⟨_, rfl⟩
  obtain ⟨x, hx⟩ : ∃ x, x = lexN a b := ⟨_, rfl⟩
  obtain ⟨y, hy⟩ : ∃ x, x = lexN b c := ⟨_, rfl⟩
  obtain ⟨z, hz⟩ : ∃ x, x = lexN a c := ⟨_, rfl⟩
  obtain ⟨sb, hsb⟩ : ∃ s, s = decide (a = b) := ⟨_, rfl⟩
  obtain ⟨n, hn⟩ : ∃ n, n = comN a b := ⟨_, rfl⟩
  obtain ⟨p, hp⟩ : ∃ p, p = ofN a := ⟨_, rfl⟩
  obtain ⟨q, hq⟩ : ∃ p, p = ofN b := ⟨_, rfl⟩
  obtain ⟨m, hm⟩ : ∃ m : Int, m = (comN p q : Int) := ⟨_, rfl⟩
  have hpl : p.length = 2 * a.length := by rw [hp, ofN_length]
  have hql : q.length = 2 * b.length := by rw [hq, ofN_length]
  have u1 : nibble_Compare.f K a b = some x := by rw [cmp_f a b (by omega) K (by omega), cmpN_lex, hx]
  have u2 : nibble_Compare.f K b c = some y := by rw [cmp_f b c (by omega) K (by omega), cmpN_lex, hy]
  have u3 : nibble_Compare.f K a c = some z := by rw [cmp_f a c (by omega) K (by omega), cmpN_lex, hz]
  have u4 : nibble_Compare.f K b a = some (-x) := by rw [cmp_f b a (by omega) K (by omega), cmpN_lex, lex_anti, hx]
  have u5 : waybilllaw11_same.f K a b = some sb := by rw [same_f a b (by omega) K (by omega), hsb]
  have u6 : nibble_Common.f K a b = some (n : Int) := by unfold nibble_Common.f; rw [com_f a b (by omega) K (by omega), hn]; rfl
  have u7 : nibble_Of.f K a = some p := by rw [of_f a hla hba K (by omega), hp]
  have u8 : nibble_Of.f K b = some q := by rw [of_f b hlb hbb K (by omega), hq]
  have u9 : nibble_Common.f K p q = some m := by unfold nibble_Common.f; rw [com_f p q (by omega) K (by omega), hm]; rfl
  have u10 : nibble_Compare.f K p q = some x := by rw [cmp_f p q (by omega) K (by omega), cmpN_lex, hp, hq, lex_of a b hba hbb, hx]
  have U12 : nibble_Compare.f 5 [1] [2] = some (-1) := by rw [cmp_f [1] [2] (by simp) 5 (by simp)]; decide +kernel
  have HX : Hid (x = -1 ∨ x = 0 ∨ x = 1) := Lib.hid (by rw [hx]; exact lex_bd a b)
  have HY : Hid (y = -1 ∨ y = 0 ∨ y = 1) := Lib.hid (by rw [hy]; exact lex_bd b c)
  have HZ1 : Hid (x ≤ 0 → y ≤ 0 → z ≤ 0) := Lib.hid (by rw [hx, hy, hz]; exact lex_trans a b c)
  have HZ2 : Hid (0 ≤ x → 0 ≤ y → 0 ≤ z) := Lib.hid (by rw [hx, hy, hz]; exact lex_trans' a b c)
  have gsb : ((x : Int) == 0) = sb := by
    rw [hsb, hx]
    by_cases h : a = b
    · rw [decide_eq_true h, (lex_zero a b).2 h]; rfl
    · rw [decide_eq_false h, beq_eq_false_iff_ne]; exact fun e => h ((lex_zero a b).1 e)
  have hle := comN_le a b
  rw [← hn] at hle
  have hmn : m = 2 * (n : Int) ∨ m = 2 * (n : Int) + 1 := by
    have := com_of a b hba hbb
    rw [← hp, ← hq, ← hn] at this
    omega
  have htk : a.take n = b.take n := by rw [hn]; exact com_take a b
  have hat : n < a.length → n < b.length → a.getD n 0 ≠ b.getD n 0 := by rw [hn]; exact comN_at a b
  obtain ⟨i8, hi8, hz8, hs8, hb8⟩ := info_parts info8
  have Ha := Lib.hid ha; have Hb := Lib.hid hb; have Hc := Lib.hid hc; have Hac := Lib.hid hac; have Hbc := Lib.hid hbc; have Hcc := Lib.hid hcc
  have U1 := Lib.hid u1; have U2 := Lib.hid u2; have U3 := Lib.hid u3; have U4 := Lib.hid u4; have U5 := Lib.hid u5; have U6 := Lib.hid u6; have U7 := Lib.hid u7; have U8 := Lib.hid u8; have U9 := Lib.hid u9; have U10 := Lib.hid u10
  have hx1 : -1 ≤ x := by rcases HX.out with h | h | h <;> omega
  have hx2 : x ≤ 1 := by rcases HX.out with h | h | h <;> omega
  have HLE := Lib.hid hle; have HM := Lib.hid hmn; have HTK := Lib.hid htk; have HAT := Lib.hid hat; have HPL := Lib.hid hpl; have HQL := Lib.hid hql
  have HI8 := Lib.hid hi8; have HS8 := Lib.hid hs8; have HLA := Lib.hid hla; have HLB := Lib.hid hlb
  clear hle hmn htk hat hpl hql hi8 hz8 hs8 hb8 hla hlb hlc
  have HKK : Hid (K = 2 * a.length + 2 * b.length + 2 * c.length + 9) := Lib.hid hK
  clear ha hb hc hac hbc hcc hba hbb hbc' u1 u2 u3 u4 u5 u6 u7 u8 u9 u10 hK hx hy hz hsb hn hp hq hm
  go_enter Try.func7, Try.ntmps7
  go_wp2_with fail
  refine (nibble_Compare.calls K _ _ a _ _ b x _ Ha.out Hac.out Hb.out Hbc.out U1.out).mono ?_
  rintro e w1 ⟨rfl, hq1⟩
  have B1 := Lib.hid (show Bl _ _ from hq1.below)
  clear hq1
  go_wp2_with fail
  refine (nibble_Compare.calls K _ _ b _ _ c y _ (Kd.C_below Hb.out B1.out) Hbc.out (Kd.C_below Hc.out B1.out) Hcc.out U2.out).mono ?_
  rintro e w2 ⟨rfl, hq2⟩
  have B2 := Lib.hid (show Bl _ _ from hq2.below)
  clear hq2
  go_wp2_with fail
  refine (nibble_Compare.calls K _ _ a _ _ c z _ (Kd.C_below Ha.out (Bl.trans B1.out B2.out)) Hac.out (Kd.C_below Hc.out (Bl.trans B1.out B2.out)) Hcc.out U3.out).mono ?_
  rintro e w3 ⟨rfl, hq3⟩
  have B3 := Lib.hid (show Bl _ _ from hq3.below)
  clear hq3
  go_wp2_with fail
  refine (nibble_Compare.calls K _ _ b _ _ a (-x) _ (Kd.C_below Hb.out (Bl.trans (Bl.trans B1.out B2.out) B3.out)) Hbc.out (Kd.C_below Ha.out (Bl.trans (Bl.trans B1.out B2.out) B3.out)) Hac.out U4.out).mono ?_
  rintro e w4 ⟨rfl, hq4⟩
  have B4 := Lib.hid (show Bl _ _ from hq4.below)
  clear hq4
  go_wp2_with fail
  refine (waybilllaw11_same.calls K _ _ a _ _ b sb _ (Kd.C_below Ha.out (Bl.trans (Bl.trans (Bl.trans B1.out B2.out) B3.out) B4.out)) Hac.out (Kd.C_below Hb.out (Bl.trans (Bl.trans (Bl.trans B1.out B2.out) B3.out) B4.out)) Hbc.out U5.out).mono ?_
  rintro e w5 ⟨rfl, hq5⟩
  have B5 := Lib.hid (show Bl _ _ from hq5.below)
  clear hq5
  go_wp2_with fail
  have hq1 : Box ((w5.alloc (.cells #[.int .u8 1] 5)).alloc (.cells #[.int .u8 2] 5)) w5.heap.size #[.int .u8 1] 5 := (Box.new w5 _ _ _ rfl).alloc _
  have hq2 : Box ((w5.alloc (.cells #[.int .u8 1] 5)).alloc (.cells #[.int .u8 2] 5)) (w5.heap.size + 1) #[.int .u8 2] 5 := Box.new _ _ _ _ (by simp)
  refine (nibble_Compare.calls 5 _ _ [1] _ _ [2] (-1) _ (lit_C hq1) (by simp) (lit_C hq2) (by simp) U12).mono ?_
  rintro e w6 ⟨rfl, hq6⟩
  have B6 := Lib.hid (show Bl _ _ from Below.trans (Below.alloc (Below.alloc (Below.refl _ _) (Nat.le_refl _) _) (by simp) _) (hq6.below.mono (by simp; omega)))
  clear hq6 hq1 hq2
  go_upto_region 6 with fail
  go_cut [6, 70] (fun v6 v70 wx => v6 = .bool false ∧ v70 = .bool false ∧ wx = w6)
  case first =>
    clear hx1 hx2
    rcases HX.out with rfl | rfl | rfl <;> rcases HY.out with rfl | rfl | rfl
    all_goals
      (try have dz1 : decide (0 < z) = false := by have := HZ1.out (by decide) (by decide); simp; omega)
      (try have dz2 : decide (z < 0) = false := by have := HZ2.out (by decide) (by decide); simp; omega)
      clear HX HY HZ1 HZ2
      go_wp2_with fail
      go_meet
      exact ⟨rfl, rfl, rfl⟩
  case rest =>
    obtain ⟨rfl, rfl, rfl⟩ := hcut
    go_wp2_with fail
    refine (nibble_Common.calls K _ _ a _ _ b (n : Int) _ (Kd.C_below Ha.out (Bl.trans (Bl.trans (Bl.trans (Bl.trans (Bl.trans B1.out B2.out) B3.out) B4.out) B5.out) B6.out)) Hac.out (Kd.C_below Hb.out (Bl.trans (Bl.trans (Bl.trans (Bl.trans (Bl.trans B1.out B2.out) B3.out) B4.out) B5.out) B6.out)) Hbc.out U6.out).mono ?_
    rintro e w7 ⟨rfl, hq7⟩
    have B7 := Lib.hid (show Bl _ _ from hq7.below)
    clear hq7
    go_wp2_with fail
    refine (nibble_Of.calls K _ _ a p _ (Kd.C_below Ha.out (Bl.trans (Bl.trans (Bl.trans (Bl.trans (Bl.trans (Bl.trans B1.out B2.out) B3.out) B4.out) B5.out) B6.out) B7.out)) Hac.out U7.out).mono ?_
    rintro e w8 ⟨v8, rfl, hR8, hb8⟩
    obtain ⟨A8, d8, rfl, hd8, hC8⟩ := Kd.R_reads hR8
    have L8 := Lib.hid (made_lt hR8)
    have R8 := Lib.hid hR8
    have B8 := Lib.hid hb8
    have D8 := Lib.hid hd8
    have C8 := Lib.hid hC8
    clear hR8 hb8 hd8 hC8
    go_wp2_with fail
    refine (nibble_Of.calls K _ _ b q _ (Kd.C_below Hb.out (Bl.trans (Bl.trans (Bl.trans (Bl.trans (Bl.trans (Bl.trans (Bl.trans B1.out B2.out) B3.out) B4.out) B5.out) B6.out) B7.out) B8.out)) Hbc.out U8.out).mono ?_
    rintro e w9 ⟨v9, rfl, hR9, hb9⟩
    obtain ⟨A9, d9, rfl, hd9, hC9⟩ := Kd.R_reads hR9
    have L9 := Lib.hid (made_lt hR9)
    have R9 := Lib.hid hR9
    have B9 := Lib.hid hb9
    have D9 := Lib.hid hd9
    have C9 := Lib.hid hC9
    clear hR9 hb9 hd9 hC9
    go_wp2_with fail
    refine (nibble_Common.calls K _ _ p _ _ q m _ (Kd.C_below C8.out B9.out) D8.out C9.out D9.out U9.out).mono ?_
    rintro e w10 ⟨rfl, hq10⟩
    have B10 := Lib.hid (show Bl _ _ from hq10.below)
    clear hq10
    have hCa := (Kd.C_below Ha.out (Bl.trans (Bl.trans (Bl.trans (Bl.trans (Bl.trans (Bl.trans (Bl.trans (Bl.trans (Bl.trans B1.out B2.out) B3.out) B4.out) B5.out) B6.out) B7.out) B8.out) B9.out) B10.out)); have hCb := (Kd.C_below Hb.out (Bl.trans (Bl.trans (Bl.trans (Bl.trans (Bl.trans (Bl.trans (Bl.trans (Bl.trans (Bl.trans B1.out B2.out) B3.out) B4.out) B5.out) B6.out) B7.out) B8.out) B9.out) B10.out))
    have hle_ta : n ≤ a.length := by have := HLE.out; omega
    have hln_ta : (a.take n).length = n := by rw [List.length_take]; omega
    have hr_ta : ∀ W : World, (Instr.slice 22 (.slice A0 a.length c0) none (some (.int .i64 (n : Int))) none).run Try.prog W = .ok (.slice A0 n c0) W := by
      intro W
      have h := (print_take_int (P := Try.prog) (k := .u8) 22 5 Try.underlying22 HI8.out HS8.out A0 c0 a (n : Int) (by omega) (by omega) Hac.out).1 W
      rw [Int.toNat_natCast, hln_ta] at h; exact h
    have hq_ta : ∀ W : World, Kd.C (Kd.int .u8) W A0 a.length a → Kd.C (Kd.int .u8) W A0 n (a.take n) := by
      intro W hW
      have h := (print_take_int (P := Try.prog) (k := .u8) 22 5 Try.underlying22 HI8.out HS8.out A0 c0 a (n : Int) (by omega) (by omega) Hac.out).2.1 W (Kd.reads_of_C hW)
      rw [Int.toNat_natCast, hln_ta] at h; exact Kd.C_of_reads (d := (0 : Int)) (h1 := fun _ => rfl) h
    have hle_tb : n ≤ b.length := by have := HLE.out; omega
    have hln_tb : (b.take n).length = n := by rw [List.length_take]; omega
    have hr_tb : ∀ W : World, (Instr.slice 22 (.slice A1 b.length c1) none (some (.int .i64 (n : Int))) none).run Try.prog W = .ok (.slice A1 n c1) W := by
      intro W
      have h := (print_take_int (P := Try.prog) (k := .u8) 22 5 Try.underlying22 HI8.out HS8.out A1 c1 b (n : Int) (by omega) (by omega) Hbc.out).1 W
      rw [Int.toNat_natCast, hln_tb] at h; exact h
    have hq_tb : ∀ W : World, Kd.C (Kd.int .u8) W A1 b.length b → Kd.C (Kd.int .u8) W A1 n (b.take n) := by
      intro W hW
      have h := (print_take_int (P := Try.prog) (k := .u8) 22 5 Try.underlying22 HI8.out HS8.out A1 c1 b (n : Int) (by omega) (by omega) Hbc.out).2.1 W (Kd.reads_of_C hW)
      rw [Int.toNat_natCast, hln_tb] at h; exact Kd.C_of_reads (d := (0 : Int)) (h1 := fun _ => rfl) h
    have hsame : ∀ W : World, Kd.C (Kd.int .u8) W A0 a.length a → Kd.C (Kd.int .u8) W A1 b.length b → Calls Try.prog 13 #[.slice A0 n c0, .slice A1 n c1] W fun e w' => e = .returned (.bool true) ∧ Drawn0 W w' := by
      intro W h1 h2
      have e1 : waybilllaw11_same.f K (a.take n) (b.take n) = some true := by rw [same_f _ _ (by have := HLA.out; omega) K (by have := HKK.out; omega), HTK.out]; simp
      have h := waybilllaw11_same.calls K A0 c0 (a.take n) A1 c1 (b.take n) true W (by rw [hln_ta]; exact hq_ta W h1) (by rw [hln_ta]; exact Nat.le_trans hle_ta Hac.out) (by rw [hln_tb]; exact hq_tb W h2) (by rw [hln_tb]; exact Nat.le_trans hle_tb Hbc.out) e1
      rw [hln_ta, hln_tb] at h; exact h
    have HCA := Lib.hid hCa; have HCB := Lib.hid hCb; have HSM := Lib.hid hsame; have LTA := Lib.hid hle_ta; have LTB := Lib.hid hle_tb
    clear hCa hCb hsame hq_ta hq_tb hln_ta hln_tb hx1 hx2
    have d1 : decide ((n : Int) < 0) = false := by simp
    have d2 : decide (a.length < n) = false := by simp; omega
    have d3 : decide (b.length < n) = false := by simp; omega
    clear hle_ta hle_tb
    go_upto_region 10 with fail
    go_cut [6, 125] (fun v6 v125 wx => v6 = .bool false ∧ v125 = .bool false ∧ ∃ nn, wx = w10.drewN nn)
    case first =>
      by_cases hna : n < a.length
      · by_cases hnb : n < b.length
        · obtain ⟨ada, ea, hca⟩ := C_cell HCA.out (by omega)
          obtain ⟨adb, eb, hcb⟩ := C_cell HCB.out (by omega)
          subst ea eb
          have hca2 := hca n hna
          have hcb2 := hcb n hnb
          have hne := HAT.out hna hnb
          clear hca hcb
          obtain ⟨va, hva⟩ : ∃ v, v = a.getD n 0 := ⟨_, rfl⟩
          obtain ⟨vb, hvb⟩ : ∃ v, v = b.getD n 0 := ⟨_, rfl⟩
          rw [← hva] at hca2 hne
          rw [← hvb] at hcb2 hne
          have d6 : (va == vb) = false := by rw [beq_eq_false_iff_ne]; exact hne
          have d4 : decide (n < a.length) = true := by simpa using hna
          have d5 : decide (n < b.length) = true := by simpa using hnb
          clear hva hvb hne
          go_quiet (first | (go_at_call 13; refine (HSM.out _ (by repeat (first | exact HCA.out | (with_reducible refine Kd.C_drewN ?_ _) | (with_reducible refine Kd.C_drew ?_))) (by repeat (first | exact HCB.out | (with_reducible refine Kd.C_drewN ?_ _) | (with_reducible refine Kd.C_drew ?_)))).mono ?_; rintro e w' ⟨rfl, ⟨nd, rfl⟩⟩; (try first | exact ⟨rfl, _, World.drewN_drewN _ _ _⟩ | exact ⟨rfl, _, Eq.trans (World.drewN_drewN _ _ _) (congrArg (World.drewN _) (Nat.add_assoc _ _ _))⟩)))
          go_wp2_with fail
          go_meet
          exact ⟨rfl, rfl, _, rfl⟩
        · have d4 : decide (n < a.length) = true := by simpa using hna
          have d5 : decide (n < b.length) = false := by simpa using hnb
          go_quiet (first | (go_at_call 13; refine (HSM.out _ (by repeat (first | exact HCA.out | (with_reducible refine Kd.C_drewN ?_ _) | (with_reducible refine Kd.C_drew ?_))) (by repeat (first | exact HCB.out | (with_reducible refine Kd.C_drewN ?_ _) | (with_reducible refine Kd.C_drew ?_)))).mono ?_; rintro e w' ⟨rfl, ⟨nd, rfl⟩⟩; (try first | exact ⟨rfl, _, World.drewN_drewN _ _ _⟩ | exact ⟨rfl, _, Eq.trans (World.drewN_drewN _ _ _) (congrArg (World.drewN _) (Nat.add_assoc _ _ _))⟩)))
          go_wp2_with fail
          go_meet
          exact ⟨rfl, rfl, _, rfl⟩
      · have d4 : decide (n < a.length) = false := by simpa using hna
        go_quiet (first | (go_at_call 13; refine (HSM.out _ (by repeat (first | exact HCA.out | (with_reducible refine Kd.C_drewN ?_ _) | (with_reducible refine Kd.C_drew ?_))) (by repeat (first | exact HCB.out | (with_reducible refine Kd.C_drewN ?_ _) | (with_reducible refine Kd.C_drew ?_)))).mono ?_; rintro e w' ⟨rfl, ⟨nd, rfl⟩⟩; (try first | exact ⟨rfl, _, World.drewN_drewN _ _ _⟩ | exact ⟨rfl, _, Eq.trans (World.drewN_drewN _ _ _) (congrArg (World.drewN _) (Nat.add_assoc _ _ _))⟩)))
        go_wp2_with fail
        go_meet
        exact ⟨rfl, rfl, _, rfl⟩
    case rest =>
      obtain ⟨rfl, rfl, nn, hwc⟩ := hcut
      obtain ⟨w11, hw11⟩ : ∃ W, W = wc := ⟨_, rfl⟩
      rw [← hw11] at hwc ⊢
      have B11 := Lib.hid (show Bl w10 w11 from hwc ▸ Bl.drewN (Bl.refl _) _)
      clear hw11 hwc
      go_wp2_with fail
      refine (nibble_Of.calls K _ _ a p _ (Kd.C_below Ha.out (Bl.trans (Bl.trans (Bl.trans (Bl.trans (Bl.trans (Bl.trans (Bl.trans (Bl.trans (Bl.trans (Bl.trans B1.out B2.out) B3.out) B4.out) B5.out) B6.out) B7.out) B8.out) B9.out) B10.out) B11.out)) Hac.out U7.out).mono ?_
      rintro e w12 ⟨v12, rfl, hR12, hb12⟩
      obtain ⟨A12, d12, rfl, hd12, hC12⟩ := Kd.R_reads hR12
      have L12 := Lib.hid (made_lt hR12)
      have R12 := Lib.hid hR12
      have B12 := Lib.hid hb12
      have D12 := Lib.hid hd12
      have C12 := Lib.hid hC12
      clear hR12 hb12 hd12 hC12
      go_wp2_with fail
      refine (nibble_Of.calls K _ _ b q _ (Kd.C_below Hb.out (Bl.trans (Bl.trans (Bl.trans (Bl.trans (Bl.trans (Bl.trans (Bl.trans (Bl.trans (Bl.trans (Bl.trans (Bl.trans B1.out B2.out) B3.out) B4.out) B5.out) B6.out) B7.out) B8.out) B9.out) B10.out) B11.out) B12.out)) Hbc.out U8.out).mono ?_
      rintro e w13 ⟨v13, rfl, hR13, hb13⟩
      obtain ⟨A13, d13, rfl, hd13, hC13⟩ := Kd.R_reads hR13
      have L13 := Lib.hid (made_lt hR13)
      have R13 := Lib.hid hR13
      have B13 := Lib.hid hb13
      have D13 := Lib.hid hd13
      have C13 := Lib.hid hC13
      clear hR13 hb13 hd13 hC13
      go_wp2_with fail
      refine (nibble_Compare.calls K _ _ p _ _ q x _ (Kd.C_below C12.out B13.out) D12.out C13.out D13.out U10.out).mono ?_
      rintro e w14 ⟨rfl, hq14⟩
      have B14 := Lib.hid (show Bl _ _ from hq14.below)
      clear hq14
      have hnI : (n : Int) ≤ 1048576 := by have := LTA.out; have := HLA.out; omega
      rcases HM.out with hm | hm
      all_goals
        subst hm
        go_wp2_with fail
        go_ret
        exact ⟨by first | rfl | (simp; done) | (simp; omega), (Bl.trans (Bl.trans (Bl.trans (Bl.trans (Bl.trans (Bl.trans (Bl.trans (Bl.trans (Bl.trans (Bl.trans (Bl.trans (Bl.trans (Bl.trans B1.out B2.out) B3.out) B4.out) B5.out) B6.out) B7.out) B8.out) B9.out) B10.out) B11.out) B12.out) B13.out) B14.out)⟩
--ROW--
set_option maxHeartbeats 1000000 in
set_option maxRecDepth 100000 in
theorem liftedNibbleOrder (os : Os) (started : os.Started) (H : Type) (enc : TypeId × Value → H) (F : Stop.Interp) :
    ReturnsInHanded {} Try.checked os 7 .any ((Rows.OpenSpec.upto Rows.nibbleOrderSpec).pre6 enc Try.prog Try.f7 Rows.nibbleOrderUptoRow.domain false) (((Rows.OpenSpec.upto Rows.nibbleOrderSpec).at F).post enc Try.prog Try.f7 false true false false) := by
  refine returnsInHanded_of_cond (C := Try.checked) (s := Rows.OpenSpec.upto Rows.nibbleOrderSpec) (k := Rows.uptoSmall) rfl own started (by kernel_rfl) Try.func7
    (OpenSpec.witness (enc := enc) (C := Try.checked) (s := Rows.OpenSpec.upto Rows.nibbleOrderSpec) (k := Rows.uptoSmall) rfl false ⟨#[], #[.slice none 0 0, .slice none 0 0, .slice none 0 0], []⟩ 8 (by kernel_rfl) (by kernel_rfl) (by kernel_rfl)
      (x := ([.nil, .nil, .nil], [], [])) (by kernel_rfl) rfl (by kernel_rfl)) ?_
  intro W base args ds gs before hval0 hW hcnd hk _
  have hval : ∀ (j : Nat) t v, Try.f7.params[j]? = some t → args[j]? = some v → Value.okWide Try.prog W .any base t v := hval0
  have hW' := hW
  obtain ⟨p, q, hA0, hV, rfl, hfz, hnd⟩ := hW
  have hA : DataW.TrodAll enc Try.prog W 0 (fun _ => true) true Try.f7.params.toList args.toList ds p := hA0
  rw [Try.params7] at hA hval
  obtain ⟨v0, vs0, d0, ds0, p0, q0, hargs, rfl, rfl, h0, r0⟩ := trodAll_cons hA
  obtain ⟨v1, vs1, d1, ds1, p1, q1, rfl, rfl, rfl, h1, r1⟩ := trodAll_cons r0
  obtain ⟨v2, vs2, d2, ds2, p2, q2, rfl, rfl, rfl, h2, r2⟩ := trodAll_cons r1
  obtain ⟨rfl, rfl, rfl⟩ := trodAll_nil r2
  obtain rfl : args = #[v0, v1, v2] := by cases args; simp_all
  obtain ⟨rfl, rfl⟩ := trodVars_none hV
  have hbulk := bulk_small hk
  have k0 := h0
  have lt0 : ∀ x ∈ p0, x.block < W.heap.size := by obtain ⟨m, hm⟩ := k0; exact DataW.trod_lt m _ _ _ hm
  obtain ⟨A0, c0, l0, rfl, hC0, hc0, hb0, hn0⟩ := open_bytes (hval 0 22 v0 rfl rfl) h0
  have hl0 : l0.length ≤ 1048576 := Nat.le_trans hn0 (Nat.le_trans (bulk_part (by simp)) hbulk)
  have k1 := h1
  have lt1 : ∀ x ∈ p1, x.block < W.heap.size := by obtain ⟨m, hm⟩ := k1; exact DataW.trod_lt m _ _ _ hm
  obtain ⟨A1, c1, l1, rfl, hC1, hc1, hb1, hn1⟩ := open_bytes (hval 1 22 v1 rfl rfl) h1
  have hl1 : l1.length ≤ 1048576 := Nat.le_trans hn1 (Nat.le_trans (bulk_part (by simp)) hbulk)
  have k2 := h2
  have lt2 : ∀ x ∈ p2, x.block < W.heap.size := by obtain ⟨m, hm⟩ := k2; exact DataW.trod_lt m _ _ _ hm
  obtain ⟨A2, c2, l2, rfl, hC2, hc2, hb2, hn2⟩ := open_bytes (hval 2 22 v2 rfl rfl) h2
  have hl2 : l2.length ≤ 1048576 := Nat.le_trans hn2 (Nat.le_trans (bulk_part (by simp)) hbulk)
  clear hA0 hval0
  refine (walkNibbleOrder W A0 c0 l0 hC0 hc0 hb0 hl0 A1 c1 l1 hC1 hc1 hb1 hl1 A2 c2 l2 hC2 hc2 hb2 hl2).mono fun e W' ⟨he, bel⟩ => ?_
  subst he
  exact ⟨_, rfl, _, _, _, [], _, [], hW', trodAll_mk1 (shut_bool Try.underlying4 _), (trodAll_cons_mk (Below.trod laidOut (by kernel_rfl) (of_decide_eq_true (by kernel_rfl)) k0 bel lt0) (trodAll_cons_mk (Below.trod laidOut (by kernel_rfl) (of_decide_eq_true (by kernel_rfl)) k1 bel lt1) (trodAll_cons_mk (Below.trod laidOut (by kernel_rfl) (of_decide_eq_true (by kernel_rfl)) k2 bel lt2) trodAll_mk0))), rfl, bel.frame _, fun h => by cases h⟩

theorem provedNibbleOrder : Rows.NibbleOrderUptoSaid :=
  OpenClaim.holds_of_cond 7 Try.f7 rfl rfl rfl rfl rfl rfl rfl ⟨rfl, rfl, rfl, rfl, rfl⟩ rfl rfl rfl rfl rfl (by kernel_rfl) Try.func7 (by kernel_rfl)
    (of_decide_eq_true (by kernel_rfl)) (by unfold Func.isWrapper; first | (rw [if_pos (by decide +kernel)]; kernel_rfl) | (rw [if_neg (by decide +kernel)]; exact ⟨rfl, rfl⟩))
    (fun os started H enc _ F => liftedNibbleOrder os started H enc F)
end Go.Proofs.Ytdagliimdmbeaaa
