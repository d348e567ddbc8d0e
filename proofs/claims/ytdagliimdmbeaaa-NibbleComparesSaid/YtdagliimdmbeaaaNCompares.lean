/- The statement NibbleCompares: whatever the bytes, the call returns true and leaves them as they were. -/
import Derived.Test.YtdagliimdmbeaaaNLaw
set_option linter.unusedSimpArgs false
set_option linter.unusedVariables false
namespace Go.Proofs.Ytdagliimdmbeaaa
open Go Go.ChangeShapes Go.WideShapes Go.ChangeAt Go.RowKit Go.Proofs.YtdagliimdmbeaaaW.PrintWords Go.Proofs.YtdagliimdmbeaaaW.PrintLast Go.Proofs.YtdagliimdmbeaaaW.PrintMore Go.Proofs.Ytdagliimdmbeaaa.Fn


/-- With how many equal elements two lists begin. -/
def comN : List Int → List Int → Nat
  | x :: r, y :: s => if x = y then comN r s + 1 else 0
  | _, _ => 0
theorem comN_le : ∀ a b : List Int, comN a b ≤ a.length ∧ comN a b ≤ b.length
  | x :: r, y :: s => by
    unfold comN; split
    · have := comN_le r s; simp; omega
    · simp
  | [], b => by simp [comN]
  | x :: r, [] => by simp [comN]
theorem comN_at : ∀ a b : List Int, comN a b < a.length → comN a b < b.length → a.getD (comN a b) 0 ≠ b.getD (comN a b) 0
  | x :: r, y :: s, h1, h2 => by
    unfold comN at *; split
    · rename_i h; rw [if_pos h] at h1 h2; simp only [List.length_cons] at h1 h2
      simpa using comN_at r s (by omega) (by omega)
    · rename_i h; simpa using h
  | [], b, h, _ => by simp [comN] at h
  | x :: r, [], _, h => by simp [comN] at h
theorem com_l0 (a b : List Int) (hl : a.length ≤ 140737488351232) : ∀ (d k i : Nat) (m n : List Int), a.drop i = m → b.drop i = n → m.length = d → d < k → nibble_common_byte.l0 k a b (i : Int) = some ((i + comN m n : Nat) : Int)
  | 0, k, i, m, n, hm, hn, hd, hk => by
    obtain ⟨k, rfl⟩ : ∃ q, k = q + 1 := ⟨k - 1, by omega⟩
    obtain rfl := List.eq_nil_of_length_eq_zero hd
    have := drop_nil hm
    simp only [nibble_common_byte.l0]; rw [if_neg (by omega)]; simp [comN]
  | d + 1, k, i, [], n, hm, hn, hd, hk => by simp at hd
  | d + 1, k, i, x :: r, [], hm, hn, hd, hk => by
    obtain ⟨k, rfl⟩ : ∃ q, k = q + 1 := ⟨k - 1, by omega⟩
    have h1 := drop_lt hm; have h2 := drop_nil hn
    simp only [nibble_common_byte.l0]; rw [if_pos (by omega), if_neg (by omega)]; simp [comN]
  | d + 1, k, i, x :: r, y :: s, hm, hn, hd, hk => by
    obtain ⟨k, rfl⟩ : ∃ q, k = q + 1 := ⟨k - 1, by omega⟩
    have hlt := drop_lt hm; have hlt2 := drop_lt hn
    have ih := com_l0 a b hl d k (i + 1) r s (drop_next hm) (drop_next hn) (by simpa using hd) (by omega)
    simp only [nibble_common_byte.l0]
    rw [if_pos (by omega), if_pos (by omega), if_pos (by omega), rd_cons hm, rd_cons hn, wrap_s i (by omega), ih]
    by_cases h : x = y
    · rw [if_pos h]; simp [comN, h]; omega
    · rw [if_neg h]; simp [comN, h]
theorem rcom_l0 (a b : List Int) (hl : a.length ≤ 140737488351232) : ∀ (d k i : Nat) (m n : List Int), a.drop i = m → b.drop i = n → m.length = d → d < k → waybillref11_Common.l0 k a b (i : Int) = some ((i + comN m n : Nat) : Int)
  | 0, k, i, m, n, hm, hn, hd, hk => by
    obtain ⟨k, rfl⟩ : ∃ q, k = q + 1 := ⟨k - 1, by omega⟩
    obtain rfl := List.eq_nil_of_length_eq_zero hd
    have := drop_nil hm
    simp only [waybillref11_Common.l0]; rw [if_neg (by omega)]; simp [comN]
  | d + 1, k, i, [], n, hm, hn, hd, hk => by simp at hd
  | d + 1, k, i, x :: r, [], hm, hn, hd, hk => by
    obtain ⟨k, rfl⟩ : ∃ q, k = q + 1 := ⟨k - 1, by omega⟩
    have h1 := drop_lt hm; have h2 := drop_nil hn
    simp only [waybillref11_Common.l0]; rw [if_pos (by omega), if_neg (by omega)]; simp [comN]
  | d + 1, k, i, x :: r, y :: s, hm, hn, hd, hk => by
    obtain ⟨k, rfl⟩ : ∃ q, k = q + 1 := ⟨k - 1, by omega⟩
    have hlt := drop_lt hm; have hlt2 := drop_lt hn
    have ih := rcom_l0 a b hl d k (i + 1) r s (drop_next hm) (drop_next hn) (by simpa using hd) (by omega)
    simp only [waybillref11_Common.l0]
    rw [if_pos (by omega), if_pos (by omega), if_pos (by omega), rd_cons hm, rd_cons hn, wrap_s i (by omega), ih]
    by_cases h : x = y
    · rw [if_pos h]; simp [comN, h]; omega
    · rw [if_neg h]; simp [comN, h]
theorem com_f (a b : List Int) (hl : a.length ≤ 140737488351232) (k : Nat) (hk : a.length < k) : nibble_common_byte.f k a b = some (comN a b : Int) := by
  have := com_l0 a b hl a.length k 0 a b rfl rfl rfl hk
  unfold nibble_common_byte.f; simpa using this
theorem rcom_f (a b : List Int) (hl : a.length ≤ 140737488351232) (k : Nat) (hk : a.length < k) : waybillref11_Common.f k a b = some (comN a b : Int) := by
  have := rcom_l0 a b hl a.length k 0 a b rfl rfl rfl hk
  unfold waybillref11_Common.f; simpa using this
/-- Which list comes first. -/
def cmpN (a b : List Int) : Int :=
  if comN a b = a.length ∨ comN a b = b.length then (if a.length < b.length then -1 else if b.length < a.length then 1 else 0)
  else if a.getD (comN a b) 0 < b.getD (comN a b) 0 then -1 else 1
theorem cmpI_f (x y : Int) : cmp_Compare_int.f x y = some (if x < y then -1 else if y < x then 1 else 0) := by
  unfold cmp_Compare_int.f cmp_isNaN_int.f
  simp
  split
  · rfl
  · split <;> rfl
theorem cmpB_f (x y : Int) : cmp_Compare_byte.f x y = some (if x < y then -1 else if y < x then 1 else 0) := by
  unfold cmp_Compare_byte.f cmp_isNaN_byte.f
  simp
  split
  · rfl
  · split <;> rfl
theorem j0_yes (k : Nat) (a b : List Int) (x : Int) : nibble_compare_byte.j0 (k + 1) a b x true = some (if (a.length : Int) < b.length then -1 else if (b.length : Int) < a.length then 1 else 0) := by
  simp only [nibble_compare_byte.j0, if_true, cmpI_f, Option.bind_some]
theorem j0_no (k : Nat) (a b : List Int) (x : Int) (h0 : 0 ≤ x) (h1 : x < a.length) (h2 : x < b.length) : nibble_compare_byte.j0 (k + 1) a b x false = some (if rd a x < rd b x then -1 else if rd b x < rd a x then 1 else 0) := by
  simp only [nibble_compare_byte.j0]
  rw [if_neg (by simp), if_pos h0, if_pos h1, if_pos h2, cmpB_f]
  rfl
theorem cmp_f (a b : List Int) (hl : a.length ≤ 140737488351232) (k : Nat) (hk : a.length < k) : nibble_Compare.f k a b = some (cmpN a b) := by
  have hle := comN_le a b
  unfold nibble_Compare.f nibble_compare_byte.f cmpN
  rw [com_f a b hl k hk]
  obtain ⟨k, rfl⟩ : ∃ q, k = q + 1 := ⟨k - 1, by omega⟩
  simp only [Option.bind_some]
  by_cases h1 : comN a b = a.length
  · rw [if_pos (by omega), j0_yes, if_pos (Or.inl h1)]
    simp
  · rw [if_neg (by omega)]
    by_cases h2 : comN a b = b.length
    · have e : (((comN a b : Nat) : Int) == (b.length : Int)) = true := by rw [beq_iff_eq]; omega
      rw [e, j0_yes, if_pos (Or.inr h2)]
      simp
    · have e : (((comN a b : Nat) : Int) == (b.length : Int)) = false := by rw [beq_eq_false_iff_ne]; omega
      have hne := comN_at a b (by omega) (by omega)
      have hno : ¬ (comN a b = a.length ∨ comN a b = b.length) := fun h => h.elim h1 h2
      rw [if_neg hno, e, j0_no _ _ _ _ (by omega) (by omega) (by omega)]
      rw [show rd a ((comN a b : Nat) : Int) = a.getD (comN a b) 0 from rfl, show rd b ((comN a b : Nat) : Int) = b.getD (comN a b) 0 from rfl]
      simp only [Option.bind_some]
      congr 1
      split <;> first | rfl | omega | (split <;> first | rfl | omega)
theorem rj_yes (k : Nat) (a b : List Int) (x : Int) : waybillref11_Compare.j0 (k + 1) a b x true = some 0 := by simp [waybillref11_Compare.j0]
theorem rj_no (k : Nat) (a b : List Int) (x : Int) (h0 : 0 ≤ x) (h1 : x ≤ a.length) (h2 : x ≤ b.length) (h3 : x < a.length ∨ x < b.length) : waybillref11_Compare.j0 (k + 1) a b x false = some (if x = a.length then -1 else if x = b.length then 1 else if rd a x < rd b x then -1 else 1) := by
  simp only [waybillref11_Compare.j0]
  rw [if_neg (by simp)]
  by_cases e1 : x = a.length
  · rw [if_pos e1, if_pos e1]
  · rw [if_neg e1, if_neg e1]
    by_cases e2 : x = b.length
    · rw [if_neg (by omega), if_pos e2]
    · rw [if_pos (by omega), if_pos h0, if_pos (by omega), if_neg e2]
      split <;> rfl
theorem rcmp_f (a b : List Int) (hl : a.length ≤ 140737488351232) (k : Nat) (hk : a.length < k) : waybillref11_Compare.f k a b = some (cmpN a b) := by
  have hle := comN_le a b
  unfold waybillref11_Compare.f cmpN
  rw [rcom_f a b hl k hk]
  obtain ⟨k, rfl⟩ : ∃ q, k = q + 1 := ⟨k - 1, by omega⟩
  simp only [Option.bind_some]
  by_cases h1 : comN a b = a.length
  · rw [if_pos (by omega), if_pos (Or.inl h1)]
    by_cases h2 : comN a b = b.length
    · have e : (((comN a b : Nat) : Int) == (b.length : Int)) = true := by rw [beq_iff_eq]; omega
      rw [e, rj_yes, if_neg (by omega), if_neg (by omega)]
    · have e : (((comN a b : Nat) : Int) == (b.length : Int)) = false := by rw [beq_eq_false_iff_ne]; omega
      rw [e, rj_no _ _ _ _ (by omega) (by omega) (by omega) (by omega), if_pos (by omega), if_pos (by omega)]
  · rw [if_neg (by omega), rj_no _ _ _ _ (by omega) (by omega) (by omega) (by omega), if_neg (by omega)]
    by_cases h2 : comN a b = b.length
    · rw [if_pos (by omega), if_pos (Or.inr h2), if_neg (by omega), if_pos (by omega)]
    · have hno : ¬ (comN a b = a.length ∨ comN a b = b.length) := fun h => h.elim h1 h2
      rw [if_neg (by omega), if_neg hno]
      rfl

set_option maxHeartbeats 8000000 in
set_option maxRecDepth 100000 in
theorem walkNibbleCompares (w : World) (A0 : Option Addr) (c0 : Nat) (l : List Int) (hr : Kd.C (Kd.int .u8) w A0 l.length l) (hc : l.length ≤ c0) (hb : Bytes l) (hl : l.length ≤ 140737488351232)
    (A1 : Option Addr) (c1 : Nat) (m : List Int) (hs : Kd.C (Kd.int .u8) w A1 m.length m) (hd : m.length ≤ c1) (hb' : Bytes m) (hm : m.length ≤ 140737488351232) :
    Calls Try.prog 6 #[.slice A0 l.length c0, .slice A1 m.length c1] w fun e w' => e = .returned (.bool true) ∧ Below w.heap.size w w' := by
  obtain ⟨K, hK⟩ : ∃ K, K = l.length + 5 := ⟨_, rfl⟩
  obtain ⟨n, hn⟩ : ∃ n, n = (comN l m : Int) := ⟨_, rfl⟩
  obtain ⟨c, hA⟩ : ∃ x, x = cmpN l m := ⟨_, rfl⟩
  have u1 : nibble_Common.f K l m = some n := by unfold nibble_Common.f; rw [com_f l m hl K (by omega), hn]; rfl
  have u2 : nibble_Compare.f K l m = some c := by rw [hA]; exact cmp_f l m hl K (by omega)
  have u3 : waybillref11_Common.f K l m = some n := by rw [hn]; exact rcom_f l m hl K (by omega)
  have u4 : waybillref11_Compare.f K l m = some c := by rw [hA]; exact rcmp_f l m hl K (by omega)
  have Hr := Lib.hid hr; have Hc := Lib.hid hc; have Hl := Lib.hid hl; have Hs := Lib.hid hs; have Hd := Lib.hid hd; have Hm := Lib.hid hm; have U1 := Lib.hid u1; have U2 := Lib.hid u2; have U3 := Lib.hid u3; have U4 := Lib.hid u4
  clear hr hc hb hl hs hd hm hb' u1 u2 u3 u4 hA hK hn
  go_enter Try.func6, Try.ntmps6
  go_wp2_with fail
  refine (lent_c _ _ l _ Hr.out Hl.out).mono ?_
  rintro e w1 ⟨rfl, hbox1, hb1⟩
  have HI1 := Lib.hid (lent_C hbox1 Hl.out)
  have HX1 := Lib.hid hbox1
  have B1 := Lib.hid hb1
  clear hbox1 hb1
  go_wp2_with fail
  refine (lent_c _ _ m _ (Kd.C_below Hs.out B1.out) Hm.out).mono ?_
  rintro e w2 ⟨rfl, hbox2, hb2⟩
  have HI2 := Lib.hid (lent_C hbox2 Hm.out)
  have HX2 := Lib.hid hbox2
  have B2 := Lib.hid hb2
  clear hbox2 hb2
  go_wp2_with fail
  refine (nibble_Common.calls K _ _ l _ _ m n _ (Kd.C_below HI1.out B2.out) (by omega) HI2.out (by omega) U1.out).mono ?_
  rintro e w3 ⟨rfl, hq3⟩
  have B3 := Lib.hid (show Bl _ _ from hq3.below)
  clear hq3
  go_wp2_with fail
  refine (nibble_Compare.calls K _ _ l _ _ m c _ (Kd.C_below HI1.out (Bl.trans B2.out B3.out)) (by omega) (Kd.C_below HI2.out B3.out) (by omega) U2.out).mono ?_
  rintro e w4 ⟨rfl, hq4⟩
  have B4 := Lib.hid (show Bl _ _ from hq4.below)
  clear hq4
  go_wp2_with fail
  refine (waybillref11_Common.calls K _ _ l _ _ m n _ (Kd.C_below Hr.out (Bl.trans (Bl.trans (Bl.trans B1.out B2.out) B3.out) B4.out)) Hc.out (Kd.C_below Hs.out (Bl.trans (Bl.trans (Bl.trans B1.out B2.out) B3.out) B4.out)) Hd.out U3.out).mono ?_
  rintro e w5 ⟨rfl, hq5⟩
  have B5 := Lib.hid (show Bl _ _ from hq5.below)
  clear hq5
  go_wp2_with fail
  refine (waybillref11_Compare.calls K _ _ l _ _ m c _ (Kd.C_below Hr.out (Bl.trans (Bl.trans (Bl.trans (Bl.trans B1.out B2.out) B3.out) B4.out) B5.out)) Hc.out (Kd.C_below Hs.out (Bl.trans (Bl.trans (Bl.trans (Bl.trans B1.out B2.out) B3.out) B4.out) B5.out)) Hd.out U4.out).mono ?_
  rintro e w6 ⟨rfl, hq6⟩
  have B6 := Lib.hid (show Bl _ _ from hq6.below)
  clear hq6
  go_wp2_with fail
  refine (still_c _ _ _ l _ (Box.call HX1.out (Bl.trans (Bl.trans (Bl.trans (Bl.trans B2.out B3.out) B4.out) B5.out) B6.out)) (Kd.C_below Hr.out (Bl.trans (Bl.trans (Bl.trans (Bl.trans (Bl.trans B1.out B2.out) B3.out) B4.out) B5.out) B6.out)) Hl.out).mono ?_
  rintro e w7 ⟨rfl, hq7⟩
  have B7 := Lib.hid (show Bl _ _ from hq7.below)
  clear hq7
  go_wp2_with fail
  refine (still_c _ _ _ m _ (Box.call HX2.out (Bl.trans (Bl.trans (Bl.trans (Bl.trans B3.out B4.out) B5.out) B6.out) B7.out)) (Kd.C_below Hs.out (Bl.trans (Bl.trans (Bl.trans (Bl.trans (Bl.trans (Bl.trans B1.out B2.out) B3.out) B4.out) B5.out) B6.out) B7.out)) Hm.out).mono ?_
  rintro e w8 ⟨rfl, hq8⟩
  have B8 := Lib.hid (show Bl _ _ from hq8.below)
  clear hq8
  go_wp2_with fail
  go_ret
  exact ⟨rfl, (Bl.trans (Bl.trans (Bl.trans (Bl.trans (Bl.trans (Bl.trans (Bl.trans B1.out B2.out) B3.out) B4.out) B5.out) B6.out) B7.out) B8.out)⟩

--ROW--
set_option maxHeartbeats 1000000 in
set_option maxRecDepth 100000 in
theorem liftedNibbleCompares (os : Os) (started : os.Started) (H : Type) (enc : TypeId × Value → H) :
    ReturnsInHanded {} Try.checked os 6 .any (Rows.nibbleComparesSpec.pre6 enc Try.prog Try.f6 Rows.nibbleComparesRow.domain false) (Rows.nibbleComparesSpec.post enc Try.prog Try.f6 false true false false) := by
  refine returnsInHanded_of_change_sized (C := Try.checked) own started (by kernel_rfl) Try.func6
    (ChangeSpec.witness6 (enc := enc) (C := Try.checked) false ⟨#[], #[.slice none 0 0, .slice none 0 0], []⟩ 8 (by kernel_rfl) (by kernel_rfl) (by kernel_rfl) (by kernel_rfl)) ?_
  intro W base args ds gs before hval0 hW hcnd hsz0 _
  have hsz : (DataW.weightsEach Try.prog (Try.f6.params.toList ++ Rows.nibbleComparesSpec.plain.varTypes Try.prog) (ds ++ gs)).all (· ≤ reachBytes) = true := hsz0
  have hval : ∀ (j : Nat) t v, Try.f6.params[j]? = some t → args[j]? = some v → Value.okWide Try.prog W .any base t v := hval0
  have hW' := hW
  obtain ⟨p, q, hA0, hV, rfl, hfz, hnd⟩ := hW
  have hA : DataW.TrodAll enc Try.prog W 0 (fun _ => true) true Try.f6.params.toList args.toList ds p := hA0
  rw [Try.params6] at hA hval hsz
  obtain ⟨v0, vs0, d0, ds0, p0, q0, hargs, rfl, rfl, h0, r0⟩ := trodAll_cons hA
  obtain ⟨v1, vs1, d1, ds1, p1, q1, rfl, rfl, rfl, h1, r1⟩ := trodAll_cons r0
  obtain ⟨rfl, rfl, rfl⟩ := trodAll_nil r1
  obtain rfl : args = #[v0, v1] := by cases args; simp_all
  obtain ⟨rfl, rfl⟩ := trodVars_none hV
  have k0 := h0
  have lt0 : ∀ x ∈ p0, x.block < W.heap.size := by obtain ⟨m, hm⟩ := k0; exact DataW.trod_lt m _ _ _ hm
  obtain ⟨A0, c0, l0, rfl, hC0, hc0, hb0, hn0⟩ := open_bytes (hval 0 22 v0 rfl rfl) h0
  have hl0 : l0.length ≤ 140737488351232 := by have hz : l0.length * 1 ≤ 140737488351232 := Go.Proofs.YtdagliimdmbeaaaW.PrintWords.sized_ints hsz (j := 0) (t := 22) rfl rfl Try.underlying22 Try.underlying5 (by kernel_rfl) (by kernel_rfl) h0; omega
  have k1 := h1
  have lt1 : ∀ x ∈ p1, x.block < W.heap.size := by obtain ⟨m, hm⟩ := k1; exact DataW.trod_lt m _ _ _ hm
  obtain ⟨A1, c1, l1, rfl, hC1, hc1, hb1, hn1⟩ := open_bytes (hval 1 22 v1 rfl rfl) h1
  have hl1 : l1.length ≤ 140737488351232 := by have hz : l1.length * 1 ≤ 140737488351232 := Go.Proofs.YtdagliimdmbeaaaW.PrintWords.sized_ints hsz (j := 1) (t := 22) rfl rfl Try.underlying22 Try.underlying5 (by kernel_rfl) (by kernel_rfl) h1; omega
  clear hA0 hval0
  refine (walkNibbleCompares W A0 c0 l0 hC0 hc0 hb0 hl0 A1 c1 l1 hC1 hc1 hb1 hl1).mono fun e W' ⟨he, bel⟩ => ?_
  subst he
  exact ⟨_, rfl, _, _, _, [], _, [], hW', trodAll_mk1 (shut_bool Try.underlying4 _), (trodAll_cons_mk (Below.trod laidOut (by kernel_rfl) (of_decide_eq_true (by kernel_rfl)) k0 bel lt0) (trodAll_cons_mk (Below.trod laidOut (by kernel_rfl) (of_decide_eq_true (by kernel_rfl)) k1 bel lt1) trodAll_mk0)), rfl, bel.frame _, fun h => by cases h⟩

theorem provedNibbleCompares : Rows.NibbleComparesSaid :=
  OpenClaim.holds_of_wide 6 Try.f6 rfl rfl rfl rfl rfl rfl rfl ⟨rfl, rfl, rfl, rfl, rfl⟩ rfl rfl rfl rfl rfl (by kernel_rfl) Try.func6 (by kernel_rfl)
    (of_decide_eq_true (by kernel_rfl)) (by unfold Func.isWrapper; first | (rw [if_pos (by decide +kernel)]; kernel_rfl) | (rw [if_neg (by decide +kernel)]; exact ⟨rfl, rfl⟩))
    (fun os started H enc _ => liftedNibbleCompares os started H enc)
end Go.Proofs.Ytdagliimdmbeaaa
