/- The statement HexaData: whatever the text, the call returns true. -/
import Derived.Test.YtkanjdllaikoaaaHPure
import Derived.Test.YtkanjdllaikoaaaHApart
import Derived.Test.YtkanjdllaikoaaaRows
import Derived.Test.YtkanjdllaikoaaaWSized
import Derived.WalkKit
import Derived.ProofKit
import Derived.OpenShut
import Derived.ShutString
import Derived.ChangeOld
import Derived.Below
import Derived.Carry
import Derived.SizedLaws
import Derived.JoinedCond
import Derived.ChangeMaps5
set_option linter.unusedSimpArgs false
set_option linter.unusedVariables false
namespace Go.Proofs.Ytkanjdllaikoaaa
open Go Go.ChangeShapes Go.WideShapes Go.ChangeAt Go.RowKit Go.Proofs.YtkanjdllaikoaaaW.PrintWords Go.Proofs.YtkanjdllaikoaaaW.PrintLast Go.Proofs.YtkanjdllaikoaaaW.PrintMore Go.Proofs.Ytkanjdllaikoaaa.PHexaData

theorem own : ownKnob Try.prog.godebug = none := by kernel_rfl
theorem laidOut : laidOutB Try.prog = true := by kernel_rfl
theorem same_l0 (a b : List Int) (hl : a.length ≤ 140737488351232) (he : a.length = b.length) : ∀ (d k i : Nat) (m n : List Int), a.drop i = m → b.drop i = n → m.length = d → d < k → waybilllaw08_same.l0 k a b (i : Int) = some (decide (m = n))
  | 0, k, i, m, n, hm, hn, hd, hk => by
    obtain ⟨k, rfl⟩ : ∃ q, k = q + 1 := ⟨k - 1, by omega⟩
    obtain rfl := List.eq_nil_of_length_eq_zero hd
    have := drop_nil hm
    have hn0 : n = [] := by rw [← hn]; simp; omega
    subst hn0
    simp only [waybilllaw08_same.l0]; rw [if_neg (by omega)]; simp
  | d + 1, k, i, [], n, hm, hn, hd, hk => by simp at hd
  | d + 1, k, i, x :: r, [], hm, hn, hd, hk => by have h1 := drop_lt hm; have h2 := drop_nil hn; omega
  | d + 1, k, i, x :: r, y :: s, hm, hn, hd, hk => by
    obtain ⟨k, rfl⟩ : ∃ q, k = q + 1 := ⟨k - 1, by omega⟩
    have hlt := drop_lt hm
    have ih := same_l0 a b hl he d k (i + 1) r s (drop_next hm) (drop_next hn) (by simpa using hd) (by omega)
    simp only [waybilllaw08_same.l0]
    rw [if_pos (by omega), if_pos (by omega), if_pos (by omega), rd_cons hm, rd_cons hn, wrap_s i (by omega), ih]
    by_cases h : x = y
    · subst h; simp
    · rw [if_neg h]; simp [h]
theorem same_f (a b : List Int) (hl : a.length ≤ 140737488351232) (k : Nat) (hk : a.length < k) : waybilllaw08_same.f k a b = some (decide (a = b)) := by
  unfold waybilllaw08_same.f
  by_cases he : a.length = b.length
  · rw [if_pos (by omega)]
    have := same_l0 a b hl he a.length k 0 a b rfl rfl rfl hk
    simpa using this
  · rw [if_neg (by omega)]
    have : a ≠ b := fun h => he (by rw [h])
    simp [this]
/-- A made row, later on. -/
theorem made {W0 W : World} {base : Nat} {v : Value} {r : List Int} (h : Kd.R (Kd.int .u8) 5 W0 base (fun _ => True) v r) (hb : Below W0.heap.size W0 W) : W.ownsRow base 5 1 v r.length (nums .u8 r) ∧ ∀ k, v.ownBlock = some k → k < W0.heap.size := by
  have h1 : W0.ownsRow base 5 1 v r.length (nums .u8 r) := Kd.own_of_R h
  exact ⟨pw_own_below h1 hb, fun k e => own_lt h1 k e⟩
theorem made_own {W0 W : World} {base : Nat} {v : Value} {r : List Int} (h : Kd.R (Kd.int .u8) 5 W0 base (fun _ => True) v r) (hb : Bl W0 W) : W.ownsRow base 5 1 v r.length (nums .u8 r) := (made h hb).1
theorem made_lt {W0 : World} {base : Nat} {v : Value} {r : List Int} (h : Kd.R (Kd.int .u8) 5 W0 base (fun _ => True) v r) : ∀ k, v.ownBlock = some k → k < W0.heap.size := (made h (Below.refl _ _)).2
theorem lit_C {w : World} {b : Nat} (h : Box w b #[.int .u8 1, .int .u8 2] 5) : Kd.C (Kd.int .u8) w (some ⟨b, 0, none⟩) 2 [1, 2] := by
  refine Kd.C_of_reads (d := (0 : Int)) (h1 := fun _ => rfl) ⟨rfl, by omega, fun _ => ⟨_, rfl, fun j hj => ?_⟩⟩
  rw [Addr.add_lit, h.cell]
  rcases j with _ | _ | j
  · rfl
  · rfl
  · omega
theorem sep_of {v u : Value} {m : Nat} (h : ∀ k, v.ownBlock = some k → k < m) (h2 : ∀ k, u.ownBlock = some k → m ≤ k) : sep v u := by
  cases e : v.ownBlock with
  | none => exact .inl e
  | some k => exact .inr (fun e2 => by rw [e] at e2; have := h k e; have := h2 k e2.symm; omega)

set_option maxHeartbeats 8000000 in
set_option maxRecDepth 100000 in
theorem walkHexaData (w : World) (s : ByteArray) :
    Calls Try.prog 3 #[.string s] w fun e w' => e = .returned (.bool true) ∧ Below w.heap.size w w' := by
  obtain ⟨K, hK⟩ : ∃ K, K = s.size + 5 := ⟨_, rfl⟩
  obtain ⟨xl, hx⟩ : ∃ xl, xl = [(1 : Int), 2] := ⟨_, rfl⟩
  have hrl := parA_len s
  obtain ⟨⟨r, f⟩, hA⟩ : ∃ x, x = parA s := ⟨_, rfl⟩
  have u1 : hexa_ParseData.f K s = some (r, f) := by rw [hA]; exact par_f s K (by omega)
  have u2 : waybillref08_ParseData.f K s = some (r, f) := by rw [hA]; exact rpar_f s K (by omega)
  rw [← hA] at hrl
  have x1 : hexa_ParseData.f 20 (⟨#[48, 120, 48, 49, 48, 50]⟩ : ByteArray) = some (xl, 0) := by rw [hx]; exact lit_f
  have t1 : waybilllaw08_same.f (r.length + 1) r r = some true := by rw [same_f r r (by simp only [] at hrl; omega) _ (by omega)]; simp
  have t2 : waybilllaw08_same.f 3 xl [1, 2] = some true := by rw [hx]; decide +kernel
  have hrl2 : r.length ≤ 140737488351232 := by simp only [] at hrl; omega
  have U1 := Lib.hid u1; have U2 := Lib.hid u2; have X1 := Lib.hid x1; have S1 := Lib.hid t1; have S2 := Lib.hid t2; have HRL := Lib.hid hrl2
  clear u1 u2 x1 t1 t2 hrl hrl2 hA hx hK
  go_enter Try.func3, Try.ntmps3
  go_wp2_with fail
  refine (hexa_ParseData.calls K s r f _  U1.out).mono ?_
  rintro e w1 ⟨v1, rfl, hR1, hb1⟩
  obtain ⟨A1, d1, rfl, hd1, hC1⟩ := Kd.R_reads hR1
  have L1 := Lib.hid (made_lt hR1)
  have R1 := Lib.hid hR1
  have B1 := Lib.hid hb1
  have D1 := Lib.hid hd1
  have C1 := Lib.hid hC1
  clear hR1 hb1 hd1 hC1
  go_wp2_with fail
  refine (hexa_ParseData.calls K s r f _  U1.out).mono ?_
  rintro e w2 ⟨v2, rfl, hR2, hb2⟩
  obtain ⟨A2, d2, rfl, hd2, hC2⟩ := Kd.R_reads hR2
  have L2 := Lib.hid (made_lt hR2)
  have R2 := Lib.hid hR2
  have B2 := Lib.hid hb2
  have D2 := Lib.hid hd2
  have C2 := Lib.hid hC2
  clear hR2 hb2 hd2 hC2
  go_wp2_with fail
  refine (hexa_ParseData.calls 20 (⟨#[48, 120, 48, 49, 48, 50]⟩ : ByteArray) xl 0 _  X1.out).mono ?_
  rintro e w3 ⟨v3, rfl, hR3, hb3⟩
  obtain ⟨A3, d3, rfl, hd3, hC3⟩ := Kd.R_reads hR3
  have L3 := Lib.hid (made_lt hR3)
  have R3 := Lib.hid hR3
  have B3 := Lib.hid hb3
  have D3 := Lib.hid hd3
  have C3 := Lib.hid hC3
  clear hR3 hb3 hd3 hC3
  go_wp2_with fail
  refine (waybillref08_ParseData.calls K s r f _  U2.out).mono ?_
  rintro e w4 ⟨v4, rfl, hR4, hb4⟩
  obtain ⟨A4, d4, rfl, hd4, hC4⟩ := Kd.R_reads hR4
  have L4 := Lib.hid (made_lt hR4)
  have R4 := Lib.hid hR4
  have B4 := Lib.hid hb4
  have D4 := Lib.hid hd4
  have C4 := Lib.hid hC4
  clear hR4 hb4 hd4 hC4
  go_wp2_with fail
  refine (waybilllaw08_same.calls (r.length + 1) _ _ r _ _ r true _ (Kd.C_below C1.out (Bl.trans (Bl.trans B2.out B3.out) B4.out)) D1.out C4.out D4.out S1.out).mono ?_
  rintro e w5 ⟨rfl, hq5⟩
  have B5 := Lib.hid (show Bl _ _ from hq5.below)
  clear hq5
  go_wp2_with fail
  refine (waybilllaw08_num.calls  f f _  rfl).mono ?_
  rintro e w6 ⟨rfl, hq6⟩
  have B6 := Lib.hid (show Bl _ _ from hq6.below)
  clear hq6
  go_wp2_with fail
  refine (waybilllaw08_same.calls (r.length + 1) _ _ r _ _ r true _ (Kd.C_below C2.out (Bl.trans (Bl.trans (Bl.trans B3.out B4.out) B5.out) B6.out)) D2.out (Kd.C_below C4.out (Bl.trans B5.out B6.out)) D4.out S1.out).mono ?_
  rintro e w7 ⟨rfl, hq7⟩
  have B7 := Lib.hid (show Bl _ _ from hq7.below)
  clear hq7
  go_wp2_with fail
  refine (waybilllaw08_same.calls 3 _ _ xl _ _ [1, 2] true _ (Kd.C_below C3.out (Bl.alloc (Bl.trans (Bl.trans (Bl.trans B4.out B5.out) B6.out) B7.out) _)) D3.out (lit_C (Box.new _ _ _ _ rfl)) (by simp) S2.out).mono ?_
  rintro e w8 ⟨rfl, hq8⟩
  have B8 := Lib.hid (show Bl w7 w8 from Bl.trans (Bl.alloc (Bl.refl _) _) hq8.below)
  clear hq8
  go_wp2_with fail
  refine (waybilllaw08_num.calls  0 0 _  rfl).mono ?_
  rintro e w9 ⟨rfl, hq9⟩
  have B9 := Lib.hid (show Bl _ _ from hq9.below)
  clear hq9
  go_wp2_with fail
  have ta := made_own R1.out (Bl.trans (Bl.trans (Bl.trans (Bl.trans (Bl.trans (Bl.trans (Bl.trans B2.out B3.out) B4.out) B5.out) B6.out) B7.out) B8.out) B9.out)
  have tb := made_own R2.out (Bl.trans (Bl.trans (Bl.trans (Bl.trans (Bl.trans (Bl.trans B3.out B4.out) B5.out) B6.out) B7.out) B8.out) B9.out)
  have tx := made_own R3.out (Bl.trans (Bl.trans (Bl.trans (Bl.trans (Bl.trans B4.out B5.out) B6.out) B7.out) B8.out) B9.out)
  have qa : ∀ k, (.slice A1 r.length d1 : Value).ownBlock = some k → k < w1.heap.size := L1.out
  have qb : ∀ k, (.slice A2 r.length d2 : Value).ownBlock = some k → k < w2.heap.size := L2.out
  have hP : Pair w w9 w9 (.slice A1 r.length d1 : Value) (.slice A2 r.length d2 : Value) r.length r.length r r := ⟨(Bl.trans (Bl.trans (Bl.trans (Bl.trans (Bl.trans (Bl.trans (Bl.trans (Bl.trans B1.out B2.out) B3.out) B4.out) B5.out) B6.out) B7.out) B8.out) B9.out), own_weaken ta (Nat.le_refl _), own_weaken tb (Bl.size B1.out), sep_of (fun k e => qa k e) (fun k e => own_base tb k e), fun _ _ _ _ => rfl, Nat.le_refl _⟩
  refine (apart_c w _ _ _ _ _ _ _ r r hP HRL.out HRL.out).mono ?_
  rintro e w10 ⟨rfl, hb10, hfr⟩
  have hm := own_move tx (w1 := w10) (fun q hq => hfr q (own_lt tx q hq) (fun e => by have q1 := qa q e; have q2 := own_base tx q hq; have q3 : w1.heap.size ≤ w2.heap.size := (Bl.size B2.out); omega) (fun e => by have q1 := qb q e; have q2 := own_base tx q hq; omega))
  have HK := Lib.hid (show Kd.R (Kd.int .u8) 5 w10 w2.heap.size (fun _ => True) (.slice A3 xl.length d3 : Value) xl from Kd.R_of_own hm (fun _ _ => trivial))
  have G10 := Lib.hid (show Bl w w10 from hb10)
  clear hb10 hfr hm ta tb tx qa qb hP
  go_wp2_with fail
  refine (waybilllaw08_same.calls 3 _ _ xl _ _ [1, 2] true _ (Kd.C_below (Kd.R_reads' HK.out).2.2 (Bl.alloc (Bl.refl _) _)) D3.out (lit_C (Box.new _ _ _ _ rfl)) (by simp) S2.out).mono ?_
  rintro e w11 ⟨rfl, hq11⟩
  have B11 := Lib.hid (show Bl w10 w11 from Bl.trans (Bl.alloc (Bl.refl _) _) hq11.below)
  clear hq11
  go_wp2_with fail
  go_ret
  exact ⟨rfl, (Bl.trans G10.out B11.out)⟩

set_option maxHeartbeats 1000000 in
set_option maxRecDepth 100000 in
theorem liftedHexaData (os : Os) (started : os.Started) (H : Type) (enc : TypeId × Value → H) :
    ReturnsInHanded {} Try.checked os 3 .any (Rows.hexaDataSpec.pre6 enc Try.prog Try.f3 Rows.hexaDataRow.domain false) (Rows.hexaDataSpec.post enc Try.prog Try.f3 false true false false) := by
  refine returnsInHanded_of_change_sized (C := Try.checked) own started (by kernel_rfl) Try.func3
    (ChangeSpec.witness6 (enc := enc) (C := Try.checked) false ⟨#[], #[.string ByteArray.empty], []⟩ 8 (by kernel_rfl) (by kernel_rfl) (by kernel_rfl) (by kernel_rfl)) ?_
  intro W base args ds gs before hval0 hW hcnd hsz0 _
  have hsz : (DataW.weightsEach Try.prog (Try.f3.params.toList ++ Rows.hexaDataSpec.plain.varTypes Try.prog) (ds ++ gs)).all (· ≤ reachBytes) = true := hsz0
  have hval : ∀ (j : Nat) t v, Try.f3.params[j]? = some t → args[j]? = some v → Value.okWide Try.prog W .any base t v := hval0
  have hW' := hW
  obtain ⟨p, q, hA0, hV, rfl, hfz, hnd⟩ := hW
  have hA : DataW.TrodAll enc Try.prog W 0 (fun _ => true) true Try.f3.params.toList args.toList ds p := hA0
  rw [Try.params3] at hA hval hsz
  obtain ⟨v0, vs0, d0, ds0, p0, q0, hargs, rfl, rfl, h0, r0⟩ := trodAll_cons hA
  obtain ⟨rfl, rfl, rfl⟩ := trodAll_nil r0
  obtain rfl : args = #[v0] := by cases args; simp_all
  obtain ⟨rfl, rfl⟩ := trodVars_none hV
  obtain ⟨s0, rfl, rfl, rfl, hn0⟩ := Go.ChangeMaps.open_string Try.underlying9 (hval 0 9 v0 rfl rfl) h0
  clear hA0 hval0
  refine (walkHexaData W s0).mono fun e W' ⟨he, bel⟩ => ?_
  subst he
  exact ⟨_, rfl, _, _, _, [], _, [], hW', trodAll_mk1 (shut_bool Try.underlying4 _), (trodAll_cons_mk (Go.ChangeMaps.shut_string Try.underlying9 hn0) trodAll_mk0), rfl, bel.frame _, fun h => by cases h⟩

theorem provedHexaData : Rows.HexaDataSaid :=
  OpenClaim.holds_of_wide 3 Try.f3 rfl rfl rfl rfl rfl rfl rfl ⟨rfl, rfl, rfl, rfl, rfl⟩ rfl rfl rfl rfl rfl (by kernel_rfl) Try.func3 (by kernel_rfl)
    (of_decide_eq_true (by kernel_rfl)) (by unfold Func.isWrapper; first | (rw [if_pos (by decide +kernel)]; kernel_rfl) | (rw [if_neg (by decide +kernel)]; exact ⟨rfl, rfl⟩))
    (fun os started H enc _ => liftedHexaData os started H enc)
end Go.Proofs.Ytkanjdllaikoaaa
