/- The statement FeesBlobs: every excess and price of blob gas is the document's, for every input: no condition. -/
import Derived.Test.YtcmjdmehooenkaaNextE
import Derived.Test.YtcmjdmehooenkaaBlobB
import Derived.Test.YtcmjdmehooenkaaRBlobB
import Derived.Test.YtcmjdmehooenkaaRow
set_option linter.unusedSimpArgs false
set_option linter.unusedVariables false
namespace Go.Proofs.Ytcmjdmehooenkaa
open Go Go.ChangeShapes Go.WideShapes Go.ChangeAt Go.RowKit

set_option maxHeartbeats 40000000 in
set_option maxRecDepth 100000 in
theorem walk0FeesBlobs (excess : Nat) (hexcess : excess < 18446744073709551616) (used : Nat) (hused : used < 18446744073709551616) (target : Nat) (htarget : target < 18446744073709551616) (fraction : Nat) (hfraction : fraction < 18446744073709551616) (w : World) :
    Calls Try.prog 5 #[.int .u64 excess, .int .u64 used, .int .u64 target, .int .u64 fraction] w fun e w' => e = .returned (.bool true) ∧ Bl w w' := by
  go_enter Try.func5, Try.ntmps5
  have hg := guardU
  have qs := fun n w => run_eq_self n w
  have i1 := fun w => nextexcess_c excess used target hexcess hused htarget w
  have i2 := fun w => rnextexcess_c excess used target hexcess hused htarget w
  have j1 := fun w => blobbase_c excess fraction hexcess hfraction w
  have j2 := fun w => rblobbase_c excess fraction hexcess hfraction w
  generalize neV excess used target = a at *
  generalize neE excess used target = e at *
  generalize bbV excess fraction = c at *
  generalize bbE excess fraction = g at *
  have n1 := fun w => num_c e w
  have n2 := fun w => num_c g w
  go_wp2_with fail
  refine (i1 _).mono ?_
  rintro e w1 ⟨rfl, hb1⟩
  have b1 : Bl w w1 := Bl.trans (Bl.refl w) hb1
  have z1 : w.heap.size ≤ w1.heap.size := (by have := hb1.size; (try simp only [World.alloc, World.setCell, World.drew, Array.size_push, Array.size_modify] at this); omega)
  have y1 : w.heap.size ≤ w1.heap.size := b1.size
  clear hb1
  go_wp2_with fail
  refine (i2 _).mono ?_
  rintro e w2 ⟨rfl, hb2⟩
  have b2 : Bl w w2 := Bl.trans (b1) hb2
  have z2 : w1.heap.size ≤ w2.heap.size := (by have := hb2.size; (try simp only [World.alloc, World.setCell, World.drew, Array.size_push, Array.size_modify] at this); omega)
  have y2 : w.heap.size ≤ w2.heap.size := b2.size
  clear b1
  clear hb2
  go_wp2_with fail
  refine (j1 _).mono ?_
  rintro e w3 ⟨rfl, hb3⟩
  have b3 : Bl w w3 := Bl.trans (b2) hb3
  have z3 : w2.heap.size ≤ w3.heap.size := (by have := hb3.size; (try simp only [World.alloc, World.setCell, World.drew, Array.size_push, Array.size_modify] at this); omega)
  have y3 : w.heap.size ≤ w3.heap.size := b3.size
  clear b2
  clear hb3
  go_wp2_with fail
  refine (j2 _).mono ?_
  rintro e w4 ⟨rfl, hb4⟩
  have r4_0 : Box w4 w3.heap.size #[.int .u64 (L c 0), .int .u64 (L c 1), .int .u64 (L c 2), .int .u64 (L c 3)] 24 := (Box.new _ _ _ _ (by simp)).call hb4
  have b4 : Bl w w4 := Bl.trans ((b3).alloc _) hb4
  have z4 : w3.heap.size + 1 ≤ w4.heap.size := (by have := hb4.size; (try simp only [World.alloc, World.setCell, World.drew, Array.size_push, Array.size_modify] at this); omega)
  have y4 : w.heap.size ≤ w4.heap.size := b4.size
  obtain ⟨B0, hB0⟩ : ∃ B, B = w3.heap.size := ⟨_, rfl⟩
  (try rw [← hB0]); rw [← hB0] at r4_0
  have lo0 : w.heap.size ≤ B0 := by omega
  clear hB0
  clear b3
  obtain ⟨r4_0_c, r4_0_f, r4_0_l⟩ := r4_0.tell
  have d4_0 : (B0 = w4.heap.size) = False := (by simp only [eq_iff_iff, iff_false]; omega)
  have e4_0 : (w4.heap.size = B0) = False := (by simp only [eq_iff_iff, iff_false]; omega)
  have m4_0 : B0 < w4.heap.size := (by omega)
  have d4_1 : (B0 = w4.heap.size + 1) = False := (by simp only [eq_iff_iff, iff_false]; omega)
  have e4_1 : (w4.heap.size + 1 = B0) = False := (by simp only [eq_iff_iff, iff_false]; omega)
  have m4_1 : B0 < w4.heap.size + 1 := (by omega)
  clear hb4
  go_wp2_with fail
  refine (n1 _).mono ?_
  rintro e _ ⟨rfl, rfl⟩
  go_wp2_with fail
  refine (n2 _).mono ?_
  rintro e _ ⟨rfl, rfl⟩
  go_wp2_with fail
  refine bodyPost_ret (v := .bool true) (by simp only [results, Try.results5]; go_simp) rfl ⟨rfl, ?_⟩
  exact (b4).alloc _

theorem walkFeesBlobs (excess : Int) (used : Int) (target : Int) (fraction : Int) (hexcess : (Lit.int .u64 excess).wf = true) (hused : (Lit.int .u64 used).wf = true) (htarget : (Lit.int .u64 target).wf = true) (hfraction : (Lit.int .u64 fraction).wf = true) (w : World) :
    Calls Try.prog 5 #[.int .u64 excess, .int .u64 used, .int .u64 target, .int .u64 fraction] w fun e w' => e = .returned (.bool true) ∧ Bl w w' := by
  obtain ⟨zexcess, yexcess⟩ := wf64 hexcess
  obtain ⟨excess, rfl⟩ := Int.eq_ofNat_of_zero_le zexcess
  obtain ⟨zused, yused⟩ := wf64 hused
  obtain ⟨used, rfl⟩ := Int.eq_ofNat_of_zero_le zused
  obtain ⟨ztarget, ytarget⟩ := wf64 htarget
  obtain ⟨target, rfl⟩ := Int.eq_ofNat_of_zero_le ztarget
  obtain ⟨zfraction, yfraction⟩ := wf64 hfraction
  obtain ⟨fraction, rfl⟩ := Int.eq_ofNat_of_zero_le zfraction
  exact walk0FeesBlobs excess (by omega) used (by omega) target (by omega) fraction (by omega) w

set_option maxHeartbeats 1000000 in
set_option maxRecDepth 100000 in
theorem liftedFeesBlobs (os : Os) (started : os.Started) (H : Type) (enc : TypeId × Value → H) :
    ReturnsInHanded {} Try.checked os 5 .any (Rows.feesBlobsSpec.pre6 enc Try.prog Try.f5 Rows.feesBlobsRow.domain false) (Rows.feesBlobsSpec.post enc Try.prog Try.f5 false true false false) := by
  refine returnsInHanded_of_change (C := Try.checked) own started (by kernel_rfl) Try.func5
    (ChangeSpec.witness6 (enc := enc) (C := Try.checked) false ⟨#[], #[.int .u64 0, .int .u64 0, .int .u64 0, .int .u64 0], []⟩ 8 (by kernel_rfl) (by kernel_rfl) (by kernel_rfl) (by kernel_rfl)) ?_
  intro W base args ds gs before hval0 hW hcnd _
  have hval : ∀ (j : Nat) t v, Try.f5.params[j]? = some t → args[j]? = some v → Value.okWide Try.prog W .any base t v := hval0
  have hW' := hW
  obtain ⟨p, q, hA0, hV, rfl, hfz, hnd⟩ := hW
  have hA : DataW.TrodAll enc Try.prog W 0 (fun _ => true) true Try.f5.params.toList args.toList ds p := hA0
  rw [Try.params5] at hA hval
  obtain ⟨v0, vs0, d0, ds0, p0, q0, hargs, rfl, rfl, h0, r0⟩ := trodAll_cons hA
  obtain ⟨v1, vs1, d1, ds1, p1, q1, rfl, rfl, rfl, h1, r1⟩ := trodAll_cons r0
  obtain ⟨v2, vs2, d2, ds2, p2, q2, rfl, rfl, rfl, h2, r2⟩ := trodAll_cons r1
  obtain ⟨v3, vs3, d3, ds3, p3, q3, rfl, rfl, rfl, h3, r3⟩ := trodAll_cons r2
  obtain ⟨rfl, rfl, rfl⟩ := trodAll_nil r3
  obtain rfl : args = #[v0, v1, v2, v3] := by cases args; simp_all
  obtain ⟨rfl, rfl⟩ := trodVars_none hV
  obtain ⟨a0, rfl, rfl, rfl, g0⟩ := open_int Try.underlying22 (hval 0 22 v0 rfl rfl) h0
  obtain ⟨a1, rfl, rfl, rfl, g1⟩ := open_int Try.underlying22 (hval 1 22 v1 rfl rfl) h1
  obtain ⟨a2, rfl, rfl, rfl, g2⟩ := open_int Try.underlying22 (hval 2 22 v2 rfl rfl) h2
  obtain ⟨a3, rfl, rfl, rfl, g3⟩ := open_int Try.underlying22 (hval 3 22 v3 rfl rfl) h3
  clear hA0 hval0
  refine (walkFeesBlobs a0 a1 a2 a3 g0 g1 g2 g3 W).mono fun e W' ⟨he, bel⟩ => ?_
  subst he
  exact ⟨_, rfl, _, _, _, [], _, [], hW', trodAll_mk1 (shut_bool Try.underlying4 _), (trodAll_cons_mk (shut_int Try.underlying22 g0) (trodAll_cons_mk (shut_int Try.underlying22 g1) (trodAll_cons_mk (shut_int Try.underlying22 g2) (trodAll_cons_mk (shut_int Try.underlying22 g3) trodAll_mk0)))), rfl, bel.out.frame _, fun h => by cases h⟩

theorem provedFeesBlobs : Rows.FeesBlobsSaid :=
  OpenClaim.holds_of_wide 5 Try.f5 rfl rfl rfl rfl rfl rfl rfl ⟨rfl, rfl, rfl, rfl, rfl⟩ rfl rfl rfl rfl rfl (by kernel_rfl) Try.func5 (by kernel_rfl)
    (of_decide_eq_true (by kernel_rfl)) (by unfold Func.isWrapper; first | (rw [if_pos (by decide +kernel)]; kernel_rfl) | (rw [if_neg (by decide +kernel)]; exact ⟨rfl, rfl⟩))
    (fun os started H enc _ => liftedFeesBlobs os started H enc)
end Go.Proofs.Ytcmjdmehooenkaa

