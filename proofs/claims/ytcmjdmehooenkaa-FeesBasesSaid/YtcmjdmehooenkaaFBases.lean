/- The statement FeesBases: every base fee is the document's, for every input: no condition. -/
import Derived.Test.YtcmjdmehooenkaaNextB
import Derived.Test.YtcmjdmehooenkaaRNextB
import Derived.Test.YtcmjdmehooenkaaRow
set_option linter.unusedSimpArgs false
set_option linter.unusedVariables false
namespace Go.Proofs.Ytcmjdmehooenkaa
open Go Go.ChangeShapes Go.WideShapes Go.ChangeAt Go.RowKit

set_option maxHeartbeats 40000000 in
set_option maxRecDepth 100000 in
theorem walk0FeesBases (base : Nat) (hbase : base < T256) (limit : Nat) (hlimit : limit < 18446744073709551616) (used : Nat) (hused : used < 18446744073709551616) (w : World) :
    Calls Try.prog 3 #[U base, .int .u64 limit, .int .u64 used] w fun e w' => e = .returned (.bool true) ∧ Bl w w' := by
  go_enter Try.func3, Try.ntmps3
  have hg := guardU
  have qs := fun n w => run_eq_self n w
  have i1 := fun w => nextbase_c base limit used hbase hlimit hused w
  have i2 := fun w => rnextbase_c base limit used hbase hlimit hused w
  generalize nbV base limit used = a at *
  generalize nbE base limit used = e at *
  have n1 := fun w => num_c e w
  go_wp2_with fail
  refine (i1 _).mono ?_
  rintro e w1 ⟨rfl, hb1⟩
  have r1_0 : Box w1 w.heap.size #[.int .u64 (L base 0), .int .u64 (L base 1), .int .u64 (L base 2), .int .u64 (L base 3)] 24 := (Box.new _ _ _ _ (by simp)).call hb1
  have b1 : Bl w w1 := Bl.trans ((Bl.refl w).alloc _) hb1
  have z1 : w.heap.size + 1 ≤ w1.heap.size := (by have := hb1.size; (try simp only [World.alloc, World.setCell, World.drew, Array.size_push, Array.size_modify] at this); omega)
  have y1 : w.heap.size ≤ w1.heap.size := b1.size
  obtain ⟨B0, hB0⟩ : ∃ B, B = w.heap.size := ⟨_, rfl⟩
  (try rw [← hB0]); rw [← hB0] at r1_0
  have lo0 : w.heap.size ≤ B0 := by omega
  clear hB0
  obtain ⟨r1_0_c, r1_0_f, r1_0_l⟩ := r1_0.tell
  have d1_0 : (B0 = w1.heap.size) = False := (by simp only [eq_iff_iff, iff_false]; omega)
  have e1_0 : (w1.heap.size = B0) = False := (by simp only [eq_iff_iff, iff_false]; omega)
  have m1_0 : B0 < w1.heap.size := (by omega)
  have d1_1 : (B0 = w1.heap.size + 1) = False := (by simp only [eq_iff_iff, iff_false]; omega)
  have e1_1 : (w1.heap.size + 1 = B0) = False := (by simp only [eq_iff_iff, iff_false]; omega)
  have m1_1 : B0 < w1.heap.size + 1 := (by omega)
  clear hb1
  go_wp2_with fail
  refine (i2 _).mono ?_
  rintro e w2 ⟨rfl, hb2⟩
  have r2_1 : Box w2 w1.heap.size #[.int .u64 (L a 0), .int .u64 (L a 1), .int .u64 (L a 2), .int .u64 (L a 3)] 24 := (Box.new _ _ _ _ (by simp)).call hb2
  have b2 : Bl w w2 := Bl.trans ((b1).alloc _) hb2
  have z2 : w1.heap.size + 1 ≤ w2.heap.size := (by have := hb2.size; (try simp only [World.alloc, World.setCell, World.drew, Array.size_push, Array.size_modify] at this); omega)
  have y2 : w.heap.size ≤ w2.heap.size := b2.size
  obtain ⟨B1, hB1⟩ : ∃ B, B = w1.heap.size := ⟨_, rfl⟩
  (try rw [← hB1]); rw [← hB1] at r2_1
  have lo1 : w.heap.size ≤ B1 := by omega
  clear hB1
  clear r1_0 r1_0_c r1_0_f r1_0_l b1
  obtain ⟨r2_1_c, r2_1_f, r2_1_l⟩ := r2_1.tell
  have d2_0 : (B1 = w2.heap.size) = False := (by simp only [eq_iff_iff, iff_false]; omega)
  have e2_0 : (w2.heap.size = B1) = False := (by simp only [eq_iff_iff, iff_false]; omega)
  have m2_0 : B1 < w2.heap.size := (by omega)
  have d2_1 : (B1 = w2.heap.size + 1) = False := (by simp only [eq_iff_iff, iff_false]; omega)
  have e2_1 : (w2.heap.size + 1 = B1) = False := (by simp only [eq_iff_iff, iff_false]; omega)
  have m2_1 : B1 < w2.heap.size + 1 := (by omega)
  clear hb2
  go_wp2_with fail
  refine (n1 _).mono ?_
  rintro e _ ⟨rfl, rfl⟩
  go_wp2_with fail
  refine bodyPost_ret (v := .bool true) (by simp only [results, Try.results3]; go_simp) rfl ⟨rfl, ?_⟩
  exact (b2).alloc _

theorem walkFeesBases (base : Nat) (limit : Int) (used : Int) (hbase : base < T256) (hlimit : (Lit.int .u64 limit).wf = true) (hused : (Lit.int .u64 used).wf = true) (w : World) :
    Calls Try.prog 3 #[U base, .int .u64 limit, .int .u64 used] w fun e w' => e = .returned (.bool true) ∧ Bl w w' := by
  obtain ⟨zlimit, ylimit⟩ := wf64 hlimit
  obtain ⟨limit, rfl⟩ := Int.eq_ofNat_of_zero_le zlimit
  obtain ⟨zused, yused⟩ := wf64 hused
  obtain ⟨used, rfl⟩ := Int.eq_ofNat_of_zero_le zused
  exact walk0FeesBases base hbase limit (by omega) used (by omega) w

set_option maxHeartbeats 1000000 in
set_option maxRecDepth 100000 in
theorem liftedFeesBases (os : Os) (started : os.Started) (H : Type) (enc : TypeId × Value → H) :
    ReturnsInHanded {} Try.checked os 3 .any (Rows.feesBasesSpec.pre6 enc Try.prog Try.f3 Rows.feesBasesRow.domain false) (Rows.feesBasesSpec.post enc Try.prog Try.f3 false true false false) := by
  refine returnsInHanded_of_change (C := Try.checked) own started (by kernel_rfl) Try.func3
    (ChangeSpec.witness6 (enc := enc) (C := Try.checked) false ⟨#[], #[.agg #[.int .u64 0, .int .u64 0, .int .u64 0, .int .u64 0], .int .u64 0, .int .u64 0], []⟩ 8 (by kernel_rfl) (by kernel_rfl) (by kernel_rfl) (by kernel_rfl)) ?_
  intro W base args ds gs before hval0 hW hcnd _
  have hval : ∀ (j : Nat) t v, Try.f3.params[j]? = some t → args[j]? = some v → Value.okWide Try.prog W .any base t v := hval0
  have hW' := hW
  obtain ⟨p, q, hA0, hV, rfl, hfz, hnd⟩ := hW
  have hA : DataW.TrodAll enc Try.prog W 0 (fun _ => true) true Try.f3.params.toList args.toList ds p := hA0
  rw [Try.params3] at hA hval
  obtain ⟨v0, vs0, d0, ds0, p0, q0, hargs, rfl, rfl, h0, r0⟩ := trodAll_cons hA
  obtain ⟨v1, vs1, d1, ds1, p1, q1, rfl, rfl, rfl, h1, r1⟩ := trodAll_cons r0
  obtain ⟨v2, vs2, d2, ds2, p2, q2, rfl, rfl, rfl, h2, r2⟩ := trodAll_cons r1
  obtain ⟨rfl, rfl, rfl⟩ := trodAll_nil r2
  obtain rfl : args = #[v0, v1, v2] := by cases args; simp_all
  obtain ⟨rfl, rfl⟩ := trodVars_none hV
  have lt0 : ∀ x ∈ p0, x.block < W.heap.size := by obtain ⟨m, hm⟩ := h0; exact DataW.trod_lt m _ _ _ hm
  obtain ⟨a0, g0, rfl⟩ := open_U (hval 0 24 v0 rfl rfl) h0
  obtain ⟨a1, rfl, rfl, rfl, g1⟩ := open_int Try.underlying22 (hval 1 22 v1 rfl rfl) h1
  obtain ⟨a2, rfl, rfl, rfl, g2⟩ := open_int Try.underlying22 (hval 2 22 v2 rfl rfl) h2
  clear hA0 hval0
  refine (walkFeesBases a0 a1 a2 g0 g1 g2 W).mono fun e W' ⟨he, bel⟩ => ?_
  subst he
  exact ⟨_, rfl, _, _, _, [], _, [], hW', trodAll_mk1 (shut_bool Try.underlying4 _), (trodAll_cons_mk (Below.trod laidOut (by kernel_rfl) (of_decide_eq_true (by kernel_rfl)) h0 bel.out lt0) (trodAll_cons_mk (shut_int Try.underlying22 g1) (trodAll_cons_mk (shut_int Try.underlying22 g2) trodAll_mk0))), rfl, bel.out.frame _, fun h => by cases h⟩

theorem provedFeesBases : Rows.FeesBasesSaid :=
  OpenClaim.holds_of_wide 3 Try.f3 rfl rfl rfl rfl rfl rfl rfl ⟨rfl, rfl, rfl, rfl, rfl⟩ rfl rfl rfl rfl rfl (by kernel_rfl) Try.func3 (by kernel_rfl)
    (of_decide_eq_true (by kernel_rfl)) (by unfold Func.isWrapper; first | (rw [if_pos (by decide +kernel)]; kernel_rfl) | (rw [if_neg (by decide +kernel)]; exact ⟨rfl, rfl⟩))
    (fun os started H enc _ => liftedFeesBases os started H enc)
end Go.Proofs.Ytcmjdmehooenkaa

