/- The statement U256Shifts, for every number and int: no condition. -/
import Derived.Test.YthgnmpjcbicdhaaOver
import Derived.Test.YthgnmpjcbicdhaaRShl
import Derived.Test.YthgnmpjcbicdhaaRoot
import Derived.Test.YthgnmpjcbicdhaaRow
import Derived.Test.YthgnmpjcbicdhaaEqNo
import Derived.Test.YthgnmpjcbicdhaaVmK
set_option linter.unusedSimpArgs false
set_option linter.unusedVariables false
namespace Go.Proofs.Ythgnmpjcbicdhaa
open Go Go.ChangeShapes Go.WideShapes Go.ChangeAt Go.RowKit

theorem low_c (x y : Nat) (hx : x < T256) (hy : y < T256) (w : World) :
    Calls Try.prog 42 #[U x, U y] w fun e w' => e = .returned (U (x * y % T256)) ∧ Bl w w' := by
  have hv := fun w => mul_c x y hx hy w
  refine calls_vm [.val (U x), .val (U y)] (fn := Try.f42) Try.func42 (by kernel_rfl) (by kernel_rfl) (by kernel_rfl) (by simp [AV.okL, AV.ok]) ?_
  refine wpK_end (n := 400) (m := 0) (nx := 0) (hs := [(10, .call (.val (.tuple #[U (x * y / T256), U (x * y % T256)])))]) (v := .agg [.cell (.val (.int .u64 (L (x * y % T256) 0))), .cell (.val (.int .u64 (L (x * y % T256) 1))), .cell (.val (.int .u64 (L (x * y % T256) 2))), .cell (.val (.int .u64 (L (x * y % T256) 3)))]) follows (vcall w hv) (by kernel_rfl) ?_
  intro ρ w' hf; exact ⟨rfl, hf.to_below⟩

set_option maxHeartbeats 4000000 in
theorem walkU256Shifts (x : Nat) (n : Int) (hx : x < T256) (hn : (Lit.int .i64 n).wf = true) (w : World) :
    Calls Try.prog 11 #[U x, .int .i64 n] w fun e w' => e = .returned (.bool true) ∧ Bl w w' := by
  have hg := guardU
  have qs := fun n w => run_eq_self n w
  have hnr : -9223372036854775808 ≤ n ∧ n ≤ 9223372036854775807 := by
    simp [Lit.wf, show IntKind.i64.min = -9223372036854775808 from rfl, show IntKind.i64.max = 9223372036854775807 from rfl] at hn
    exact hn
  by_cases hin : n < 0 ∨ 255 < n
  · skip
    have i1 := fun w => shl_c x hx n w
    obtain ⟨m, hm⟩ : ∃ m, m = IntKind.i64.wrap (-n) := ⟨_, rfl⟩
    have i2 := fun w => shr_c x hx m w
    have e2 : shlZ x (-m) = shlZ x n := by
      by_cases h : n = -9223372036854775808
      · rw [shlZ_out x n (by omega), shlZ_out x (-m) (by rw [hm, h]; right; decide +kernel)]
      · have : m = -n := by rw [hm, IntKind.wrap_i64]; omega
        rw [this, show - -n = n by omega]
    rw [e2] at i2
    rw [hm] at i2
    generalize shlZ x n = v at *
    clear hx hn hm e2 hnr
    by_cases e3 : n < 0
    · have e4 : decide (n < 0) = true := by simpa using e3
      refine calls_vm [.val (U x), .val (.int .i64 n)] (fn := Try.f11) Try.func11 (by kernel_rfl) (by kernel_rfl) (by kernel_rfl) (by simp [AV.okL, AV.ok]) ?_
      refine wpK_end (n := 400) (m := 0) (nx := 0) (hs := [(14, .eq (.val (.bool true))), (21, .call (.val (U v))), (24, .eq (.val (.int .i64 (IntKind.i64.wrap (-n))))), (25, .call (.val (U v))), (26, .cmp true)]) (v := .val (.bool true)) follows (And.intro (congrArg Value.bool e4) (And.intro (vcall w i1) (And.intro (congrArg (fun z => Value.int .i64 (IntKind.i64.wrap z)) (show (0 : Int) - n = -n by omega)) (And.intro (vcall w i2) (fun w => qs v w))))) (by kernel_rfl) ?_
      intro ρ w' hf; exact ⟨rfl, hf.to_below⟩
    · have e4 : decide (n < 0) = false := by simpa using e3
      have e5 : decide (255 < n) = true := by simp; omega
      refine calls_vm [.val (U x), .val (.int .i64 n)] (fn := Try.f11) Try.func11 (by kernel_rfl) (by kernel_rfl) (by kernel_rfl) (by simp [AV.okL, AV.ok]) ?_
      refine wpK_end (n := 400) (m := 0) (nx := 0) (hs := [(14, .eq (.val (.bool false))), (17, .eq (.val (.bool true))), (21, .call (.val (U v))), (24, .eq (.val (.int .i64 (IntKind.i64.wrap (-n))))), (25, .call (.val (U v))), (26, .cmp true)]) (v := .val (.bool true)) follows (And.intro (congrArg Value.bool e4) (And.intro (congrArg Value.bool e5) (And.intro (vcall w i1) (And.intro (congrArg (fun z => Value.int .i64 (IntKind.i64.wrap z)) (show (0 : Int) - n = -n by omega)) (And.intro (vcall w i2) (fun w => qs v w)))))) (by kernel_rfl) ?_
      intro ρ w' hf; exact ⟨rfl, hf.to_below⟩
  · skip
    have h0 : 0 ≤ n := by omega
    have h1 : n ≤ 255 := by omega
    obtain ⟨k, rfl⟩ := Int.eq_ofNat_of_zero_le h0
    have hk : k ≤ 255 := by omega
    have d0 : decide ((k : Int) < 0) = false := decide_eq_false (by omega)
    have d1 : decide ((255 : Int) < k) = false := decide_eq_false (by omega)
    have l2 : 2 < T256 := by rw [T256_eq]; omega
    have hk64 : k < 18446744073709551616 := by omega
    have hkT : k < T256 := by rw [T256_eq]; omega
    obtain ⟨p, hp⟩ : ∃ p, p = 2 ^ k := ⟨_, rfl⟩
    have hpT : p < T256 := by rw [hp, T256_pow]; exact Nat.pow_lt_pow_right (by omega) (by omega)
    have hp0 : p ≠ 0 := by rw [hp]; exact Nat.ne_of_gt (Nat.two_pow_pos k)
    have f2 := fun w => from_c 2 (by omega) w
    have fk := fun w => from_c k hk64 w
    have wk : IntKind.u64.wrap (k : Int) = (k : Int) := by unfold IntKind.wrap; simp [IntKind.bits, IntKind.signed]; omega
    have f0 := fun w => from_c 0 (by omega) w
    have i1 := fun w => exp_c 2 k l2 hkT w
    rw [← hp, Nat.mod_eq_of_lt hpT] at i1
    obtain ⟨q, hq⟩ : ∃ q, q = x / p := ⟨_, rfl⟩
    obtain ⟨t, ht⟩ : ∃ t, t = x % p := ⟨_, rfl⟩
    have hqT : q < T256 := by rw [hq]; exact Nat.lt_of_le_of_lt (Nat.div_le_self _ _) hx
    have i2 := fun w => divmod_c x p hx hpT w
    rw [show dmR x p = x % p from if_neg hp0, show eZ p = 0 from if_neg hp0, ← hq, ← ht] at i2
    obtain ⟨od, ho⟩ : ∃ v, v = q % 2 := ⟨_, rfl⟩
    obtain ⟨q2, hq2⟩ : ∃ v, v = q / 2 := ⟨_, rfl⟩
    have i3 := fun w => divmod_c q 2 hqT l2 w
    rw [show dmR q 2 = q % 2 from if_neg (by decide), show eZ 2 = 0 from if_neg (by decide), ← ho, ← hq2] at i3
    have i4 := fun w => shl_c x hx k w
    obtain ⟨s, hs⟩ : ∃ s, s = x * p % T256 := ⟨_, rfl⟩
    rw [show shlZ x k = s by rw [shlZ_pos x k (by omega) (by omega), Int.toNat_natCast, ← hp, ← hs]] at i4
    have i5 := fun w => low_c x p hx hpT w
    rw [← hs] at i5
    have i6 := fun w => shr_c x hx k w
    rw [show shlZ x (-(k : Int)) = q by rw [shlZ_neg x hx (-(k : Int)) (by omega) (by omega), show (- -(k : Int)).toNat = k by omega, ← hp, ← hq]] at i6
    have i7 := fun w => bit_c x k w
    rw [show bitI x k = (od : Int) by rw [bitI_at x k hk, ho, hq, hp]] at i7
    have ho64 : od < 18446744073709551616 := by omega
    have fo := fun w => from_c od ho64 w
    have wo : IntKind.u64.wrap (od : Int) = (od : Int) := by unfold IntKind.wrap; simp [IntKind.bits, IntKind.signed]; omega
    have i8 := fun w => len_c x hx w
    obtain ⟨n, hn⟩ : ∃ n, n = lenN x := ⟨_, rfl⟩
    have hn256 : n ≤ 256 := by rw [hn]; exact lenN_le x 256 (by rw [← T256_pow]; exact hx)
    rw [← hn] at i8
    have hnI : (n : Int) ≤ 256 := by omega
    have hoI : (od : Int) ≤ 1 := by omega
    have d2 : decide ((n : Int) < 0) = false := by simp
    have d3 : decide ((256 : Int) < n) = false := by simp; omega
    by_cases hx0 : x = 0
    · skip
      have hn0 : n = 0 := by rw [hn, hx0]; rfl
      have hqq := fun w => run_eq_U hx T256_pos w
      rw [decide_eq_true hx0] at hqq
      subst hn0
      clear hx hn hnr hin h0 h1 hk l2 hk64 hkT hp hpT hp0 hq ht hqT ho hq2 hs ho64 hn256 hx0
      refine calls_vm [.val (U x), .val (.int .i64 (k : Int))] (fn := Try.f11) Try.func11 (by kernel_rfl) (by kernel_rfl) (by kernel_rfl) (by simp [AV.okL, AV.ok]) ?_
      refine wpK_end (n := 400) (m := 0) (nx := 0) (hs := [(14, .eq (.val (.bool false))), (17, .eq (.val (.bool false))), (31, .call (.val (U 2))), (33, .eq (.val (.int .u64 (k : Int)))), (34, .call (.val (U k))), (35, .call (.val (U p))), (39, .call (.val (.tuple #[U q, U t, .int .i64 0]))), (45, .call (.val (U 2))), (46, .call (.val (.tuple #[U q2, U od, .int .i64 0]))), (59, .call (.val (U s))), (62, .call (.val (U s))), (63, .cmp true), (68, .call (.val (U q))), (70, .cmp true), (75, .call (.val (.int .i64 (od : Int)))), (76, .eq (.val (.int .u64 (od : Int)))), (77, .call (.val (U od))), (79, .cmp true), (82, .call (.val (.int .i64 ((0 : Nat) : Int)))), (93, .call (.val (U 0))), (94, .cmp true)]) (v := .val (.bool true)) follows (And.intro (congrArg Value.bool d0) (And.intro (congrArg Value.bool d1) (And.intro (vcall w f2) (And.intro (congrArg (Value.int .u64) wk) (And.intro (vcall w fk) (And.intro (vcall w i1) (And.intro (vcall w i2) (And.intro (vcall w f2) (And.intro (vcall w i3) (And.intro (vcall w i4) (And.intro (vcall w i5) (And.intro (fun w => qs s w) (And.intro (vcall w i6) (And.intro (fun w => qs q w) (And.intro (vcall w i7) (And.intro (congrArg (Value.int .u64) wo) (And.intro (vcall w fo) (And.intro (fun w => qs od w) (And.intro (vcall w i8) (And.intro (vcall w f0) (fun w => hqq w))))))))))))))))))))) (by kernel_rfl) ?_
      intro ρ w' hf; exact ⟨rfl, hf.to_below⟩
    · skip
      have hnp : 0 < n := by rw [hn]; unfold lenN; rw [if_neg hx0]; omega
      have hlt := lenN_lt x
      have hto := lenN_top x (by rw [← hn]; exact hnp)
      rw [← hn] at hlt hto
      obtain ⟨j, rfl⟩ : ∃ j, n = j + 1 := ⟨n - 1, by omega⟩
      simp only [Nat.add_sub_cancel] at hto
      have hone : x / 2 ^ j = 1 := by
        rw [Nat.pow_succ] at hlt
        have hpj : 0 < 2 ^ j := Nat.two_pow_pos j
        refine Nat.div_eq_of_lt_le (by omega) (by omega)
      have i9 := fun w => bit_c x j w
      rw [show bitI x j = 1 by rw [bitI_at x j (by omega), hone]; rfl] at i9
      have i10 := fun w => shr_c x hx j w
      rw [show shlZ x (-(j : Int)) = 1 by rw [shlZ_neg x hx (-(j : Int)) (by omega) (by omega), show (- -(j : Int)).toNat = j by omega, hone]] at i10
      have i11 := fun w => shr_c 1 (by rw [T256_eq]; omega) 1 w
      rw [show shlZ 1 (-1) = 0 by decide +kernel] at i11
      have hqq := fun w => run_eq_U hx T256_pos w
      rw [decide_eq_false hx0] at hqq
      have d4 : (((j + 1 : Nat) : Int) == 0) = false := by rw [beq_eq_false_iff_ne]; omega
      have d5 : (((j : Int) + 1) == 0) = false := by rw [beq_eq_false_iff_ne]; omega
      have hjI : (j : Int) ≤ 255 := by omega
      clear hx hn hnr hin h0 h1 hk l2 hk64 hkT hp hpT hp0 hq ht hqT ho hq2 hs ho64 hn256 hlt hto hone hx0 hnp
      simp only [Int.natCast_add, Int.cast_ofNat_Int] at *
      have wj : IntKind.i64.wrap ((j : Int) + 1 - 1) = (j : Int) := by rw [IntKind.wrap_i64]; omega
      refine calls_vm [.val (U x), .val (.int .i64 (k : Int))] (fn := Try.f11) Try.func11 (by kernel_rfl) (by kernel_rfl) (by kernel_rfl) (by simp [AV.okL, AV.ok]) ?_
      refine wpK_end (n := 400) (m := 0) (nx := 0) (hs := [(14, .eq (.val (.bool false))), (17, .eq (.val (.bool false))), (31, .call (.val (U 2))), (33, .eq (.val (.int .u64 (k : Int)))), (34, .call (.val (U k))), (35, .call (.val (U p))), (39, .call (.val (.tuple #[U q, U t, .int .i64 0]))), (45, .call (.val (U 2))), (46, .call (.val (.tuple #[U q2, U od, .int .i64 0]))), (59, .call (.val (U s))), (62, .call (.val (U s))), (63, .cmp true), (68, .call (.val (U q))), (70, .cmp true), (75, .call (.val (.int .i64 (od : Int)))), (76, .eq (.val (.int .u64 (od : Int)))), (77, .call (.val (U od))), (79, .cmp true), (82, .call (.val (.int .i64 ((j : Int) + 1)))), (84, .eq (.val (.bool false))), (87, .eq (.val (.bool false))), (91, .eq (.val (.bool false))), (93, .call (.val (U 0))), (94, .cmp false), (98, .eq (.val (.bool false))), (102, .eq (.val (.int .i64 (j : Int)))), (103, .call (.val (.int .i64 1))), (108, .eq (.val (.int .i64 (j : Int)))), (109, .call (.val (U 1))), (110, .call (.val (U 0))), (111, .call (.val (U 0))), (112, .cmp true)]) (v := .val (.bool true)) follows (And.intro (congrArg Value.bool d0) (And.intro (congrArg Value.bool d1) (And.intro (vcall w f2) (And.intro (congrArg (Value.int .u64) wk) (And.intro (vcall w fk) (And.intro (vcall w i1) (And.intro (vcall w i2) (And.intro (vcall w f2) (And.intro (vcall w i3) (And.intro (vcall w i4) (And.intro (vcall w i5) (And.intro (fun w => qs s w) (And.intro (vcall w i6) (And.intro (fun w => qs q w) (And.intro (vcall w i7) (And.intro (congrArg (Value.int .u64) wo) (And.intro (vcall w fo) (And.intro (fun w => qs od w) (And.intro (vcall w i8) (And.intro (congrArg Value.bool d2) (And.intro (congrArg Value.bool d3) (And.intro (congrArg Value.bool d5) (And.intro (vcall w f0) (And.intro (fun w => hqq w) (And.intro (congrArg Value.bool d5) (And.intro (congrArg (Value.int .i64) wj) (And.intro (vcall w i9) (And.intro (congrArg (Value.int .i64) wj) (And.intro (vcall w i10) (And.intro (vcall w i11) (And.intro (vcall w f0) (fun w => qs 0 w)))))))))))))))))))))))))))))))) (by kernel_rfl) ?_
      intro ρ w' hf; exact ⟨rfl, hf.to_below⟩

set_option maxHeartbeats 1000000 in
set_option maxRecDepth 100000 in
theorem liftedU256Shifts (os : Os) (started : os.Started) (H : Type) (enc : TypeId × Value → H) :
    ReturnsInHanded {} Try.checked os 11 .any (Rows.u256ShiftsSpec.pre6 enc Try.prog Try.f11 Rows.u256ShiftsRow.domain false) (Rows.u256ShiftsSpec.post enc Try.prog Try.f11 false true false false) := by
  refine returnsInHanded_of_change (C := Try.checked) own started (by kernel_rfl) Try.func11
    (ChangeSpec.witness6 (enc := enc) (C := Try.checked) false ⟨#[], #[.agg #[.int .u64 0, .int .u64 0, .int .u64 0, .int .u64 0], .int .i64 0], []⟩ 8 (by kernel_rfl) (by kernel_rfl) (by kernel_rfl) (by kernel_rfl)) ?_
  intro W base args ds gs before hval0 hW hcnd _
  have hval : ∀ (j : Nat) t v, Try.f11.params[j]? = some t → args[j]? = some v → Value.okWide Try.prog W .any base t v := hval0
  have hW' := hW
  obtain ⟨p, q, hA0, hV, rfl, hfz, hnd⟩ := hW
  have hA : DataW.TrodAll enc Try.prog W 0 (fun _ => true) true Try.f11.params.toList args.toList ds p := hA0
  rw [Try.params11] at hA hval
  obtain ⟨v0, vs0, d0, ds0, p0, q0, hargs, rfl, rfl, h0, r0⟩ := trodAll_cons hA
  obtain ⟨v1, vs1, d1, ds1, p1, q1, rfl, rfl, rfl, h1, r1⟩ := trodAll_cons r0
  obtain ⟨rfl, rfl, rfl⟩ := trodAll_nil r1
  obtain rfl : args = #[v0, v1] := by cases args; simp_all
  obtain ⟨rfl, rfl⟩ := trodVars_none hV
  have lt0 : ∀ x ∈ p0, x.block < W.heap.size := by obtain ⟨m, hm⟩ := h0; exact DataW.trod_lt m _ _ _ hm
  obtain ⟨a0, g0, rfl⟩ := open_U (hval 0 24 v0 rfl rfl) h0
  obtain ⟨a1, rfl, rfl, rfl, g1⟩ := open_int Try.underlying3 (hval 1 3 v1 rfl rfl) h1
  clear hA0 hval0
  refine (walkU256Shifts a0 a1 g0 g1 W).mono fun e W' ⟨he, bel⟩ => ?_
  subst he
  exact ⟨_, rfl, _, _, _, [], _, [], hW', trodAll_mk1 (shut_bool Try.underlying4 _), (trodAll_cons_mk (Below.trod laidOut (by kernel_rfl) (of_decide_eq_true (by kernel_rfl)) h0 bel.out lt0) (trodAll_cons_mk (shut_int Try.underlying3 g1) trodAll_mk0)), rfl, bel.out.frame _, fun h => by cases h⟩

theorem provedU256Shifts : Rows.U256ShiftsSaid :=
  OpenClaim.holds_of_wide 11 Try.f11 rfl rfl rfl rfl rfl rfl rfl ⟨rfl, rfl, rfl, rfl, rfl⟩ rfl rfl rfl rfl rfl (by kernel_rfl) Try.func11 (by kernel_rfl)
    (of_decide_eq_true (by kernel_rfl)) (by unfold Func.isWrapper; first | (rw [if_pos (by decide +kernel)]; kernel_rfl) | (rw [if_neg (by decide +kernel)]; exact ⟨rfl, rfl⟩))
    (fun os started H enc _ => liftedU256Shifts os started H enc)
end Go.Proofs.Ythgnmpjcbicdhaa

