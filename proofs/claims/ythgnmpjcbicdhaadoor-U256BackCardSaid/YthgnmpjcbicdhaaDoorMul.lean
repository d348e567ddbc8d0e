/- u256.Mul: the whole product. -/
import Derived.Test.YthgnmpjcbicdhaaDoorMul64
import Derived.Test.YthgnmpjcbicdhaaDoorArrEq
set_option linter.unusedSimpArgs false
set_option linter.unusedVariables false
namespace Go.Proofs.YthgnmpjcbicdhaaDoor
open Go Go.RowKit

/-- The blocks of Mul: both factors, both halves of the answer (0 as yet), the row of eight. -/
structure MulMem (w wr : World) (a b : Nat) (zs : List Int) : Prop where
  x : Box wr w.heap.size #[.int .u64 (L a 0), .int .u64 (L a 1), .int .u64 (L a 2), .int .u64 (L a 3)] 24
  y : Box wr (w.heap.size + 1) #[.int .u64 (L b 0), .int .u64 (L b 1), .int .u64 (L b 2), .int .u64 (L b 3)] 24
  h : Box wr (w.heap.size + 1 + 1) #[.int .u64 0, .int .u64 0, .int .u64 0, .int .u64 0] 24
  l : Box wr (w.heap.size + 1 + 1 + 1) #[.int .u64 0, .int .u64 0, .int .u64 0, .int .u64 0] 24
  z : Box wr (w.heap.size + 1 + 1 + 1 + 1) (ints .u64 zs) 65
  bl : Bl w wr
theorem limb_at (a i : Nat) (h : i < 4) : (#[Value.int .u64 (L a 0), .int .u64 (L a 1), .int .u64 (L a 2), .int .u64 (L a 3)] : Array Value)[i]? = some (.int .u64 (L a i)) := by
  match i, h with
  | 0, _ => rfl
  | 1, _ => rfl
  | 2, _ => rfl
  | 3, _ => rfl
theorem MulMem.set {w wr : World} {a b : Nat} {zs : List Int} (m : MulMem w wr a b zs) (i : Nat) (v : Int) : MulMem w (wr.setCell ⟨w.heap.size + 1 + 1 + 1 + 1, i, none⟩ (.int .u64 v)) a b (zs.set i v) :=
  ⟨m.x.far _ _ (by simp only []; omega), m.y.far _ _ (by simp only []; omega), m.h.far _ _ (by simp only []; omega), m.l.far _ _ (by simp only []; omega), by have := m.z.set i (.int .u64 v); rwa [ints_set] at this, m.bl.setCell (by simp only []; omega) _⟩
theorem MulMem.drewN {w wr : World} {a b : Nat} {zs : List Int} (m : MulMem w wr a b zs) (n : Nat) : MulMem w (wr.drewN n) a b zs :=
  ⟨m.x, m.y, m.h, m.l, m.z, m.bl.drewN n⟩

set_option maxHeartbeats 1000000 in
set_option maxRecDepth 100000 in
theorem mul_c (a b : Nat) (ha : a < T256) (hb : b < T256) (w : World) :
    Calls Tryd.prog 16 #[U a, U b] w fun e w' => e = .returned (.tuple #[U (a * b / T256), U (a * b % T256)]) ∧ Bl w w' := by
  go_enter Tryd.func16, Tryd.ntmps16
  go_wp2_with fail
  go_loopw [13] (fun t wr => ∃ (i : Nat) (zs : List Int), i ≤ 4 ∧ t = .int .i64 i ∧ zs.length = 8 ∧ lims zs ∧ (∀ k, i + 4 ≤ k → zs.getD k 0 = 0) ∧ val zs = lowI a i * b ∧ MulMem w wr a b zs)
    (fun t _ => 4 - (intOf t).toNat)
  case atStart =>
    refine ⟨0, [0, 0, 0, 0, 0, 0, 0, 0], by omega, rfl, rfl, ?_, ?_, ?_, ?_⟩
    · intro k; match k with | 0 | 1 | 2 | 3 | 4 | 5 | 6 | 7 => exact ⟨by simp, by simp [M64]⟩ | k + 8 => exact ⟨by simp, by simp [M64]⟩
    · intro k _; match k with | 0 | 1 | 2 | 3 | 4 | 5 | 6 | 7 => simp | k + 8 => simp
    · rw [lowI_zero]; simp [val]
    · exact ⟨((((Box.new _ _ _ _ rfl).alloc _).alloc _).alloc _).alloc _, (((Box.new _ _ _ _ (by simp)).alloc _).alloc _).alloc _, ((Box.new _ _ _ _ (by simp)).alloc _).alloc _, (Box.new _ _ _ _ (by simp)).alloc _, Box.new _ _ _ _ (by simp), by repeat (first | exact Bl.refl _ | apply Bl.drew | apply Bl.alloc)⟩
  case round =>
    obtain ⟨i, zs, hi, rfl, hlen, hlim, hzero, hval, hm⟩ := hrel
    by_cases hlt : i < 4
    · have d : decide ((i : Int) < 4) = true := by simp; omega
      go_wp2_with fail
      clear d
      obtain ⟨wo, rfl⟩ : ∃ wo : World, wo = wr := ⟨_, rfl⟩
      have Hval : Hid (val zs = lowI a i * b) := hval
      clear hval
      go_loopw [8, 16] (fun o t wr => ∃ (j : Nat) (ov : Int) (zs' : List Int), j ≤ 4 ∧ t = .int .i64 j ∧ o = .int .u64 ov ∧ 0 ≤ ov ∧ ov < M64 ∧ zs'.length = 8 ∧ lims zs' ∧ (∀ k, i + 4 ≤ k → zs'.getD k 0 = 0) ∧
          val zs' + ov * M64 ^ (i + j) = lowI a i * b + L a i * lowI b j * M64 ^ i ∧ MulMem w wr a b zs') (fun _ t _ => 4 - (intOf t).toNat)
      case atStart => exact ⟨0, 0, zs, by omega, rfl, rfl, by omega, by decide, hlen, hlim, hzero, by rw [Hval.out, lowI_zero]; simp, hm⟩
      case round =>
        clear hm hzero hlim hlen Hval
        obtain ⟨j, ov, zs', hj, rfl, rfl, ho, ho', hlen, hlim, hzero, hval, hm⟩ := hrel
        by_cases hjt : j < 4
        · have d : decide ((j : Int) < 4) = true := by simp; omega
          obtain ⟨s0, s1, s2, s3, s4⟩ := mul_step (L a i) (L b j) (zs'.getD (i + j) 0) ov (L_nonneg _ _) (L_lt _ _) (L_nonneg _ _) (L_lt _ _) (hlim _).1 (hlim _).2 ho ho'
          have hx : wr.cell? ⟨w.heap.size, i, none⟩ = some (.int .u64 (L a i)) := by rw [hm.x.cell, limb_at _ _ hlt]
          have hy : wr.cell? ⟨w.heap.size + 1, j, none⟩ = some (.int .u64 (L b j)) := by rw [hm.y.cell, limb_at _ _ hjt]
          have hz : wr.cell? ⟨w.heap.size + 1 + 1 + 1 + 1, i + j, none⟩ = some (.int .u64 (zs'.getD (i + j) 0)) := by rw [hm.z.cell, ints_get _ _ _ (by omega)]
          have hf : wr.frozen? ⟨w.heap.size + 1 + 1 + 1 + 1, i + j, none⟩ = false := hm.z.froz _
          have x0 := L_nonneg a i; have x1 := L_lt a i
          have y0 := L_nonneg b j; have y1 := L_lt b j
          have z0 := (hlim (i + j)).1
          have l0 := (lo64_bd (L a i) (L b j)).1
          have t0 := (sm_eq (lo64 (L a i) (L b j)) (zs'.getD (i + j) 0) 0).2.1
          obtain ⟨X, hX⟩ : ∃ X, X = L a i := ⟨_, rfl⟩
          obtain ⟨Y, hY⟩ : ∃ Y, Y = L b j := ⟨_, rfl⟩
          obtain ⟨Z, hZ⟩ : ∃ Z, Z = zs'.getD (i + j) 0 := ⟨_, rfl⟩
          rw [← hX] at hx s0 s1 s2 s3 s4 x0 x1 l0 t0
          rw [← hY] at hy s0 s1 s2 s3 s4 y0 y1 l0 t0
          rw [← hZ] at hz s0 s1 s2 s3 s4 z0 t0
          have HX := Lib.hid hX; have HY := Lib.hid hY; have HZ := Lib.hid hZ; have HV := Lib.hid hval; have HS := Lib.hid s4; have HL := Lib.hid hlen; have HO := Lib.hid hzero; have HI := Lib.hid hlim
          clear hX hY hZ hval s4 hlen hlim hzero
          have hc := call_add64
          have hq := mul64_c X Y x0 x1 y0 y1
          go_wp2_with fail
          go_quiet ((go_at_call 31; exact Calls.quiet_of_same ((hq _).mono fun e w' h => ⟨h.1, h.2.symm⟩)))
          clear hq
          go_wp2_with fail
          go_roundw
          case rel =>
            refine ⟨j + 1, _, zs'.set (i + j) (sm (sm (lo64 X Y) Z 0) ov 0), by omega, by go_num, rfl, s2, ?_, ?_, ?_, ?_, ?_, ?_⟩
            · unfold M64; omega
            · simpa using HL.out
            · exact lims_set HI.out _ _ (sm_eq _ _ _).2.1 (by have := (sm_eq (sm (lo64 X Y) Z 0) ov 0).2.2; unfold M64; omega)
            · intro k hk
              rw [getD_set_ne _ (by omega)]; exact HO.out k hk
            · rw [val_set _ _ _ (by rw [HL.out]; omega), ← HZ.out, show i + (j + 1) = (i + j) + 1 by omega, Int.pow_succ, lowI_succ, ← HY.out, ← HX.out, Int.pow_add]
              have h1 := HV.out
              have h2 := HS.out
              rw [← HX.out] at h1
              rw [Int.pow_add] at h1
              generalize M64 ^ i = A at *
              generalize M64 ^ j = B at *
              grind
            · exact (hm.drewN _).set _ _
          case measure => simp [intOf]; omega
        · have hj4 : j = 4 := by omega
          subst hj4
          have hz : wr.cell? ⟨w.heap.size + 1 + 1 + 1 + 1, i + 4, none⟩ = some (.int .u64 (zs'.getD (i + 4) 0)) := by rw [hm.z.cell, ints_get _ _ _ (by omega)]
          have hf : wr.frozen? ⟨w.heap.size + 1 + 1 + 1 + 1, i + 4, none⟩ = false := hm.z.froz _
          have HZ := Lib.hid (hzero (i + 4) (by omega)); have HV := Lib.hid hval; have HL := Lib.hid hlen; have HO := Lib.hid hzero; have HI := Lib.hid hlim
          clear hval hlen hzero hlim
          go_wp2_with fail
          go_roundw
          case rel =>
            refine ⟨i + 1, zs'.set (i + 4) ov, by omega, by go_num, by simpa using HL.out, lims_set HI.out _ _ ho ho', ?_, ?_, hm.set _ _⟩
            · intro k hk
              rw [getD_set_ne _ (by omega)]; exact HO.out k (by omega)
            · have h1 := HV.out
              rw [lowI_four b hb] at h1
              rw [val_set _ _ _ (by rw [HL.out]; omega), HZ.out, lowI_succ]
              rw [Int.sub_zero, h1]
              grind
          case measure => simp [intOf]; omega
    · have hi4 : i = 4 := by omega
      subst hi4
      rw [lowI_four a ha] at hval
      match zs, hlen with
      | [z0, z1, z2, z3, z4, z5, z6, z7], _ =>
        obtain ⟨mx, my, mh, ml, mz, mb⟩ := hm
        have b0 := hlim 0; have b1 := hlim 1; have b2 := hlim 2; have b3 := hlim 3; have b4 := hlim 4; have b5 := hlim 5; have b6 := hlim 6; have b7 := hlim 7
        simp only [List.getD_cons_zero, List.getD_cons_succ] at b0 b1 b2 b3 b4 b5 b6 b7
        simp only [ints, List.map_cons, List.map_nil] at mz
        have HV := Lib.hid hval
        clear hval hzero hlim
        obtain ⟨th1, th2, th3⟩ := mh.tell
        obtain ⟨tl1, tl2, tl3⟩ := ml.tell
        obtain ⟨tz1, tz2, tz3⟩ := mz.tell
        have hs22 : (Tryd.prog.info? 22).map (·.size) = some 1 := by kernel_rfl
        have hcp := run_copy_row (P := Tryd.prog) wr.drew 67 67 3 22 (w.heap.size + 1 + 1 + 1) 0 4 4 ⟨w.heap.size + 1 + 1 + 1 + 1, 0, none⟩ 4 8 _ 24
          [.int .u64 z0, .int .u64 z1, .int .u64 z2, .int .u64 z3] Tryd.underlying67 hs22 ml.drew rfl
          (by intro j v hj; match j, hj with | 0, hj | 1, hj | 2, hj | 3, hj => simp at hj; subst hj; simp [Addr.add, tz1]) (by simp)
          (by intro v hv; simp at hv; rcases hv with h | h | h | h <;> subst h <;> rfl)
        simp only [List.length_cons, List.length_nil, List.take_zero, List.nil_append, Nat.zero_add, List.drop_succ_cons, List.drop_zero, List.append_nil, List.drop_nil] at hcp
        go_wp2_with fail
        go_region
        clear hcp th1 th2 tl1 tl2 tz1 tz2
        obtain ⟨W1, hW1⟩ : ∃ W1, wr.drew.setRow (w.heap.size + 1 + 1 + 1) #[.int .u64 z0, .int .u64 z1, .int .u64 z2, .int .u64 z3] = W1 := ⟨_, rfl⟩
        have nl : Box W1 (w.heap.size + 1 + 1 + 1) #[.int .u64 z0, .int .u64 z1, .int .u64 z2, .int .u64 z3] 24 := by rw [← hW1]; exact ml.drew.row _
        have nh := (mh.drew).rowFar (w.heap.size + 1 + 1 + 1) #[.int .u64 z0, .int .u64 z1, .int .u64 z2, .int .u64 z3] (by omega)
        have nz := (mz.drew).rowFar (w.heap.size + 1 + 1 + 1) #[.int .u64 z0, .int .u64 z1, .int .u64 z2, .int .u64 z3] (by omega)
        have nb := (mb.drew).setRow (g := w.heap.size + 1 + 1 + 1) (by omega) #[.int .u64 z0, .int .u64 z1, .int .u64 z2, .int .u64 z3]
        rw [hW1] at nh nz nb
        rw [hW1]
        clear hW1 mh ml mz mb th3 tl3 tz3 mx my
        obtain ⟨th1, th2, th3⟩ := nh.tell
        obtain ⟨tl1, tl2, tl3⟩ := nl.tell
        obtain ⟨tz1, tz2, tz3⟩ := nz.tell
        have hcp := run_copy_row (P := Tryd.prog) W1.drew 67 67 3 22 (w.heap.size + 1 + 1) 0 4 4 ⟨w.heap.size + 1 + 1 + 1 + 1, 4, none⟩ 4 4 _ 24
          [.int .u64 z4, .int .u64 z5, .int .u64 z6, .int .u64 z7] Tryd.underlying67 hs22 nh.drew rfl
          (by intro j v hj; match j, hj with | 0, hj | 1, hj | 2, hj | 3, hj => simp at hj; subst hj; simp [Addr.add, tz1]) (by simp)
          (by intro v hv; simp at hv; rcases hv with h | h | h | h <;> subst h <;> rfl)
        simp only [List.length_cons, List.length_nil, List.take_zero, List.nil_append, Nat.zero_add, List.drop_succ_cons, List.drop_zero, List.append_nil, List.drop_nil] at hcp
        go_wp2_with fail
        go_region
        clear hcp th1 th2 tl1 tl2 tz1 tz2
        obtain ⟨W2, hW2⟩ : ∃ W2, W1.drew.setRow (w.heap.size + 1 + 1) #[.int .u64 z4, .int .u64 z5, .int .u64 z6, .int .u64 z7] = W2 := ⟨_, rfl⟩
        have oh : Box W2 (w.heap.size + 1 + 1) #[.int .u64 z4, .int .u64 z5, .int .u64 z6, .int .u64 z7] 24 := by rw [← hW2]; exact nh.drew.row _
        have ol := (nl.drew).rowFar (w.heap.size + 1 + 1) #[.int .u64 z4, .int .u64 z5, .int .u64 z6, .int .u64 z7] (by omega)
        have ob := (nb.drew).setRow (g := w.heap.size + 1 + 1) (by omega) #[.int .u64 z4, .int .u64 z5, .int .u64 z6, .int .u64 z7]
        rw [hW2] at ol ob
        rw [hW2]
        clear hW2 nh nl nz nb th3 tl3 tz3
        obtain ⟨th1, th2, th3⟩ := oh.tell
        obtain ⟨tl1, tl2, tl3⟩ := ol.tell
        go_wp2_with fail
        refine bodyPost_ret (v := .tuple #[.agg #[.int .u64 z4, .int .u64 z5, .int .u64 z6, .int .u64 z7], .agg #[.int .u64 z0, .int .u64 z1, .int .u64 z2, .int .u64 z3]])
          (by simp [results, Tryd.results16, go_sem, th1, tl1]) rfl ⟨?_, ?_⟩
        · rw [mul_limbs a b z0 z1 z2 z3 z4 z5 z6 z7 b0 b1 b2 b3 b4 b5 b6 b7 HV.out]
        · iterate 8 refine Bl.setCell ?_ (by simp only []; omega) _
          exact ob
end Go.Proofs.YthgnmpjcbicdhaaDoor

