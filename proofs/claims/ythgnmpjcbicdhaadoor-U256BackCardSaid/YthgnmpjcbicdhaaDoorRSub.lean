/- The document's Sub. -/
import Derived.Test.YthgnmpjcbicdhaaDoorRDig
set_option linter.unusedSimpArgs false
set_option linter.unusedVariables false
namespace Go.Proofs.YthgnmpjcbicdhaaDoor
open Go Go.RowKit

theorem v32_splitSub (a b : Nat) (zs : List Int) (hl : zs.length = 8) (hd : digs zs) (c : Int) (ha : a < T256) (hb : b < T256) (h : v32 zs - c * H32 ^ 8 = (a : Int) - b) : zs = Dl ((a + T256 - b) % T256) ∧ c = ((if a < b then 1 else 0 : Nat) : Int) := by
  match zs, hl with
  | [z0, z1, z2, z3, z4, z5, z6, z7], _ =>
    have gg := v32_bd z0 z1 z2 z3 z4 z5 z6 z7 hd
    rw [H8] at h
    obtain ⟨e1, e2⟩ := v32_split (a + T256 - b) [z0, z1, z2, z3, z4, z5, z6, z7] rfl hd (1 - c) (by rw [H8, Int.sub_mul, Int.one_mul]; omega)
    refine ⟨e1, ?_⟩
    have e3 : (a + T256 - b) / T256 = if a < b then 0 else 1 := by
      split
      · exact Nat.div_eq_of_lt (by omega)
      · rw [show a + T256 - b = (a - b) + T256 by omega, Nat.add_div_right _ T256_pos, Nat.div_eq_of_lt (by omega)]
    rw [e3] at e2
    split <;> rename_i hlt
    · simp only [hlt, if_true] at e2; omega
    · simp only [hlt, if_false] at e2; omega

set_option maxHeartbeats 1000000 in
set_option maxRecDepth 100000 in
theorem rsub_c (a b : Nat) (ha : a < T256) (hb : b < T256) (w : World) :
    Calls Tryd.prog 61 #[U a, U b] w fun e w' => e = .returned (.tuple #[U ((a + T256 - b) % T256), .int .u64 (if a < b then 1 else 0 : Nat)]) ∧ Bl w w' := by
  obtain ⟨bw, hbw⟩ : ∃ bw : Nat, bw = if a < b then 1 else 0 := ⟨_, rfl⟩
  rw [← hbw]
  have HBW := Lib.hid hbw
  clear hbw
  have ea := fun w => digits_c a w
  have eb := fun w => digits_c b w
  simp only [ints, Dl, List.map_cons, List.map_nil] at ea eb
  go_enter Tryd.func61, Tryd.ntmps61
  go_wp2_with fail
  refine (ea _).mono ?_
  rintro e w1 ⟨rfl, hb1⟩
  clear ea
  have y1 := ((Box.new (w.alloc _) (w.heap.size + 1) #[.int .u64 (L b 0), .int .u64 (L b 1), .int .u64 (L b 2), .int .u64 (L b 3)] 24 (by simp)).alloc _).call hb1
  have r1 := (Box.new ((w.alloc _).alloc _) (w.heap.size + 1 + 1) #[.int .u64 0, .int .u64 0, .int .u64 0, .int .u64 0] 24 (by simp)).call hb1
  have b1 : Bl w w1 := Bl.trans (by repeat (first | apply Bl.alloc | exact Bl.refl _)) hb1
  clear hb1
  have l1 := r1.lt
  obtain ⟨p1, p2, p3⟩ := y1.tell
  go_wp2_with fail
  refine (eb _).mono ?_
  rintro e w2 ⟨rfl, hb2⟩
  clear eb p1 p2 p3
  have r2 := (r1.alloc _).call hb2
  have a2 := (Box.new w1 w1.heap.size (ints .u64 (Dl a)) 65 rfl).call hb2
  have b2 : Bl w w2 := Bl.trans (b1.alloc _) hb2
  clear hb2 r1 y1 b1
  have l2 := a2.lt
  go_wp2_with fail
  obtain ⟨A, hA⟩ : ∃ A, A = w1.heap.size := ⟨_, rfl⟩
  obtain ⟨B, hB⟩ : ∃ B, B = w2.heap.size := ⟨_, rfl⟩
  rw [← hA] at a2 l1 l2 ⊢
  rw [← hB] at l2 ⊢
  go_loopw [8, 9] (fun c t wr => ∃ (i : Nat) (cv : Int) (zs : List Int), i ≤ 8 ∧ t = .int .i64 i ∧ c = .int .u64 cv ∧ 0 ≤ cv ∧ cv ≤ 1 ∧ zs.length = 8 ∧ digs zs ∧ (∀ k, i ≤ k → k < 8 → zs.getD k 0 = D a k) ∧
      v32 zs - cv * H32 ^ i = a - lowD b i ∧ RMem w wr A B zs (Dl b)) (fun _ t _ => 8 - (intOf t).toNat)
  case atStart =>
    refine ⟨0, 0, Dl a, by omega, rfl, rfl, by omega, by omega, rfl, digs_Dl a, fun k _ h => Dl_getD a k h, by rw [v32_Dl a ha, lowD_zero]; omega, r2.alloc _, a2.alloc _, Box.new _ _ _ _ hB, l1, l2, b2.alloc _⟩
  case round =>
    obtain ⟨i, cv, zs, hi, rfl, rfl, c0, c1, hlen, hd, hk, hv, hm⟩ := hrel
    clear r2 a2 b2
    by_cases hlt : i < 8
    · have d : decide ((i : Int) < 8) = true := by simp; omega
      have hx : wr.cell? ⟨A, i, none⟩ = some (.int .u64 (D a i)) := by rw [hm.a.cell, ints_get _ _ _ (by omega), hk i (Nat.le_refl _) hlt]
      have hf : wr.frozen? ⟨A, i, none⟩ = false := hm.a.froz _
      have hy : wr.cell? ⟨B, i, none⟩ = some (.int .u64 (D b i)) := by rw [hm.b.cell, ints_get _ _ _ (by simpa [Dl] using hlt), Dl_getD b i hlt]
      have x0 := D_nonneg a i; have x1 := D_lt a i; have y0 := D_nonneg b i; have y1 := D_lt b i
      unfold H32 at x1 y1
      have HV := Lib.hid hv; have HK := Lib.hid hk; have HD := Lib.hid hd; have HL := Lib.hid hlen; have HA := Lib.hid hA; have HB := Lib.hid hB
      clear hv hk hd hlen hA hB
      by_cases hc : D a i < D b i + cv
      · go_wp2_with fail
        go_roundw
        case rel =>
          refine ⟨i + 1, _, zs.set i (D a i + 4294967296 - (D b i + cv)), by omega, by go_num, rfl, by omega, by omega, by simpa using HL.out, digs_set HD.out _ _ (by omega) (by unfold H32; omega), ?_, ?_, ?_⟩
          · intro k h1 h2
            rw [getDset_ne _ (by omega)]; exact HK.out k (by omega) h2
          · rw [v32_set _ _ _ (by rw [HL.out]; exact hlt), HK.out i (Nat.le_refl _) hlt, lowD_succ, Int.pow_succ]
            have h := HV.out
            unfold H32 at *
            generalize (4294967296 : Int) ^ i = P at *
            grind
          · have hs := RMem.set (RMem.set hm i (D a i + 4294967296)) i (D a i + 4294967296 - (D b i + cv))
            rw [List.set_set] at hs
            exact hs
        case measure => simp [intOf]; omega
      · go_wp2_with fail
        go_roundw
        case rel =>
          refine ⟨i + 1, _, zs.set i (D a i - (D b i + cv)), by omega, by go_num, rfl, by omega, by omega, by simpa using HL.out, digs_set HD.out _ _ (by omega) (by unfold H32; omega), ?_, ?_, ?_⟩
          · intro k h1 h2
            rw [getDset_ne _ (by omega)]; exact HK.out k (by omega) h2
          · rw [v32_set _ _ _ (by rw [HL.out]; exact hlt), HK.out i (Nat.le_refl _) hlt, lowD_succ, Int.pow_succ]
            have h := HV.out
            unfold H32 at *
            generalize (4294967296 : Int) ^ i = P at *
            grind
          · exact RMem.set hm _ _
        case measure => simp [intOf]; omega
    · have hi8 : i = 8 := by omega
      subst hi8
      rw [lowD_eight b hb] at hv
      obtain ⟨ez, ec⟩ := v32_splitSub a b zs hlen hd cv ha hb hv
      subst ez
      rw [← HBW.out] at ec
      clear HBW
      subst ec
      have en := fun w => number_c ((a + T256 - b) % T256) w
      have m1 := hm.a
      have m2 := hm.r
      have m3 := hm.bl
      have m4 := hm.la
      simp only [ints, Dl, List.map_cons, List.map_nil] at en m1
      obtain ⟨p1, p2, p3⟩ := m1.tell
      clear hv hd hlen hk hm hA hB c0 c1 hi hlt l1 l2
      go_wp2_with fail
      refine (en _).mono ?_
      rintro e w3 ⟨rfl, hb3⟩
      have r3 := m2.call hb3
      have b3 := m3.trans hb3
      clear p1 p2 p3 m2 m3 hb3 en m1
      obtain ⟨q1, q2, q3⟩ := r3.tell
      go_wp2_with fail
      refine bodyPost_ret (v := .tuple #[U ((a + T256 - b) % T256), .int .u64 (bw : Nat)]) (by simp [results, Tryd.results61, go_sem, q1]) rfl ⟨rfl, ?_⟩
      iterate 4 refine Bl.setCell ?_ (by simp only []; omega) _
      exact b3
end Go.Proofs.YthgnmpjcbicdhaaDoor

