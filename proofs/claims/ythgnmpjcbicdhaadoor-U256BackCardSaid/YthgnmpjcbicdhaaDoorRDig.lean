/- The document's digits and number; its Add and Sub. -/
import Derived.Test.YthgnmpjcbicdhaaDoorCmp
import Derived.Test.YthgnmpjcbicdhaaDoorNumD
set_option linter.unusedSimpArgs false
set_option linter.unusedVariables false
namespace Go.Proofs.YthgnmpjcbicdhaaDoor
open Go Go.RowKit

set_option maxHeartbeats 1000000 in
theorem digits_c (a : Nat) (w : World) :
    Calls Tryd.prog 33 #[U a] w fun e w' => e = .returned (.agg (ints .u64 (Dl a))) ∧ Bl w w' := by
  have e : ints .u64 (Dl a) = #[.int .u64 (L a 0 % 4294967296), .int .u64 (L a 0 / 4294967296), .int .u64 (L a 1 % 4294967296), .int .u64 (L a 1 / 4294967296),
     .int .u64 (L a 2 % 4294967296), .int .u64 (L a 2 / 4294967296), .int .u64 (L a 3 % 4294967296), .int .u64 (L a 3 / 4294967296)] := by
    rw [L_mod, L_mod, L_mod, L_mod, L_div, L_div, L_div, L_div]; rfl
  rw [e]
  clear e
  have h0 := L_nonneg a 0; have h1 := L_nonneg a 1; have h2 := L_nonneg a 2; have h3 := L_nonneg a 3
  have l0 := L_lt a 0; have l1 := L_lt a 1; have l2 := L_lt a 2; have l3 := L_lt a 3
  unfold M64 at l0 l1 l2 l3
  go_enter Tryd.func33, Tryd.ntmps33
  go_wp2_with fail
  refine wp_loop_rounds 5 ?_
  iterate 4 (rw [rounds_succ]; go_wp2_with fail)
  rw [rounds_succ]
  go_wp2_with fail
  exact bodyPost_ret (v := .agg #[.int .u64 (L a 0 % 4294967296), .int .u64 (L a 0 / 4294967296), .int .u64 (L a 1 % 4294967296), .int .u64 (L a 1 / 4294967296),
     .int .u64 (L a 2 % 4294967296), .int .u64 (L a 2 / 4294967296), .int .u64 (L a 3 % 4294967296), .int .u64 (L a 3 / 4294967296)])
    (by simp [results, Tryd.results33, go_sem]) rfl ⟨rfl, by repeat (first | apply Bl.drew | apply Bl.alloc | exact Bl.refl _)⟩

set_option maxHeartbeats 1000000 in
theorem number_c (a : Nat) (w : World) :
    Calls Tryd.prog 34 #[.agg (ints .u64 (Dl a))] w fun e w' => e = .returned (U a) ∧ Bl w w' := by
  have e : U a = .agg #[.int .u64 (D a 0 + 4294967296 * D a 1), .int .u64 (D a 2 + 4294967296 * D a 3), .int .u64 (D a 4 + 4294967296 * D a 5), .int .u64 (D a 6 + 4294967296 * D a 7)] := by
    unfold U
    rw [← L_join a 0, ← L_join a 1, ← L_join a 2, ← L_join a 3]
  rw [e]
  clear e
  simp only [ints, Dl, List.map_cons, List.map_nil]
  have h0 := D_nonneg a 0; have h1 := D_nonneg a 1; have h2 := D_nonneg a 2; have h3 := D_nonneg a 3
  have h4 := D_nonneg a 4; have h5 := D_nonneg a 5; have h6 := D_nonneg a 6; have h7 := D_nonneg a 7
  have l0 := D_lt a 0; have l1 := D_lt a 1; have l2 := D_lt a 2; have l3 := D_lt a 3
  have l4 := D_lt a 4; have l5 := D_lt a 5; have l6 := D_lt a 6; have l7 := D_lt a 7
  unfold H32 at l0 l1 l2 l3 l4 l5 l6 l7
  go_enter Tryd.func34, Tryd.ntmps34
  go_wp2_with fail
  refine wp_loop_rounds 5 ?_
  iterate 4 (rw [rounds_succ]; go_wp2_with fail; go_region; go_wp2_with fail)
  rw [rounds_succ]
  go_wp2_with fail
  exact bodyPost_ret (v := .agg #[.int .u64 (D a 0 + 4294967296 * D a 1), .int .u64 (D a 2 + 4294967296 * D a 3), .int .u64 (D a 4 + 4294967296 * D a 5), .int .u64 (D a 6 + 4294967296 * D a 7)])
    (by simp [results, Tryd.results34, go_sem]) rfl ⟨rfl, by repeat (first | apply Bl.drew | apply Bl.alloc | exact Bl.refl _)⟩

/-- The blocks of Add and Sub: the answer (0 as yet), both rows of digits. -/
structure RMem (w wr : World) (A B : Nat) (xs ys : List Int) : Prop where
  r : Box wr (w.heap.size + 1 + 1) #[.int .u64 0, .int .u64 0, .int .u64 0, .int .u64 0] 24
  a : Box wr A (ints .u64 xs) 65
  b : Box wr B (ints .u64 ys) 65
  la : w.heap.size + 1 + 1 < A
  lb : A < B
  bl : Bl w wr
theorem RMem.set {w wr : World} {A B : Nat} {xs ys : List Int} (m : RMem w wr A B xs ys) (i : Nat) (v : Int) : RMem w (wr.setCell ⟨A, i, none⟩ (.int .u64 v)) A B (xs.set i v) ys :=
  ⟨m.r.far _ _ (by have := m.la; simp only []; omega), by have := m.a.set i (.int .u64 v); rwa [ints_set] at this, m.b.far _ _ (by have := m.lb; simp only []; omega), m.la, m.lb, m.bl.setCell (by have := m.la; simp only []; omega) _⟩
theorem RMem.drew {w wr : World} {A B : Nat} {xs ys : List Int} (m : RMem w wr A B xs ys) : RMem w wr.drew A B xs ys :=
  ⟨m.r, m.a, m.b, m.la, m.lb, m.bl.drew⟩
theorem RMem.drewN {w wr : World} {A B : Nat} {xs ys : List Int} (m : RMem w wr A B xs ys) (n : Nat) : RMem w (wr.drewN n) A B xs ys :=
  ⟨m.r, m.a, m.b, m.la, m.lb, m.bl.drewN n⟩

set_option maxHeartbeats 1000000 in
set_option maxRecDepth 100000 in
theorem radd_c (a b : Nat) (ha : a < T256) (hb : b < T256) (w : World) :
    Calls Tryd.prog 21 #[U a, U b] w fun e w' => e = .returned (.tuple #[U ((a + b) % T256), .int .u64 ((a + b) / T256 : Nat)]) ∧ Bl w w' := by
  have ea := fun w => digits_c a w
  have eb := fun w => digits_c b w
  simp only [ints, Dl, List.map_cons, List.map_nil] at ea eb
  go_enter Tryd.func21, Tryd.ntmps21
  go_wp2_with fail
  refine (ea _).mono ?_
  rintro e w1 ⟨rfl, hb1⟩
  clear ea
  have y1 := ((Box.new (w.alloc _) (w.heap.size + 1) #[.int .u64 (L b 0), .int .u64 (L b 1), .int .u64 (L b 2), .int .u64 (L b 3)] 24 (by simp)).alloc _).call hb1
  have r1 := (Box.new ((w.alloc _).alloc _) (w.heap.size + 1 + 1) #[.int .u64 0, .int .u64 0, .int .u64 0, .int .u64 0] 24 (by simp)).call hb1
  have b1 : Bl w w1 := Bl.trans (by repeat (first | apply Bl.alloc | exact Bl.refl _)) hb1
  clear hb1
  have l1 := r1.lt
  obtain ⟨p1, p2, p3⟩ := y1.tell
  go_wp2_with fail
  refine (eb _).mono ?_
  rintro e w2 ⟨rfl, hb2⟩
  clear eb p1 p2 p3
  have r2 := (r1.alloc _).call hb2
  have a2 := (Box.new w1 w1.heap.size (ints .u64 (Dl a)) 65 rfl).call hb2
  have b2 : Bl w w2 := Bl.trans (b1.alloc _) hb2
  clear hb2 r1 y1 b1
  have l2 := a2.lt
  go_wp2_with fail
  obtain ⟨A, hA⟩ : ∃ A, A = w1.heap.size := ⟨_, rfl⟩
  obtain ⟨B, hB⟩ : ∃ B, B = w2.heap.size := ⟨_, rfl⟩
  rw [← hA] at a2 l1 l2 ⊢
  rw [← hB] at l2 ⊢
  go_loopw [8, 9] (fun c t wr => ∃ (i : Nat) (cv : Int) (zs : List Int), i ≤ 8 ∧ t = .int .i64 i ∧ c = .int .u64 cv ∧ 0 ≤ cv ∧ cv ≤ 1 ∧ zs.length = 8 ∧ digs zs ∧ (∀ k, i ≤ k → k < 8 → zs.getD k 0 = D a k) ∧
      v32 zs + cv * H32 ^ i = a + lowD b i ∧ RMem w wr A B zs (Dl b)) (fun _ t _ => 8 - (intOf t).toNat)
  case atStart =>
    refine ⟨0, 0, Dl a, by omega, rfl, rfl, by omega, by omega, rfl, digs_Dl a, fun k _ h => Dl_getD a k h, by rw [v32_Dl a ha, lowD_zero]; omega, r2.alloc _, a2.alloc _, Box.new _ _ _ _ hB, l1, l2, b2.alloc _⟩
  case round =>
    obtain ⟨i, cv, zs, hi, rfl, rfl, c0, c1, hlen, hd, hk, hv, hm⟩ := hrel
    clear r2 a2 b2
    by_cases hlt : i < 8
    · have d : decide ((i : Int) < 8) = true := by simp; omega
      have hx : wr.cell? ⟨A, i, none⟩ = some (.int .u64 (D a i)) := by rw [hm.a.cell, ints_get _ _ _ (by omega), hk i (Nat.le_refl _) hlt]
      have hf : wr.frozen? ⟨A, i, none⟩ = false := hm.a.froz _
      have hy : wr.cell? ⟨B, i, none⟩ = some (.int .u64 (D b i)) := by rw [hm.b.cell, ints_get _ _ _ (by simpa [Dl] using hlt), Dl_getD b i hlt]
      have x0 := D_nonneg a i; have x1 := D_lt a i; have y0 := D_nonneg b i; have y1 := D_lt b i
      unfold H32 at x1 y1
      have HV := Lib.hid hv; have HK := Lib.hid hk; have HD := Lib.hid hd; have HL := Lib.hid hlen; have HA := Lib.hid hA; have HB := Lib.hid hB
      clear hv hk hd hlen hA hB
      go_wp2_with fail
      go_region
      go_wp2_with fail
      go_roundw
      case rel =>
        refine ⟨i + 1, _, zs.set i ((D a i + D b i + cv) % 4294967296), by omega, by go_num, rfl, by omega, by omega, by simpa using HL.out, digs_set HD.out _ _ (by omega) (by unfold H32; omega), ?_, ?_, ?_⟩
        · intro k h1 h2
          rw [getDset_ne _ (by omega)]; exact HK.out k (by omega) h2
        · rw [v32_set _ _ _ (by rw [HL.out]; exact hlt), HK.out i (Nat.le_refl _) hlt, lowD_succ, Int.pow_succ]
          have h := HV.out
          have hs : (D a i + D b i + cv) % 4294967296 + (D a i + D b i + cv) / 4294967296 * 4294967296 = D a i + D b i + cv := by omega
          unfold H32 at *
          generalize (D a i + D b i + cv) / 4294967296 = q at *
          generalize (D a i + D b i + cv) % 4294967296 = m at *
          generalize (4294967296 : Int) ^ i = P at *
          grind
        · exact RMem.set hm.drew _ _
      case measure => simp [intOf]; omega
    · have hi8 : i = 8 := by omega
      subst hi8
      rw [lowD_eight b hb] at hv
      obtain ⟨ez, ec⟩ := v32_split (a + b) zs hlen hd cv (by rw [hv]; simp)
      subst ez
      subst ec
      have en := fun w => number_c ((a + b) % T256) w
      have m1 := hm.a
      have m2 := hm.r
      have m3 := hm.bl
      have m4 := hm.la
      simp only [ints, Dl, List.map_cons, List.map_nil] at en m1
      obtain ⟨p1, p2, p3⟩ := m1.tell
      clear hv hd hlen hk hm hA hB c0 c1 hi hlt l1 l2
      go_wp2_with fail
      refine (en _).mono ?_
      rintro e w3 ⟨rfl, hb3⟩
      have r3 := m2.call hb3
      have b3 := m3.trans hb3
      clear p1 p2 p3 m2 m3 hb3 en m1
      obtain ⟨q1, q2, q3⟩ := r3.tell
      go_wp2_with fail
      refine bodyPost_ret (v := .tuple #[U ((a + b) % T256), .int .u64 ((a + b) / T256 : Nat)]) (by simp [results, Tryd.results21, go_sem, q1]) rfl ⟨rfl, ?_⟩
      iterate 4 refine Bl.setCell ?_ (by simp only []; omega) _
      exact b3
end Go.Proofs.YthgnmpjcbicdhaaDoor

