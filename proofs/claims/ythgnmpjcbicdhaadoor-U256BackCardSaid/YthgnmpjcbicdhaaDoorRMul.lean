/- The document's Mul. -/
import Derived.Test.YthgnmpjcbicdhaaDoorRDig
set_option linter.unusedSimpArgs false
set_option linter.unusedVariables false
namespace Go.Proofs.YthgnmpjcbicdhaaDoor
open Go Go.RowKit

/-- The blocks of Mul: both halves of the answer (0 as yet), both rows of digits, the row of sixteen. -/
structure PMem (w wr : World) (A B C : Nat) (a b : Nat) (zs : List Int) : Prop where
  h : Box wr (w.heap.size + 1 + 1) #[.int .u64 0, .int .u64 0, .int .u64 0, .int .u64 0] 24
  l : Box wr (w.heap.size + 1 + 1 + 1) #[.int .u64 0, .int .u64 0, .int .u64 0, .int .u64 0] 24
  a : Box wr A (ints .u64 (Dl a)) 65
  b : Box wr B (ints .u64 (Dl b)) 65
  p : Box wr C (ints .u64 zs) 69
  la : w.heap.size + 1 + 1 + 1 < A
  lb : A < B
  lc : B < C
  bl : Bl w wr
theorem PMem.set {w wr : World} {A B C : Nat} {a b : Nat} {zs : List Int} (m : PMem w wr A B C a b zs) (i : Nat) (v : Int) : PMem w (wr.setCell ⟨C, i, none⟩ (.int .u64 v)) A B C a b (zs.set i v) := by
  have := m.la; have := m.lb; have := m.lc
  exact ⟨m.h.far _ _ (by simp only []; omega), m.l.far _ _ (by simp only []; omega), m.a.far _ _ (by simp only []; omega), m.b.far _ _ (by simp only []; omega), by have := m.p.set i (.int .u64 v); rwa [ints_set] at this, m.la, m.lb, m.lc, m.bl.setCell (by simp only []; omega) _⟩
theorem PMem.drew {w wr : World} {A B C : Nat} {a b : Nat} {zs : List Int} (m : PMem w wr A B C a b zs) : PMem w wr.drew A B C a b zs :=
  ⟨m.h, m.l, m.a, m.b, m.p, m.la, m.lb, m.lc, m.bl.drew⟩

theorem prod_bd (x y : Int) (hx : 0 ≤ x) (hx' : x < 4294967296) (hy : 0 ≤ y) (hy' : y < 4294967296) : 0 ≤ x * y ∧ x * y ≤ 18446744065119617025 := by
  refine ⟨Int.mul_nonneg hx hy, ?_⟩
  have := Int.mul_le_mul (show x ≤ 4294967295 by omega) (show y ≤ 4294967295 by omega) hy (by omega : (0 : Int) ≤ 4294967295)
  simpa using this

/-- Sixteen digits are two numbers. -/
theorem v32_two (n : Nat) (zs : List Int) (hl : zs.length = 16) (hd : digs zs) (h : v32 zs = n) (hn : n < T256 * T256) : zs = Dl (n % T256) ++ Dl (n / T256) := by
  match zs, hl with
  | [z0, z1, z2, z3, z4, z5, z6, z7, z8, z9, z10, z11, z12, z13, z14, z15], _ =>
    have d1 : digs [z0, z1, z2, z3, z4, z5, z6, z7] := by
      intro k; have := hd k
      match k with | 0 | 1 | 2 | 3 | 4 | 5 | 6 | 7 => exact this | k + 8 => exact ⟨by simp, by simp [H32]⟩
    have d2 : digs [z8, z9, z10, z11, z12, z13, z14, z15] := by
      intro k; have := hd (k + 8)
      match k with | 0 | 1 | 2 | 3 | 4 | 5 | 6 | 7 => exact this | k + 8 => exact ⟨by simp, by simp [H32]⟩
    have e : v32 [z0, z1, z2, z3, z4, z5, z6, z7] + v32 [z8, z9, z10, z11, z12, z13, z14, z15] * H32 ^ 8 = n := by
      rw [← h]; simp only [v32]; unfold H32; omega
    obtain ⟨e1, e2⟩ := v32_split n _ rfl d1 _ e
    have e3 : n / T256 < T256 := (Nat.div_lt_iff_lt_mul T256_pos).2 hn
    have e4 := Dl_of (n / T256) e3 _ rfl d2 e2
    rw [← e1, ← e4]; rfl

set_option maxHeartbeats 2000000 in
set_option maxRecDepth 100000 in
theorem rmul_c (a b : Nat) (ha : a < T256) (hb : b < T256) (w : World) :
    Calls Tryd.prog 19 #[U a, U b] w fun e w' => e = .returned (.tuple #[U (a * b / T256), U (a * b % T256)]) ∧ Bl w w' := by
  have ea := fun w => digits_c a w
  have eb := fun w => digits_c b w
  simp only [ints, Dl, List.map_cons, List.map_nil] at ea eb
  go_enter Tryd.func19, Tryd.ntmps19
  go_wp2_with fail
  refine (ea _).mono ?_
  rintro e w1 ⟨rfl, hb1⟩
  clear ea
  have y1 := (((Box.new (w.alloc _) (w.heap.size + 1) #[.int .u64 (L b 0), .int .u64 (L b 1), .int .u64 (L b 2), .int .u64 (L b 3)] 24 (by simp)).alloc _).alloc _).call hb1
  have h1 := ((Box.new ((w.alloc _).alloc _) (w.heap.size + 1 + 1) #[.int .u64 0, .int .u64 0, .int .u64 0, .int .u64 0] 24 (by simp)).alloc _).call hb1
  have k1 := (Box.new (((w.alloc _).alloc _).alloc _) (w.heap.size + 1 + 1 + 1) #[.int .u64 0, .int .u64 0, .int .u64 0, .int .u64 0] 24 (by simp)).call hb1
  have b1 : Bl w w1 := Bl.trans (by repeat (first | apply Bl.alloc | exact Bl.refl _)) hb1
  clear hb1
  have l1 := k1.lt
  obtain ⟨p1, p2, p3⟩ := y1.tell
  go_wp2_with fail
  refine (eb _).mono ?_
  rintro e w2 ⟨rfl, hb2⟩
  clear eb p1 p2 p3
  have h2 := (h1.alloc _).call hb2
  have k2 := (k1.alloc _).call hb2
  have a2 := (Box.new w1 w1.heap.size (ints .u64 (Dl a)) 65 rfl).call hb2
  have b2 : Bl w w2 := Bl.trans (b1.alloc _) hb2
  clear hb2 h1 k1 y1 b1
  have l2 := a2.lt
  go_wp2_with fail
  obtain ⟨A, hA⟩ : ∃ A, A = w1.heap.size := ⟨_, rfl⟩
  obtain ⟨B, hB⟩ : ∃ B, B = w2.heap.size := ⟨_, rfl⟩
  rw [← hA] at a2 l1 l2 ⊢
  rw [← hB] at l2 ⊢
  go_loopw [9] (fun t wr => ∃ (i : Nat) (zs : List Int), i ≤ 8 ∧ t = .int .i64 i ∧ zs.length = 16 ∧ digs zs ∧ (∀ k, i + 8 ≤ k → zs.getD k 0 = 0) ∧
      v32 zs = lowD a i * b ∧ PMem w wr A B (B + 1) a b zs) (fun t _ => 8 - (intOf t).toNat)
  case atStart =>
    refine ⟨0, [0, 0, 0, 0, 0, 0, 0, 0, 0, 0, 0, 0, 0, 0, 0, 0], by omega, rfl, rfl, ?_, ?_, by rw [lowD_zero]; simp [v32], (h2.alloc _).alloc _, (k2.alloc _).alloc _, (a2.alloc _).alloc _, (Box.new _ _ _ _ hB).alloc _, Box.new _ _ _ _ (by simp [hB]), l1, l2, by omega, (b2.alloc _).alloc _⟩
    · intro k; match k with | 0 | 1 | 2 | 3 | 4 | 5 | 6 | 7 | 8 | 9 | 10 | 11 | 12 | 13 | 14 | 15 => exact ⟨by simp, by simp [H32]⟩ | k + 16 => exact ⟨by simp, by simp [H32]⟩
    · intro k _; match k with | 0 | 1 | 2 | 3 | 4 | 5 | 6 | 7 | 8 | 9 | 10 | 11 | 12 | 13 | 14 | 15 => simp | k + 16 => simp
  case round =>
    obtain ⟨i, zs, hi, rfl, hlen, hd, hk, hv, hm⟩ := hrel
    clear h2 k2 a2 b2 hA hB
    by_cases hlt : i < 8
    · have d : decide ((i : Int) < 8) = true := by simp; omega
      go_wp2_with fail
      clear d
      obtain ⟨wo, rfl⟩ : ∃ wo : World, wo = wr := ⟨_, rfl⟩
      have HV := Lib.hid hv
      clear hv
      go_loopw [10, 11] (fun o t wr => ∃ (j : Nat) (ov : Int) (zs' : List Int), j ≤ 8 ∧ t = .int .i64 j ∧ o = .int .u64 ov ∧ 0 ≤ ov ∧ ov < H32 ∧ zs'.length = 16 ∧ digs zs' ∧ (∀ k, i + 8 ≤ k → zs'.getD k 0 = 0) ∧
          v32 zs' + ov * H32 ^ (i + j) = lowD a i * b + D a i * lowD b j * H32 ^ i ∧ PMem w wr A B (B + 1) a b zs') (fun _ t _ => 8 - (intOf t).toNat)
      case atStart => exact ⟨0, 0, zs, by omega, rfl, rfl, by omega, by decide, hlen, hd, hk, by rw [HV.out, lowD_zero]; simp, hm⟩
      case round =>
        clear hm hk hd hlen HV
        obtain ⟨j, ov, zs', hj, rfl, rfl, ho, ho', hlen, hd, hk, hv, hm⟩ := hrel
        unfold H32 at ho'
        by_cases hjt : j < 8
        · have d : decide ((j : Int) < 8) = true := by simp; omega
          have hx : wr.cell? ⟨A, i, none⟩ = some (.int .u64 (D a i)) := by rw [hm.a.cell, ints_get _ _ _ (by simpa [Dl] using hlt), Dl_getD a i hlt]
          have hy : wr.cell? ⟨B, j, none⟩ = some (.int .u64 (D b j)) := by rw [hm.b.cell, ints_get _ _ _ (by simpa [Dl] using hjt), Dl_getD b j hjt]
          have hz : wr.cell? ⟨B + 1, i + j, none⟩ = some (.int .u64 (zs'.getD (i + j) 0)) := by rw [hm.p.cell, ints_get _ _ _ (by omega)]
          have hf : wr.frozen? ⟨B + 1, i + j, none⟩ = false := hm.p.froz _
          have z0 := (hd (i + j)).1
          have z1 := (hd (i + j)).2
          have x0 := D_nonneg a i; have x1 := D_lt a i; have y0 := D_nonneg b j; have y1 := D_lt b j
          unfold H32 at x1 y1 z1
          obtain ⟨q0, q1⟩ := prod_bd (D a i) (D b j) x0 x1 y0 y1
          obtain ⟨X, hX⟩ : ∃ X, X = D a i := ⟨_, rfl⟩
          obtain ⟨Y, hY⟩ : ∃ Y, Y = D b j := ⟨_, rfl⟩
          obtain ⟨Z, hZ⟩ : ∃ Z, Z = zs'.getD (i + j) 0 := ⟨_, rfl⟩
          rw [← hX] at hx q0 q1 x0 x1
          rw [← hY] at hy q0 q1 y0 y1
          rw [← hZ] at hz z0 z1
          have HX := Lib.hid hX; have HY := Lib.hid hY; have HZ := Lib.hid hZ; have HV := Lib.hid hv; have HL := Lib.hid hlen; have HO := Lib.hid hk; have HD := Lib.hid hd
          clear hX hY hZ hv hlen hk hd
          go_wp2_with fail
          go_region
          go_wp2_with fail
          go_roundw
          case rel =>
            have hs : (Z + X * Y + ov) % 4294967296 + (Z + X * Y + ov) / 4294967296 * 4294967296 = Z + X * Y + ov := by omega
            refine ⟨j + 1, _, zs'.set (i + j) ((Z + X * Y + ov) % 4294967296), by omega, by go_num, rfl, by omega, by unfold H32; omega, by simpa using HL.out, digs_set HD.out _ _ (by omega) (by unfold H32; omega), ?_, ?_, ?_⟩
            · intro k h1
              rw [getDset_ne _ (by omega)]; exact HO.out k h1
            · rw [v32_set _ _ _ (by rw [HL.out]; omega), ← HZ.out, show i + (j + 1) = (i + j) + 1 by omega, Int.pow_succ, lowD_succ, ← HY.out, ← HX.out, Int.pow_add]
              have h := HV.out
              rw [← HX.out, Int.pow_add] at h
              unfold H32 at *
              generalize (Z + X * Y + ov) / 4294967296 = q at *
              generalize (Z + X * Y + ov) % 4294967296 = m at *
              generalize (4294967296 : Int) ^ i = P at *
              generalize (4294967296 : Int) ^ j = R at *
              grind
            · exact PMem.set hm.drew _ _
          case measure => simp [intOf]; omega
        · have hj8 : j = 8 := by omega
          subst hj8
          have hz : wr.cell? ⟨B + 1, i + 8, none⟩ = some (.int .u64 (zs'.getD (i + 8) 0)) := by rw [hm.p.cell, ints_get _ _ _ (by omega)]
          have hf : wr.frozen? ⟨B + 1, i + 8, none⟩ = false := hm.p.froz _
          have HZ := Lib.hid (hk (i + 8) (by omega)); have HV := Lib.hid hv; have HL := Lib.hid hlen; have HO := Lib.hid hk; have HD := Lib.hid hd
          clear hv hlen hk hd
          go_wp2_with fail
          go_roundw
          case rel =>
            refine ⟨i + 1, zs'.set (i + 8) ov, by omega, by go_num, by simpa using HL.out, digs_set HD.out _ _ ho (by unfold H32; omega), ?_, ?_, hm.set _ _⟩
            · intro k h1
              rw [getDset_ne _ (by omega)]; exact HO.out k (by omega)
            · have h1 := HV.out
              rw [lowD_eight b hb] at h1
              rw [v32_set _ _ _ (by rw [HL.out]; omega), HZ.out, lowD_succ]
              rw [Int.sub_zero, h1]
              grind
          case measure => simp [intOf]; omega
    · have hi8 : i = 8 := by omega
      subst hi8
      rw [lowD_eight a ha] at hv
      have ez := v32_two (a * b) zs hlen hd (by rw [hv]; simp) (Nat.mul_lt_mul'' ha hb)
      subst ez
      have m1 := hm.p
      have m2 := hm.h
      have m3 := hm.l
      have m4 := hm.bl
      have m5 := hm.la; have m6 := hm.lb
      have eh := fun w => number_c (a * b / T256) w
      have el := fun w => number_c (a * b % T256) w
      simp only [ints, Dl, List.map_cons, List.map_nil, List.cons_append, List.nil_append] at eh el m1
      obtain ⟨p1, p2, p3⟩ := m1.tell
      have p4 : B < wr.heap.size := by omega
      clear hv hd hlen hk hm hi hlt l1 l2
      generalize hhi : a * b / T256 = hi at *
      generalize hlo : a * b % T256 = lo at *
      have HH := Lib.hid hhi; have HW := Lib.hid hlo
      clear hhi hlo ha hb
      go_wp2_with fail
      refine wp_loop_rounds 9 ?_
      iterate 8 (rw [rounds_succ]; go_wp2_with fail)
      rw [rounds_succ]
      go_wp2_with fail
      obtain ⟨W, hW⟩ : ∃ W, W = (wr.alloc (.cells #[.int .u64 (D lo 0), .int .u64 (D lo 1), .int .u64 (D lo 2), .int .u64 (D lo 3), .int .u64 (D lo 4), .int .u64 (D lo 5), .int .u64 (D lo 6), .int .u64 (D lo 7)] 65)).alloc (.cells #[.int .u64 (D hi 0), .int .u64 (D hi 1), .int .u64 (D hi 2), .int .u64 (D hi 3), .int .u64 (D hi 4), .int .u64 (D hi 5), .int .u64 (D hi 6), .int .u64 (D hi 7)] 65) := ⟨_, rfl⟩
      have xl : Box W wr.heap.size #[.int .u64 (D lo 0), .int .u64 (D lo 1), .int .u64 (D lo 2), .int .u64 (D lo 3), .int .u64 (D lo 4), .int .u64 (D lo 5), .int .u64 (D lo 6), .int .u64 (D lo 7)] 65 := by rw [hW]; exact (Box.new _ _ _ _ rfl).alloc _
      have xh : Box W (wr.heap.size + 1) #[.int .u64 (D hi 0), .int .u64 (D hi 1), .int .u64 (D hi 2), .int .u64 (D hi 3), .int .u64 (D hi 4), .int .u64 (D hi 5), .int .u64 (D hi 6), .int .u64 (D hi 7)] 65 := by rw [hW]; exact Box.new _ _ _ _ (by simp)
      have n2 : Box W (w.heap.size + 1 + 1) #[.int .u64 0, .int .u64 0, .int .u64 0, .int .u64 0] 24 := by rw [hW]; exact (m2.alloc _).alloc _
      have n3 : Box W (w.heap.size + 1 + 1 + 1) #[.int .u64 0, .int .u64 0, .int .u64 0, .int .u64 0] 24 := by rw [hW]; exact (m3.alloc _).alloc _
      have n4 : Bl w W := by rw [hW]; exact (m4.alloc _).alloc _
      rw [← hW]
      clear hW p1 p2 p3 p4 m1 m2 m3 m4 m5 m6
      obtain ⟨s1, s2, s3⟩ := xl.tell
      obtain ⟨t1, t2, t3⟩ := xh.tell
      go_region_with (first | (go_at_call_of 34 (D hi 0); refine (eh _).mono ?_; rintro e w3 ⟨rfl, hb3⟩; have lo3 := xl.drew.call hb3; obtain ⟨u1, u2, u3⟩ := lo3.tell; have h3 := n2.drew.call hb3; have k3 := n3.drew.call hb3; have b3 := n4.drew.trans hb3) | (go_at_call_of 34 (D lo 0); refine (el _).mono ?_; rintro e w4 ⟨rfl, hb4⟩; have h4 := h3.call hb4; have k4 := k3.call hb4; have b4 := b3.trans hb4; obtain ⟨v1, v2, v3⟩ := h4.tell; obtain ⟨x1, x2, x3⟩ := k4.tell))
      all_goals
        go_wp2_with fail
        refine bodyPost_ret (v := .tuple #[U hi, U lo]) (by simp [results, Tryd.results19, go_sem, v1, x1]) rfl ⟨by rw [HH.out, HW.out], ?_⟩
        iterate 8 refine Bl.setCell ?_ (by simp only []; omega) _
        exact b4
end Go.Proofs.YthgnmpjcbicdhaaDoor

