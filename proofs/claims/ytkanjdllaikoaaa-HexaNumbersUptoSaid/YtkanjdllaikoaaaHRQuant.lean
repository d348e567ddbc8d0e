/- quantity of the document: digits as a number. -/
import Derived.Test.YtkanjdllaikoaaaHQPure
set_option linter.unusedSimpArgs false
set_option linter.unusedVariables false
namespace Go.Proofs.Ytkanjdllaikoaaa
open Go Go.RowKit Go.Proofs.YtkanjdllaikoaaaW.PrintWords Go.Proofs.YtkanjdllaikoaaaW.PrintLast Go.Proofs.YtkanjdllaikoaaaW.PrintMore Go.Proofs.Ytkanjdllaikoaaa.PHexaData

set_option maxHeartbeats 8000000 in
set_option maxRecDepth 100000 in
theorem rquant_c (s : ByteArray) (hs : s.size ≤ 33554434) (most : Nat) (hm : most ≤ 64) (w : World) :
    Calls Try.prog 19 #[.string s, .int .i64 (most : Int)] w fun e w' => e = .returned (.tuple #[U (qV (tailA s).1 (tailA s).2 most), .int .i64 (qE (tailA s).1 (tailA s).2 most)]) ∧ Bl w w' := by
  have hv := rtail_f s hs (s.size + 5) (by omega)
  have hbd := tailA_bd s
  have hlen := tailA_len s
  obtain ⟨⟨l, ok⟩, hA⟩ : ∃ x, x = tailA s := ⟨_, rfl⟩
  rw [← hA] at hv hbd hlen ⊢
  simp only [] at hbd hlen ⊢
  have HV := Lib.hid hv; have HB := Lib.hid hbd
  have hlI : (l.length : Int) ≤ 33554434 := by omega
  have hmI : (most : Int) ≤ 64 := by omega
  obtain ⟨E, hE⟩ : ∃ E, E = qE l ok most := ⟨_, rfl⟩
  obtain ⟨V, hV⟩ : ∃ V, V = qV l ok most := ⟨_, rfl⟩
  rw [← hE, ← hV]
  clear hv hbd hA hs
  go_enter Try.func19, Try.ntmps19
  go_wp2_with fail
  refine (waybillref08_tail.calls _ s l ok _ HV.out).mono ?_
  rintro e w1 ⟨v1, rfl, hR1, hb1⟩
  obtain ⟨A1, d1, rfl, hd1, hC1⟩ := Kd.R_reads hR1
  have hx1 : Box w1 w.heap.size #[.int .u64 0, .int .u64 0, .int .u64 0, .int .u64 0] 33 := (Box.new _ _ _ _ rfl).call hb1
  have B1 := Lib.hid (show Bl w w1 from Bl.trans ((Bl.refl w).alloc _) hb1)
  obtain ⟨c1, f1, z1⟩ := hx1.tell
  have HR := Lib.hid hR1; have HC := Lib.hid hC1
  clear hR1 hC1 hb1
  have HX1 := Lib.hid hx1
  clear hx1
  by_cases hok : ok = false
  · subst hok
    have e1 : E = 80 := by rw [hE]; simp [qE, *]
    have e2 : V = 0 := by rw [hV]; simp [qV, *]
    clear hE hV
    subst e1; subst e2
    go_wp2_with fail
    refine bodyPost_ret (v := .tuple #[U 0, .int .i64 80]) (by rw [U_null]; simp only [results, Try.results19]; go_simp) rfl ⟨rfl, ?_⟩
    exact (by repeat (first | exact B1.out | (refine Bl.setCell ?_ (by simp only []; omega) _) | apply Bl.alloc))
  · obtain rfl : ok = true := by simpa using hok
    clear hok
    by_cases h0 : l.length = 0
    · have d0 : ((l.length : Int) == 0) = true := by rw [beq_iff_eq]; omega
      have e1 : E = 80 := by rw [hE]; simp [qE, *]
      have e2 : V = 0 := by rw [hV]; simp [qV, *]
      clear hE hV
      subst e1; subst e2
      go_wp2_with fail
      refine bodyPost_ret (v := .tuple #[U 0, .int .i64 80]) (by rw [U_null]; simp only [results, Try.results19]; go_simp) rfl ⟨rfl, ?_⟩
      exact (by repeat (first | exact B1.out | (refine Bl.setCell ?_ (by simp only []; omega) _) | apply Bl.alloc))
    · have d0 : ((l.length : Int) == 0) = false := by rw [beq_eq_false_iff_ne]; omega
      by_cases h1 : 1 < l.length
      · have d1' : decide ((1 : Int) < (l.length : Int)) = true := decide_eq_true (by omega)
        obtain ⟨ad, hA1, hx0⟩ := Kd.at_int HC.out 0 (by omega) (by omega)
        subst hA1
        replace hx0 : w1.cell? (ad.add 0) = some (.int .i64 (rd l 0)) := hx0
        rw [Addr.add_zero'] at hx0
        have hn1 : (0 : Int) < (l.length : Int) := by omega
        by_cases h2 : rd l 0 = 0
        · have d2' : (rd l 0 == 0) = true := by simpa using h2
          have e1 : E = 82 := by rw [hE]; simp [qE, *]
          have e2 : V = 0 := by rw [hV]; simp [qV, *]
          clear hE hV
          subst e1; subst e2
          go_wp2_with fail
          refine bodyPost_ret (v := .tuple #[U 0, .int .i64 82]) (by rw [U_null]; simp only [results, Try.results19]; go_simp) rfl ⟨rfl, ?_⟩
          exact (by repeat (first | exact B1.out | (refine Bl.setCell ?_ (by simp only []; omega) _) | apply Bl.alloc))
        · have d2' : (rd l 0 == 0) = false := by simpa using h2
          by_cases h3 : most < l.length
          · have d3 : decide ((most : Int) < (l.length : Int)) = true := decide_eq_true (by omega)
            have e1 : E = 83 := by rw [hE]; simp [qE, *]
            have e2 : V = 0 := by rw [hV]; simp [qV, *]
            clear hE hV
            subst e1; subst e2
            go_wp2_with fail
            refine bodyPost_ret (v := .tuple #[U 0, .int .i64 83]) (by rw [U_null]; simp only [results, Try.results19]; go_simp) rfl ⟨rfl, ?_⟩
            exact (by repeat (first | exact B1.out | (refine Bl.setCell ?_ (by simp only []; omega) _) | apply Bl.alloc))
          · have d3 : decide ((most : Int) < (l.length : Int)) = false := decide_eq_false (by omega)
            have e1 : E = 0 := by rw [hE]; simp [qE, *]
            have e2 : V = valB 4 l := by rw [hV]; simp [qV, *]
            clear hE hV
            subst e1
            have h64 : l.length ≤ 64 := by omega
            have hnI : (l.length : Int) ≤ 64 := by omega
            have HV2 := Lib.hid e2
            clear e2
            go_wp2_with fail
            go_loopw [9] (fun t wr => ∃ i : Nat, i ≤ l.length ∧ t = .int .i64 (i : Int) ∧ Box wr w.heap.size #[.int .u64 0, .int .u64 0, .int .u64 0, .int .u64 0] 33 ∧ Box wr w1.heap.size (ints .u64 (limbs (va 4 l i))) 33 ∧ Bl w1 wr) (fun t _ => l.length - (intOf t).toNat)
            case atStart => exact ⟨0, by omega, rfl, HX1.out.alloc _, by rw [va_zero, limbs_null]; exact Box.new _ _ _ _ (by simp), (Bl.refl w1).alloc _⟩
            case round =>
              clear c1 f1 hx0
              obtain ⟨i, hi, rfl, h1, h2, h3⟩ := hrel
              by_cases hlt : i < l.length
              · obtain ⟨k, hk⟩ : ∃ k, k = l.length - 1 - i := ⟨_, rfl⟩
                obtain ⟨ad2, hA2, hx⟩ := Kd.at_int (Kd.C_below HC.out h3) (i : Int) (by omega) (by omega)
                cases hA2
                rw [Int.toNat_natCast] at hx
                obtain ⟨q, hQ⟩ : ∃ q, q = k / 16 := ⟨_, rfl⟩
                obtain ⟨r, hR⟩ : ∃ r, r = k % 16 := ⟨_, rfl⟩
                obtain ⟨x, hX⟩ : ∃ x, x = rd l (i : Int) := ⟨_, rfl⟩
                obtain ⟨z, hZ⟩ : ∃ z, z = (limbs (va 4 l i)).getD q 0 := ⟨_, rfl⟩
                rw [← hX] at hx
                have hq : q < 4 := by omega
                have hr8 : r < 16 := by omega
                have hc := h2.cell q
                rw [ints_get _ _ _ (by rw [limbs_len]; exact hq), ← hZ] at hc
                have hf := h2.froz q
                have hz := h2.lt
                have hqI : (q : Int) < 4 := by omega
                have hrI : (r : Int) < 16 := by omega
                have hkI : (k : Int) ≤ 63 := by omega
                have hkn : (l.length : Int) - 1 - (i : Int) = (k : Int) := by omega
                have hw1 : IntKind.i64.wrap ((k : Int) / 16) = (q : Int) := by rw [IntKind.wrap_i64]; omega
                have hw2 : (k : Int) % 16 = (r : Int) := by omega
                have HK := Lib.hid hk; have HQ := Lib.hid hQ; have HRR := Lib.hid hR; have HX := Lib.hid hX; have HZ := Lib.hid hZ; have HH1 := Lib.hid h1; have HH2 := Lib.hid h2; have HH3 := Lib.hid h3
                clear hk hQ hR hX hZ h1 h2 h3
                go_wp2_with fail
                go_region
                go_wp2_with fail
                go_roundw
                case rel =>
                  refine ⟨i + 1, by omega, by go_num, ((HH1.out).far _ _ (by simp only []; omega)).drew, ?_, ((HH3.out).setCell (by simp only []; omega) _).drew⟩
                  have hs := lay_step 4 16 rfl l (fun y hy => by have := HB.out y hy; omega) i k hlt HK.out (by omega)
                  have hx9 : x = l.getD i 0 := by rw [HX.out]; simp [rd]
                  have hxb := HB.out x (by rw [hx9]; simp [List.getD_eq_getElem?_getD, hlt])
                  have hwl := wrap_lay x 4 (4 * r) hxb.1 (by omega) (by omega)
                  rw [hwl]
                  have h9 := ((HH2.out).set q (.int .u64 (bits BinOp.or IntKind.u64 z ((x.toNat * 2 ^ (4 * r) : Nat) : Int)))).drew
                  rw [ints_set] at h9
                  rw [← HQ.out, ← HRR.out, ← HZ.out, ← hx9] at hs
                  rw [hs] at h9
                  exact h9
                case measure => simp [intOf]; omega
              · obtain rfl : i = l.length := by omega
                rw [va_full, ← HV2.out] at h2
                simp only [ints, limbs, List.map_cons, List.map_nil] at h2
                obtain ⟨c1, f1, z3⟩ := h1.tell
                obtain ⟨c2, f2, z2⟩ := h2.tell
                have HH3 := Lib.hid (Bl.trans B1.out h3)
                clear h1 h2 h3
                go_wp2_with fail
                refine bodyPost_ret (v := .tuple #[U V, .int .i64 0]) (by simp only [results, Try.results19]; go_simp) rfl ⟨rfl, ?_⟩
                exact (by repeat (first | exact HH3.out | (refine Bl.setCell ?_ (by simp only []; omega) _) | apply Bl.alloc))
      · have d1' : decide ((1 : Int) < (l.length : Int)) = false := decide_eq_false (by omega)
        by_cases h3 : most < l.length
        · have d3 : decide ((most : Int) < (l.length : Int)) = true := decide_eq_true (by omega)
          have e1 : E = 83 := by rw [hE]; simp [qE, *]
          have e2 : V = 0 := by rw [hV]; simp [qV, *]
          clear hE hV
          subst e1; subst e2
          go_wp2_with fail
          refine bodyPost_ret (v := .tuple #[U 0, .int .i64 83]) (by rw [U_null]; simp only [results, Try.results19]; go_simp) rfl ⟨rfl, ?_⟩
          exact (by repeat (first | exact B1.out | (refine Bl.setCell ?_ (by simp only []; omega) _) | apply Bl.alloc))
        · have d3 : decide ((most : Int) < (l.length : Int)) = false := decide_eq_false (by omega)
          have e1 : E = 0 := by rw [hE]; simp [qE, *]
          have e2 : V = valB 4 l := by rw [hV]; simp [qV, *]
          clear hE hV
          subst e1
          have h64 : l.length ≤ 64 := by omega
          have hnI : (l.length : Int) ≤ 64 := by omega
          have HV2 := Lib.hid e2
          clear e2
          go_wp2_with fail
          go_loopw [9] (fun t wr => ∃ i : Nat, i ≤ l.length ∧ t = .int .i64 (i : Int) ∧ Box wr w.heap.size #[.int .u64 0, .int .u64 0, .int .u64 0, .int .u64 0] 33 ∧ Box wr w1.heap.size (ints .u64 (limbs (va 4 l i))) 33 ∧ Bl w1 wr) (fun t _ => l.length - (intOf t).toNat)
          case atStart => exact ⟨0, by omega, rfl, HX1.out.alloc _, by rw [va_zero, limbs_null]; exact Box.new _ _ _ _ (by simp), (Bl.refl w1).alloc _⟩
          case round =>
            clear c1 f1 
            obtain ⟨i, hi, rfl, h1, h2, h3⟩ := hrel
            by_cases hlt : i < l.length
            · obtain ⟨k, hk⟩ : ∃ k, k = l.length - 1 - i := ⟨_, rfl⟩
              obtain ⟨ad2, hA2, hx⟩ := Kd.at_int (Kd.C_below HC.out h3) (i : Int) (by omega) (by omega)
              subst hA2
              rw [Int.toNat_natCast] at hx
              obtain ⟨q, hQ⟩ : ∃ q, q = k / 16 := ⟨_, rfl⟩
              obtain ⟨r, hR⟩ : ∃ r, r = k % 16 := ⟨_, rfl⟩
              obtain ⟨x, hX⟩ : ∃ x, x = rd l (i : Int) := ⟨_, rfl⟩
              obtain ⟨z, hZ⟩ : ∃ z, z = (limbs (va 4 l i)).getD q 0 := ⟨_, rfl⟩
              rw [← hX] at hx
              have hq : q < 4 := by omega
              have hr8 : r < 16 := by omega
              have hc := h2.cell q
              rw [ints_get _ _ _ (by rw [limbs_len]; exact hq), ← hZ] at hc
              have hf := h2.froz q
              have hz := h2.lt
              have hqI : (q : Int) < 4 := by omega
              have hrI : (r : Int) < 16 := by omega
              have hkI : (k : Int) ≤ 63 := by omega
              have hkn : (l.length : Int) - 1 - (i : Int) = (k : Int) := by omega
              have hw1 : IntKind.i64.wrap ((k : Int) / 16) = (q : Int) := by rw [IntKind.wrap_i64]; omega
              have hw2 : (k : Int) % 16 = (r : Int) := by omega
              have HK := Lib.hid hk; have HQ := Lib.hid hQ; have HRR := Lib.hid hR; have HX := Lib.hid hX; have HZ := Lib.hid hZ; have HH1 := Lib.hid h1; have HH2 := Lib.hid h2; have HH3 := Lib.hid h3
              clear hk hQ hR hX hZ h1 h2 h3
              go_wp2_with fail
              go_region
              go_wp2_with fail
              go_roundw
              case rel =>
                refine ⟨i + 1, by omega, by go_num, ((HH1.out).far _ _ (by simp only []; omega)).drew, ?_, ((HH3.out).setCell (by simp only []; omega) _).drew⟩
                have hs := lay_step 4 16 rfl l (fun y hy => by have := HB.out y hy; omega) i k hlt HK.out (by omega)
                have hx9 : x = l.getD i 0 := by rw [HX.out]; simp [rd]
                have hxb := HB.out x (by rw [hx9]; simp [List.getD_eq_getElem?_getD, hlt])
                have hwl := wrap_lay x 4 (4 * r) hxb.1 (by omega) (by omega)
                rw [hwl]
                have h9 := ((HH2.out).set q (.int .u64 (bits BinOp.or IntKind.u64 z ((x.toNat * 2 ^ (4 * r) : Nat) : Int)))).drew
                rw [ints_set] at h9
                rw [← HQ.out, ← HRR.out, ← HZ.out, ← hx9] at hs
                rw [hs] at h9
                exact h9
              case measure => simp [intOf]; omega
            · obtain rfl : i = l.length := by omega
              rw [va_full, ← HV2.out] at h2
              simp only [ints, limbs, List.map_cons, List.map_nil] at h2
              obtain ⟨c1, f1, z3⟩ := h1.tell
              obtain ⟨c2, f2, z2⟩ := h2.tell
              have HH3 := Lib.hid (Bl.trans B1.out h3)
              clear h1 h2 h3
              go_wp2_with fail
              refine bodyPost_ret (v := .tuple #[U V, .int .i64 0]) (by simp only [results, Try.results19]; go_simp) rfl ⟨rfl, ?_⟩
              exact (by repeat (first | exact HH3.out | (refine Bl.setCell ?_ (by simp only []; omega) _) | apply Bl.alloc))
end Go.Proofs.Ytkanjdllaikoaaa
