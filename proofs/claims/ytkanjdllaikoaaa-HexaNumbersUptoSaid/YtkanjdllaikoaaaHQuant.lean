/- quantity of the program: digits as a number. -/
import Derived.Test.YtkanjdllaikoaaaHQPure
set_option linter.unusedSimpArgs false
set_option linter.unusedVariables false
namespace Go.Proofs.Ytkanjdllaikoaaa
open Go Go.RowKit Go.Proofs.YtkanjdllaikoaaaW.PrintWords Go.Proofs.YtkanjdllaikoaaaW.PrintLast Go.Proofs.YtkanjdllaikoaaaW.PrintMore Go.Proofs.Ytkanjdllaikoaaa.PHexaData

set_option maxHeartbeats 8000000 in
set_option maxRecDepth 100000 in
theorem quant_c (s : ByteArray) (hs : s.size ≤ 33554434) (most : Nat) (hm : most ≤ 64) (w : World) :
    Calls Try.prog 18 #[.string s, .int .i64 (most : Int)] w fun e w' => e = .returned (.tuple #[U (qV (tailA s).1 (tailA s).2 most), .int .i64 (qE (tailA s).1 (tailA s).2 most)]) ∧ Bl w w' := by
  have hv := values_f s (by omega) (s.size + 4) (by omega)
  have hbd := tailA_bd s
  have hlen := tailA_len s
  obtain ⟨⟨l, ok⟩, hA⟩ : ∃ x, x = tailA s := ⟨_, rfl⟩
  rw [← hA] at hv hbd hlen ⊢
  simp only [] at hbd hlen ⊢
  have HV := Lib.hid hv; have HB := Lib.hid hbd
  have hlI : (l.length : Int) ≤ 33554434 := by omega
  have hmI : (most : Int) ≤ 64 := by omega
  obtain ⟨E, hE⟩ : ∃ E, E = qE l ok most := ⟨_, rfl⟩
  obtain ⟨V, hV⟩ : ∃ V, V = qV l ok most := ⟨_, rfl⟩
  rw [← hE, ← hV]
  clear hv hbd hA hs
  go_enter Try.func18, Try.ntmps18
  go_wp2_with fail
  refine (hexa_values.calls _ s l ok _ HV.out).mono ?_
  rintro e w1 ⟨v1, rfl, hR1, hb1⟩
  obtain ⟨A1, d1, rfl, hd1, hC1⟩ := Kd.R_reads hR1
  have hx1 : Box w1 w.heap.size #[.int .u64 0, .int .u64 0, .int .u64 0, .int .u64 0] 33 := (Box.new _ _ _ _ rfl).call hb1
  have B1 := Lib.hid (show Bl w w1 from Bl.trans ((Bl.refl w).alloc _) hb1)
  obtain ⟨c1, f1, z1⟩ := hx1.tell
  have HR := Lib.hid hR1; have HC := Lib.hid hC1
  clear hR1 hC1 hb1
  have HX1 := Lib.hid hx1
  clear hx1
  by_cases hok : ok = false
  · subst hok
    have e1 : E = 80 := by rw [hE]; simp [qE, *]
    have e2 : V = 0 := by rw [hV]; simp [qV, *]
    clear hE hV
    subst e1; subst e2
    go_wp2_with fail
    refine bodyPost_ret (v := .tuple #[U 0, .int .i64 80]) (by rw [U_null]; simp only [results, Try.results18]; go_simp) rfl ⟨rfl, ?_⟩
    exact (by repeat (first | exact B1.out | (refine Bl.setCell ?_ (by simp only []; omega) _) | apply Bl.alloc))
  · obtain rfl : ok = true := by simpa using hok
    clear hok
    by_cases h0 : l.length = 0
    · have d0 : ((l.length : Int) == 0) = true := by rw [beq_iff_eq]; omega
      have e1 : E = 80 := by rw [hE]; simp [qE, *]
      have e2 : V = 0 := by rw [hV]; simp [qV, *]
      clear hE hV
      subst e1; subst e2
      go_wp2_with fail
      refine bodyPost_ret (v := .tuple #[U 0, .int .i64 80]) (by rw [U_null]; simp only [results, Try.results18]; go_simp) rfl ⟨rfl, ?_⟩
      exact (by repeat (first | exact B1.out | (refine Bl.setCell ?_ (by simp only []; omega) _) | apply Bl.alloc))
    · have d0 : ((l.length : Int) == 0) = false := by rw [beq_eq_false_iff_ne]; omega
      by_cases h1 : 1 < l.length
      · have d1' : decide ((1 : Int) < (l.length : Int)) = true := decide_eq_true (by omega)
        obtain ⟨ad, hA1, hx0⟩ := Kd.at_int HC.out 0 (by omega) (by omega)
        subst hA1
        replace hx0 : w1.cell? (ad.add 0) = some (.int .u8 (rd l 0)) := hx0
        rw [Addr.add_zero'] at hx0
        have hn1 : (0 : Int) < (l.length : Int) := by omega
        by_cases h2 : rd l 0 = 0
        · have d2' : (rd l 0 == 0) = true := by simpa using h2
          have e1 : E = 82 := by rw [hE]; simp [qE, *]
          have e2 : V = 0 := by rw [hV]; simp [qV, *]
          clear hE hV
          subst e1; subst e2
          go_wp2_with fail
          refine bodyPost_ret (v := .tuple #[U 0, .int .i64 82]) (by rw [U_null]; simp only [results, Try.results18]; go_simp) rfl ⟨rfl, ?_⟩
          exact (by repeat (first | exact B1.out | (refine Bl.setCell ?_ (by simp only []; omega) _) | apply Bl.alloc))
        · have d2' : (rd l 0 == 0) = false := by simpa using h2
          by_cases h3 : most < l.length
          · have d3 : decide ((most : Int) < (l.length : Int)) = true := decide_eq_true (by omega)
            have e1 : E = 83 := by rw [hE]; simp [qE, *]
            have e2 : V = 0 := by rw [hV]; simp [qV, *]
            clear hE hV
            subst e1; subst e2
            go_wp2_with fail
            refine bodyPost_ret (v := .tuple #[U 0, .int .i64 83]) (by rw [U_null]; simp only [results, Try.results18]; go_simp) rfl ⟨rfl, ?_⟩
            exact (by repeat (first | exact B1.out | (refine Bl.setCell ?_ (by simp only []; omega) _) | apply Bl.alloc))
          · have d3 : decide ((most : Int) < (l.length : Int)) = false := decide_eq_false (by omega)
            have e1 : E = 0 := by rw [hE]; simp [qE, *]
            have e2 : V = valB 4 l := by rw [hV]; simp [qV, *]
            clear hE hV
            subst e1
            have h64 : l.length ≤ 64 := by omega
            have hjl := joinN_length l h64
            have JF := Lib.hid (joined_f l h64 HB.out 41 (by omega))
            have GF := Lib.hid (fun A d w h => get_c A d (joinN l) w h (joinN_bd l HB.out) (by omega))
            rw [show getV (joinN l) = V by rw [e2, ← joinN_val l HB.out]; exact if_pos hjl, show getE (joinN l) = 0 from if_pos hjl] at GF
            clear e2 hjl h64
            go_wp2_with fail
            refine (hexa_joined.calls 41 (fun k_ => some k_ = (.slice (some ad) l.length d1 : Value).ownBlock) _ _ l (joinN l) _ (Kd.R_V (Kd.R_tight rfl HR.out)) JF.out).mono ?_
            rintro e w2 ⟨v2, rfl, hR2, hb2⟩
            obtain ⟨A2, d2, rfl, hd2, hC2⟩ := Kd.R_reads hR2
            have HX2 := Lib.hid (Box.call HX1.out hb2)
            have B2 := Lib.hid (Bl.trans B1.out hb2)
            have HC2 := Lib.hid hC2
            clear hR2 hb2 hC2
            go_wp2_with fail
            refine (GF.out A2 d2 _ HC2.out).mono ?_
            rintro e w3 ⟨rfl, hb3⟩
            have hx3 := Box.call HX2.out hb3
            have B3 := Lib.hid (Bl.trans B2.out hb3)
            obtain ⟨c3, f3, z3⟩ := hx3.tell
            clear hb3
            go_wp2_with fail
            refine bodyPost_ret (v := .tuple #[U V, .int .i64 0]) (by simp only [results, Try.results18]; go_simp) rfl ⟨rfl, ?_⟩
            exact (by repeat (first | exact B3.out | (refine Bl.setCell ?_ (by simp only []; omega) _) | apply Bl.alloc))
      · have d1' : decide ((1 : Int) < (l.length : Int)) = false := decide_eq_false (by omega)
        by_cases h3 : most < l.length
        · have d3 : decide ((most : Int) < (l.length : Int)) = true := decide_eq_true (by omega)
          have e1 : E = 83 := by rw [hE]; simp [qE, *]
          have e2 : V = 0 := by rw [hV]; simp [qV, *]
          clear hE hV
          subst e1; subst e2
          go_wp2_with fail
          refine bodyPost_ret (v := .tuple #[U 0, .int .i64 83]) (by rw [U_null]; simp only [results, Try.results18]; go_simp) rfl ⟨rfl, ?_⟩
          exact (by repeat (first | exact B1.out | (refine Bl.setCell ?_ (by simp only []; omega) _) | apply Bl.alloc))
        · have d3 : decide ((most : Int) < (l.length : Int)) = false := decide_eq_false (by omega)
          have e1 : E = 0 := by rw [hE]; simp [qE, *]
          have e2 : V = valB 4 l := by rw [hV]; simp [qV, *]
          clear hE hV
          subst e1
          have h64 : l.length ≤ 64 := by omega
          have hjl := joinN_length l h64
          have JF := Lib.hid (joined_f l h64 HB.out 41 (by omega))
          have GF := Lib.hid (fun A d w h => get_c A d (joinN l) w h (joinN_bd l HB.out) (by omega))
          rw [show getV (joinN l) = V by rw [e2, ← joinN_val l HB.out]; exact if_pos hjl, show getE (joinN l) = 0 from if_pos hjl] at GF
          clear e2 hjl h64
          go_wp2_with fail
          refine (hexa_joined.calls 41 (fun k_ => some k_ = (.slice A1 l.length d1 : Value).ownBlock) _ _ l (joinN l) _ (Kd.R_V (Kd.R_tight rfl HR.out)) JF.out).mono ?_
          rintro e w2 ⟨v2, rfl, hR2, hb2⟩
          obtain ⟨A2, d2, rfl, hd2, hC2⟩ := Kd.R_reads hR2
          have HX2 := Lib.hid (Box.call HX1.out hb2)
          have B2 := Lib.hid (Bl.trans B1.out hb2)
          have HC2 := Lib.hid hC2
          clear hR2 hb2 hC2
          go_wp2_with fail
          refine (GF.out A2 d2 _ HC2.out).mono ?_
          rintro e w3 ⟨rfl, hb3⟩
          have hx3 := Box.call HX2.out hb3
          have B3 := Lib.hid (Bl.trans B2.out hb3)
          obtain ⟨c3, f3, z3⟩ := hx3.tell
          clear hb3
          go_wp2_with fail
          refine bodyPost_ret (v := .tuple #[U V, .int .i64 0]) (by simp only [results, Try.results18]; go_simp) rfl ⟨rfl, ?_⟩
          exact (by repeat (first | exact B3.out | (refine Bl.setCell ?_ (by simp only []; omega) _) | apply Bl.alloc))
end Go.Proofs.Ytkanjdllaikoaaa
