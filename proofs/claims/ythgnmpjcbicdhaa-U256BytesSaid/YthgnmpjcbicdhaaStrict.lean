/- The document's Get; Strict of both. -/
import Derived.Test.YthgnmpjcbicdhaaGet
import Derived.Test.YthgnmpjcbicdhaaLayA
set_option linter.unusedSimpArgs false
set_option linter.unusedVariables false
namespace Go.Proofs.Ythgnmpjcbicdhaa
open Go Go.RowKit Go.Proofs.YthgnmpjcbicdhaaW.PrintWords Go.Proofs.YthgnmpjcbicdhaaW.PrintLast Go.Proofs.YthgnmpjcbicdhaaW.PrintMore

set_option maxHeartbeats 4000000 in
set_option maxRecDepth 100000 in
theorem rget_c (A : Option Addr) (c : Nat) (l : List Int) (w : World) (hr : Kd.C (Kd.int .u8) w A l.length l) (hb : ∀ x ∈ l, 0 ≤ x ∧ x ≤ 255) (hl : l.length ≤ 140737488351232) :
    Calls Try.prog 19 #[.slice A l.length c] w fun e w' => e = .returned (.tuple #[U (getV l), .int .i64 (getE l)]) ∧ Bl w w' := by
  have HR := Lib.hid hr; have HB := Lib.hid hb
  clear hr hb
  by_cases h32 : l.length ≤ 32
  · have e1 : getV l = valB 8 l := if_pos h32
    have e2 : getE l = 0 := if_pos h32
    obtain ⟨v, hv⟩ : ∃ v, v = valB 8 l := ⟨_, rfl⟩
    rw [e1, e2, ← hv]
    have HV := Lib.hid hv
    clear e1 e2 hl hv
    have d : decide ((32 : Int) < (l.length : Int)) = false := decide_eq_false (by omega)
    have hnI : (l.length : Int) ≤ 32 := by omega
    go_enter Try.func19, Try.ntmps19
    go_wp2_with fail
    go_loopw [5] (fun t wr => ∃ i : Nat, i ≤ l.length ∧ t = .int .i64 (i : Int) ∧ Box wr w.heap.size #[.int .u64 0, .int .u64 0, .int .u64 0, .int .u64 0] 24 ∧ Box wr (w.heap.size + 1) (ints .u64 (limbs (va 8 l i))) 24 ∧ Bl w wr) (fun t _ => l.length - (intOf t).toNat)
    case atStart => exact ⟨0, by omega, rfl, (Box.new _ _ _ _ rfl).alloc _, by rw [va_zero, limbs_null]; exact Box.new _ _ _ _ (by simp), ((Bl.refl w).alloc _).alloc _⟩
    case round =>
      obtain ⟨i, hi, rfl, h1, h2, h3⟩ := hrel
      by_cases hlt : i < l.length
      · obtain ⟨k, hk⟩ : ∃ k, k = l.length - 1 - i := ⟨_, rfl⟩
        obtain ⟨ad, rfl, hx⟩ := Kd.at_int (Kd.C_below HR.out h3) (i : Int) (by omega) (by omega)
        rw [Int.toNat_natCast] at hx
        obtain ⟨q, hQ⟩ : ∃ q, q = k / 8 := ⟨_, rfl⟩
        obtain ⟨r, hR⟩ : ∃ r, r = k % 8 := ⟨_, rfl⟩
        obtain ⟨x, hX⟩ : ∃ x, x = rd l (i : Int) := ⟨_, rfl⟩
        obtain ⟨z, hZ⟩ : ∃ z, z = (limbs (va 8 l i)).getD q 0 := ⟨_, rfl⟩
        rw [← hX] at hx
        have hq : q < 4 := by omega
        have hr8 : r < 8 := by omega
        have hc := h2.cell q
        rw [ints_get _ _ _ (by rw [limbs_len]; exact hq), ← hZ] at hc
        have hf := h2.froz q
        have hz := h2.lt
        have hqI : (q : Int) < 4 := by omega
        have hkI : (k : Int) ≤ 31 := by omega
        have hkn : (l.length : Int) - 1 - (i : Int) = (k : Int) := by omega
        have hw1 : IntKind.i64.wrap ((k : Int) / 8) = (q : Int) := by rw [IntKind.wrap_i64]; omega
        have hw2 : (k : Int) % 8 = (r : Int) := by omega
        have HK := Lib.hid hk; have HQ := Lib.hid hQ; have HRR := Lib.hid hR; have HX := Lib.hid hX; have HZ := Lib.hid hZ; have HH1 := Lib.hid h1; have HH2 := Lib.hid h2; have HH3 := Lib.hid h3
        clear hk hQ hR hX hZ h1 h2 h3 h32
        go_wp2_with fail
        go_region
        go_wp2_with fail
        go_roundw
        case rel =>
          refine ⟨i + 1, by omega, by go_num, ((HH1.out).far _ _ (by simp only []; omega)).drew, ?_, ((HH3.out).setCell (by simp only []; omega) _).drew⟩
          have hs := lay_step 8 8 rfl l (fun y hy => by have := HB.out y hy; omega) i k hlt HK.out (by omega)
          have hx0 : x = l.getD i 0 := by rw [HX.out]; simp [rd]
          have hxb := HB.out x (by rw [hx0]; simp [List.getD_eq_getElem?_getD, hlt])
          have hwl := wrap_lay x 8 (8 * r) hxb.1 (by omega) (by omega)
          rw [hwl]
          have hp := lay_plus 8 8 rfl l (fun y hy => by have := HB.out y hy; omega) i k hlt HK.out (by omega)
          rw [← HQ.out, ← HRR.out, ← HZ.out, ← hx0] at hp
          rw [← HQ.out, ← HRR.out, ← HZ.out, ← hx0] at hs
          have hz0 : 0 ≤ z := by rw [HZ.out, limbs_at _ _ (by omega)]; exact L_nonneg _ _
          rw [wrap_u64s _ (by omega) hp.2, ← hp.1]
          have h9 := ((HH2.out).set q (.int .u64 (bits BinOp.or IntKind.u64 z ((x.toNat * 2 ^ (8 * r) : Nat) : Int)))).drew
          rw [ints_set] at h9
          rw [hs] at h9
          exact h9
        case measure => simp [intOf]; omega
      · obtain rfl : i = l.length := by omega
        rw [va_full, ← HV.out] at h2
        simp only [ints, limbs, List.map_cons, List.map_nil] at h2
        obtain ⟨c1, f1, z1⟩ := h1.tell
        obtain ⟨c2, f2, z2⟩ := h2.tell
        have HH3 := Lib.hid h3
        clear h1 h2 h3
        go_wp2_with fail
        refine bodyPost_ret (v := .tuple #[U v, .int .i64 0]) (by simp only [results, Try.results19]; go_simp) rfl ⟨rfl, ?_⟩
        exact (by repeat (first | exact HH3.out | (refine Bl.setCell ?_ (by simp only []; omega) _) | apply Bl.alloc))
  · have e1 : getV l = 0 := if_neg h32
    have e2 : getE l = 11 := if_neg h32
    rw [e1, e2, U_null]
    clear e1 e2
    have d : decide ((32 : Int) < (l.length : Int)) = true := decide_eq_true (by omega)
    have hnI : (l.length : Int) ≤ 140737488351232 := by omega
    clear hl h32
    go_enter Try.func19, Try.ntmps19
    go_wp2_with fail
    refine bodyPost_ret (v := .tuple #[.agg #[.int .u64 0, .int .u64 0, .int .u64 0, .int .u64 0], .int .i64 11]) (by simp only [results, Try.results19]; go_simp) rfl ⟨rfl, ?_⟩
    exact (by repeat (first | exact Bl.refl _ | (refine Bl.setCell ?_ (by simp only []; omega) _) | apply Bl.alloc))

/-- Strict's answers. -/
def stE (l : List Int) : Int := if l.length ≤ 32 then (if 0 < l.length ∧ rd l 0 = 0 then 13 else 0) else 11
def stV (l : List Int) : Nat := if l.length ≤ 32 then (if 0 < l.length ∧ rd l 0 = 0 then 0 else valB 8 l) else 0

set_option maxHeartbeats 4000000 in
set_option maxRecDepth 100000 in
theorem strict_c (A : Option Addr) (c : Nat) (l : List Int) (w : World) (hr : Kd.C (Kd.int .u8) w A l.length l) (hb : ∀ x ∈ l, 0 ≤ x ∧ x ≤ 255) (hl : l.length ≤ 140737488351232) :
    Calls Try.prog 21 #[.slice A l.length c] w fun e w' => e = .returned (.tuple #[U (stV l), .int .i64 (stE l)]) ∧ Bl w w' := by
  have GF := fun A c w h => get_c A c l w h hb hl
  have HR := Lib.hid hr
  have hnI : (l.length : Int) ≤ 140737488351232 := by omega
  obtain ⟨E, hE⟩ : ∃ E, E = stE l := ⟨_, rfl⟩
  obtain ⟨V, hV⟩ : ∃ V, V = stV l := ⟨_, rfl⟩
  rw [← hE, ← hV]
  clear hr hb hl
  by_cases h32 : l.length ≤ 32
  · rw [show getV l = valB 8 l from if_pos h32, show getE l = 0 from if_pos h32] at GF
    by_cases h0 : 0 < l.length
    · have d0 : decide ((0 : Int) < (l.length : Int)) = true := decide_eq_true (by omega)
      have d0' : decide (0 < l.length) = true := decide_eq_true (by omega)
      by_cases h2 : rd l 0 = 0
      · have d2 : (rd l 0 == 0) = true := by simpa using h2
        have e1 : E = 13 := by rw [hE]; simp [stE, *]
        have e2 : V = 0 := by rw [hV]; simp [stV, *]
        clear hE hV
        replace GF := Lib.hid GF
        subst e1; subst e2
        go_enter Try.func21, Try.ntmps21
        go_wp2_with fail
        refine (GF.out _ _ _ (Kd.C_below HR.out (((Bl.refl w).alloc _)))).mono ?_
        rintro e w1 ⟨rfl, hb1⟩
        have hx : Box w1 w.heap.size #[.int .u64 0, .int .u64 0, .int .u64 0, .int .u64 0] 24 := (Box.new _ _ _ _ rfl).call hb1
        have B1 := Lib.hid (show Bl w w1 from Bl.trans ((Bl.refl w).alloc _) hb1)
        obtain ⟨c1, f1, z1⟩ := hx.tell
        have HR1 := Lib.hid (Kd.C_below HR.out B1.out)
        clear hb1
        obtain ⟨ad, hA1, hx1⟩ := Kd.at_int HR1.out 0 (by omega) (by omega)
        subst hA1
        clear hx1
        have hx0 : ∀ o, (w1.alloc o).cell? ad = some (.int .u8 (rd l 0)) := fun o => by
          obtain ⟨ad2, e, h⟩ := Kd.at_int (Kd.C_below HR1.out ((Bl.refl w1).alloc o)) 0 (by omega) (by omega)
          cases e
          replace h : (w1.alloc o).cell? (ad.add 0) = some (.int .u8 (rd l 0)) := h
          rwa [Addr.add_zero'] at h
        have hn1 : (0 : Int) < (l.length : Int) := by omega
        go_wp2_with fail
        refine bodyPost_ret (v := .tuple #[U 0, .int .i64 13]) (by rw [U_null]; simp only [results, Try.results21]; go_simp) rfl ⟨rfl, ?_⟩
        exact (by repeat (first | exact B1.out | (refine Bl.setCell ?_ (by simp only []; omega) _) | apply Bl.alloc))
      · have d2 : (rd l 0 == 0) = false := by simpa using h2
        have e1 : E = 0 := by rw [hE]; simp [stE, *]
        have e2 : V = valB 8 l := by rw [hV]; simp [stV, *]
        clear hE hV
        rw [← e2] at GF
        clear e2
        replace GF := Lib.hid GF
        subst e1
        go_enter Try.func21, Try.ntmps21
        go_wp2_with fail
        refine (GF.out _ _ _ (Kd.C_below HR.out (((Bl.refl w).alloc _)))).mono ?_
        rintro e w1 ⟨rfl, hb1⟩
        have hx : Box w1 w.heap.size #[.int .u64 0, .int .u64 0, .int .u64 0, .int .u64 0] 24 := (Box.new _ _ _ _ rfl).call hb1
        have B1 := Lib.hid (show Bl w w1 from Bl.trans ((Bl.refl w).alloc _) hb1)
        obtain ⟨c1, f1, z1⟩ := hx.tell
        have HR1 := Lib.hid (Kd.C_below HR.out B1.out)
        clear hb1
        obtain ⟨ad, hA1, hx1⟩ := Kd.at_int HR1.out 0 (by omega) (by omega)
        subst hA1
        clear hx1
        have hx0 : ∀ o, (w1.alloc o).cell? ad = some (.int .u8 (rd l 0)) := fun o => by
          obtain ⟨ad2, e, h⟩ := Kd.at_int (Kd.C_below HR1.out ((Bl.refl w1).alloc o)) 0 (by omega) (by omega)
          cases e
          replace h : (w1.alloc o).cell? (ad.add 0) = some (.int .u8 (rd l 0)) := h
          rwa [Addr.add_zero'] at h
        have hn1 : (0 : Int) < (l.length : Int) := by omega
        go_wp2_with fail
        refine bodyPost_ret (v := .tuple #[U V, .int .i64 0]) (by simp only [results, Try.results21]; go_simp) rfl ⟨rfl, ?_⟩
        exact (by repeat (first | exact B1.out | (refine Bl.setCell ?_ (by simp only []; omega) _) | apply Bl.alloc))
    · have d0 : decide ((0 : Int) < (l.length : Int)) = false := decide_eq_false (by omega)
      have d0' : decide (0 < l.length) = false := decide_eq_false (by omega)
      have e1 : E = 0 := by rw [hE]; simp [stE, *]
      have e2 : V = valB 8 l := by rw [hV]; simp [stV, *]
      clear hE hV
      rw [← e2] at GF
      clear e2
      replace GF := Lib.hid GF
      subst e1
      go_enter Try.func21, Try.ntmps21
      go_wp2_with fail
      refine (GF.out _ _ _ (Kd.C_below HR.out (((Bl.refl w).alloc _)))).mono ?_
      rintro e w1 ⟨rfl, hb1⟩
      have hx : Box w1 w.heap.size #[.int .u64 0, .int .u64 0, .int .u64 0, .int .u64 0] 24 := (Box.new _ _ _ _ rfl).call hb1
      have B1 := Lib.hid (show Bl w w1 from Bl.trans ((Bl.refl w).alloc _) hb1)
      obtain ⟨c1, f1, z1⟩ := hx.tell
      have HR1 := Lib.hid (Kd.C_below HR.out B1.out)
      clear hb1
      go_wp2_with fail
      refine bodyPost_ret (v := .tuple #[U V, .int .i64 0]) (by simp only [results, Try.results21]; go_simp) rfl ⟨rfl, ?_⟩
      exact (by repeat (first | exact B1.out | (refine Bl.setCell ?_ (by simp only []; omega) _) | apply Bl.alloc))
  · rw [show getV l = 0 from if_neg h32, show getE l = 11 from if_neg h32] at GF
    have e1 : E = 11 := by rw [hE]; simp [stE, *]
    have e2 : V = 0 := by rw [hV]; simp [stV, *]
    clear hE hV
    replace GF := Lib.hid GF
    subst e1; subst e2
    go_enter Try.func21, Try.ntmps21
    go_wp2_with fail
    refine (GF.out _ _ _ (Kd.C_below HR.out (((Bl.refl w).alloc _)))).mono ?_
    rintro e w1 ⟨rfl, hb1⟩
    have hx : Box w1 w.heap.size #[.int .u64 0, .int .u64 0, .int .u64 0, .int .u64 0] 24 := (Box.new _ _ _ _ rfl).call hb1
    have B1 := Lib.hid (show Bl w w1 from Bl.trans ((Bl.refl w).alloc _) hb1)
    obtain ⟨c1, f1, z1⟩ := hx.tell
    have HR1 := Lib.hid (Kd.C_below HR.out B1.out)
    clear hb1
    go_wp2_with fail
    refine bodyPost_ret (v := .tuple #[U 0, .int .i64 11]) (by simp only [results, Try.results21]; go_simp) rfl ⟨rfl, ?_⟩
    exact (by repeat (first | exact B1.out | (refine Bl.setCell ?_ (by simp only []; omega) _) | apply Bl.alloc))

set_option maxHeartbeats 4000000 in
set_option maxRecDepth 100000 in
theorem rstrict_c (A : Option Addr) (c : Nat) (l : List Int) (w : World) (hr : Kd.C (Kd.int .u8) w A l.length l) (hb : ∀ x ∈ l, 0 ≤ x ∧ x ≤ 255) (hl : l.length ≤ 140737488351232) :
    Calls Try.prog 22 #[.slice A l.length c] w fun e w' => e = .returned (.tuple #[U (stV l), .int .i64 (stE l)]) ∧ Bl w w' := by
  have GF := fun A c w h => rget_c A c l w h hb hl
  have HR := Lib.hid hr
  have hnI : (l.length : Int) ≤ 140737488351232 := by omega
  obtain ⟨E, hE⟩ : ∃ E, E = stE l := ⟨_, rfl⟩
  obtain ⟨V, hV⟩ : ∃ V, V = stV l := ⟨_, rfl⟩
  rw [← hE, ← hV]
  clear hr hb hl
  by_cases h32 : l.length ≤ 32
  · rw [show getV l = valB 8 l from if_pos h32, show getE l = 0 from if_pos h32] at GF
    have d : decide ((32 : Int) < (l.length : Int)) = false := decide_eq_false (by omega)
    by_cases h0 : 0 < l.length
    · have d0 : decide ((0 : Int) < (l.length : Int)) = true := decide_eq_true (by omega)
      have d0' : decide (0 < l.length) = true := decide_eq_true (by omega)
      obtain ⟨ad, hA1, hx1⟩ := Kd.at_int HR.out 0 (by omega) (by omega)
      subst hA1
      clear hx1
      have hx0 : ∀ o, (w.alloc o).cell? ad = some (.int .u8 (rd l 0)) := fun o => by
        obtain ⟨ad2, e, h⟩ := Kd.at_int (Kd.C_below HR.out ((Bl.refl w).alloc o)) 0 (by omega) (by omega)
        cases e
        replace h : (w.alloc o).cell? (ad.add 0) = some (.int .u8 (rd l 0)) := h
        rwa [Addr.add_zero'] at h
      have hn1 : (0 : Int) < (l.length : Int) := by omega
      by_cases h2 : rd l 0 = 0
      · have d2 : (rd l 0 == 0) = true := by simpa using h2
        have e1 : E = 13 := by rw [hE]; simp [stE, *]
        have e2 : V = 0 := by rw [hV]; simp [stV, *]
        clear hE hV
        subst e1; subst e2
        go_enter Try.func22, Try.ntmps22
        go_wp2_with fail
        refine bodyPost_ret (v := .tuple #[U 0, .int .i64 13]) (by rw [U_null]; simp only [results, Try.results22]; go_simp) rfl ⟨rfl, ?_⟩
        exact (by repeat (first | exact Bl.refl _ | (refine Bl.setCell ?_ (by simp only []; omega) _) | apply Bl.alloc))
      · have d2 : (rd l 0 == 0) = false := by simpa using h2
        have e1 : E = 0 := by rw [hE]; simp [stE, *]
        have e2 : V = valB 8 l := by rw [hV]; simp [stV, *]
        clear hE hV
        rw [← e2] at GF
        clear e2
        replace GF := Lib.hid GF
        subst e1
        go_enter Try.func22, Try.ntmps22
        go_wp2_with fail
        refine (GF.out _ _ _ (Kd.C_below HR.out (((Bl.refl w).alloc _)))).mono ?_
        rintro e w1 ⟨rfl, hb1⟩
        have hx : Box w1 w.heap.size #[.int .u64 0, .int .u64 0, .int .u64 0, .int .u64 0] 24 := (Box.new _ _ _ _ rfl).call hb1
        have B1 := Lib.hid (show Bl w w1 from Bl.trans ((Bl.refl w).alloc _) hb1)
        obtain ⟨c1, f1, z1⟩ := hx.tell
        have HR1 := Lib.hid (Kd.C_below HR.out B1.out)
        clear hb1
        go_wp2_with fail
        refine bodyPost_ret (v := .tuple #[U V, .int .i64 0]) (by simp only [results, Try.results22]; go_simp) rfl ⟨rfl, ?_⟩
        exact (by repeat (first | exact B1.out | (refine Bl.setCell ?_ (by simp only []; omega) _) | apply Bl.alloc))
    · have d0 : decide ((0 : Int) < (l.length : Int)) = false := decide_eq_false (by omega)
      have d0' : decide (0 < l.length) = false := decide_eq_false (by omega)
      have e1 : E = 0 := by rw [hE]; simp [stE, *]
      have e2 : V = valB 8 l := by rw [hV]; simp [stV, *]
      clear hE hV
      rw [← e2] at GF
      clear e2
      replace GF := Lib.hid GF
      subst e1
      go_enter Try.func22, Try.ntmps22
      go_wp2_with fail
      refine (GF.out _ _ _ (Kd.C_below HR.out (((Bl.refl w).alloc _)))).mono ?_
      rintro e w1 ⟨rfl, hb1⟩
      have hx : Box w1 w.heap.size #[.int .u64 0, .int .u64 0, .int .u64 0, .int .u64 0] 24 := (Box.new _ _ _ _ rfl).call hb1
      have B1 := Lib.hid (show Bl w w1 from Bl.trans ((Bl.refl w).alloc _) hb1)
      obtain ⟨c1, f1, z1⟩ := hx.tell
      have HR1 := Lib.hid (Kd.C_below HR.out B1.out)
      clear hb1
      go_wp2_with fail
      refine bodyPost_ret (v := .tuple #[U V, .int .i64 0]) (by simp only [results, Try.results22]; go_simp) rfl ⟨rfl, ?_⟩
      exact (by repeat (first | exact B1.out | (refine Bl.setCell ?_ (by simp only []; omega) _) | apply Bl.alloc))
  · have d : decide ((32 : Int) < (l.length : Int)) = true := decide_eq_true (by omega)
    have e1 : E = 11 := by rw [hE]; simp [stE, *]
    have e2 : V = 0 := by rw [hV]; simp [stV, *]
    clear hE hV
    subst e1; subst e2
    go_enter Try.func22, Try.ntmps22
    go_wp2_with fail
    refine bodyPost_ret (v := .tuple #[U 0, .int .i64 11]) (by rw [U_null]; simp only [results, Try.results22]; go_simp) rfl ⟨rfl, ?_⟩
    exact (by repeat (first | exact Bl.refl _ | (refine Bl.setCell ?_ (by simp only []; omega) _) | apply Bl.alloc))
end Go.Proofs.Ythgnmpjcbicdhaa

