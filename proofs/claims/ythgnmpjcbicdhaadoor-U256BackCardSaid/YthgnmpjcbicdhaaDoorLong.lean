/- The document's division of 512 bits. Written by a program of ours, case by case. -/
import Derived.Test.YthgnmpjcbicdhaaDoorTwice
import Derived.Test.YthgnmpjcbicdhaaDoorRSub
import Derived.Test.YthgnmpjcbicdhaaDoorBit
set_option linter.unusedSimpArgs false
set_option linter.unusedVariables false
namespace Go.Proofs.YthgnmpjcbicdhaaDoor
open Go Go.RowKit

/-- The blocks of long. -/
structure LMem (w wr : World) (hi lo m q r : Nat) : Prop where
  h : Box wr w.heap.size (UC hi) 24
  l : Box wr (w.heap.size + 1) (UC lo) 24
  m : Box wr (w.heap.size + 1 + 1) (UC m) 24
  a : Box wr (w.heap.size + 1 + 1 + 1) (UC 0) 24
  b : Box wr (w.heap.size + 1 + 1 + 1 + 1) (UC 0) 24
  c : Box wr (w.heap.size + 1 + 1 + 1 + 1 + 1) (UC 0) 24
  qh : Box wr (w.heap.size + 1 + 1 + 1 + 1 + 1 + 1) (UC (q / T256)) 24
  ql : Box wr (w.heap.size + 1 + 1 + 1 + 1 + 1 + 1 + 1) (UC (q % T256)) 24
  r : Box wr (w.heap.size + 1 + 1 + 1 + 1 + 1 + 1 + 1 + 1) (UC r) 24
  bl : Bl w wr
theorem LMem.call {w wr w' : World} {hi lo m q r : Nat} (d : LMem w wr hi lo m q r) (h : Bl wr w') : LMem w w' hi lo m q r :=
  ⟨d.h.call h, d.l.call h, d.m.call h, d.a.call h, d.b.call h, d.c.call h, d.qh.call h, d.ql.call h, d.r.call h, d.bl.trans h⟩
theorem LMem.alloc {w wr : World} {hi lo m q r : Nat} (d : LMem w wr hi lo m q r) (o : Obj) : LMem w (wr.alloc o) hi lo m q r :=
  ⟨d.h.alloc o, d.l.alloc o, d.m.alloc o, d.a.alloc o, d.b.alloc o, d.c.alloc o, d.qh.alloc o, d.ql.alloc o, d.r.alloc o, d.bl.alloc o⟩
theorem LMem.putR {w wr : World} {hi lo m q r : Nat} (d : LMem w wr hi lo m q r) (x : Nat) : LMem w (put4 wr (w.heap.size + 1 + 1 + 1 + 1 + 1 + 1 + 1 + 1) x) hi lo m q x :=
  ⟨d.h.put4_far _ _ (by omega), d.l.put4_far _ _ (by omega), d.m.put4_far _ _ (by omega), d.a.put4_far _ _ (by omega), d.b.put4_far _ _ (by omega), d.c.put4_far _ _ (by omega), d.qh.put4_far _ _ (by omega), d.ql.put4_far _ _ (by omega), d.r.put4 x, d.bl.put4 (by omega) x⟩
theorem LMem.putH {w wr : World} {hi lo m q r : Nat} (d : LMem w wr hi lo m q r) (n k : Nat) (h : 256 ≤ n) (hk : n - 256 = k) : LMem w (put4 wr (w.heap.size + 1 + 1 + 1 + 1 + 1 + 1) (q / T256 ||| 2 ^ k)) hi lo m (q ||| 2 ^ n) r := by
  subst hk
  obtain ⟨e1, e2⟩ := or_hi q n h
  exact ⟨d.h.put4_far _ _ (by omega), d.l.put4_far _ _ (by omega), d.m.put4_far _ _ (by omega), d.a.put4_far _ _ (by omega), d.b.put4_far _ _ (by omega), d.c.put4_far _ _ (by omega), by rw [e1]; exact d.qh.put4 _, by rw [e2]; exact d.ql.put4_far _ _ (by omega), d.r.put4_far _ _ (by omega), d.bl.put4 (by omega) _⟩
theorem LMem.putL {w wr : World} {hi lo m q r : Nat} (d : LMem w wr hi lo m q r) (n k : Nat) (h : n < 256) (hk : n = k) : LMem w (put4 wr (w.heap.size + 1 + 1 + 1 + 1 + 1 + 1 + 1) (q % T256 ||| 2 ^ k)) hi lo m (q ||| 2 ^ n) r := by
  subst hk
  obtain ⟨e1, e2⟩ := or_lo q n h
  exact ⟨d.h.put4_far _ _ (by omega), d.l.put4_far _ _ (by omega), d.m.put4_far _ _ (by omega), d.a.put4_far _ _ (by omega), d.b.put4_far _ _ (by omega), d.c.put4_far _ _ (by omega), by rw [e1]; exact d.qh.put4_far _ _ (by omega), by rw [e2]; exact d.ql.put4 _, d.r.put4_far _ _ (by omega), d.bl.put4 (by omega) _⟩

set_option maxHeartbeats 2000000 in
set_option maxRecDepth 100000 in
theorem long_c (hi lo m : Nat) (hh : hi < T256) (hl : lo < T256) (hm : m < T256) (hm0 : 0 < m) (w : World) :
    Calls Tryd.prog 42 #[U hi, U lo, U m] w fun e w' => e = .returned (.tuple #[U ((hi * T256 + lo) / m / T256), U ((hi * T256 + lo) / m % T256), U ((hi * T256 + lo) % m)]) ∧ Bl w w' := by
  have hQ0 := QQ_full hi lo m 512 rfl hh hl
  have hR0 := RR_full hi lo m 512 rfl hh hl
  rw [show (hi * T256 + lo) / m = QQ (hi * T256 + lo) m 0 from (QQ_zero _ _).symm, show (hi * T256 + lo) % m = RR (hi * T256 + lo) m 0 from (RR_zero _ _).symm]
  generalize hNN : hi * T256 + lo = N at *
  have HQ0 := Lib.hid hQ0; have HR0 := Lib.hid hR0
  clear hQ0 hR0
  go_enter Tryd.func42, Tryd.ntmps42
  go_wp2_with fail
  go_loopw [12] (fun t wr => ∃ k : Nat, k ≤ 512 ∧ t = .int .i64 ((k : Int) - 1) ∧ LMem w wr hi lo m (QQ N m k) (RR N m k)) (fun t _ => (intOf t + 1).toNat)
  case atStart =>
    refine ⟨512, by omega, rfl, ?_, ?_, ?_, ?_, ?_, ?_, ?_, ?_, ?_, ?_⟩
    · exact ((((((((Box.new _ _ _ _ (by simp)).alloc _).alloc _).alloc _).alloc _).alloc _).alloc _).alloc _).alloc _
    · exact (((((((Box.new _ _ _ _ (by simp)).alloc _).alloc _).alloc _).alloc _).alloc _).alloc _).alloc _
    · exact ((((((Box.new _ _ _ _ (by simp)).alloc _).alloc _).alloc _).alloc _).alloc _).alloc _
    · exact (((((Box.new _ _ _ _ (by simp)).alloc _).alloc _).alloc _).alloc _).alloc _
    · exact ((((Box.new _ _ _ _ (by simp)).alloc _).alloc _).alloc _).alloc _
    · exact (((Box.new _ _ _ _ (by simp)).alloc _).alloc _).alloc _
    · rw [HQ0.out]; exact ((Box.new _ _ _ _ (by simp)).alloc _).alloc _
    · rw [HQ0.out]; exact (Box.new _ _ _ _ (by simp)).alloc _
    · rw [HR0.out]; exact Box.new _ _ _ _ (by simp)
    · repeat (first | apply Bl.alloc | exact Bl.refl _)
  case round =>
    obtain ⟨k, hk, rfl, mem⟩ := hrel
    by_cases hk0 : k = 0
    · subst hk0
      obtain ⟨h1, h2, h3⟩ := mem.qh.tell
      obtain ⟨l1, l2, l3⟩ := mem.ql.tell
      obtain ⟨x1, x2, x3⟩ := mem.r.tell
      obtain ⟨a1, a2, a3⟩ := mem.a.tell
      obtain ⟨b1, b2, b3⟩ := mem.b.tell
      obtain ⟨c1, c2, c3⟩ := mem.c.tell
      unfold UC at h1 l1 x1 a1 b1 c1
      go_wp2_with fail
      go_region
      go_wp2_with fail
      refine bodyPost_ret (v := .tuple #[U (QQ N m 0 / T256), U (QQ N m 0 % T256), U (RR N m 0)]) (by simp [results, Tryd.results42, go_sem, a1, b1, c1]) rfl ⟨rfl, ?_⟩
      refine Bl.drew ?_
      iterate 12 refine Bl.setCell ?_ (by simp only []; omega) _
      exact mem.bl
    · obtain ⟨n, rfl⟩ : ∃ n, k = n + 1 := ⟨k - 1, by omega⟩
      rw [show (((n + 1 : Nat) : Int) - 1) = (n : Int) from by omega]
      obtain ⟨R, hR⟩ : ∃ R, R = RR N m (n + 1) := ⟨_, rfl⟩
      have hRm : R < m := by rw [hR]; exact RR_lt _ _ _ hm0
      by_cases h256 : 256 ≤ n
      · have d1 : decide ((255 : Int) < n) = true := by simp; omega
        obtain ⟨k, hk⟩ : ∃ k, k = n - 256 := ⟨_, rfl⟩
        have hk2 : k < 256 := by omega
        have hki : (n : Int) - 256 = (k : Int) := by omega
        obtain ⟨b, hb⟩ : ∃ b, b = N / 2 ^ n % 2 := ⟨_, rfl⟩
        have hb2 : b < 2 := by omega
        have hbt := fun w => rbit_c hi k w
        have ebit : bitI hi k = (b : Int) := by rw [bitI_at _ _ (by omega), hb, ← hNN, bit_hi _ _ _ hl h256, hk]
        rw [ebit] at hbt
        obtain ⟨Q, hQ⟩ : ∃ Q, Q = QQ N m (n + 1) := ⟨_, rfl⟩
        obtain ⟨X, hX⟩ : ∃ X, X = 2 * R % T256 := ⟨_, rfl⟩
        obtain ⟨o, ho⟩ : ∃ o, o = 2 * R / T256 := ⟨_, rfl⟩
        obtain ⟨Z, hZ⟩ : ∃ Z, Z = X + b := ⟨_, rfl⟩
        have htw := fun w => twice_c R b (by omega) hb2 w
        rw [← hX, ← ho, ← hZ] at htw
        rw [← hR, ← hQ] at mem
        have hss := step_small N m n hm0
        have hsb := step_big N m n hm0
        have hqo := QQ_or N m n
        rw [← hQ] at hqo hss hsb
        rw [← hR, ← hb] at hss hsb
        have tp := two_div R (by omega)
        rw [← ho] at tp
        have hXo : X + o * T256 = 2 * R := by rw [hX, ho]; have := Nat.div_add_mod (2 * R) T256; rw [Nat.mul_comm (2 * R / T256)]; omega
        have hXe : X % 2 = 0 := by rw [hX, T256_eq]; omega
        have hXl : X < T256 := by rw [hX]; exact mod_lt256 _
        have hZb : Z < T256 := by rw [hZ]; have h := T256_eq; omega
        clear hXe hXl
        have HR := Lib.hid hR; have HK := Lib.hid hk; have HB := Lib.hid hb; have HQ := Lib.hid hQ; have HX := Lib.hid hX; have HZ := Lib.hid hZ; have HN := Lib.hid hNN; have HXO := Lib.hid hXo
        have HSS := Lib.hid hss; have HSB := Lib.hid hsb; have HQO := Lib.hid hqo
        clear hR hk hb hQ hX ho hZ hss hsb hqo hNN hXo ebit
        obtain ⟨y1, y2, y3⟩ := mem.h.tell
        unfold UC at y1
        rcases tp with tp | tp
        · subst tp
          have hc := fun w => rcmp_c Z m hZb hm w
          by_cases hlt : Z < m
          · simp only [cmpI_lt hlt] at hc
            have HLT := Lib.hid hlt
            clear hlt
            go_wp2_with fail
            refine (hbt _).mono ?_
            rintro e w1 ⟨rfl, hb1⟩
            have mem1 := mem.call hb1
            clear mem hb1 y1 y2 y3
            obtain ⟨x1, x2, x3⟩ := mem1.r.tell
            unfold UC at x1
            go_wp2_with fail
            refine (htw _).mono ?_
            rintro e w2 ⟨rfl, hb2'⟩
            have mem2 := mem1.call hb2'
            clear mem1 hb2' x1 x2 x3
            obtain ⟨x1, x2, x3⟩ := mem2.r.tell
            obtain ⟨y1, y2, y3⟩ := mem2.m.tell
            have y4 : w.heap.size + 1 < w2.heap.size := by omega
            unfold UC at x1 y1
            go_wp2_with fail
            clear x1 x2 x3 y1 y2 y3 y4
            have mem30 := mem2.putR Z
            unfold put4 at mem30
            have mem3 := mem30.alloc (.cells #[.int .u64 (L Z 0), .int .u64 (L Z 1), .int .u64 (L Z 2), .int .u64 (L Z 3)] 24)
            clear mem30 mem2
            obtain ⟨W3, hWW3⟩ : ∃ W3, W3 = ((((w2.setCell ⟨w.heap.size + 1 + 1 + 1 + 1 + 1 + 1 + 1 + 1, 0, none⟩ (.int .u64 (L Z 0))).setCell ⟨w.heap.size + 1 + 1 + 1 + 1 + 1 + 1 + 1 + 1, 1, none⟩ (.int .u64 (L Z 1))).setCell ⟨w.heap.size + 1 + 1 + 1 + 1 + 1 + 1 + 1 + 1, 2, none⟩ (.int .u64 (L Z 2))).setCell ⟨w.heap.size + 1 + 1 + 1 + 1 + 1 + 1 + 1 + 1, 3, none⟩ (.int .u64 (L Z 3))).alloc (.cells #[.int .u64 (L Z 0), .int .u64 (L Z 1), .int .u64 (L Z 2), .int .u64 (L Z 3)] 24) := ⟨_, rfl⟩
            rw [← hWW3] at mem3 ⊢
            clear hWW3
            obtain ⟨x1, x2, x3⟩ := mem3.r.tell
            obtain ⟨y1, y2, y3⟩ := mem3.m.tell
            unfold UC at x1 y1
            refine (hc _).mono ?_
            rintro e w4 ⟨rfl, hb4⟩
            have mem4 := mem3.call hb4
            clear mem3 hb4 x1 x2 x3 y1 y2 y3
            go_wp2_with fail
            go_roundw
            case rel =>
              have hsm := HSS.out (by have := HLT.out; have := HXO.out; have := HZ.out; omega)
              refine ⟨n, by omega, by go_num, ?_⟩
              rw [hsm.1, hsm.2]
              have e : 2 * R + b = Z := by have := HXO.out; have := HZ.out; omega
              rw [e]
              exact mem4
            case measure => simp [intOf] <;> omega
          · have hge : 0 ≤ cmpI Z m := by unfold cmpI; rw [if_neg hlt]; split <;> omega
            have dge : decide (0 ≤ cmpI Z m) = true := by simpa using hge
            obtain ⟨Y, hY⟩ : ∃ Y, Y = (Z + T256 - m) % T256 := ⟨_, rfl⟩
            have hsub := fun w => rsub_c Z m hZb hm w
            rw [← hY] at hsub
            obtain ⟨bw, hbw⟩ : ∃ bw : Nat, bw = if Z < m then 1 else 0 := ⟨_, rfl⟩
            rw [← hbw] at hsub
            clear hbw
            have HYE : Hid (2 * R + b - m = Y) := Lib.hid (by have h1 := HXO.out; have h2 := HZ.out; rw [hY, show Z + T256 - m = (Z - m) + T256 by omega, Nat.add_mod_right, Nat.mod_eq_of_lt (by omega)]; omega)
            clear hY
            have hwi := fun w => with_c (Q / T256) k (by omega) (by omega) w
            rw [show (k : Int).toNat = k from rfl] at hwi
            have hmle : m ≤ 2 * R + b := by have := HXO.out; have := HZ.out; omega
            clear hlt
            go_wp2_with fail
            refine (hbt _).mono ?_
            rintro e w1 ⟨rfl, hb1⟩
            have mem1 := mem.call hb1
            clear mem hb1 y1 y2 y3
            obtain ⟨x1, x2, x3⟩ := mem1.r.tell
            unfold UC at x1
            go_wp2_with fail
            refine (htw _).mono ?_
            rintro e w2 ⟨rfl, hb2'⟩
            have mem2 := mem1.call hb2'
            clear mem1 hb2' x1 x2 x3
            obtain ⟨x1, x2, x3⟩ := mem2.r.tell
            obtain ⟨y1, y2, y3⟩ := mem2.m.tell
            have y4 : w.heap.size + 1 < w2.heap.size := by omega
            unfold UC at x1 y1
            go_wp2_with fail
            clear x1 x2 x3 y1 y2 y3 y4
            have mem30 := mem2.putR Z
            unfold put4 at mem30
            have mem3 := mem30.alloc (.cells #[.int .u64 (L Z 0), .int .u64 (L Z 1), .int .u64 (L Z 2), .int .u64 (L Z 3)] 24)
            clear mem30 mem2
            obtain ⟨W3, hWW3⟩ : ∃ W3, W3 = ((((w2.setCell ⟨w.heap.size + 1 + 1 + 1 + 1 + 1 + 1 + 1 + 1, 0, none⟩ (.int .u64 (L Z 0))).setCell ⟨w.heap.size + 1 + 1 + 1 + 1 + 1 + 1 + 1 + 1, 1, none⟩ (.int .u64 (L Z 1))).setCell ⟨w.heap.size + 1 + 1 + 1 + 1 + 1 + 1 + 1 + 1, 2, none⟩ (.int .u64 (L Z 2))).setCell ⟨w.heap.size + 1 + 1 + 1 + 1 + 1 + 1 + 1 + 1, 3, none⟩ (.int .u64 (L Z 3))).alloc (.cells #[.int .u64 (L Z 0), .int .u64 (L Z 1), .int .u64 (L Z 2), .int .u64 (L Z 3)] 24) := ⟨_, rfl⟩
            rw [← hWW3] at mem3 ⊢
            clear hWW3
            obtain ⟨x1, x2, x3⟩ := mem3.r.tell
            obtain ⟨y1, y2, y3⟩ := mem3.m.tell
            unfold UC at x1 y1
            refine (hc _).mono ?_
            rintro e w4 ⟨rfl, hb4⟩
            have mem4 := mem3.call hb4
            clear mem3 hb4 x1 x2 x3 y1 y2 y3
            obtain ⟨x1, x2, x3⟩ := mem4.r.tell
            obtain ⟨y1, y2, y3⟩ := mem4.m.tell
            unfold UC at x1 y1
            go_wp2_with fail
            refine (hsub _).mono ?_
            rintro e w5 ⟨rfl, hb5⟩
            have mem5 := mem4.call hb5
            clear mem4 hb5 x1 x2 x3 y1 y2 y3
            obtain ⟨x1, x2, x3⟩ := mem5.r.tell
            obtain ⟨y1, y2, y3⟩ := mem5.qh.tell
            unfold UC at x1 y1
            go_wp2_with fail
            clear x1 x2 x3 y1 y2 y3
            have mem60 := mem5.putR Y
            unfold put4 at mem60
            have mem6 := mem60.alloc (.cells #[.int .u64 (L Y 0), .int .u64 (L Y 1), .int .u64 (L Y 2), .int .u64 (L Y 3)] 24)
            clear mem60 mem5
            obtain ⟨W6, hWW6⟩ : ∃ W6, W6 = ((((w5.setCell ⟨w.heap.size + 1 + 1 + 1 + 1 + 1 + 1 + 1 + 1, 0, none⟩ (.int .u64 (L Y 0))).setCell ⟨w.heap.size + 1 + 1 + 1 + 1 + 1 + 1 + 1 + 1, 1, none⟩ (.int .u64 (L Y 1))).setCell ⟨w.heap.size + 1 + 1 + 1 + 1 + 1 + 1 + 1 + 1, 2, none⟩ (.int .u64 (L Y 2))).setCell ⟨w.heap.size + 1 + 1 + 1 + 1 + 1 + 1 + 1 + 1, 3, none⟩ (.int .u64 (L Y 3))).alloc (.cells #[.int .u64 (L Y 0), .int .u64 (L Y 1), .int .u64 (L Y 2), .int .u64 (L Y 3)] 24) := ⟨_, rfl⟩
            rw [← hWW6] at mem6 ⊢
            clear hWW6
            refine (hwi _).mono ?_
            rintro e w7 ⟨rfl, hb7⟩
            have mem7 := mem6.call hb7
            clear mem6 hb7
            obtain ⟨y1, y2, y3⟩ := mem7.qh.tell
            unfold UC at y1
            go_wp2_with fail
            clear y1 y2 y3
            have mem80 := mem7.putH n k h256 HK.out.symm
            unfold put4 at mem80
            have mem8 := mem80
            clear mem80 mem7
            obtain ⟨W8, hWW8⟩ : ∃ W8, W8 = (((w7.setCell ⟨w.heap.size + 1 + 1 + 1 + 1 + 1 + 1, 0, none⟩ (.int .u64 (L (Q / T256 ||| 2 ^ k) 0))).setCell ⟨w.heap.size + 1 + 1 + 1 + 1 + 1 + 1, 1, none⟩ (.int .u64 (L (Q / T256 ||| 2 ^ k) 1))).setCell ⟨w.heap.size + 1 + 1 + 1 + 1 + 1 + 1, 2, none⟩ (.int .u64 (L (Q / T256 ||| 2 ^ k) 2))).setCell ⟨w.heap.size + 1 + 1 + 1 + 1 + 1 + 1, 3, none⟩ (.int .u64 (L (Q / T256 ||| 2 ^ k) 3)) := ⟨_, rfl⟩
            rw [← hWW8] at mem8 ⊢
            clear hWW8
            go_roundw
            case rel =>
              have hbig := HSB.out (by omega)
              refine ⟨n, by omega, by go_num, ?_⟩
              rw [hbig.1, hbig.2, HQO.out, HYE.out]
              exact mem8
            case measure => simp [intOf] <;> omega
        · subst tp
          obtain ⟨Y, hY⟩ : ∃ Y, Y = (Z + T256 - m) % T256 := ⟨_, rfl⟩
          have hsub := fun w => rsub_c Z m hZb hm w
          rw [← hY] at hsub
          obtain ⟨bw, hbw⟩ : ∃ bw : Nat, bw = if Z < m then 1 else 0 := ⟨_, rfl⟩
          rw [← hbw] at hsub
          clear hbw
          have HYE : Hid (2 * R + b - m = Y) := Lib.hid (by have h1 := HXO.out; have h2 := HZ.out; rw [hY, Nat.mod_eq_of_lt (by omega)]; omega)
          clear hY
          have hwi := fun w => with_c (Q / T256) k (by omega) (by omega) w
          rw [show (k : Int).toNat = k from rfl] at hwi
          have hmle : m ≤ 2 * R + b := by have := HXO.out; have := HZ.out; omega
          go_wp2_with fail
          refine (hbt _).mono ?_
          rintro e w1 ⟨rfl, hb1⟩
          have mem1 := mem.call hb1
          clear mem hb1 y1 y2 y3
          obtain ⟨x1, x2, x3⟩ := mem1.r.tell
          unfold UC at x1
          go_wp2_with fail
          refine (htw _).mono ?_
          rintro e w2 ⟨rfl, hb2'⟩
          have mem2 := mem1.call hb2'
          clear mem1 hb2' x1 x2 x3
          obtain ⟨x1, x2, x3⟩ := mem2.r.tell
          obtain ⟨y1, y2, y3⟩ := mem2.m.tell
          have y4 : w.heap.size + 1 < w2.heap.size := by omega
          unfold UC at x1 y1
          go_wp2_with fail
          clear x1 x2 x3 y1 y2 y3 y4
          have mem40 := mem2.putR Z
          unfold put4 at mem40
          have mem4 := mem40.alloc (.cells #[.int .u64 (L Z 0), .int .u64 (L Z 1), .int .u64 (L Z 2), .int .u64 (L Z 3)] 24)
          clear mem40 mem2
          obtain ⟨W4, hWW4⟩ : ∃ W4, W4 = ((((w2.setCell ⟨w.heap.size + 1 + 1 + 1 + 1 + 1 + 1 + 1 + 1, 0, none⟩ (.int .u64 (L Z 0))).setCell ⟨w.heap.size + 1 + 1 + 1 + 1 + 1 + 1 + 1 + 1, 1, none⟩ (.int .u64 (L Z 1))).setCell ⟨w.heap.size + 1 + 1 + 1 + 1 + 1 + 1 + 1 + 1, 2, none⟩ (.int .u64 (L Z 2))).setCell ⟨w.heap.size + 1 + 1 + 1 + 1 + 1 + 1 + 1 + 1, 3, none⟩ (.int .u64 (L Z 3))).alloc (.cells #[.int .u64 (L Z 0), .int .u64 (L Z 1), .int .u64 (L Z 2), .int .u64 (L Z 3)] 24) := ⟨_, rfl⟩
          rw [← hWW4] at mem4 ⊢
          clear hWW4
          obtain ⟨x1, x2, x3⟩ := mem4.r.tell
          obtain ⟨y1, y2, y3⟩ := mem4.m.tell
          unfold UC at x1 y1
          refine (hsub _).mono ?_
          rintro e w5 ⟨rfl, hb5⟩
          have mem5 := mem4.call hb5
          clear mem4 hb5 x1 x2 x3 y1 y2 y3
          obtain ⟨x1, x2, x3⟩ := mem5.r.tell
          obtain ⟨y1, y2, y3⟩ := mem5.qh.tell
          unfold UC at x1 y1
          go_wp2_with fail
          clear x1 x2 x3 y1 y2 y3
          have mem60 := mem5.putR Y
          unfold put4 at mem60
          have mem6 := mem60.alloc (.cells #[.int .u64 (L Y 0), .int .u64 (L Y 1), .int .u64 (L Y 2), .int .u64 (L Y 3)] 24)
          clear mem60 mem5
          obtain ⟨W6, hWW6⟩ : ∃ W6, W6 = ((((w5.setCell ⟨w.heap.size + 1 + 1 + 1 + 1 + 1 + 1 + 1 + 1, 0, none⟩ (.int .u64 (L Y 0))).setCell ⟨w.heap.size + 1 + 1 + 1 + 1 + 1 + 1 + 1 + 1, 1, none⟩ (.int .u64 (L Y 1))).setCell ⟨w.heap.size + 1 + 1 + 1 + 1 + 1 + 1 + 1 + 1, 2, none⟩ (.int .u64 (L Y 2))).setCell ⟨w.heap.size + 1 + 1 + 1 + 1 + 1 + 1 + 1 + 1, 3, none⟩ (.int .u64 (L Y 3))).alloc (.cells #[.int .u64 (L Y 0), .int .u64 (L Y 1), .int .u64 (L Y 2), .int .u64 (L Y 3)] 24) := ⟨_, rfl⟩
          rw [← hWW6] at mem6 ⊢
          clear hWW6
          refine (hwi _).mono ?_
          rintro e w7 ⟨rfl, hb7⟩
          have mem7 := mem6.call hb7
          clear mem6 hb7
          obtain ⟨y1, y2, y3⟩ := mem7.qh.tell
          unfold UC at y1
          go_wp2_with fail
          clear y1 y2 y3
          have mem80 := mem7.putH n k h256 HK.out.symm
          unfold put4 at mem80
          have mem8 := mem80
          clear mem80 mem7
          obtain ⟨W8, hWW8⟩ : ∃ W8, W8 = (((w7.setCell ⟨w.heap.size + 1 + 1 + 1 + 1 + 1 + 1, 0, none⟩ (.int .u64 (L (Q / T256 ||| 2 ^ k) 0))).setCell ⟨w.heap.size + 1 + 1 + 1 + 1 + 1 + 1, 1, none⟩ (.int .u64 (L (Q / T256 ||| 2 ^ k) 1))).setCell ⟨w.heap.size + 1 + 1 + 1 + 1 + 1 + 1, 2, none⟩ (.int .u64 (L (Q / T256 ||| 2 ^ k) 2))).setCell ⟨w.heap.size + 1 + 1 + 1 + 1 + 1 + 1, 3, none⟩ (.int .u64 (L (Q / T256 ||| 2 ^ k) 3)) := ⟨_, rfl⟩
          rw [← hWW8] at mem8 ⊢
          clear hWW8
          go_roundw
          case rel =>
            have hbig := HSB.out (by omega)
            refine ⟨n, by omega, by go_num, ?_⟩
            rw [hbig.1, hbig.2, HQO.out, HYE.out]
            exact mem8
          case measure => simp [intOf] <;> omega
      · have d1 : decide ((255 : Int) < n) = false := by simp; omega
        obtain ⟨k, hk⟩ : ∃ k, k = n := ⟨_, rfl⟩
        have hk2 : k < 256 := by omega
        have hki : (n : Int) = (k : Int) := by omega
        obtain ⟨b, hb⟩ : ∃ b, b = N / 2 ^ n % 2 := ⟨_, rfl⟩
        have hb2 : b < 2 := by omega
        have hbt := fun w => rbit_c lo k w
        have ebit : bitI lo k = (b : Int) := by rw [bitI_at _ _ (by omega), hb, ← hNN, bit_lo _ _ _ (by omega), hk]
        rw [ebit] at hbt
        obtain ⟨Q, hQ⟩ : ∃ Q, Q = QQ N m (n + 1) := ⟨_, rfl⟩
        obtain ⟨X, hX⟩ : ∃ X, X = 2 * R % T256 := ⟨_, rfl⟩
        obtain ⟨o, ho⟩ : ∃ o, o = 2 * R / T256 := ⟨_, rfl⟩
        obtain ⟨Z, hZ⟩ : ∃ Z, Z = X + b := ⟨_, rfl⟩
        have htw := fun w => twice_c R b (by omega) hb2 w
        rw [← hX, ← ho, ← hZ] at htw
        rw [← hR, ← hQ] at mem
        have hss := step_small N m n hm0
        have hsb := step_big N m n hm0
        have hqo := QQ_or N m n
        rw [← hQ] at hqo hss hsb
        rw [← hR, ← hb] at hss hsb
        have tp := two_div R (by omega)
        rw [← ho] at tp
        have hXo : X + o * T256 = 2 * R := by rw [hX, ho]; have := Nat.div_add_mod (2 * R) T256; rw [Nat.mul_comm (2 * R / T256)]; omega
        have hXe : X % 2 = 0 := by rw [hX, T256_eq]; omega
        have hXl : X < T256 := by rw [hX]; exact mod_lt256 _
        have hZb : Z < T256 := by rw [hZ]; have h := T256_eq; omega
        clear hXe hXl
        have HR := Lib.hid hR; have HK := Lib.hid hk; have HB := Lib.hid hb; have HQ := Lib.hid hQ; have HX := Lib.hid hX; have HZ := Lib.hid hZ; have HN := Lib.hid hNN; have HXO := Lib.hid hXo
        have HSS := Lib.hid hss; have HSB := Lib.hid hsb; have HQO := Lib.hid hqo
        clear hR hk hb hQ hX ho hZ hss hsb hqo hNN hXo ebit
        obtain ⟨y1, y2, y3⟩ := mem.l.tell
        unfold UC at y1
        rcases tp with tp | tp
        · subst tp
          have hc := fun w => rcmp_c Z m hZb hm w
          by_cases hlt : Z < m
          · simp only [cmpI_lt hlt] at hc
            have HLT := Lib.hid hlt
            clear hlt
            go_wp2_with fail
            refine (hbt _).mono ?_
            rintro e w1 ⟨rfl, hb1⟩
            have mem1 := mem.call hb1
            clear mem hb1 y1 y2 y3
            obtain ⟨x1, x2, x3⟩ := mem1.r.tell
            unfold UC at x1
            go_wp2_with fail
            refine (htw _).mono ?_
            rintro e w2 ⟨rfl, hb2'⟩
            have mem2 := mem1.call hb2'
            clear mem1 hb2' x1 x2 x3
            obtain ⟨x1, x2, x3⟩ := mem2.r.tell
            obtain ⟨y1, y2, y3⟩ := mem2.m.tell
            have y4 : w.heap.size + 1 < w2.heap.size := by omega
            unfold UC at x1 y1
            go_wp2_with fail
            clear x1 x2 x3 y1 y2 y3 y4
            have mem30 := mem2.putR Z
            unfold put4 at mem30
            have mem3 := mem30.alloc (.cells #[.int .u64 (L Z 0), .int .u64 (L Z 1), .int .u64 (L Z 2), .int .u64 (L Z 3)] 24)
            clear mem30 mem2
            obtain ⟨W3, hWW3⟩ : ∃ W3, W3 = ((((w2.setCell ⟨w.heap.size + 1 + 1 + 1 + 1 + 1 + 1 + 1 + 1, 0, none⟩ (.int .u64 (L Z 0))).setCell ⟨w.heap.size + 1 + 1 + 1 + 1 + 1 + 1 + 1 + 1, 1, none⟩ (.int .u64 (L Z 1))).setCell ⟨w.heap.size + 1 + 1 + 1 + 1 + 1 + 1 + 1 + 1, 2, none⟩ (.int .u64 (L Z 2))).setCell ⟨w.heap.size + 1 + 1 + 1 + 1 + 1 + 1 + 1 + 1, 3, none⟩ (.int .u64 (L Z 3))).alloc (.cells #[.int .u64 (L Z 0), .int .u64 (L Z 1), .int .u64 (L Z 2), .int .u64 (L Z 3)] 24) := ⟨_, rfl⟩
            rw [← hWW3] at mem3 ⊢
            clear hWW3
            obtain ⟨x1, x2, x3⟩ := mem3.r.tell
            obtain ⟨y1, y2, y3⟩ := mem3.m.tell
            unfold UC at x1 y1
            refine (hc _).mono ?_
            rintro e w4 ⟨rfl, hb4⟩
            have mem4 := mem3.call hb4
            clear mem3 hb4 x1 x2 x3 y1 y2 y3
            go_wp2_with fail
            go_roundw
            case rel =>
              have hsm := HSS.out (by have := HLT.out; have := HXO.out; have := HZ.out; omega)
              refine ⟨n, by omega, by go_num, ?_⟩
              rw [hsm.1, hsm.2]
              have e : 2 * R + b = Z := by have := HXO.out; have := HZ.out; omega
              rw [e]
              exact mem4
            case measure => simp [intOf] <;> omega
          · have hge : 0 ≤ cmpI Z m := by unfold cmpI; rw [if_neg hlt]; split <;> omega
            have dge : decide (0 ≤ cmpI Z m) = true := by simpa using hge
            obtain ⟨Y, hY⟩ : ∃ Y, Y = (Z + T256 - m) % T256 := ⟨_, rfl⟩
            have hsub := fun w => rsub_c Z m hZb hm w
            rw [← hY] at hsub
            obtain ⟨bw, hbw⟩ : ∃ bw : Nat, bw = if Z < m then 1 else 0 := ⟨_, rfl⟩
            rw [← hbw] at hsub
            clear hbw
            have HYE : Hid (2 * R + b - m = Y) := Lib.hid (by have h1 := HXO.out; have h2 := HZ.out; rw [hY, show Z + T256 - m = (Z - m) + T256 by omega, Nat.add_mod_right, Nat.mod_eq_of_lt (by omega)]; omega)
            clear hY
            have hwi := fun w => with_c (Q % T256) k (by omega) (by omega) w
            rw [show (k : Int).toNat = k from rfl] at hwi
            have hmle : m ≤ 2 * R + b := by have := HXO.out; have := HZ.out; omega
            clear hlt
            go_wp2_with fail
            refine (hbt _).mono ?_
            rintro e w1 ⟨rfl, hb1⟩
            have mem1 := mem.call hb1
            clear mem hb1 y1 y2 y3
            obtain ⟨x1, x2, x3⟩ := mem1.r.tell
            unfold UC at x1
            go_wp2_with fail
            refine (htw _).mono ?_
            rintro e w2 ⟨rfl, hb2'⟩
            have mem2 := mem1.call hb2'
            clear mem1 hb2' x1 x2 x3
            obtain ⟨x1, x2, x3⟩ := mem2.r.tell
            obtain ⟨y1, y2, y3⟩ := mem2.m.tell
            have y4 : w.heap.size + 1 < w2.heap.size := by omega
            unfold UC at x1 y1
            go_wp2_with fail
            clear x1 x2 x3 y1 y2 y3 y4
            have mem30 := mem2.putR Z
            unfold put4 at mem30
            have mem3 := mem30.alloc (.cells #[.int .u64 (L Z 0), .int .u64 (L Z 1), .int .u64 (L Z 2), .int .u64 (L Z 3)] 24)
            clear mem30 mem2
            obtain ⟨W3, hWW3⟩ : ∃ W3, W3 = ((((w2.setCell ⟨w.heap.size + 1 + 1 + 1 + 1 + 1 + 1 + 1 + 1, 0, none⟩ (.int .u64 (L Z 0))).setCell ⟨w.heap.size + 1 + 1 + 1 + 1 + 1 + 1 + 1 + 1, 1, none⟩ (.int .u64 (L Z 1))).setCell ⟨w.heap.size + 1 + 1 + 1 + 1 + 1 + 1 + 1 + 1, 2, none⟩ (.int .u64 (L Z 2))).setCell ⟨w.heap.size + 1 + 1 + 1 + 1 + 1 + 1 + 1 + 1, 3, none⟩ (.int .u64 (L Z 3))).alloc (.cells #[.int .u64 (L Z 0), .int .u64 (L Z 1), .int .u64 (L Z 2), .int .u64 (L Z 3)] 24) := ⟨_, rfl⟩
            rw [← hWW3] at mem3 ⊢
            clear hWW3
            obtain ⟨x1, x2, x3⟩ := mem3.r.tell
            obtain ⟨y1, y2, y3⟩ := mem3.m.tell
            unfold UC at x1 y1
            refine (hc _).mono ?_
            rintro e w4 ⟨rfl, hb4⟩
            have mem4 := mem3.call hb4
            clear mem3 hb4 x1 x2 x3 y1 y2 y3
            obtain ⟨x1, x2, x3⟩ := mem4.r.tell
            obtain ⟨y1, y2, y3⟩ := mem4.m.tell
            unfold UC at x1 y1
            go_wp2_with fail
            refine (hsub _).mono ?_
            rintro e w5 ⟨rfl, hb5⟩
            have mem5 := mem4.call hb5
            clear mem4 hb5 x1 x2 x3 y1 y2 y3
            obtain ⟨x1, x2, x3⟩ := mem5.r.tell
            obtain ⟨y1, y2, y3⟩ := mem5.ql.tell
            unfold UC at x1 y1
            go_wp2_with fail
            clear x1 x2 x3 y1 y2 y3
            have mem60 := mem5.putR Y
            unfold put4 at mem60
            have mem6 := mem60.alloc (.cells #[.int .u64 (L Y 0), .int .u64 (L Y 1), .int .u64 (L Y 2), .int .u64 (L Y 3)] 24)
            clear mem60 mem5
            obtain ⟨W6, hWW6⟩ : ∃ W6, W6 = ((((w5.setCell ⟨w.heap.size + 1 + 1 + 1 + 1 + 1 + 1 + 1 + 1, 0, none⟩ (.int .u64 (L Y 0))).setCell ⟨w.heap.size + 1 + 1 + 1 + 1 + 1 + 1 + 1 + 1, 1, none⟩ (.int .u64 (L Y 1))).setCell ⟨w.heap.size + 1 + 1 + 1 + 1 + 1 + 1 + 1 + 1, 2, none⟩ (.int .u64 (L Y 2))).setCell ⟨w.heap.size + 1 + 1 + 1 + 1 + 1 + 1 + 1 + 1, 3, none⟩ (.int .u64 (L Y 3))).alloc (.cells #[.int .u64 (L Y 0), .int .u64 (L Y 1), .int .u64 (L Y 2), .int .u64 (L Y 3)] 24) := ⟨_, rfl⟩
            rw [← hWW6] at mem6 ⊢
            clear hWW6
            refine (hwi _).mono ?_
            rintro e w7 ⟨rfl, hb7⟩
            have mem7 := mem6.call hb7
            clear mem6 hb7
            obtain ⟨y1, y2, y3⟩ := mem7.ql.tell
            unfold UC at y1
            go_wp2_with fail
            clear y1 y2 y3
            have mem80 := mem7.putL n k (by omega) HK.out.symm
            unfold put4 at mem80
            have mem8 := mem80
            clear mem80 mem7
            obtain ⟨W8, hWW8⟩ : ∃ W8, W8 = (((w7.setCell ⟨w.heap.size + 1 + 1 + 1 + 1 + 1 + 1 + 1, 0, none⟩ (.int .u64 (L (Q % T256 ||| 2 ^ k) 0))).setCell ⟨w.heap.size + 1 + 1 + 1 + 1 + 1 + 1 + 1, 1, none⟩ (.int .u64 (L (Q % T256 ||| 2 ^ k) 1))).setCell ⟨w.heap.size + 1 + 1 + 1 + 1 + 1 + 1 + 1, 2, none⟩ (.int .u64 (L (Q % T256 ||| 2 ^ k) 2))).setCell ⟨w.heap.size + 1 + 1 + 1 + 1 + 1 + 1 + 1, 3, none⟩ (.int .u64 (L (Q % T256 ||| 2 ^ k) 3)) := ⟨_, rfl⟩
            rw [← hWW8] at mem8 ⊢
            clear hWW8
            go_roundw
            case rel =>
              have hbig := HSB.out (by omega)
              refine ⟨n, by omega, by go_num, ?_⟩
              rw [hbig.1, hbig.2, HQO.out, HYE.out]
              exact mem8
            case measure => simp [intOf] <;> omega
        · subst tp
          obtain ⟨Y, hY⟩ : ∃ Y, Y = (Z + T256 - m) % T256 := ⟨_, rfl⟩
          have hsub := fun w => rsub_c Z m hZb hm w
          rw [← hY] at hsub
          obtain ⟨bw, hbw⟩ : ∃ bw : Nat, bw = if Z < m then 1 else 0 := ⟨_, rfl⟩
          rw [← hbw] at hsub
          clear hbw
          have HYE : Hid (2 * R + b - m = Y) := Lib.hid (by have h1 := HXO.out; have h2 := HZ.out; rw [hY, Nat.mod_eq_of_lt (by omega)]; omega)
          clear hY
          have hwi := fun w => with_c (Q % T256) k (by omega) (by omega) w
          rw [show (k : Int).toNat = k from rfl] at hwi
          have hmle : m ≤ 2 * R + b := by have := HXO.out; have := HZ.out; omega
          go_wp2_with fail
          refine (hbt _).mono ?_
          rintro e w1 ⟨rfl, hb1⟩
          have mem1 := mem.call hb1
          clear mem hb1 y1 y2 y3
          obtain ⟨x1, x2, x3⟩ := mem1.r.tell
          unfold UC at x1
          go_wp2_with fail
          refine (htw _).mono ?_
          rintro e w2 ⟨rfl, hb2'⟩
          have mem2 := mem1.call hb2'
          clear mem1 hb2' x1 x2 x3
          obtain ⟨x1, x2, x3⟩ := mem2.r.tell
          obtain ⟨y1, y2, y3⟩ := mem2.m.tell
          have y4 : w.heap.size + 1 < w2.heap.size := by omega
          unfold UC at x1 y1
          go_wp2_with fail
          clear x1 x2 x3 y1 y2 y3 y4
          have mem40 := mem2.putR Z
          unfold put4 at mem40
          have mem4 := mem40.alloc (.cells #[.int .u64 (L Z 0), .int .u64 (L Z 1), .int .u64 (L Z 2), .int .u64 (L Z 3)] 24)
          clear mem40 mem2
          obtain ⟨W4, hWW4⟩ : ∃ W4, W4 = ((((w2.setCell ⟨w.heap.size + 1 + 1 + 1 + 1 + 1 + 1 + 1 + 1, 0, none⟩ (.int .u64 (L Z 0))).setCell ⟨w.heap.size + 1 + 1 + 1 + 1 + 1 + 1 + 1 + 1, 1, none⟩ (.int .u64 (L Z 1))).setCell ⟨w.heap.size + 1 + 1 + 1 + 1 + 1 + 1 + 1 + 1, 2, none⟩ (.int .u64 (L Z 2))).setCell ⟨w.heap.size + 1 + 1 + 1 + 1 + 1 + 1 + 1 + 1, 3, none⟩ (.int .u64 (L Z 3))).alloc (.cells #[.int .u64 (L Z 0), .int .u64 (L Z 1), .int .u64 (L Z 2), .int .u64 (L Z 3)] 24) := ⟨_, rfl⟩
          rw [← hWW4] at mem4 ⊢
          clear hWW4
          obtain ⟨x1, x2, x3⟩ := mem4.r.tell
          obtain ⟨y1, y2, y3⟩ := mem4.m.tell
          unfold UC at x1 y1
          refine (hsub _).mono ?_
          rintro e w5 ⟨rfl, hb5⟩
          have mem5 := mem4.call hb5
          clear mem4 hb5 x1 x2 x3 y1 y2 y3
          obtain ⟨x1, x2, x3⟩ := mem5.r.tell
          obtain ⟨y1, y2, y3⟩ := mem5.ql.tell
          unfold UC at x1 y1
          go_wp2_with fail
          clear x1 x2 x3 y1 y2 y3
          have mem60 := mem5.putR Y
          unfold put4 at mem60
          have mem6 := mem60.alloc (.cells #[.int .u64 (L Y 0), .int .u64 (L Y 1), .int .u64 (L Y 2), .int .u64 (L Y 3)] 24)
          clear mem60 mem5
          obtain ⟨W6, hWW6⟩ : ∃ W6, W6 = ((((w5.setCell ⟨w.heap.size + 1 + 1 + 1 + 1 + 1 + 1 + 1 + 1, 0, none⟩ (.int .u64 (L Y 0))).setCell ⟨w.heap.size + 1 + 1 + 1 + 1 + 1 + 1 + 1 + 1, 1, none⟩ (.int .u64 (L Y 1))).setCell ⟨w.heap.size + 1 + 1 + 1 + 1 + 1 + 1 + 1 + 1, 2, none⟩ (.int .u64 (L Y 2))).setCell ⟨w.heap.size + 1 + 1 + 1 + 1 + 1 + 1 + 1 + 1, 3, none⟩ (.int .u64 (L Y 3))).alloc (.cells #[.int .u64 (L Y 0), .int .u64 (L Y 1), .int .u64 (L Y 2), .int .u64 (L Y 3)] 24) := ⟨_, rfl⟩
          rw [← hWW6] at mem6 ⊢
          clear hWW6
          refine (hwi _).mono ?_
          rintro e w7 ⟨rfl, hb7⟩
          have mem7 := mem6.call hb7
          clear mem6 hb7
          obtain ⟨y1, y2, y3⟩ := mem7.ql.tell
          unfold UC at y1
          go_wp2_with fail
          clear y1 y2 y3
          have mem80 := mem7.putL n k (by omega) HK.out.symm
          unfold put4 at mem80
          have mem8 := mem80
          clear mem80 mem7
          obtain ⟨W8, hWW8⟩ : ∃ W8, W8 = (((w7.setCell ⟨w.heap.size + 1 + 1 + 1 + 1 + 1 + 1 + 1, 0, none⟩ (.int .u64 (L (Q % T256 ||| 2 ^ k) 0))).setCell ⟨w.heap.size + 1 + 1 + 1 + 1 + 1 + 1 + 1, 1, none⟩ (.int .u64 (L (Q % T256 ||| 2 ^ k) 1))).setCell ⟨w.heap.size + 1 + 1 + 1 + 1 + 1 + 1 + 1, 2, none⟩ (.int .u64 (L (Q % T256 ||| 2 ^ k) 2))).setCell ⟨w.heap.size + 1 + 1 + 1 + 1 + 1 + 1 + 1, 3, none⟩ (.int .u64 (L (Q % T256 ||| 2 ^ k) 3)) := ⟨_, rfl⟩
          rw [← hWW8] at mem8 ⊢
          clear hWW8
          go_roundw
          case rel =>
            have hbig := HSB.out (by omega)
            refine ⟨n, by omega, by go_num, ?_⟩
            rw [hbig.1, hbig.2, HQO.out, HYE.out]
            exact mem8
          case measure => simp [intOf] <;> omega
end Go.Proofs.YthgnmpjcbicdhaaDoor

