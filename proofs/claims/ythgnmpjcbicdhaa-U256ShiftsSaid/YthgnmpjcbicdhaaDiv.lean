/- u256's divide. -/
import Derived.Test.YthgnmpjcbicdhaaShl
import Derived.Test.YthgnmpjcbicdhaaNumQ
import Derived.StillTailTactics
set_option linter.unusedSimpArgs false
set_option linter.unusedVariables false
namespace Go.Proofs.Ythgnmpjcbicdhaa
open Go Go.RowKit

/-- The blocks of divide. -/
structure DMem (w wr : World) (hi lo m q r : Nat) : Prop where
  h : Box wr w.heap.size (UC hi) 24
  l : Box wr (w.heap.size + 1) (UC lo) 24
  m : Box wr (w.heap.size + 1 + 1) (UC m) 24
  qh : Box wr (w.heap.size + 1 + 1 + 1) (UC (q / T256)) 24
  ql : Box wr (w.heap.size + 1 + 1 + 1 + 1) (UC (q % T256)) 24
  r : Box wr (w.heap.size + 1 + 1 + 1 + 1 + 1) (UC r) 24
  bl : Bl w wr

theorem DMem.call {w wr w' : World} {hi lo m q r : Nat} (d : DMem w wr hi lo m q r) (h : Bl wr w') : DMem w w' hi lo m q r :=
  ⟨d.h.call h, d.l.call h, d.m.call h, d.qh.call h, d.ql.call h, d.r.call h, d.bl.trans h⟩
theorem DMem.drew {w wr : World} {hi lo m q r : Nat} (d : DMem w wr hi lo m q r) : DMem w wr.drew hi lo m q r :=
  ⟨d.h, d.l, d.m, d.qh, d.ql, d.r, d.bl.drew⟩
/-- A store into the rest's block. -/
theorem DMem.setR {w wr : World} {hi lo m q r : Nat} (d : DMem w wr hi lo m q r) (i : Nat) (v : Value) (r' : Nat) (e : (UC r).setIfInBounds i v = UC r') : DMem w (wr.setCell ⟨w.heap.size + 1 + 1 + 1 + 1 + 1, i, none⟩ v) hi lo m q r' :=
  ⟨d.h.far _ _ (by simp only []; omega), d.l.far _ _ (by simp only []; omega), d.m.far _ _ (by simp only []; omega), d.qh.far _ _ (by simp only []; omega), d.ql.far _ _ (by simp only []; omega), (d.r.set i v).cells e, d.bl.setCell (by simp only []; omega) _⟩
theorem DMem.putR {w wr : World} {hi lo m q r : Nat} (d : DMem w wr hi lo m q r) (x : Nat) : DMem w ((((wr.setCell ⟨w.heap.size + 1 + 1 + 1 + 1 + 1, 0, none⟩ (.int .u64 (L x 0))).setCell ⟨w.heap.size + 1 + 1 + 1 + 1 + 1, 1, none⟩ (.int .u64 (L x 1))).setCell ⟨w.heap.size + 1 + 1 + 1 + 1 + 1, 2, none⟩ (.int .u64 (L x 2))).setCell ⟨w.heap.size + 1 + 1 + 1 + 1 + 1, 3, none⟩ (.int .u64 (L x 3))) hi lo m q x :=
  ⟨(((d.h.far _ _ (by simp only []; omega)).far _ _ (by simp only []; omega)).far _ _ (by simp only []; omega)).far _ _ (by simp only []; omega),
   (((d.l.far _ _ (by simp only []; omega)).far _ _ (by simp only []; omega)).far _ _ (by simp only []; omega)).far _ _ (by simp only []; omega),
   (((d.m.far _ _ (by simp only []; omega)).far _ _ (by simp only []; omega)).far _ _ (by simp only []; omega)).far _ _ (by simp only []; omega),
   (((d.qh.far _ _ (by simp only []; omega)).far _ _ (by simp only []; omega)).far _ _ (by simp only []; omega)).far _ _ (by simp only []; omega),
   (((d.ql.far _ _ (by simp only []; omega)).far _ _ (by simp only []; omega)).far _ _ (by simp only []; omega)).far _ _ (by simp only []; omega),
   ((((d.r.set _ _).set _ _).set _ _).set _ _).cells rfl,
   (((d.bl.setCell (by simp only []; omega) _).setCell (by simp only []; omega) _).setCell (by simp only []; omega) _).setCell (by simp only []; omega) _⟩
/-- A bit laid into the quotient. -/
theorem DMem.setH {w wr : World} {hi lo m q r : Nat} (d : DMem w wr hi lo m q r) (n k : Nat) (h : 256 ≤ n) (hn : n < 512) (hk : n - 256 = k) :
    DMem w (wr.setCell ⟨w.heap.size + 1 + 1 + 1, k / 64, none⟩ (.int .u64 (bits BinOp.or IntKind.u64 (L (q / T256) (k / 64)) (IntKind.u64.wrap (2 ^ (k % 64)))))) hi lo m (q ||| 2 ^ n) r := by
  subst hk
  obtain ⟨e1, e2⟩ := or_hi q n h
  refine ⟨d.h.far _ _ (by simp only []; omega), d.l.far _ _ (by simp only []; omega), d.m.far _ _ (by simp only []; omega), (d.qh.set _ _).cells ?_, (d.ql.far _ _ (by simp only []; omega)).cells (by rw [e2]), d.r.far _ _ (by simp only []; omega), d.bl.setCell (by simp only []; omega) _⟩
  rw [e1, UC_or _ _ (by omega)]
theorem DMem.setL {w wr : World} {hi lo m q r : Nat} (d : DMem w wr hi lo m q r) (n k : Nat) (h : n < 256) (hk : n = k) :
    DMem w (wr.setCell ⟨w.heap.size + 1 + 1 + 1 + 1, k / 64, none⟩ (.int .u64 (bits BinOp.or IntKind.u64 (L (q % T256) (k / 64)) (IntKind.u64.wrap (2 ^ (k % 64)))))) hi lo m (q ||| 2 ^ n) r := by
  subst hk
  obtain ⟨e1, e2⟩ := or_lo q n h
  refine ⟨d.h.far _ _ (by simp only []; omega), d.l.far _ _ (by simp only []; omega), d.m.far _ _ (by simp only []; omega), (d.qh.far _ _ (by simp only []; omega)).cells (by rw [e1]), (d.ql.set _ _).cells ?_, d.r.far _ _ (by simp only []; omega), d.bl.setCell (by simp only []; omega) _⟩
  rw [e2, UC_or _ _ (by omega)]

set_option maxHeartbeats 2000000 in
set_option maxRecDepth 100000 in
theorem divide_c (hi lo m : Nat) (hh : hi < T256) (hl : lo < T256) (hm : m < T256) (hm0 : 0 < m) (w : World) :
    Calls Try.prog 75 #[U hi, U lo, U m] w fun e w' => e = .returned (.tuple #[U ((hi * T256 + lo) / m / T256), U ((hi * T256 + lo) / m % T256), U ((hi * T256 + lo) % m)]) ∧ Bl w w' := by
  have hQ0 := QQ_full hi lo m 512 rfl hh hl
  have hR0 := RR_full hi lo m 512 rfl hh hl
  rw [show (hi * T256 + lo) / m = QQ (hi * T256 + lo) m 0 from (QQ_zero _ _).symm, show (hi * T256 + lo) % m = RR (hi * T256 + lo) m 0 from (RR_zero _ _).symm]
  generalize hNN : hi * T256 + lo = N at *
  have HQ0 := Lib.hid hQ0; have HR0 := Lib.hid hR0
  clear hQ0 hR0
  go_enter Try.func75, Try.ntmps75
  go_wp2_with fail
  go_loopw [9] (fun t wr => ∃ k : Nat, k ≤ 512 ∧ t = .int .i64 ((k : Int) - 1) ∧ DMem w wr hi lo m (QQ N m k) (RR N m k)) (fun t _ => (intOf t + 1).toNat)
  case atStart =>
    refine ⟨512, by omega, rfl, ?_, ?_, ?_, ?_, ?_, ?_, ?_⟩
    · exact (((((Box.new _ _ _ _ rfl).alloc _).alloc _).alloc _).alloc _).alloc _
    · exact ((((Box.new _ _ _ _ (by simp)).alloc _).alloc _).alloc _).alloc _
    · exact (((Box.new _ _ _ _ (by simp)).alloc _).alloc _).alloc _
    · rw [HQ0.out]; exact ((Box.new _ _ _ _ (by simp)).alloc _).alloc _
    · rw [HQ0.out]; exact (Box.new _ _ _ _ (by simp)).alloc _
    · rw [HR0.out]; exact Box.new _ _ _ _ (by simp)
    · repeat (first | apply Bl.alloc | exact Bl.refl _)
  case round =>
    obtain ⟨k, hk, rfl, mem⟩ := hrel
    by_cases hk0 : k = 0
    · subst hk0
      obtain ⟨h1, h2, h3⟩ := mem.qh.tell
      obtain ⟨l1, l2, l3⟩ := mem.ql.tell
      obtain ⟨x1, x2, x3⟩ := mem.r.tell
      unfold UC at h1 l1 x1
      go_wp2_with fail
      go_region
      go_wp2_with fail
      refine bodyPost_ret (v := .tuple #[U (QQ N m 0 / T256), U (QQ N m 0 % T256), U (RR N m 0)]) (by simp [results, Try.results75, go_sem, h1, l1, x1]) rfl ⟨rfl, ?_⟩
      refine Bl.drew ?_
      iterate 12 refine Bl.setCell ?_ (by simp only []; omega) _
      exact mem.bl
    · obtain ⟨n, rfl⟩ : ∃ n, k = n + 1 := ⟨k - 1, by omega⟩
      rw [show (((n + 1 : Nat) : Int) - 1) = (n : Int) from by omega]
      obtain ⟨R, hR⟩ : ∃ R, R = RR N m (n + 1) := ⟨_, rfl⟩
      have hRm : R < m := by rw [hR]; exact RR_lt _ _ _ hm0
      by_cases h256 : 256 ≤ n
      · have d1 : decide ((256 : Int) ≤ n) = true := by simp; omega
        obtain ⟨k, hk⟩ : ∃ k, k = n - 256 := ⟨_, rfl⟩
        have hkm : (n : Int) % 256 = k := by omega
        have hk2 : k < 256 := by omega
        have hbit : bits BinOp.and IntKind.u64 (L hi (k / 64) / 2 ^ (k % 64)) 1 = ((N / 2 ^ n % 2 : Nat) : Int) := by
          have h1 := (limb_bit hi k (k / 64) (by omega) (by omega) (by omega)).1
          rw [show ((k : Int) % 64).toNat = k % 64 by omega, bitI_at _ _ (by omega)] at h1
          rw [h1, ← hNN, bit_hi _ _ _ hl h256, hk]
        obtain ⟨b, hb⟩ : ∃ b, b = N / 2 ^ n % 2 := ⟨_, rfl⟩
        have hb2 : b < 2 := by omega
        rw [← hb] at hbit
        obtain ⟨Q, hQ⟩ : ∃ Q, Q = QQ N m (n + 1) := ⟨_, rfl⟩
        obtain ⟨X, hX⟩ : ∃ X, X = 2 * R % T256 := ⟨_, rfl⟩
        have hs := fun w => shl_pos R (by omega) 1 (by omega) (by omega) w
        rw [show R * 2 ^ (1 : Int).toNat % T256 = X by rw [hX, Nat.mul_comm]; rfl] at hs
        rw [← hR, ← hQ] at mem
        have hUC := UC_bit R b hb2
        have hss := step_small N m n hm0
        have hsb := step_big N m n hm0
        have hqo := QQ_or N m n
        rw [← hQ] at hqo hss hsb
        rw [← hR, ← hb] at hss hsb
        rw [← hX] at hUC
        have htp := top_eq R (by omega)
        obtain ⟨x1, x2, x3⟩ := mem.r.tell
        unfold UC at x1
        have HR := Lib.hid hR; have HK := Lib.hid hk; have HB := Lib.hid hb; have HQ := Lib.hid hQ; have HX := Lib.hid hX; have HU := Lib.hid hUC; have HN := Lib.hid hNN
        have HSS := Lib.hid hss; have HSB := Lib.hid hsb; have HQO := Lib.hid hqo
        clear hR hk hb hQ hX hUC hss hsb hqo hNN
        have tp := two_div R (by omega)
        rcases tp with tp | tp
        · rw [tp] at htp
          have hx2 : X = 2 * R := by have h1 := HX.out; have h2 := Nat.div_add_mod (2 * R) T256; rw [tp] at h2; omega
          have hXb : X + b < T256 := by have h1 := HX.out; have h2 := mod_lt256 (2 * R); rw [T256_eq] at *; omega
          have HX2 := Lib.hid hx2
          clear hx2 tp
          have htp' : L R 3 / 9223372036854775808 = 0 := htp
          clear htp
          have hc := fun w => cmp_c (X + b) m hXb hm w
          by_cases hlt : X + b < m
          · simp only [cmpI_lt hlt] at hc
            have HLT := Lib.hid hlt
            clear hlt
            go_wp2_with fail
            refine (hs _).mono ?_
            rintro e w1 ⟨rfl, hb1⟩
            have mem1 := mem.call hb1
            clear mem hb1 x1 x2 x3
            obtain ⟨x1, x2, x3⟩ := mem1.r.tell
            unfold UC at x1
            go_wp2_with fail
            have mem2 := mem1.putR X
            clear x1 x2 x3 mem1
            obtain ⟨W2, hW2⟩ : ∃ W2, W2 = ((((w1.setCell ⟨w.heap.size + 1 + 1 + 1 + 1 + 1, 0, none⟩ (.int .u64 (L X 0))).setCell ⟨w.heap.size + 1 + 1 + 1 + 1 + 1, 1, none⟩ (.int .u64 (L X 1))).setCell ⟨w.heap.size + 1 + 1 + 1 + 1 + 1, 2, none⟩ (.int .u64 (L X 2))).setCell ⟨w.heap.size + 1 + 1 + 1 + 1 + 1, 3, none⟩ (.int .u64 (L X 3))) := ⟨_, rfl⟩
            rw [← hW2] at mem2 ⊢
            clear hW2
            obtain ⟨x1, x2, x3⟩ := mem2.r.tell
            unfold UC at x1
            have f1 : W2.cell? ⟨w.heap.size, k / 64, none⟩ = some (.int .u64 (L hi (k / 64))) := by rw [mem2.h.cell, UC_at _ _ (by omega)]
            go_region
            clear x1 x2 x3 f1
            have mem3 := (mem2.setR 0 (.int .u64 (bits BinOp.or IntKind.u64 (L X 0) b)) (X + b) HU.out).drew
            clear mem2
            obtain ⟨W3, hW3⟩ : ∃ W3, W3 = (W2.setCell ⟨w.heap.size + 1 + 1 + 1 + 1 + 1, 0, none⟩ (.int .u64 (bits BinOp.or IntKind.u64 (L X 0) b))).drew := ⟨_, rfl⟩
            rw [← hW3] at mem3 ⊢
            clear hW3
            obtain ⟨x1, x2, x3⟩ := mem3.r.tell
            obtain ⟨y1, y2, y3⟩ := mem3.m.tell
            unfold UC at x1 y1
            go_wp2_with fail
            refine (hc _).mono ?_
            rintro e W4 ⟨rfl, hb4⟩
            have mem4 := mem3.call hb4
            clear mem3 hb4 x1 x2 x3 y1 y2 y3
            go_wp2_with fail
            go_roundw
            case rel =>
              have hsm := HSS.out (by have := HLT.out; have := HX2.out; omega)
              refine ⟨n, by omega, by go_num, ?_⟩
              rw [hsm.1, hsm.2, ← HX2.out]
              exact mem4
            case measure => simp [intOf] <;> omega
          · have hge : 0 ≤ cmpI (X + b) m := by unfold cmpI; rw [if_neg hlt]; split <;> omega
            have dge : decide (0 ≤ cmpI (X + b) m) = true := by simpa using hge
            obtain ⟨Y, hY⟩ : ∃ Y, Y = (X + b + T256 - m) % T256 := ⟨_, rfl⟩
            have hsub := fun w => sub_c (X + b) m hXb hm w
            rw [← hY] at hsub
            obtain ⟨bw, hbw⟩ : ∃ bw : Nat, bw = if X + b < m then 1 else 0 := ⟨_, rfl⟩
            rw [← hbw] at hsub
            clear hbw
            have HYE : Hid (2 * R + b - m = Y) := Lib.hid (by have h1 := HX2.out; rw [hY, show X + b + T256 - m = (X + b - m) + T256 by omega, Nat.add_mod_right, Nat.mod_eq_of_lt (by omega)]; omega)
            clear hY
            have hmle : m ≤ 2 * R + b := by have := HX2.out; omega
            clear hlt
            go_wp2_with fail
            refine (hs _).mono ?_
            rintro e w1 ⟨rfl, hb1⟩
            have mem1 := mem.call hb1
            clear mem hb1 x1 x2 x3
            obtain ⟨x1, x2, x3⟩ := mem1.r.tell
            unfold UC at x1
            go_wp2_with fail
            have mem2 := mem1.putR X
            clear x1 x2 x3 mem1
            obtain ⟨W2, hW2⟩ : ∃ W2, W2 = ((((w1.setCell ⟨w.heap.size + 1 + 1 + 1 + 1 + 1, 0, none⟩ (.int .u64 (L X 0))).setCell ⟨w.heap.size + 1 + 1 + 1 + 1 + 1, 1, none⟩ (.int .u64 (L X 1))).setCell ⟨w.heap.size + 1 + 1 + 1 + 1 + 1, 2, none⟩ (.int .u64 (L X 2))).setCell ⟨w.heap.size + 1 + 1 + 1 + 1 + 1, 3, none⟩ (.int .u64 (L X 3))) := ⟨_, rfl⟩
            rw [← hW2] at mem2 ⊢
            clear hW2
            obtain ⟨x1, x2, x3⟩ := mem2.r.tell
            unfold UC at x1
            have f1 : W2.cell? ⟨w.heap.size, k / 64, none⟩ = some (.int .u64 (L hi (k / 64))) := by rw [mem2.h.cell, UC_at _ _ (by omega)]
            go_region
            clear x1 x2 x3 f1
            have mem3 := (mem2.setR 0 (.int .u64 (bits BinOp.or IntKind.u64 (L X 0) b)) (X + b) HU.out).drew
            clear mem2
            obtain ⟨W3, hW3⟩ : ∃ W3, W3 = (W2.setCell ⟨w.heap.size + 1 + 1 + 1 + 1 + 1, 0, none⟩ (.int .u64 (bits BinOp.or IntKind.u64 (L X 0) b))).drew := ⟨_, rfl⟩
            rw [← hW3] at mem3 ⊢
            clear hW3
            obtain ⟨x1, x2, x3⟩ := mem3.r.tell
            obtain ⟨y1, y2, y3⟩ := mem3.m.tell
            unfold UC at x1 y1
            go_wp2_with fail
            refine (hc _).mono ?_
            rintro e W4 ⟨rfl, hb4⟩
            have mem4 := mem3.call hb4
            clear mem3 hb4 x1 x2 x3 y1 y2 y3
            obtain ⟨x1, x2, x3⟩ := mem4.r.tell
            obtain ⟨y1, y2, y3⟩ := mem4.m.tell
            unfold UC at x1 y1
            go_wp2_with fail
            refine (hsub _).mono ?_
            rintro e W5 ⟨rfl, hb5⟩
            have mem5 := mem4.call hb5
            clear mem4 hb5 x1 x2 x3 y1 y2 y3
            obtain ⟨x1, x2, x3⟩ := mem5.r.tell
            unfold UC at x1
            go_wp2_with fail
            have mem6 := mem5.putR Y
            clear x1 x2 x3 mem5
            obtain ⟨W6, hW6⟩ : ∃ W6, W6 = ((((W5.setCell ⟨w.heap.size + 1 + 1 + 1 + 1 + 1, 0, none⟩ (.int .u64 (L Y 0))).setCell ⟨w.heap.size + 1 + 1 + 1 + 1 + 1, 1, none⟩ (.int .u64 (L Y 1))).setCell ⟨w.heap.size + 1 + 1 + 1 + 1 + 1, 2, none⟩ (.int .u64 (L Y 2))).setCell ⟨w.heap.size + 1 + 1 + 1 + 1 + 1, 3, none⟩ (.int .u64 (L Y 3))) := ⟨_, rfl⟩
            rw [← hW6] at mem6 ⊢
            clear hW6
            have f1 : W6.cell? ⟨w.heap.size + 1 + 1 + 1, k / 64, none⟩ = some (.int .u64 (L (Q / T256) (k / 64))) := by rw [mem6.qh.cell, UC_at _ _ (by omega)]
            have f2 : W6.frozen? ⟨w.heap.size + 1 + 1 + 1, k / 64, none⟩ = false := mem6.qh.froz _
            go_region
            clear f1 f2
            have mem7 := (mem6.setH n k h256 (by omega) HK.out.symm).drew
            clear mem6
            go_wp2_with fail
            go_roundw
            case rel =>
              have hbig := HSB.out (by omega)
              refine ⟨n, by omega, by go_num, ?_⟩
              rw [hbig.1, hbig.2, HQO.out, HYE.out]
              exact mem7
            case measure => simp [intOf] <;> omega
        · rw [tp] at htp
          have hx2 : X + T256 = 2 * R := by have h1 := HX.out; have h2 := Nat.div_add_mod (2 * R) T256; rw [tp] at h2; omega
          have hXb : X + b < T256 := by have h1 := HX.out; have h2 := mod_lt256 (2 * R); rw [T256_eq] at *; omega
          have HX2 := Lib.hid hx2
          clear hx2 tp
          have htp' : L R 3 / 9223372036854775808 = 1 := htp
          clear htp
          obtain ⟨Y, hY⟩ : ∃ Y, Y = (X + b + T256 - m) % T256 := ⟨_, rfl⟩
          have hsub := fun w => sub_c (X + b) m hXb hm w
          rw [← hY] at hsub
          obtain ⟨bw, hbw⟩ : ∃ bw : Nat, bw = if X + b < m then 1 else 0 := ⟨_, rfl⟩
          rw [← hbw] at hsub
          clear hbw
          have HYE : Hid (2 * R + b - m = Y) := Lib.hid (by have h1 := HX2.out; rw [hY, Nat.mod_eq_of_lt (by omega)]; omega)
          clear hY
          have hmle : m ≤ 2 * R + b := by have := HX2.out; omega
          go_wp2_with fail
          refine (hs _).mono ?_
          rintro e w1 ⟨rfl, hb1⟩
          have mem1 := mem.call hb1
          clear mem hb1 x1 x2 x3
          obtain ⟨x1, x2, x3⟩ := mem1.r.tell
          unfold UC at x1
          go_wp2_with fail
          have mem2 := mem1.putR X
          clear x1 x2 x3 mem1
          obtain ⟨W2, hW2⟩ : ∃ W2, W2 = ((((w1.setCell ⟨w.heap.size + 1 + 1 + 1 + 1 + 1, 0, none⟩ (.int .u64 (L X 0))).setCell ⟨w.heap.size + 1 + 1 + 1 + 1 + 1, 1, none⟩ (.int .u64 (L X 1))).setCell ⟨w.heap.size + 1 + 1 + 1 + 1 + 1, 2, none⟩ (.int .u64 (L X 2))).setCell ⟨w.heap.size + 1 + 1 + 1 + 1 + 1, 3, none⟩ (.int .u64 (L X 3))) := ⟨_, rfl⟩
          rw [← hW2] at mem2 ⊢
          clear hW2
          obtain ⟨x1, x2, x3⟩ := mem2.r.tell
          unfold UC at x1
          have f1 : W2.cell? ⟨w.heap.size, k / 64, none⟩ = some (.int .u64 (L hi (k / 64))) := by rw [mem2.h.cell, UC_at _ _ (by omega)]
          go_region
          clear x1 x2 x3 f1
          have mem3 := (mem2.setR 0 (.int .u64 (bits BinOp.or IntKind.u64 (L X 0) b)) (X + b) HU.out).drew
          clear mem2
          obtain ⟨W3, hW3⟩ : ∃ W3, W3 = (W2.setCell ⟨w.heap.size + 1 + 1 + 1 + 1 + 1, 0, none⟩ (.int .u64 (bits BinOp.or IntKind.u64 (L X 0) b))).drew := ⟨_, rfl⟩
          rw [← hW3] at mem3 ⊢
          clear hW3
          obtain ⟨x1, x2, x3⟩ := mem3.r.tell
          obtain ⟨y1, y2, y3⟩ := mem3.m.tell
          unfold UC at x1 y1
          obtain ⟨W4, hW4⟩ : ∃ W4, W4 = W3 := ⟨_, rfl⟩
          rw [← hW4] at mem3 x1 x2 x3 y1 y2 y3 ⊢
          clear hW4
          have mem4 := mem3
          clear mem3
          go_wp2_with fail
          refine (hsub _).mono ?_
          rintro e W5 ⟨rfl, hb5⟩
          have mem5 := mem4.call hb5
          clear mem4 hb5 x1 x2 x3 y1 y2 y3
          obtain ⟨x1, x2, x3⟩ := mem5.r.tell
          unfold UC at x1
          go_wp2_with fail
          have mem6 := mem5.putR Y
          clear x1 x2 x3 mem5
          obtain ⟨W6, hW6⟩ : ∃ W6, W6 = ((((W5.setCell ⟨w.heap.size + 1 + 1 + 1 + 1 + 1, 0, none⟩ (.int .u64 (L Y 0))).setCell ⟨w.heap.size + 1 + 1 + 1 + 1 + 1, 1, none⟩ (.int .u64 (L Y 1))).setCell ⟨w.heap.size + 1 + 1 + 1 + 1 + 1, 2, none⟩ (.int .u64 (L Y 2))).setCell ⟨w.heap.size + 1 + 1 + 1 + 1 + 1, 3, none⟩ (.int .u64 (L Y 3))) := ⟨_, rfl⟩
          rw [← hW6] at mem6 ⊢
          clear hW6
          have f1 : W6.cell? ⟨w.heap.size + 1 + 1 + 1, k / 64, none⟩ = some (.int .u64 (L (Q / T256) (k / 64))) := by rw [mem6.qh.cell, UC_at _ _ (by omega)]
          have f2 : W6.frozen? ⟨w.heap.size + 1 + 1 + 1, k / 64, none⟩ = false := mem6.qh.froz _
          go_region
          clear f1 f2
          have mem7 := (mem6.setH n k h256 (by omega) HK.out.symm).drew
          clear mem6
          go_wp2_with fail
          go_roundw
          case rel =>
            have hbig := HSB.out (by omega)
            refine ⟨n, by omega, by go_num, ?_⟩
            rw [hbig.1, hbig.2, HQO.out, HYE.out]
            exact mem7
          case measure => simp [intOf] <;> omega
      · have d1 : decide ((256 : Int) ≤ n) = false := by simp; omega
        obtain ⟨k, hk⟩ : ∃ k, k = n := ⟨_, rfl⟩
        have hkm : (n : Int) % 256 = k := by omega
        have hk2 : k < 256 := by omega
        have hbit : bits BinOp.and IntKind.u64 (L lo (k / 64) / 2 ^ (k % 64)) 1 = ((N / 2 ^ n % 2 : Nat) : Int) := by
          have h1 := (limb_bit lo k (k / 64) (by omega) (by omega) (by omega)).1
          rw [show ((k : Int) % 64).toNat = k % 64 by omega, bitI_at _ _ (by omega)] at h1
          rw [h1, ← hNN, bit_lo _ _ _ (by omega), hk]
        obtain ⟨b, hb⟩ : ∃ b, b = N / 2 ^ n % 2 := ⟨_, rfl⟩
        have hb2 : b < 2 := by omega
        rw [← hb] at hbit
        obtain ⟨Q, hQ⟩ : ∃ Q, Q = QQ N m (n + 1) := ⟨_, rfl⟩
        obtain ⟨X, hX⟩ : ∃ X, X = 2 * R % T256 := ⟨_, rfl⟩
        have hs := fun w => shl_pos R (by omega) 1 (by omega) (by omega) w
        rw [show R * 2 ^ (1 : Int).toNat % T256 = X by rw [hX, Nat.mul_comm]; rfl] at hs
        rw [← hR, ← hQ] at mem
        have hUC := UC_bit R b hb2
        have hss := step_small N m n hm0
        have hsb := step_big N m n hm0
        have hqo := QQ_or N m n
        rw [← hQ] at hqo hss hsb
        rw [← hR, ← hb] at hss hsb
        rw [← hX] at hUC
        have htp := top_eq R (by omega)
        obtain ⟨x1, x2, x3⟩ := mem.r.tell
        unfold UC at x1
        have HR := Lib.hid hR; have HK := Lib.hid hk; have HB := Lib.hid hb; have HQ := Lib.hid hQ; have HX := Lib.hid hX; have HU := Lib.hid hUC; have HN := Lib.hid hNN
        have HSS := Lib.hid hss; have HSB := Lib.hid hsb; have HQO := Lib.hid hqo
        clear hR hk hb hQ hX hUC hss hsb hqo hNN
        have tp := two_div R (by omega)
        rcases tp with tp | tp
        · rw [tp] at htp
          have hx2 : X = 2 * R := by have h1 := HX.out; have h2 := Nat.div_add_mod (2 * R) T256; rw [tp] at h2; omega
          have hXb : X + b < T256 := by have h1 := HX.out; have h2 := mod_lt256 (2 * R); rw [T256_eq] at *; omega
          have HX2 := Lib.hid hx2
          clear hx2 tp
          have htp' : L R 3 / 9223372036854775808 = 0 := htp
          clear htp
          have hc := fun w => cmp_c (X + b) m hXb hm w
          by_cases hlt : X + b < m
          · simp only [cmpI_lt hlt] at hc
            have HLT := Lib.hid hlt
            clear hlt
            go_wp2_with fail
            refine (hs _).mono ?_
            rintro e w1 ⟨rfl, hb1⟩
            have mem1 := mem.call hb1
            clear mem hb1 x1 x2 x3
            obtain ⟨x1, x2, x3⟩ := mem1.r.tell
            unfold UC at x1
            go_wp2_with fail
            have mem2 := mem1.putR X
            clear x1 x2 x3 mem1
            obtain ⟨W2, hW2⟩ : ∃ W2, W2 = ((((w1.setCell ⟨w.heap.size + 1 + 1 + 1 + 1 + 1, 0, none⟩ (.int .u64 (L X 0))).setCell ⟨w.heap.size + 1 + 1 + 1 + 1 + 1, 1, none⟩ (.int .u64 (L X 1))).setCell ⟨w.heap.size + 1 + 1 + 1 + 1 + 1, 2, none⟩ (.int .u64 (L X 2))).setCell ⟨w.heap.size + 1 + 1 + 1 + 1 + 1, 3, none⟩ (.int .u64 (L X 3))) := ⟨_, rfl⟩
            rw [← hW2] at mem2 ⊢
            clear hW2
            obtain ⟨x1, x2, x3⟩ := mem2.r.tell
            unfold UC at x1
            have f1 : W2.cell? ⟨w.heap.size + 1, k / 64, none⟩ = some (.int .u64 (L lo (k / 64))) := by rw [mem2.l.cell, UC_at _ _ (by omega)]
            go_region
            clear x1 x2 x3 f1
            have mem3 := (mem2.setR 0 (.int .u64 (bits BinOp.or IntKind.u64 (L X 0) b)) (X + b) HU.out).drew
            clear mem2
            obtain ⟨W3, hW3⟩ : ∃ W3, W3 = (W2.setCell ⟨w.heap.size + 1 + 1 + 1 + 1 + 1, 0, none⟩ (.int .u64 (bits BinOp.or IntKind.u64 (L X 0) b))).drew := ⟨_, rfl⟩
            rw [← hW3] at mem3 ⊢
            clear hW3
            obtain ⟨x1, x2, x3⟩ := mem3.r.tell
            obtain ⟨y1, y2, y3⟩ := mem3.m.tell
            unfold UC at x1 y1
            go_wp2_with fail
            refine (hc _).mono ?_
            rintro e W4 ⟨rfl, hb4⟩
            have mem4 := mem3.call hb4
            clear mem3 hb4 x1 x2 x3 y1 y2 y3
            go_wp2_with fail
            go_roundw
            case rel =>
              have hsm := HSS.out (by have := HLT.out; have := HX2.out; omega)
              refine ⟨n, by omega, by go_num, ?_⟩
              rw [hsm.1, hsm.2, ← HX2.out]
              exact mem4
            case measure => simp [intOf] <;> omega
          · have hge : 0 ≤ cmpI (X + b) m := by unfold cmpI; rw [if_neg hlt]; split <;> omega
            have dge : decide (0 ≤ cmpI (X + b) m) = true := by simpa using hge
            obtain ⟨Y, hY⟩ : ∃ Y, Y = (X + b + T256 - m) % T256 := ⟨_, rfl⟩
            have hsub := fun w => sub_c (X + b) m hXb hm w
            rw [← hY] at hsub
            obtain ⟨bw, hbw⟩ : ∃ bw : Nat, bw = if X + b < m then 1 else 0 := ⟨_, rfl⟩
            rw [← hbw] at hsub
            clear hbw
            have HYE : Hid (2 * R + b - m = Y) := Lib.hid (by have h1 := HX2.out; rw [hY, show X + b + T256 - m = (X + b - m) + T256 by omega, Nat.add_mod_right, Nat.mod_eq_of_lt (by omega)]; omega)
            clear hY
            have hmle : m ≤ 2 * R + b := by have := HX2.out; omega
            clear hlt
            go_wp2_with fail
            refine (hs _).mono ?_
            rintro e w1 ⟨rfl, hb1⟩
            have mem1 := mem.call hb1
            clear mem hb1 x1 x2 x3
            obtain ⟨x1, x2, x3⟩ := mem1.r.tell
            unfold UC at x1
            go_wp2_with fail
            have mem2 := mem1.putR X
            clear x1 x2 x3 mem1
            obtain ⟨W2, hW2⟩ : ∃ W2, W2 = ((((w1.setCell ⟨w.heap.size + 1 + 1 + 1 + 1 + 1, 0, none⟩ (.int .u64 (L X 0))).setCell ⟨w.heap.size + 1 + 1 + 1 + 1 + 1, 1, none⟩ (.int .u64 (L X 1))).setCell ⟨w.heap.size + 1 + 1 + 1 + 1 + 1, 2, none⟩ (.int .u64 (L X 2))).setCell ⟨w.heap.size + 1 + 1 + 1 + 1 + 1, 3, none⟩ (.int .u64 (L X 3))) := ⟨_, rfl⟩
            rw [← hW2] at mem2 ⊢
            clear hW2
            obtain ⟨x1, x2, x3⟩ := mem2.r.tell
            unfold UC at x1
            have f1 : W2.cell? ⟨w.heap.size + 1, k / 64, none⟩ = some (.int .u64 (L lo (k / 64))) := by rw [mem2.l.cell, UC_at _ _ (by omega)]
            go_region
            clear x1 x2 x3 f1
            have mem3 := (mem2.setR 0 (.int .u64 (bits BinOp.or IntKind.u64 (L X 0) b)) (X + b) HU.out).drew
            clear mem2
            obtain ⟨W3, hW3⟩ : ∃ W3, W3 = (W2.setCell ⟨w.heap.size + 1 + 1 + 1 + 1 + 1, 0, none⟩ (.int .u64 (bits BinOp.or IntKind.u64 (L X 0) b))).drew := ⟨_, rfl⟩
            rw [← hW3] at mem3 ⊢
            clear hW3
            obtain ⟨x1, x2, x3⟩ := mem3.r.tell
            obtain ⟨y1, y2, y3⟩ := mem3.m.tell
            unfold UC at x1 y1
            go_wp2_with fail
            refine (hc _).mono ?_
            rintro e W4 ⟨rfl, hb4⟩
            have mem4 := mem3.call hb4
            clear mem3 hb4 x1 x2 x3 y1 y2 y3
            obtain ⟨x1, x2, x3⟩ := mem4.r.tell
            obtain ⟨y1, y2, y3⟩ := mem4.m.tell
            unfold UC at x1 y1
            go_wp2_with fail
            refine (hsub _).mono ?_
            rintro e W5 ⟨rfl, hb5⟩
            have mem5 := mem4.call hb5
            clear mem4 hb5 x1 x2 x3 y1 y2 y3
            obtain ⟨x1, x2, x3⟩ := mem5.r.tell
            unfold UC at x1
            go_wp2_with fail
            have mem6 := mem5.putR Y
            clear x1 x2 x3 mem5
            obtain ⟨W6, hW6⟩ : ∃ W6, W6 = ((((W5.setCell ⟨w.heap.size + 1 + 1 + 1 + 1 + 1, 0, none⟩ (.int .u64 (L Y 0))).setCell ⟨w.heap.size + 1 + 1 + 1 + 1 + 1, 1, none⟩ (.int .u64 (L Y 1))).setCell ⟨w.heap.size + 1 + 1 + 1 + 1 + 1, 2, none⟩ (.int .u64 (L Y 2))).setCell ⟨w.heap.size + 1 + 1 + 1 + 1 + 1, 3, none⟩ (.int .u64 (L Y 3))) := ⟨_, rfl⟩
            rw [← hW6] at mem6 ⊢
            clear hW6
            have f1 : W6.cell? ⟨w.heap.size + 1 + 1 + 1 + 1, k / 64, none⟩ = some (.int .u64 (L (Q % T256) (k / 64))) := by rw [mem6.ql.cell, UC_at _ _ (by omega)]
            have f2 : W6.frozen? ⟨w.heap.size + 1 + 1 + 1 + 1, k / 64, none⟩ = false := mem6.ql.froz _
            go_region
            clear f1 f2
            have mem7 := (mem6.setL n k (by omega) HK.out.symm).drew
            clear mem6
            go_wp2_with fail
            go_roundw
            case rel =>
              have hbig := HSB.out (by omega)
              refine ⟨n, by omega, by go_num, ?_⟩
              rw [hbig.1, hbig.2, HQO.out, HYE.out]
              exact mem7
            case measure => simp [intOf] <;> omega
        · rw [tp] at htp
          have hx2 : X + T256 = 2 * R := by have h1 := HX.out; have h2 := Nat.div_add_mod (2 * R) T256; rw [tp] at h2; omega
          have hXb : X + b < T256 := by have h1 := HX.out; have h2 := mod_lt256 (2 * R); rw [T256_eq] at *; omega
          have HX2 := Lib.hid hx2
          clear hx2 tp
          have htp' : L R 3 / 9223372036854775808 = 1 := htp
          clear htp
          obtain ⟨Y, hY⟩ : ∃ Y, Y = (X + b + T256 - m) % T256 := ⟨_, rfl⟩
          have hsub := fun w => sub_c (X + b) m hXb hm w
          rw [← hY] at hsub
          obtain ⟨bw, hbw⟩ : ∃ bw : Nat, bw = if X + b < m then 1 else 0 := ⟨_, rfl⟩
          rw [← hbw] at hsub
          clear hbw
          have HYE : Hid (2 * R + b - m = Y) := Lib.hid (by have h1 := HX2.out; rw [hY, Nat.mod_eq_of_lt (by omega)]; omega)
          clear hY
          have hmle : m ≤ 2 * R + b := by have := HX2.out; omega
          go_wp2_with fail
          refine (hs _).mono ?_
          rintro e w1 ⟨rfl, hb1⟩
          have mem1 := mem.call hb1
          clear mem hb1 x1 x2 x3
          obtain ⟨x1, x2, x3⟩ := mem1.r.tell
          unfold UC at x1
          go_wp2_with fail
          have mem2 := mem1.putR X
          clear x1 x2 x3 mem1
          obtain ⟨W2, hW2⟩ : ∃ W2, W2 = ((((w1.setCell ⟨w.heap.size + 1 + 1 + 1 + 1 + 1, 0, none⟩ (.int .u64 (L X 0))).setCell ⟨w.heap.size + 1 + 1 + 1 + 1 + 1, 1, none⟩ (.int .u64 (L X 1))).setCell ⟨w.heap.size + 1 + 1 + 1 + 1 + 1, 2, none⟩ (.int .u64 (L X 2))).setCell ⟨w.heap.size + 1 + 1 + 1 + 1 + 1, 3, none⟩ (.int .u64 (L X 3))) := ⟨_, rfl⟩
          rw [← hW2] at mem2 ⊢
          clear hW2
          obtain ⟨x1, x2, x3⟩ := mem2.r.tell
          unfold UC at x1
          have f1 : W2.cell? ⟨w.heap.size + 1, k / 64, none⟩ = some (.int .u64 (L lo (k / 64))) := by rw [mem2.l.cell, UC_at _ _ (by omega)]
          go_region
          clear x1 x2 x3 f1
          have mem3 := (mem2.setR 0 (.int .u64 (bits BinOp.or IntKind.u64 (L X 0) b)) (X + b) HU.out).drew
          clear mem2
          obtain ⟨W3, hW3⟩ : ∃ W3, W3 = (W2.setCell ⟨w.heap.size + 1 + 1 + 1 + 1 + 1, 0, none⟩ (.int .u64 (bits BinOp.or IntKind.u64 (L X 0) b))).drew := ⟨_, rfl⟩
          rw [← hW3] at mem3 ⊢
          clear hW3
          obtain ⟨x1, x2, x3⟩ := mem3.r.tell
          obtain ⟨y1, y2, y3⟩ := mem3.m.tell
          unfold UC at x1 y1
          obtain ⟨W4, hW4⟩ : ∃ W4, W4 = W3 := ⟨_, rfl⟩
          rw [← hW4] at mem3 x1 x2 x3 y1 y2 y3 ⊢
          clear hW4
          have mem4 := mem3
          clear mem3
          go_wp2_with fail
          refine (hsub _).mono ?_
          rintro e W5 ⟨rfl, hb5⟩
          have mem5 := mem4.call hb5
          clear mem4 hb5 x1 x2 x3 y1 y2 y3
          obtain ⟨x1, x2, x3⟩ := mem5.r.tell
          unfold UC at x1
          go_wp2_with fail
          have mem6 := mem5.putR Y
          clear x1 x2 x3 mem5
          obtain ⟨W6, hW6⟩ : ∃ W6, W6 = ((((W5.setCell ⟨w.heap.size + 1 + 1 + 1 + 1 + 1, 0, none⟩ (.int .u64 (L Y 0))).setCell ⟨w.heap.size + 1 + 1 + 1 + 1 + 1, 1, none⟩ (.int .u64 (L Y 1))).setCell ⟨w.heap.size + 1 + 1 + 1 + 1 + 1, 2, none⟩ (.int .u64 (L Y 2))).setCell ⟨w.heap.size + 1 + 1 + 1 + 1 + 1, 3, none⟩ (.int .u64 (L Y 3))) := ⟨_, rfl⟩
          rw [← hW6] at mem6 ⊢
          clear hW6
          have f1 : W6.cell? ⟨w.heap.size + 1 + 1 + 1 + 1, k / 64, none⟩ = some (.int .u64 (L (Q % T256) (k / 64))) := by rw [mem6.ql.cell, UC_at _ _ (by omega)]
          have f2 : W6.frozen? ⟨w.heap.size + 1 + 1 + 1 + 1, k / 64, none⟩ = false := mem6.ql.froz _
          go_region
          clear f1 f2
          have mem7 := (mem6.setL n k (by omega) HK.out.symm).drew
          clear mem6
          go_wp2_with fail
          go_roundw
          case rel =>
            have hbig := HSB.out (by omega)
            refine ⟨n, by omega, by go_num, ?_⟩
            rw [hbig.1, hbig.2, HQO.out, HYE.out]
            exact mem7
          case measure => simp [intOf] <;> omega
end Go.Proofs.Ythgnmpjcbicdhaa

