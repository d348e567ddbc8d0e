/- Exp and Root of both packages. Written by a program of ours. -/
import Derived.Test.YthgnmpjcbicdhaaMul
import Derived.Test.YthgnmpjcbicdhaaRMul
import Derived.Test.YthgnmpjcbicdhaaCmp
import Derived.Test.YthgnmpjcbicdhaaBit
import Derived.Test.YthgnmpjcbicdhaaTwice
import Derived.Test.YthgnmpjcbicdhaaLen
set_option linter.unusedSimpArgs false
set_option linter.unusedVariables false
namespace Go.Proofs.Ythgnmpjcbicdhaa
open Go Go.RowKit

/-- x to the power of y's bits from k on. -/
def expK (x y k : Nat) : Nat := x ^ (y / 2 ^ k) % T256
theorem expK_lt (x y k : Nat) : expK x y k < T256 := mod_lt256 _
theorem expK_top (x y k : Nat) (h : y < 2 ^ k) : expK x y k = 1 := by
  unfold expK; rw [Nat.div_eq_of_lt h, Nat.pow_zero, T256_eq]
theorem expK_step0 (x y n : Nat) (h : y / 2 ^ n % 2 = 0) : expK x y n = expK x y (n + 1) * expK x y (n + 1) % T256 := by
  unfold expK
  have e := half_step y n
  rw [h, Nat.add_zero] at e
  rw [e, ← Nat.mul_mod, ← Nat.pow_add]
  congr 2; omega
theorem expK_step1 (x y n : Nat) (h : y / 2 ^ n % 2 = 1) : expK x y n = expK x y (n + 1) * expK x y (n + 1) % T256 * x % T256 := by
  unfold expK
  have e := half_step y n
  rw [h] at e
  rw [← Nat.mul_mod, ← Nat.pow_add, Nat.mod_mul_mod, ← Nat.pow_succ, e]
  congr 2; omega
structure EMem (w wr : World) (B x y z : Nat) : Prop where
  x : Box wr w.heap.size (UC x) 24
  y : Box wr (w.heap.size + 1) (UC y) 24
  o : Box wr (w.heap.size + 1 + 1) (UC 0) 24
  z : Box wr B (UC z) 24
  lt : w.heap.size + 1 + 1 < B
  bl : Bl w wr
theorem EMem.call {w wr w' : World} {B x y z : Nat} (d : EMem w wr B x y z) (h : Bl wr w') : EMem w w' B x y z := ⟨d.x.call h, d.y.call h, d.o.call h, d.z.call h, d.lt, d.bl.trans h⟩
theorem EMem.put {w wr : World} {B x y z : Nat} (d : EMem w wr B x y z) (v : Nat) : EMem w (put4 wr B v) B x y v :=
  ⟨d.x.put4_far _ _ (by have := d.lt; omega), d.y.put4_far _ _ (by have := d.lt; omega), d.o.put4_far _ _ (by have := d.lt; omega), d.z.put4 v, d.lt, d.bl.put4 (by have := d.lt; omega) v⟩

set_option maxHeartbeats 4000000 in
set_option maxRecDepth 100000 in
theorem exp_c (x y : Nat) (hx : x < T256) (hy : y < T256) (w : World) :
    Calls Try.prog 48 #[U x, U y] w fun e w' => e = .returned (U (x ^ y % T256)) ∧ Bl w w' := by
  have h00 : x ^ y % T256 = expK x y 0 := by unfold expK; simp
  rw [h00]
  clear h00
  have hKtop : expK x y (lenN y) = 1 := expK_top x y _ (Nat.lt_of_lt_of_le (lenN_lt y) (Nat.le_refl _))
  have hK256 : lenN y ≤ 256 := lenN_le y 256 (by rw [← T256_pow]; exact hy)
  have HT := Lib.hid hKtop; have HX := Lib.hid hx
  clear hKtop
  go_enter Try.func48, Try.ntmps48
  go_wp2_with fail
  refine (from_c 1 (by omega) _).mono ?_
  rintro e w1 ⟨rfl, hb1⟩
  have rx : Box w1 w.heap.size (UC x) 24 := (((Box.new _ _ _ _ (by simp)).alloc _).alloc _).call hb1
  have ry : Box w1 (w.heap.size + 1) (UC y) 24 := ((Box.new _ _ _ _ (by simp)).alloc _).call hb1
  have ro : Box w1 (w.heap.size + 1 + 1) (UC 0) 24 := (Box.new _ _ _ _ (by simp)).call hb1
  have b1 : Bl w w1 := Bl.trans ((((Bl.refl w).alloc _).alloc _).alloc _) hb1
  have hlt := ro.lt
  clear hb1
  obtain ⟨y1, y2, y3⟩ := ry.tell
  unfold UC at y1
  have n0 : (w.heap.size = w1.heap.size) = False := (by simp only [eq_iff_iff, iff_false]; omega)
  have m0 : (w1.heap.size = w.heap.size) = False := (by simp only [eq_iff_iff, iff_false]; omega)
  have n1 : (w.heap.size + 1 = w1.heap.size) = False := (by simp only [eq_iff_iff, iff_false]; omega)
  have m1 : (w1.heap.size = w.heap.size + 1) = False := (by simp only [eq_iff_iff, iff_false]; omega)
  have n2 : (w.heap.size + 1 + 1 = w1.heap.size) = False := (by simp only [eq_iff_iff, iff_false]; omega)
  have m2 : (w1.heap.size = w.heap.size + 1 + 1) = False := (by simp only [eq_iff_iff, iff_false]; omega)
  have l0 : w.heap.size < w1.heap.size := (by omega)
  have l1 : w.heap.size + 1 < w1.heap.size := (by omega)
  go_wp2_with fail
  refine (len_c y hy _).mono ?_
  rintro e w2 ⟨rfl, hb2⟩
  have mem : EMem w w2 w1.heap.size x y 1 := ⟨(rx.alloc _).call hb2, (ry.alloc _).call hb2, (ro.alloc _).call hb2, (Box.new w1 _ _ _ rfl).call hb2, hlt, (b1.alloc _).trans hb2⟩
  clear rx ry ro b1 hb2 y1 y2 y3
  have hKI : ((lenN y : Nat) : Int) ≤ 256 := by omega
  go_wp2_with fail
  go_loopw [6] (fun t wr => ∃ k : Nat, k ≤ lenN y ∧ t = .int .i64 ((k : Int) - 1) ∧ EMem w wr w1.heap.size x y (expK x y k)) (fun t _ => (intOf t + 1).toNat)
  case atStart => exact ⟨lenN y, Nat.le_refl _, rfl, by rw [HT.out]; exact mem⟩
  case round =>
    clear mem
    obtain ⟨k, hk, rfl, mem⟩ := hrel
    by_cases hk0 : k = 0
    · subst hk0
      obtain ⟨o1, o2, o3⟩ := mem.o.tell
      obtain ⟨z1, z2, z3⟩ := mem.z.tell
      unfold UC at o1 z1
      go_wp2_with fail
      refine bodyPost_ret (v := U (expK x y 0)) (by simp only [results, Try.results48]; go_simp) rfl ⟨rfl, ?_⟩
      iterate 4 refine Bl.setCell ?_ (by simp only []; omega) _
      exact mem.bl
    · obtain ⟨n, rfl⟩ : ∃ n, k = n + 1 := ⟨k - 1, by omega⟩
      rw [show (((n + 1 : Nat) : Int) - 1) = (n : Int) from by omega]
      obtain ⟨Z, hZ⟩ : ∃ Z, Z = expK x y (n + 1) := ⟨_, rfl⟩
      have hZl : Z < T256 := by rw [hZ]; exact expK_lt _ _ _
      rw [← hZ] at mem
      obtain ⟨P, hP⟩ : ∃ P, P = Z * Z % T256 := ⟨_, rfl⟩
      have hPl : P < T256 := by rw [hP]; exact mod_lt256 _
      obtain ⟨Q, hQ⟩ : ∃ Q, Q = Z * Z / T256 := ⟨_, rfl⟩
      have hm := fun w => mul_c Z Z hZl hZl w
      rw [← hP, ← hQ] at hm
      have hbt := fun w => bit_c y n w
      rw [bitI_at _ _ (by omega)] at hbt
      have hbb : y / 2 ^ n % 2 = 0 ∨ y / 2 ^ n % 2 = 1 := by omega
      obtain ⟨z1, z2, z3⟩ := mem.z.tell
      unfold UC at z1
      rcases hbb with hbb | hbb
      · have hst := expK_step0 x y n hbb
        rw [← hZ, ← hP] at hst
        rw [hbb] at hbt
        have HS := Lib.hid hst
        have hnI : (n : Int) ≤ 255 := by omega
        clear hst hbb hZ hP hQ hk0
        go_wp2_with fail
        refine (hm _).mono ?_
        rintro e w3 ⟨rfl, hb3⟩
        have mem3 := mem.call hb3
        clear z1 z2 z3
        obtain ⟨z1, z2, z3⟩ := mem3.z.tell
        obtain ⟨y1, y2, y3⟩ := mem3.y.tell
        unfold UC at z1 y1
        have mem4 := mem3.put P
        go_wp2_with fail
        refine (hbt _).mono ?_
        rintro e w4 ⟨rfl, hb4⟩
        have mem5 := mem4.call hb4
        clear z1 z2 z3 y1 y2 y3 mem4 mem3
        go_wp2_with fail
        go_roundw
        case rel => exact ⟨n, by omega, by go_num, by rw [HS.out]; exact mem5⟩
        case measure => first | (simp [intOf]; done) | (simp [intOf]; omega)
      · have hst := expK_step1 x y n hbb
        rw [← hZ, ← hP] at hst
        rw [hbb] at hbt
        have HS := Lib.hid hst
        have hnI : (n : Int) ≤ 255 := by omega
        obtain ⟨R, hR⟩ : ∃ R, R = P * x % T256 := ⟨_, rfl⟩
        obtain ⟨V, hV⟩ : ∃ V, V = P * x / T256 := ⟨_, rfl⟩
        have hm2 := fun w => mul_c P x hPl HX.out w
        rw [← hR, ← hV] at hm2
        have HR := Lib.hid hR
        clear hst hbb hZ hP hQ hk0 hR hV
        go_wp2_with fail
        refine (hm _).mono ?_
        rintro e w3 ⟨rfl, hb3⟩
        have mem3 := mem.call hb3
        clear z1 z2 z3
        obtain ⟨z1, z2, z3⟩ := mem3.z.tell
        obtain ⟨y1, y2, y3⟩ := mem3.y.tell
        unfold UC at z1 y1
        have mem4 := mem3.put P
        go_wp2_with fail
        refine (hbt _).mono ?_
        rintro e w4 ⟨rfl, hb4⟩
        have mem5 := mem4.call hb4
        clear z1 z2 z3 y1 y2 y3 mem4 mem3
        obtain ⟨z1, z2, z3⟩ := mem5.z.tell
        obtain ⟨x1, x2, x3⟩ := mem5.x.tell
        unfold UC at z1 x1
        go_wp2_with fail
        refine (hm2 _).mono ?_
        rintro e w5 ⟨rfl, hb5⟩
        have mem6 := mem5.call hb5
        clear z1 z2 z3 x1 x2 x3 mem5
        obtain ⟨z1, z2, z3⟩ := mem6.z.tell
        unfold UC at z1
        have mem7 := mem6.put R
        go_wp2_with fail
        go_roundw
        case rel => exact ⟨n, by omega, by go_num, by rw [HS.out, ← HR.out]; exact mem7⟩
        case measure => first | (simp [intOf]; done) | (simp [intOf]; omega)

set_option maxHeartbeats 4000000 in
set_option maxRecDepth 100000 in
theorem rexp_c (x y : Nat) (hx : x < T256) (hy : y < T256) (w : World) :
    Calls Try.prog 49 #[U x, U y] w fun e w' => e = .returned (U (x ^ y % T256)) ∧ Bl w w' := by
  have h00 : x ^ y % T256 = expK x y 0 := by unfold expK; simp
  rw [h00]
  clear h00
  have hKtop : expK x y (256) = 1 := expK_top x y _ (by rw [← T256_pow]; exact hy)
  have hK256 : 256 ≤ 256 := Nat.le_refl _
  have HT := Lib.hid hKtop; have HX := Lib.hid hx
  clear hKtop
  go_enter Try.func49, Try.ntmps49
  go_wp2_with fail
  refine (rfrom_c 1 (by omega) _).mono ?_
  rintro e w1 ⟨rfl, hb1⟩
  have rx : Box w1 w.heap.size (UC x) 24 := (((Box.new _ _ _ _ (by simp)).alloc _).alloc _).call hb1
  have ry : Box w1 (w.heap.size + 1) (UC y) 24 := ((Box.new _ _ _ _ (by simp)).alloc _).call hb1
  have ro : Box w1 (w.heap.size + 1 + 1) (UC 0) 24 := (Box.new _ _ _ _ (by simp)).call hb1
  have b1 : Bl w w1 := Bl.trans ((((Bl.refl w).alloc _).alloc _).alloc _) hb1
  have hlt := ro.lt
  clear hb1
  obtain ⟨y1, y2, y3⟩ := ry.tell
  unfold UC at y1
  have n0 : (w.heap.size = w1.heap.size) = False := (by simp only [eq_iff_iff, iff_false]; omega)
  have m0 : (w1.heap.size = w.heap.size) = False := (by simp only [eq_iff_iff, iff_false]; omega)
  have n1 : (w.heap.size + 1 = w1.heap.size) = False := (by simp only [eq_iff_iff, iff_false]; omega)
  have m1 : (w1.heap.size = w.heap.size + 1) = False := (by simp only [eq_iff_iff, iff_false]; omega)
  have n2 : (w.heap.size + 1 + 1 = w1.heap.size) = False := (by simp only [eq_iff_iff, iff_false]; omega)
  have m2 : (w1.heap.size = w.heap.size + 1 + 1) = False := (by simp only [eq_iff_iff, iff_false]; omega)
  have l0 : w.heap.size < w1.heap.size := (by omega)
  have l1 : w.heap.size + 1 < w1.heap.size := (by omega)
  go_wp2_with fail
  have mem : EMem w (w1.alloc (.cells (UC 1) 24)) w1.heap.size x y 1 := ⟨rx.alloc _, ry.alloc _, ro.alloc _, Box.new w1 _ _ _ rfl, hlt, b1.alloc _⟩
  clear rx ry ro b1 y1 y2 y3
  go_loopw [6] (fun t wr => ∃ k : Nat, k ≤ 256 ∧ t = .int .i64 ((k : Int) - 1) ∧ EMem w wr w1.heap.size x y (expK x y k)) (fun t _ => (intOf t + 1).toNat)
  case atStart => exact ⟨256, Nat.le_refl _, rfl, by rw [HT.out]; exact mem⟩
  case round =>
    clear mem
    obtain ⟨k, hk, rfl, mem⟩ := hrel
    by_cases hk0 : k = 0
    · subst hk0
      obtain ⟨o1, o2, o3⟩ := mem.o.tell
      obtain ⟨z1, z2, z3⟩ := mem.z.tell
      unfold UC at o1 z1
      go_wp2_with fail
      refine bodyPost_ret (v := U (expK x y 0)) (by simp only [results, Try.results49]; go_simp) rfl ⟨rfl, ?_⟩
      iterate 4 refine Bl.setCell ?_ (by simp only []; omega) _
      exact mem.bl
    · obtain ⟨n, rfl⟩ : ∃ n, k = n + 1 := ⟨k - 1, by omega⟩
      rw [show (((n + 1 : Nat) : Int) - 1) = (n : Int) from by omega]
      obtain ⟨Z, hZ⟩ : ∃ Z, Z = expK x y (n + 1) := ⟨_, rfl⟩
      have hZl : Z < T256 := by rw [hZ]; exact expK_lt _ _ _
      rw [← hZ] at mem
      obtain ⟨P, hP⟩ : ∃ P, P = Z * Z % T256 := ⟨_, rfl⟩
      have hPl : P < T256 := by rw [hP]; exact mod_lt256 _
      obtain ⟨Q, hQ⟩ : ∃ Q, Q = Z * Z / T256 := ⟨_, rfl⟩
      have hm := fun w => rmul_c Z Z hZl hZl w
      rw [← hP, ← hQ] at hm
      have hbt := fun w => rbit_c y n w
      rw [bitI_at _ _ (by omega)] at hbt
      have hbb : y / 2 ^ n % 2 = 0 ∨ y / 2 ^ n % 2 = 1 := by omega
      obtain ⟨z1, z2, z3⟩ := mem.z.tell
      unfold UC at z1
      rcases hbb with hbb | hbb
      · have hst := expK_step0 x y n hbb
        rw [← hZ, ← hP] at hst
        rw [hbb] at hbt
        have HS := Lib.hid hst
        have hnI : (n : Int) ≤ 255 := by omega
        clear hst hbb hZ hP hQ hk0
        go_wp2_with fail
        refine (hm _).mono ?_
        rintro e w3 ⟨rfl, hb3⟩
        have mem3 := mem.call hb3
        clear z1 z2 z3
        obtain ⟨z1, z2, z3⟩ := mem3.z.tell
        obtain ⟨y1, y2, y3⟩ := mem3.y.tell
        unfold UC at z1 y1
        have mem4 := mem3.put P
        go_wp2_with fail
        refine (hbt _).mono ?_
        rintro e w4 ⟨rfl, hb4⟩
        have mem5 := mem4.call hb4
        clear z1 z2 z3 y1 y2 y3 mem4 mem3
        go_wp2_with fail
        go_roundw
        case rel => exact ⟨n, by omega, by go_num, by rw [HS.out]; exact mem5⟩
        case measure => first | (simp [intOf]; done) | (simp [intOf]; omega)
      · have hst := expK_step1 x y n hbb
        rw [← hZ, ← hP] at hst
        rw [hbb] at hbt
        have HS := Lib.hid hst
        have hnI : (n : Int) ≤ 255 := by omega
        obtain ⟨R, hR⟩ : ∃ R, R = P * x % T256 := ⟨_, rfl⟩
        obtain ⟨V, hV⟩ : ∃ V, V = P * x / T256 := ⟨_, rfl⟩
        have hm2 := fun w => rmul_c P x hPl HX.out w
        rw [← hR, ← hV] at hm2
        have HR := Lib.hid hR
        clear hst hbb hZ hP hQ hk0 hR hV
        go_wp2_with fail
        refine (hm _).mono ?_
        rintro e w3 ⟨rfl, hb3⟩
        have mem3 := mem.call hb3
        clear z1 z2 z3
        obtain ⟨z1, z2, z3⟩ := mem3.z.tell
        obtain ⟨y1, y2, y3⟩ := mem3.y.tell
        unfold UC at z1 y1
        have mem4 := mem3.put P
        go_wp2_with fail
        refine (hbt _).mono ?_
        rintro e w4 ⟨rfl, hb4⟩
        have mem5 := mem4.call hb4
        clear z1 z2 z3 y1 y2 y3 mem4 mem3
        obtain ⟨z1, z2, z3⟩ := mem5.z.tell
        obtain ⟨x1, x2, x3⟩ := mem5.x.tell
        unfold UC at z1 x1
        go_wp2_with fail
        refine (hm2 _).mono ?_
        rintro e w5 ⟨rfl, hb5⟩
        have mem6 := mem5.call hb5
        clear z1 z2 z3 x1 x2 x3 mem5
        obtain ⟨z1, z2, z3⟩ := mem6.z.tell
        unfold UC at z1
        have mem7 := mem6.put R
        go_wp2_with fail
        go_roundw
        case rel => exact ⟨n, by omega, by go_num, by rw [HS.out, ← HR.out]; exact mem7⟩
        case measure => first | (simp [intOf]; done) | (simp [intOf]; omega)

end Go.Proofs.Ythgnmpjcbicdhaa

