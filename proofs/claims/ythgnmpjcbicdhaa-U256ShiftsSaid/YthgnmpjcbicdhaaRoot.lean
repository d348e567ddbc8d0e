/- Root of both packages. Written by a program of ours. -/
import Derived.Test.YthgnmpjcbicdhaaExp
import Derived.Test.YthgnmpjcbicdhaaEqs
set_option linter.unusedSimpArgs false
set_option linter.unusedVariables false
namespace Go.Proofs.Ythgnmpjcbicdhaa
open Go Go.RowKit

/-- The root's bits, from the highest one on: m of them are found. -/
def rtK (x : Nat) : Nat → Nat
  | 0 => 0
  | m + 1 => if (rtK x m ||| 2 ^ (127 - m)) * (rtK x m ||| 2 ^ (127 - m)) ≤ x then rtK x m ||| 2 ^ (127 - m) else rtK x m
def rootN (x : Nat) : Nat := rtK x 128
theorem rtK_inv (x : Nat) : ∀ m, m ≤ 128 → rtK x m % 2 ^ (128 - m) = 0 ∧ rtK x m + 2 ^ (128 - m) ≤ 2 ^ 128
  | 0, _ => by simp [rtK]
  | m + 1, h => by
    obtain ⟨h1, h2⟩ := rtK_inv x m (by omega)
    obtain ⟨p, hp⟩ : ∃ p, p = 127 - m := ⟨_, rfl⟩
    have e1 : 128 - m = p + 1 := by omega
    have e2 : 128 - (m + 1) = p := by omega
    rw [e1] at h1 h2
    rw [e2]
    have hpp : 0 < 2 ^ p := Nat.two_pow_pos p
    have e3 : 2 ^ (p + 1) = 2 * 2 ^ p := by rw [Nat.pow_succ]; omega
    have hdiv : ∃ q, rtK x m = 2 ^ (p + 1) * q := ⟨rtK x m / 2 ^ (p + 1), by have := Nat.div_add_mod (rtK x m) (2 ^ (p + 1)); omega⟩
    obtain ⟨q, hq⟩ := hdiv
    have hor : rtK x m ||| 2 ^ p = rtK x m + 2 ^ p := by
      rw [hq, ← Nat.two_pow_add_eq_or_of_lt (by rw [e3]; omega)]
    unfold rtK
    rw [← hp, hor]
    split
    · refine ⟨?_, by rw [e3] at h2; omega⟩
      rw [hq, e3, Nat.mul_assoc, Nat.mul_comm 2, Nat.mul_assoc, Nat.mul_add_mod, Nat.mod_self]
    · refine ⟨?_, by rw [e3] at h2; omega⟩
      rw [hq, e3, Nat.mul_assoc, Nat.mul_comm 2, Nat.mul_assoc, Nat.mul_mod_right]
theorem rtK_or (x m : Nat) (h : m < 128) : rtK x m ||| 2 ^ (127 - m) = rtK x m + 2 ^ (127 - m) := by
  obtain ⟨h1, h2⟩ := rtK_inv x m (by omega)
  obtain ⟨p, hp⟩ : ∃ p, p = 127 - m := ⟨_, rfl⟩
  have e1 : 128 - m = p + 1 := by omega
  rw [e1] at h1
  have hpp : 0 < 2 ^ p := Nat.two_pow_pos p
  have e3 : 2 ^ (p + 1) = 2 * 2 ^ p := by rw [Nat.pow_succ]; omega
  have hq : rtK x m = 2 ^ (p + 1) * (rtK x m / 2 ^ (p + 1)) := by have := Nat.div_add_mod (rtK x m) (2 ^ (p + 1)); omega
  rw [← hp]
  conv => lhs; rw [hq]
  rw [← Nat.two_pow_add_eq_or_of_lt (by rw [e3]; omega), ← hq]
theorem two128 : (2 : Nat) ^ 128 = 340282366920938463463374607431768211456 := rfl
theorem rtK_lt (x m : Nat) (h : m ≤ 128) : rtK x m < 2 ^ 128 := by
  have h2 := (rtK_inv x m h).2
  have := Nat.two_pow_pos (128 - m)
  omega
theorem rtK_or_lt (x m : Nat) (h : m < 128) : rtK x m ||| 2 ^ (127 - m) < 2 ^ 128 := by
  rw [rtK_or x m h]
  have h2 := (rtK_inv x m (by omega)).2
  have e1 : 128 - m = (127 - m) + 1 := by omega
  rw [e1, Nat.pow_succ] at h2
  have := Nat.two_pow_pos (127 - m)
  omega
theorem sq_lt {t : Nat} (h : t < 2 ^ 128) : t * t < T256 := by
  have : t * t < 2 ^ 128 * 2 ^ 128 := Nat.mul_lt_mul'' h h
  rw [← Nat.pow_add] at this
  exact this
/-- The root's square is at most the number, the next one's above it. -/
theorem rtK_spec (x : Nat) (hx : x < T256) : ∀ m, m ≤ 128 → rtK x m * rtK x m ≤ x ∧ x < (rtK x m + 2 ^ (128 - m)) * (rtK x m + 2 ^ (128 - m))
  | 0, _ => by
    refine ⟨by simp [rtK], ?_⟩
    simp only [rtK, Nat.zero_add, Nat.sub_zero]
    rw [← Nat.pow_add]; exact hx
  | m + 1, h => by
    obtain ⟨h1, h2⟩ := rtK_spec x hx m (by omega)
    have hor := rtK_or x m (by omega)
    obtain ⟨p, hp⟩ : ∃ p, p = 127 - m := ⟨_, rfl⟩
    have e1 : 128 - m = p + 1 := by omega
    have e2 : 128 - (m + 1) = p := by omega
    rw [← hp] at hor
    rw [e1] at h2
    rw [e2]
    unfold rtK
    rw [← hp]
    split
    · rename_i hc
      refine ⟨hc, ?_⟩
      rw [hor]
      have e3 : rtK x m + 2 ^ p + 2 ^ p = rtK x m + 2 ^ (p + 1) := by rw [Nat.pow_succ]; omega
      rw [e3]; exact h2
    · rename_i hc
      refine ⟨h1, ?_⟩
      rw [hor] at hc
      omega
theorem rootN_spec (x : Nat) (hx : x < T256) : rootN x * rootN x ≤ x ∧ x < (rootN x + 1) * (rootN x + 1) := by
  have := rtK_spec x hx 128 (Nat.le_refl _)
  simpa [rootN] using this
theorem rootN_lt (x : Nat) : rootN x < 2 ^ 128 := rtK_lt x 128 (Nat.le_refl _)
structure TMem (w wr : World) (x r : Nat) : Prop where
  x : Box wr w.heap.size (UC x) 24
  o : Box wr (w.heap.size + 1) (UC 0) 24
  r : Box wr (w.heap.size + 1 + 1) (UC r) 24
  bl : Bl w wr
theorem TMem.call {w wr w' : World} {x r : Nat} (d : TMem w wr x r) (h : Bl wr w') : TMem w w' x r := ⟨d.x.call h, d.o.call h, d.r.call h, d.bl.trans h⟩
theorem TMem.alloc {w wr : World} {x r : Nat} (d : TMem w wr x r) (o : Obj) : TMem w (wr.alloc o) x r := ⟨d.x.alloc o, d.o.alloc o, d.r.alloc o, d.bl.alloc o⟩
theorem TMem.put {w wr : World} {x r : Nat} (d : TMem w wr x r) (v : Nat) : TMem w (put4 wr (w.heap.size + 1 + 1) v) x v :=
  ⟨d.x.put4_far _ _ (by omega), d.o.put4_far _ _ (by omega), d.r.put4 v, d.bl.put4 (by omega) v⟩
theorem TMem.far {w wr : World} {x r : Nat} (d : TMem w wr x r) (b o : Nat) (u : Value) (h : w.heap.size + 1 + 1 < b) : TMem w (wr.setCell ⟨b, o, none⟩ u) x r :=
  ⟨d.x.far _ _ (by simp only []; omega), d.o.far _ _ (by simp only []; omega), d.r.far _ _ (by simp only []; omega), d.bl.setCell (by simp only []; omega) _⟩
theorem TMem.drew {w wr : World} {x r : Nat} (d : TMem w wr x r) : TMem w wr.drew x r := ⟨d.x.drew, d.o.drew, d.r.drew, d.bl.drew⟩

set_option maxHeartbeats 4000000 in
set_option maxRecDepth 100000 in
theorem root_c (x : Nat) (hx : x < T256) (w : World) :
    Calls Try.prog 47 #[U x] w fun e w' => e = .returned (U (rootN x)) ∧ Bl w w' := by
  show Calls _ _ _ _ fun e w' => e = .returned (U (rtK x 128)) ∧ Bl w w'
  have hg := guardU
  have HX := Lib.hid hx
  clear hx
  go_enter Try.func47, Try.ntmps47
  go_wp2_with fail
  go_loopw [4] (fun t wr => ∃ k : Nat, k ≤ 128 ∧ t = .int .i64 ((k : Int) - 1) ∧ TMem w wr x (rtK x (128 - k))) (fun t _ => (intOf t + 1).toNat)
  case atStart =>
    refine ⟨128, by omega, rfl, ?_⟩
    exact ⟨((Box.new _ _ _ _ (by simp)).alloc _).alloc _, (Box.new _ _ _ _ (by simp)).alloc _, by show Box _ _ (UC 0) _; exact Box.new _ _ _ _ (by simp), by repeat (first | apply Bl.alloc | exact Bl.refl _)⟩
  case round =>
    obtain ⟨k, hk, rfl, mem⟩ := hrel
    by_cases hk0 : k = 0
    · subst hk0
      obtain ⟨o1, o2, o3⟩ := mem.o.tell
      obtain ⟨r1, r2, r3⟩ := mem.r.tell
      unfold UC at o1 r1
      go_wp2_with fail
      refine bodyPost_ret (v := U (rtK x (128 - 0))) (by simp only [results, Try.results47]; go_simp) rfl ⟨rfl, ?_⟩
      iterate 4 refine Bl.setCell ?_ (by simp only []; omega) _
      exact mem.bl
    · obtain ⟨n, rfl⟩ : ∃ n, k = n + 1 := ⟨k - 1, by omega⟩
      rw [show (((n + 1 : Nat) : Int) - 1) = (n : Int) from by omega]
      have hs : rtK x (128 - n) = if (rtK x (128 - (n + 1)) ||| 2 ^ n) * (rtK x (128 - (n + 1)) ||| 2 ^ n) ≤ x then rtK x (128 - (n + 1)) ||| 2 ^ n else rtK x (128 - (n + 1)) := by
        have e1 : 128 - n = (128 - (n + 1)) + 1 := by omega
        have e2 : 127 - (128 - (n + 1)) = n := by omega
        rw [e1]
        show (if _ then _ else _) = _
        rw [e2]
      have htl : rtK x (128 - (n + 1)) ||| 2 ^ n < 2 ^ 128 := by
        have := rtK_or_lt x (128 - (n + 1)) (by omega)
        rwa [show 127 - (128 - (n + 1)) = n by omega] at this
      have hr128 := rtK_lt x (128 - (n + 1)) (by omega)
      generalize rtK x (128 - (n + 1)) = R at *
      obtain ⟨t, ht⟩ : ∃ t, t = R ||| 2 ^ n := ⟨_, rfl⟩
      rw [← ht] at hs htl
      have htt := sq_lt htl
      have htT : t < T256 := Nat.lt_of_lt_of_le htl (by rw [T256_pow]; exact Nat.pow_le_pow_right (by omega) (by omega))
      have hm := fun w => mul_c t t htT htT w
      rw [Nat.div_eq_of_lt htt, Nat.mod_eq_of_lt htt] at hm
      obtain ⟨S, hS⟩ : ∃ S, S = t * t := ⟨_, rfl⟩
      rw [← hS] at hm hs htt
      have hcm := fun w => cmp_c S x htt HX.out w
      have HS := Lib.hid hs; have HT := Lib.hid ht; have HSS := Lib.hid hS
      have hnI : (n : Int) ≤ 127 := by omega
      have hn128 : n < 128 := by omega
      obtain ⟨r1, r2, r3⟩ := mem.r.tell
      unfold UC at r1
      have hor : (UC R).setIfInBounds (n / 64) (.int .u64 (bits BinOp.or IntKind.u64 (L R (n / 64)) (IntKind.u64.wrap (2 ^ (n % 64))))) = UC t := by rw [ht]; exact UC_or R n (by omega)
      have HO := Lib.hid hor
      clear hs ht hS hk0 hor htl hr128
      go_wp2_with fail
      obtain ⟨W0, hW0⟩ : ∃ W0, W0 = wr.alloc (.cells (UC R) 24) := ⟨_, rfl⟩
      have hB : wr.heap.size = wr.heap.size := rfl
      have hwl := mem.r.lt
      have mem1 : TMem w W0 x R := by rw [hW0]; exact mem.alloc _
      have tb1 : Box W0 wr.heap.size (UC R) 24 := by rw [hW0]; exact Box.new _ _ _ _ rfl
      rw [show (wr.alloc (.cells #[.int .u64 (L R 0), .int .u64 (L R 1), .int .u64 (L R 2), .int .u64 (L R 3)] 24)) = W0 from hW0.symm]
      clear hW0 mem r1 r2 r3
      obtain ⟨B, hBB⟩ : ∃ B, B = wr.heap.size := ⟨_, rfl⟩
      rw [← hBB] at tb1 hwl ⊢
      clear hBB hB
      have f1 : W0.cell? ⟨B, n / 64, none⟩ = some (.int .u64 (L R (n / 64))) := by rw [tb1.cell, UC_at _ _ (by omega)]
      have f2 : W0.frozen? ⟨B, n / 64, none⟩ = false := tb1.froz _
      have hd64 : n / 64 < 4 := by omega
      go_region
      have mem2 := (mem1.far B (n / 64) (.int .u64 (bits BinOp.or IntKind.u64 (L R (n / 64)) (IntKind.u64.wrap (2 ^ (n % 64))))) (by omega)).drew
      have tb2 : Box (W0.setCell ⟨B, n / 64, none⟩ (.int .u64 (bits BinOp.or IntKind.u64 (L R (n / 64)) (IntKind.u64.wrap (2 ^ (n % 64)))))).drew B (UC t) 24 := ((tb1.set _ _).cells HO.out).drew
      clear f1 f2 mem1 tb1
      obtain ⟨W2, hW2⟩ : ∃ W2, W2 = (W0.setCell ⟨B, n / 64, none⟩ (.int .u64 (bits BinOp.or IntKind.u64 (L R (n / 64)) (IntKind.u64.wrap (2 ^ (n % 64)))))).drew := ⟨_, rfl⟩
      rw [← hW2] at mem2 tb2 ⊢
      clear hW2
      obtain ⟨t1, t2, t3⟩ := tb2.tell
      unfold UC at t1
      go_wp2_with fail
      refine (hm _).mono ?_
      rintro e W3 ⟨rfl, hb3⟩
      have mem3 := mem2.call hb3
      have tb3 := tb2.call hb3
      clear t1 t2 t3 mem2 tb2
      obtain ⟨x1, x2, x3⟩ := mem3.x.tell
      obtain ⟨t1, t2, t3⟩ := tb3.tell
      unfold UC at x1 t1
      have na0 : (w.heap.size = W3.heap.size) = False := (by simp only [eq_iff_iff, iff_false]; have := mem3.r.lt; omega)
      have ma0 : (W3.heap.size = w.heap.size) = False := (by simp only [eq_iff_iff, iff_false]; have := mem3.r.lt; omega)
      have la0 : w.heap.size < W3.heap.size := (by have := mem3.r.lt; omega)
      have na1 : (w.heap.size + 1 = W3.heap.size) = False := (by simp only [eq_iff_iff, iff_false]; have := mem3.r.lt; omega)
      have ma1 : (W3.heap.size = w.heap.size + 1) = False := (by simp only [eq_iff_iff, iff_false]; have := mem3.r.lt; omega)
      have la1 : w.heap.size + 1 < W3.heap.size := (by have := mem3.r.lt; omega)
      have na2 : (w.heap.size + 1 + 1 = W3.heap.size) = False := (by simp only [eq_iff_iff, iff_false]; have := mem3.r.lt; omega)
      have ma2 : (W3.heap.size = w.heap.size + 1 + 1) = False := (by simp only [eq_iff_iff, iff_false]; have := mem3.r.lt; omega)
      have la2 : w.heap.size + 1 + 1 < W3.heap.size := (by have := mem3.r.lt; omega)
      have nb : (B = W3.heap.size) = False := (by simp only [eq_iff_iff, iff_false]; omega)
      have mb : (W3.heap.size = B) = False := (by simp only [eq_iff_iff, iff_false]; omega)
      go_wp2_with fail
      refine (hcm _).mono ?_
      rintro e W4 ⟨rfl, hb4⟩
      have mem4 := ((mem3.alloc (.cells (UC 0) 24)).alloc (.cells (UC S) 24)).call hb4
      have tb4 := ((tb3.alloc (.cells (UC 0) 24)).alloc (.cells (UC S) 24)).call hb4
      clear x1 x2 x3 t1 t2 t3 mem3 tb3
      by_cases hle : S ≤ x
      · have hc0 : cmpI S x ≤ 0 := by
          unfold cmpI; split
          · omega
          · split <;> omega
        have dc : decide (cmpI S x ≤ 0) = true := by simpa using hc0
        have hs2 := HS.out
        rw [if_pos hle] at hs2
        have HS2 := Lib.hid hs2
        obtain ⟨t1, t2, t3⟩ := tb4.tell
        obtain ⟨r1, r2, r3⟩ := mem4.r.tell
        unfold UC at t1 r1
        clear hle hs2 hc0
        have mem5 := mem4.put t
        go_wp2_with fail
        go_roundw
        case rel => exact ⟨n, by omega, by go_num, by rw [HS2.out]; exact mem5⟩
        case measure => first | (simp [intOf]; done) | (simp [intOf]; omega)
      · have hc0 : 0 < cmpI S x := by
          unfold cmpI; rw [if_neg (by omega)]; split <;> omega
        have dc : decide (cmpI S x ≤ 0) = false := by simp; omega
        have hs2 := HS.out
        rw [if_neg hle] at hs2
        have HS2 := Lib.hid hs2
        clear hle hs2 hc0
        go_wp2_with fail
        go_roundw
        case rel => exact ⟨n, by omega, by go_num, by rw [HS2.out]; exact mem4⟩
        case measure => first | (simp [intOf]; done) | (simp [intOf]; omega)

set_option maxHeartbeats 4000000 in
set_option maxRecDepth 100000 in
theorem rroot_c (x : Nat) (hx : x < T256) (w : World) :
    Calls Try.prog 50 #[U x] w fun e w' => e = .returned (U (rootN x)) ∧ Bl w w' := by
  show Calls _ _ _ _ fun e w' => e = .returned (U (rtK x 128)) ∧ Bl w w'
  have hg := guardU
  have HX := Lib.hid hx
  clear hx
  go_enter Try.func50, Try.ntmps50
  go_wp2_with fail
  go_loopw [4] (fun t wr => ∃ k : Nat, k ≤ 128 ∧ t = .int .i64 ((k : Int) - 1) ∧ TMem w wr x (rtK x (128 - k))) (fun t _ => (intOf t + 1).toNat)
  case atStart =>
    refine ⟨128, by omega, rfl, ?_⟩
    exact ⟨((Box.new _ _ _ _ (by simp)).alloc _).alloc _, (Box.new _ _ _ _ (by simp)).alloc _, by show Box _ _ (UC 0) _; exact Box.new _ _ _ _ (by simp), by repeat (first | apply Bl.alloc | exact Bl.refl _)⟩
  case round =>
    obtain ⟨k, hk, rfl, mem⟩ := hrel
    by_cases hk0 : k = 0
    · subst hk0
      obtain ⟨o1, o2, o3⟩ := mem.o.tell
      obtain ⟨r1, r2, r3⟩ := mem.r.tell
      unfold UC at o1 r1
      go_wp2_with fail
      refine bodyPost_ret (v := U (rtK x (128 - 0))) (by simp only [results, Try.results50]; go_simp) rfl ⟨rfl, ?_⟩
      iterate 4 refine Bl.setCell ?_ (by simp only []; omega) _
      exact mem.bl
    · obtain ⟨n, rfl⟩ : ∃ n, k = n + 1 := ⟨k - 1, by omega⟩
      rw [show (((n + 1 : Nat) : Int) - 1) = (n : Int) from by omega]
      have hs : rtK x (128 - n) = if (rtK x (128 - (n + 1)) ||| 2 ^ n) * (rtK x (128 - (n + 1)) ||| 2 ^ n) ≤ x then rtK x (128 - (n + 1)) ||| 2 ^ n else rtK x (128 - (n + 1)) := by
        have e1 : 128 - n = (128 - (n + 1)) + 1 := by omega
        have e2 : 127 - (128 - (n + 1)) = n := by omega
        rw [e1]
        show (if _ then _ else _) = _
        rw [e2]
      have htl : rtK x (128 - (n + 1)) ||| 2 ^ n < 2 ^ 128 := by
        have := rtK_or_lt x (128 - (n + 1)) (by omega)
        rwa [show 127 - (128 - (n + 1)) = n by omega] at this
      have hr128 := rtK_lt x (128 - (n + 1)) (by omega)
      generalize rtK x (128 - (n + 1)) = R at *
      obtain ⟨t, ht⟩ : ∃ t, t = R ||| 2 ^ n := ⟨_, rfl⟩
      rw [← ht] at hs htl
      have htt := sq_lt htl
      have htT : t < T256 := Nat.lt_of_lt_of_le htl (by rw [T256_pow]; exact Nat.pow_le_pow_right (by omega) (by omega))
      have hm := fun w => rmul_c t t htT htT w
      rw [Nat.div_eq_of_lt htt, Nat.mod_eq_of_lt htt] at hm
      obtain ⟨S, hS⟩ : ∃ S, S = t * t := ⟨_, rfl⟩
      rw [← hS] at hm hs htt
      have hcm := fun w => rcmp_c S x htt HX.out w
      have HS := Lib.hid hs; have HT := Lib.hid ht; have HSS := Lib.hid hS
      have hnI : (n : Int) ≤ 127 := by omega
      have hn128 : n < 128 := by omega
      obtain ⟨r1, r2, r3⟩ := mem.r.tell
      unfold UC at r1
      have hw := fun w => with_c R n (by omega) (by omega) w
      simp only [Int.toNat_natCast] at hw
      rw [← ht] at hw
      have hz : ∀ w, (Op.equalIn 10000 24 (U 0) (.agg #[.int .u64 0, .int .u64 0, .int .u64 0, .int .u64 0])).run Try.prog w = .ok true w := fun w => by rw [U_zero]; exact run_eq_self 0 w
      clear hs ht hS hk0 htl hr128
      go_wp2_with fail
      refine (hw _).mono ?_
      rintro e W1 ⟨rfl, hb1⟩
      have mem1 := mem.call hb1
      have hwl := mem1.r.lt
      clear r1 r2 r3 mem
      have na0 : (w.heap.size = W1.heap.size) = False := (by simp only [eq_iff_iff, iff_false]; have := mem1.r.lt; omega)
      have ma0 : (W1.heap.size = w.heap.size) = False := (by simp only [eq_iff_iff, iff_false]; have := mem1.r.lt; omega)
      have la0 : w.heap.size < W1.heap.size := (by have := mem1.r.lt; omega)
      have na1 : (w.heap.size + 1 = W1.heap.size) = False := (by simp only [eq_iff_iff, iff_false]; have := mem1.r.lt; omega)
      have ma1 : (W1.heap.size = w.heap.size + 1) = False := (by simp only [eq_iff_iff, iff_false]; have := mem1.r.lt; omega)
      have la1 : w.heap.size + 1 < W1.heap.size := (by have := mem1.r.lt; omega)
      have na2 : (w.heap.size + 1 + 1 = W1.heap.size) = False := (by simp only [eq_iff_iff, iff_false]; have := mem1.r.lt; omega)
      have ma2 : (W1.heap.size = w.heap.size + 1 + 1) = False := (by simp only [eq_iff_iff, iff_false]; have := mem1.r.lt; omega)
      have la2 : w.heap.size + 1 + 1 < W1.heap.size := (by have := mem1.r.lt; omega)
      go_wp2_with fail
      refine (hm _).mono ?_
      rintro e W3 ⟨rfl, hb3⟩
      have mem3 := (mem1.alloc (.cells (UC t) 24)).call hb3
      have tb3 : Box W3 W1.heap.size (UC t) 24 := (Box.new W1 _ _ _ rfl).call hb3
      clear mem1
      have htlt := tb3.lt
      obtain ⟨x1, x2, x3⟩ := mem3.x.tell
      obtain ⟨t1, t2, t3⟩ := tb3.tell
      unfold UC at x1 t1
      have nc0 : (w.heap.size = W3.heap.size) = False := (by simp only [eq_iff_iff, iff_false]; have := mem3.r.lt; omega)
      have mc0 : (W3.heap.size = w.heap.size) = False := (by simp only [eq_iff_iff, iff_false]; have := mem3.r.lt; omega)
      have lc0 : w.heap.size < W3.heap.size := (by have := mem3.r.lt; omega)
      have nc1 : (w.heap.size + 1 = W3.heap.size) = False := (by simp only [eq_iff_iff, iff_false]; have := mem3.r.lt; omega)
      have mc1 : (W3.heap.size = w.heap.size + 1) = False := (by simp only [eq_iff_iff, iff_false]; have := mem3.r.lt; omega)
      have lc1 : w.heap.size + 1 < W3.heap.size := (by have := mem3.r.lt; omega)
      have nc2 : (w.heap.size + 1 + 1 = W3.heap.size) = False := (by simp only [eq_iff_iff, iff_false]; have := mem3.r.lt; omega)
      have mc2 : (W3.heap.size = w.heap.size + 1 + 1) = False := (by simp only [eq_iff_iff, iff_false]; have := mem3.r.lt; omega)
      have lc2 : w.heap.size + 1 + 1 < W3.heap.size := (by have := mem3.r.lt; omega)
      have nb : (W1.heap.size = W3.heap.size) = False := (by simp only [eq_iff_iff, iff_false]; omega)
      have mb : (W3.heap.size = W1.heap.size) = False := (by simp only [eq_iff_iff, iff_false]; omega)
      go_wp2_with fail
      refine (hcm _).mono ?_
      rintro e W4 ⟨rfl, hb4⟩
      have mem4 := ((mem3.alloc (.cells (UC 0) 24)).alloc (.cells (UC S) 24)).call hb4
      have tb4 := ((tb3.alloc (.cells (UC 0) 24)).alloc (.cells (UC S) 24)).call hb4
      clear x1 x2 x3 t1 t2 t3 mem3 tb3
      by_cases hle : S ≤ x
      · have hc0 : cmpI S x ≤ 0 := by
          unfold cmpI; split
          · omega
          · split <;> omega
        have dc : decide (cmpI S x ≤ 0) = true := by simpa using hc0
        have hs2 := HS.out
        rw [if_pos hle] at hs2
        have HS2 := Lib.hid hs2
        obtain ⟨t1, t2, t3⟩ := tb4.tell
        obtain ⟨r1, r2, r3⟩ := mem4.r.tell
        unfold UC at t1 r1
        clear hle hs2 hc0
        have mem5 := mem4.put t
        go_wp2_with fail
        go_roundw
        case rel => exact ⟨n, by omega, by go_num, by rw [HS2.out]; exact mem5⟩
        case measure => first | (simp [intOf]; done) | (simp [intOf]; omega)
      · have hc0 : 0 < cmpI S x := by
          unfold cmpI; rw [if_neg (by omega)]; split <;> omega
        have dc : decide (cmpI S x ≤ 0) = false := by simp; omega
        have hs2 := HS.out
        rw [if_neg hle] at hs2
        have HS2 := Lib.hid hs2
        clear hle hs2 hc0
        go_wp2_with fail
        go_roundw
        case rel => exact ⟨n, by omega, by go_num, by rw [HS2.out]; exact mem4⟩
        case measure => first | (simp [intOf]; done) | (simp [intOf]; omega)

end Go.Proofs.Ythgnmpjcbicdhaa

