/- Get: bytes as a number. -/
import Derived.Test.YthgnmpjcbicdhaaProg
import Derived.Test.YthgnmpjcbicdhaaBase
import Derived.Test.YthgnmpjcbicdhaaArrEq
import Derived.Test.YthgnmpjcbicdhaaLay
import Derived.Test.YthgnmpjcbicdhaaWMore
set_option linter.unusedSimpArgs false
set_option linter.unusedVariables false
namespace Go.Proofs.Ythgnmpjcbicdhaa
open Go Go.RowKit Go.Proofs.YthgnmpjcbicdhaaW.PrintWords Go.Proofs.YthgnmpjcbicdhaaW.PrintLast Go.Proofs.YthgnmpjcbicdhaaW.PrintMore

def getV (l : List Int) : Nat := if l.length ≤ 32 then valB 8 l else 0
def getE (l : List Int) : Int := if l.length ≤ 32 then 0 else 11
theorem limbs_null : (ints .u64 (limbs 0)) = #[.int .u64 0, .int .u64 0, .int .u64 0, .int .u64 0] := by simp [ints, limbs, L_null]
theorem U_limbs (v : Nat) : U v = .agg (ints .u64 (limbs v)) := rfl
theorem U_null : U 0 = .agg #[.int .u64 0, .int .u64 0, .int .u64 0, .int .u64 0] := by rw [U_limbs, limbs_null]

theorem wrap_u64s (n : Int) (h0 : 0 ≤ n) (h1 : n < 18446744073709551616) : IntKind.u64.wrap n = n := by
  unfold IntKind.wrap; simp [IntKind.bits, IntKind.signed]; omega
theorem wrap_lay (x : Int) (e r : Nat) (h0 : 0 ≤ x) (h1 : x < 2 ^ e) (hr : r + e ≤ 64) : IntKind.u64.wrap (IntKind.u64.wrap x * 2 ^ r) = ((x.toNat * 2 ^ r : Nat) : Int) := by
  obtain ⟨n, rfl⟩ := Int.eq_ofNat_of_zero_le h0
  have h2 : n < 2 ^ e := by
    have : ((2 : Int) ^ e) = ((2 ^ e : Nat) : Int) := by simp
    omega
  have h3 : n * 2 ^ r < 2 ^ 64 := by
    have h4 : n * 2 ^ r < 2 ^ e * 2 ^ r := Nat.mul_lt_mul_of_pos_right h2 (Nat.two_pow_pos r)
    have h5 : 2 ^ (e + r) ≤ 2 ^ 64 := Nat.pow_le_pow_right (by omega) (by omega)
    rw [Nat.pow_add] at h5
    omega
  have h6 : n < 18446744073709551616 := by
    have : 2 ^ e ≤ 2 ^ 64 := Nat.pow_le_pow_right (by omega) (by omega)
    omega
  have e2 : ((n : Int) * 2 ^ r) = ((n * 2 ^ r : Nat) : Int) := by simp
  rw [wrap_u64s (n : Int) (by omega) (by omega), e2, wrap_u64s _ (by omega) (by omega)]
  simp

set_option maxHeartbeats 4000000 in
set_option maxRecDepth 100000 in
theorem get_c (A : Option Addr) (c : Nat) (l : List Int) (w : World) (hr : Kd.C (Kd.int .u8) w A l.length l) (hb : ∀ x ∈ l, 0 ≤ x ∧ x ≤ 255) (hl : l.length ≤ 140737488351232) :
    Calls Try.prog 18 #[.slice A l.length c] w fun e w' => e = .returned (.tuple #[U (getV l), .int .i64 (getE l)]) ∧ Bl w w' := by
  have HR := Lib.hid hr; have HB := Lib.hid hb
  clear hr hb
  by_cases h32 : l.length ≤ 32
  · have e1 : getV l = valB 8 l := if_pos h32
    have e2 : getE l = 0 := if_pos h32
    obtain ⟨v, hv⟩ : ∃ v, v = valB 8 l := ⟨_, rfl⟩
    rw [e1, e2, ← hv]
    have HV := Lib.hid hv
    clear e1 e2 hl hv
    have d : decide ((32 : Int) < (l.length : Int)) = false := decide_eq_false (by omega)
    have hnI : (l.length : Int) ≤ 32 := by omega
    go_enter Try.func18, Try.ntmps18
    go_wp2_with fail
    go_loopw [13] (fun t wr => ∃ i : Nat, i ≤ l.length ∧ t = .int .i64 (i : Int) ∧ Box wr w.heap.size #[.int .u64 0, .int .u64 0, .int .u64 0, .int .u64 0] 24 ∧ Box wr (w.heap.size + 1) (ints .u64 (limbs (va 8 l i))) 24 ∧ Bl w wr) (fun t _ => l.length - (intOf t).toNat)
    case atStart => exact ⟨0, by omega, rfl, (Box.new _ _ _ _ rfl).alloc _, by rw [va_zero, limbs_null]; exact Box.new _ _ _ _ (by simp), ((Bl.refl w).alloc _).alloc _⟩
    case round =>
      obtain ⟨i, hi, rfl, h1, h2, h3⟩ := hrel
      by_cases hlt : i < l.length
      · obtain ⟨k, hk⟩ : ∃ k, k = l.length - 1 - i := ⟨_, rfl⟩
        obtain ⟨ad, rfl, hx⟩ := Kd.at_int (Kd.C_below HR.out h3) (i : Int) (by omega) (by omega)
        rw [Int.toNat_natCast] at hx
        obtain ⟨q, hQ⟩ : ∃ q, q = k / 8 := ⟨_, rfl⟩
        obtain ⟨r, hR⟩ : ∃ r, r = k % 8 := ⟨_, rfl⟩
        obtain ⟨x, hX⟩ : ∃ x, x = rd l (i : Int) := ⟨_, rfl⟩
        obtain ⟨z, hZ⟩ : ∃ z, z = (limbs (va 8 l i)).getD q 0 := ⟨_, rfl⟩
        rw [← hX] at hx
        have hq : q < 4 := by omega
        have hr8 : r < 8 := by omega
        have hc := h2.cell q
        rw [ints_get _ _ _ (by rw [limbs_len]; exact hq), ← hZ] at hc
        have hf := h2.froz q
        have hz := h2.lt
        have hqI : (q : Int) < 4 := by omega
        have hkI : (k : Int) ≤ 31 := by omega
        have hkn : (l.length : Int) - 1 - (i : Int) = (k : Int) := by omega
        have hw1 : IntKind.i64.wrap ((k : Int) / 8) = (q : Int) := by rw [IntKind.wrap_i64]; omega
        have hw2 : (k : Int) % 8 = (r : Int) := by omega
        have HK := Lib.hid hk; have HQ := Lib.hid hQ; have HRR := Lib.hid hR; have HX := Lib.hid hX; have HZ := Lib.hid hZ; have HH1 := Lib.hid h1; have HH2 := Lib.hid h2; have HH3 := Lib.hid h3
        clear hk hQ hR hX hZ h1 h2 h3 h32
        go_wp2_with fail
        go_region
        go_wp2_with fail
        go_roundw
        case rel =>
          refine ⟨i + 1, by omega, by go_num, ((HH1.out).far _ _ (by simp only []; omega)).drew, ?_, ((HH3.out).setCell (by simp only []; omega) _).drew⟩
          have hs := lay_step 8 8 rfl l (fun y hy => by have := HB.out y hy; omega) i k hlt HK.out (by omega)
          have hx0 : x = l.getD i 0 := by rw [HX.out]; simp [rd]
          have hxb := HB.out x (by rw [hx0]; simp [List.getD_eq_getElem?_getD, hlt])
          have hwl := wrap_lay x 8 (8 * r) hxb.1 (by omega) (by omega)
          rw [hwl]
          have h9 := ((HH2.out).set q (.int .u64 (bits BinOp.or IntKind.u64 z ((x.toNat * 2 ^ (8 * r) : Nat) : Int)))).drew
          rw [ints_set] at h9
          rw [← HQ.out, ← HRR.out, ← HZ.out, ← hx0] at hs
          rw [hs] at h9
          exact h9
        case measure => simp [intOf]; omega
      · obtain rfl : i = l.length := by omega
        rw [va_full, ← HV.out] at h2
        simp only [ints, limbs, List.map_cons, List.map_nil] at h2
        obtain ⟨c1, f1, z1⟩ := h1.tell
        obtain ⟨c2, f2, z2⟩ := h2.tell
        have HH3 := Lib.hid h3
        clear h1 h2 h3
        go_wp2_with fail
        refine bodyPost_ret (v := .tuple #[U v, .int .i64 0]) (by simp only [results, Try.results18]; go_simp) rfl ⟨rfl, ?_⟩
        exact (by repeat (first | exact HH3.out | (refine Bl.setCell ?_ (by simp only []; omega) _) | apply Bl.alloc))
  · have e1 : getV l = 0 := if_neg h32
    have e2 : getE l = 11 := if_neg h32
    rw [e1, e2, U_null]
    clear e1 e2
    have d : decide ((32 : Int) < (l.length : Int)) = true := decide_eq_true (by omega)
    have hnI : (l.length : Int) ≤ 140737488351232 := by omega
    clear hl h32
    go_enter Try.func18, Try.ntmps18
    go_wp2_with fail
    refine bodyPost_ret (v := .tuple #[.agg #[.int .u64 0, .int .u64 0, .int .u64 0, .int .u64 0], .int .i64 11]) (by simp only [results, Try.results18]; go_simp) rfl ⟨rfl, ?_⟩
    exact (by repeat (first | exact Bl.refl _ | (refine Bl.setCell ?_ (by simp only []; omega) _) | apply Bl.alloc))
end Go.Proofs.Ythgnmpjcbicdhaa

