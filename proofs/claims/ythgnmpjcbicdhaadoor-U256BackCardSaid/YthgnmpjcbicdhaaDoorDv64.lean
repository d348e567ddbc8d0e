/- math/bits.Div64 by ten to the nineteenth. -/
import Derived.Test.YthgnmpjcbicdhaaDoorVmR
import Derived.Test.YthgnmpjcbicdhaaDoorShelf
set_option linter.unusedSimpArgs false
set_option linter.unusedVariables false
namespace Go.Proofs.YthgnmpjcbicdhaaDoor
open Go Go.RowKit

theorem lz_c (w : World) : Calls Tryd.prog 35 #[.int .u64 10000000000000000000] w fun e w' => e = .returned (.int .i64 0) ∧ Below w.heap.size w w' := by
  refine (Tryd.bits_LeadingZeros64 10000000000000000000 w (by decide) (by decide)).mono ?_
  rintro e w' ⟨rfl, rfl⟩
  exact ⟨congrArg (fun x => Ending.returned (.int .i64 x)) (show (64 : Int) - (Lib.bitLen (Int.toNat 10000000000000000000) : Int) = 0 by decide +kernel), Below.refl _ _⟩
theorem dv_gen (u q p r r' Y : Nat) (hq : q = p + 1) (hr : r' = r + Y) (hu2 : u = q * Y + r) : u = p * Y + r' := by subst hq hr hu2; rw [Nat.add_mul, Nat.one_mul, Nat.add_assoc, Nat.add_comm Y r]
theorem dv_mod (x : Int) : IntKind.u64.wrap x = x % 18446744073709551616 := by rw [IntKind.wrap_u64]
theorem dv_mulM (x k : Nat) (hk : k < 18446744073709551616) : IntKind.u64.wrap (((x : Nat) : Int) * (k : Int)) = ((x * k % 18446744073709551616 : Nat) : Int) := by
  rw [dv_mod]
  have : ((x : Nat) : Int) * (k : Int) = ((x * k : Nat) : Int) := by simp
  rw [this]
  omega
theorem dv_addM (a b : Nat) : IntKind.u64.wrap (((a % 18446744073709551616 : Nat) : Int) + ((b : Nat) : Int)) = (((a + b) % 18446744073709551616 : Nat) : Int) := by rw [dv_mod]; omega
theorem dv_subM (a b u : Nat) (h : a = b + u) (hu : u < 18446744073709551616) : IntKind.u64.wrap (((a % 18446744073709551616 : Nat) : Int) - ((b % 18446744073709551616 : Nat) : Int)) = ((u : Nat) : Int) := by rw [dv_mod]; omega
theorem dv_m11 (x : Nat) (h : x < 18446744073709551616) : IntKind.u64.wrap (((x / 2328306436 : Nat) : Int) * 2328306436) = ((x / 2328306436 * 2328306436 : Nat) : Int) := by rw [dv_mod]; omega
theorem dv_s11 (x : Nat) (h : x < 18446744073709551616) : IntKind.u64.wrap (((x : Nat) : Int) - ((x / 2328306436 * 2328306436 : Nat) : Int)) = ((x % 2328306436 : Nat) : Int) := by rw [dv_mod]; omega
theorem dv_qU (u l : Nat) : ∃ Q U, u * 4294967296 + l = Q * 10000000000000000000 + U ∧ U < 10000000000000000000 := ⟨(u * 4294967296 + l) / 10000000000000000000, (u * 4294967296 + l) % 10000000000000000000, by omega, by omega⟩
theorem dv_d (u l Q U : Nat) (hl : l < 4294967296) (h : u * 4294967296 + l = Q * 10000000000000000000 + U) (hU : U < 10000000000000000000) : ∃ d, u / 2328306436 = Q + d := ⟨u / 2328306436 - Q, by omega⟩
theorem dv_qlt (u l Q U : Nat) (hu : u < 10000000000000000000) (hl : l < 4294967296) (h : u * 4294967296 + l = Q * 10000000000000000000 + U) : Q < 4294967296 := by omega
theorem dv_q1 (u : Nat) (hu : u < 10000000000000000000) : u / 2328306436 ≤ 4294967297 := by omega
theorem dv_qr (u : Nat) : u = u / 2328306436 * 2328306436 + u % 2328306436 := by omega
theorem dv_r1 (u : Nat) : u % 2328306436 < 4294967296 := by omega
theorem dv_b124 (Q P : Nat) (hQ : Q < 4294967296) (hP : P < 4294967296) : IntKind.u64.wrap (((Q : Nat) : Int) * 4294967296) = ((Q * 4294967296 : Nat) : Int) ∧ IntKind.u64.wrap (((Q * 4294967296 : Nat) : Int) + ((P : Nat) : Int)) = ((Q * 4294967296 + P : Nat) : Int) := by
  constructor
  · rw [dv_mod]; omega
  · rw [dv_mod]; omega
theorem dv_hl0 (B hi l1 l0 Q U P V y : Nat) (h1 : hi * B + l1 = Q * y + U) (h2 : U * B + l0 = P * y + V) : hi * (B * B) + (l1 * B + l0) = (Q * B + P) * y + V := by
  have e1 : hi * (B * B) + (l1 * B + l0) = (hi * B + l1) * B + l0 := by rw [Nat.add_mul, Nat.mul_assoc, Nat.add_assoc]
  have e2 : (Q * y + U) * B + l0 = Q * y * B + (U * B + l0) := by rw [Nat.add_mul, Nat.add_assoc]
  rw [e1, h1, e2, h2, Nat.add_mul, Nat.mul_right_comm, Nat.add_assoc]
theorem dv_div (n q v y : Nat) (h : n = q * y + v) (hv : v < y) : n / y = q ∧ n % y = v := by
  subst h
  have hy : 0 < y := Nat.lt_of_le_of_lt (Nat.zero_le _) hv
  constructor
  · rw [Nat.mul_comm, Nat.mul_add_div hy, Nat.div_eq_of_lt hv, Nat.add_zero]
  · rw [Nat.mul_comm, Nat.mul_add_mod, Nat.mod_eq_of_lt hv]
theorem dv_shl0 (x : Nat) (h : x < 18446744073709551616) : IntKind.u64.wrap ((x : Int) * 2 ^ min (Int.toNat 0) IntKind.u64.bits) = ((x : Nat) : Int) := by
  rw [dv_mod]; show ((x : Int) * 1) % _ = _; omega
theorem dv_shr64 (x : Nat) (h : x < 18446744073709551616) : (x : Int).fdiv (2 ^ min (Int.toNat 64) IntKind.u64.bits) = ((0 : Nat) : Int) := by
  show (x : Int).fdiv 18446744073709551616 = _
  rw [Int.fdiv_eq_ediv_of_nonneg _ (by decide)]; omega
theorem dv_shr0 (V : Nat) : ((V : Nat) : Int).fdiv (2 ^ min (Int.toNat 0) IntKind.u64.bits) = ((V : Nat) : Int) := by
  show ((V : Nat) : Int).fdiv 1 = _
  rw [Int.fdiv_eq_ediv_of_nonneg _ (by decide)]; omega
theorem dv_or0 (x : Nat) (h : x < 18446744073709551616) : IntKind.u64.wrap ((BitVec.ofInt IntKind.u64.bits ((x : Nat) : Int) ||| BitVec.ofInt IntKind.u64.bits ((0 : Nat) : Int)).toNat : Int) = ((x : Nat) : Int) := by
  rw [dv_mod]
  show (((BitVec.ofInt 64 (x : Int) ||| 0#64).toNat : Nat) : Int) % _ = _
  rw [BitVec.or_zero]
  rw [BitVec.toNat_ofInt]
  omega
theorem dv_hi (x : Nat) : (x : Int).fdiv (2 ^ min (Int.toNat 32) IntKind.u64.bits) = ((x / 4294967296 : Nat) : Int) := by
  show (x : Int).fdiv 4294967296 = _
  rw [Int.fdiv_eq_ediv_of_nonneg _ (by decide)]; omega
theorem dv_lo (x : Nat) (h : x < 18446744073709551616) : IntKind.u64.wrap ((BitVec.ofInt IntKind.u64.bits ((x : Nat) : Int) &&& BitVec.ofInt IntKind.u64.bits 4294967295).toNat : Int) = ((x % 4294967296 : Nat) : Int) := by
  have e : BitVec.ofInt IntKind.u64.bits 4294967295 = (BitVec.ofNat 64 (2 ^ 32 - 1) : BitVec IntKind.u64.bits) := rfl
  rw [e, dv_mod]
  show (((BitVec.ofInt 64 (x : Int) &&& BitVec.ofNat 64 (2 ^ 32 - 1)).toNat : Nat) : Int) % _ = _
  rw [BitVec.toNat_and, BitVec.toNat_ofInt, BitVec.toNat_ofNat]
  have e2 : (2 ^ 32 - 1) % 2 ^ 64 = 2 ^ 32 - 1 := by decide
  rw [e2, Nat.and_two_pow_sub_one_eq_mod]
  have e3 : ((x : Int) % ((2 ^ 64 : Nat) : Int)).toNat = x := by omega
  rw [e3]
  omega
theorem dv_quo (x : Nat) (h : x < 18446744073709551616) : IntKind.u64.wrap ((x : Int).tdiv 2328306436) = ((x / 2328306436 : Nat) : Int) := by
  rw [Int.tdiv_eq_ediv_of_nonneg (by omega), dv_mod]; omega
set_option maxHeartbeats 2000000 in
theorem dv0 (w : World) (Q V : Nat) (u u1 ua : Nat) (hu : u < 10000000000000000000) (h1 : u1 < 4294967296) (hQ : u * 4294967296 + u1 = Q * 10000000000000000000 + V) (hV : V < 10000000000000000000) (R : Ending → World → Prop) (hk : wpK (ctx Tryd.prog w Tryd.f22.ntmps) Tryd.f22 R (regAt Tryd.f22 21) ((⟨[(2, .val (.int .u64 10000000000000000000)), (8, .val (.int .u64 0)), (9, .val (.int .u64 2328306436)), (10, .val (.int .u64 2313682944)), (11, .val (.int .u64 ((u : Nat) : Int))), (13, .val (.int .u64 ((u1 : Nat) : Int))), (14, .val (.int .u64 ((ua : Nat) : Int))), (15, .val (.int .u64 ((Q : Nat) : Int)))], []⟩ : AS))) :
    ∀ (d q r : Nat), q = Q + d → u = q * 2328306436 + r → r < 4294967296 → q ≤ 4294967297 → wpK (ctx Tryd.prog w Tryd.f22.ntmps) Tryd.f22 R (loopAt Tryd.f22 0) ((⟨[(2, .val (.int .u64 10000000000000000000)), (8, .val (.int .u64 0)), (9, .val (.int .u64 2328306436)), (10, .val (.int .u64 2313682944)), (11, .val (.int .u64 ((u : Nat) : Int))), (13, .val (.int .u64 ((u1 : Nat) : Int))), (14, .val (.int .u64 ((ua : Nat) : Int))), (15, .val (.int .u64 ((q : Nat) : Int))), (16, .val (.int .u64 ((r : Nat) : Int)))], []⟩ : AS)) := by
  intro d
  induction d with
  | zero =>
    intro q r hq hu2 hr hq2
    have hq3 : decide ((q : Int) ≥ 4294967296) = false := by simp; omega
    have hmul : IntKind.u64.wrap (((q : Nat) : Int) * 2313682944) = ((q * 2313682944 : Nat) : Int) := by rw [dv_mod]; omega
    have hm2 : IntKind.u64.wrap (4294967296 * ((r : Nat) : Int)) = ((4294967296 * r : Nat) : Int) := by rw [dv_mod]; omega
    have hadd : IntKind.u64.wrap (((4294967296 * r : Nat) : Int) + ((u1 : Nat) : Int)) = ((4294967296 * r + u1 : Nat) : Int) := by rw [dv_mod]; omega
    have hgt : decide (((q * 2313682944 : Nat) : Int) > ((4294967296 * r + u1 : Nat) : Int)) = false := by simp; omega
    obtain rfl : q = Q := by omega
    refine wpK_loop (n := 400) (m := 0) (nx := 0) (hs := [(68, .eq (.val (.bool false))), (72, .eq (.val (.int .u64 ((q * 2313682944 : Nat) : Int)))), (74, .eq (.val (.int .u64 ((4294967296 * r : Nat) : Int)))), (76, .eq (.val (.int .u64 ((4294967296 * r + u1 : Nat) : Int)))), (77, .eq (.val (.bool false))), (88888, .subE)]) (st' := regAt Tryd.f22 21) (s' := (⟨[(2, .val (.int .u64 10000000000000000000)), (8, .val (.int .u64 0)), (9, .val (.int .u64 2328306436)), (10, .val (.int .u64 2313682944)), (11, .val (.int .u64 ((u : Nat) : Int))), (13, .val (.int .u64 ((u1 : Nat) : Int))), (14, .val (.int .u64 ((ua : Nat) : Int))), (15, .val (.int .u64 ((q : Nat) : Int)))], []⟩ : AS)) follows [] [2, 8, 9, 10, 11, 13, 14, 15] [] (And.intro (congrArg Value.bool hq3) (And.intro (congrArg (Value.int .u64) hmul) (And.intro (congrArg (Value.int .u64) hm2) (And.intro (congrArg (Value.int .u64) hadd) (congrArg Value.bool hgt))))) (by kernel_rfl) ?_
    exact hk
  | succ d ih =>
    intro q r hq hu2 hr hq2
    have hqd : Q < 4294967296 := by omega
    obtain ⟨p, hp⟩ : ∃ p, q = p + 1 := ⟨q - 1, by omega⟩
    obtain ⟨r', hr'⟩ : ∃ r', r' = r + 2328306436 := ⟨_, rfl⟩
    have hstep : IntKind.u64.wrap (((q : Nat) : Int) - 1) = ((p : Nat) : Int) := by rw [dv_mod]; omega
    have hr2 : IntKind.u64.wrap (((r : Nat) : Int) + 2328306436) = ((r' : Nat) : Int) := by rw [dv_mod]; omega
    have hu3 : u = p * 2328306436 + r' := dv_gen u q p r r' _ hp hr' hu2
    have hlast : 4294967296 ≤ r' → p = Q := by intro h; omega
    by_cases hbr : 4294967296 ≤ r'
    · have hge2 : decide (((r' : Nat) : Int) ≥ 4294967296) = true := by simp; omega
      have hqe := hlast hbr
      rw [← hqe] at hk
      by_cases hbig : 4294967296 ≤ q
      · have hq3 : decide ((q : Int) ≥ 4294967296) = true := by simp; omega
        refine wpK_loop (n := 400) (m := 0) (nx := 0) (hs := [(68, .eq (.val (.bool true))), (80, .eq (.val (.int .u64 ((p : Nat) : Int)))), (83, .eq (.val (.int .u64 ((r' : Nat) : Int)))), (85, .eq (.val (.bool true))), (88888, .subE)]) (st' := regAt Tryd.f22 21) (s' := (⟨[(2, .val (.int .u64 10000000000000000000)), (8, .val (.int .u64 0)), (9, .val (.int .u64 2328306436)), (10, .val (.int .u64 2313682944)), (11, .val (.int .u64 ((u : Nat) : Int))), (13, .val (.int .u64 ((u1 : Nat) : Int))), (14, .val (.int .u64 ((ua : Nat) : Int))), (15, .val (.int .u64 ((p : Nat) : Int)))], []⟩ : AS)) follows [] [2, 8, 9, 10, 11, 13, 14, 15] [] (And.intro (congrArg Value.bool hq3) (And.intro (congrArg (Value.int .u64) hstep) (And.intro (congrArg (Value.int .u64) hr2) (congrArg Value.bool hge2)))) (by kernel_rfl) ?_
        exact hk
      · have hq3 : decide ((q : Int) ≥ 4294967296) = false := by simp; omega
        have hmul : IntKind.u64.wrap (((q : Nat) : Int) * 2313682944) = ((q * 2313682944 : Nat) : Int) := by rw [dv_mod]; omega
        have hm2 : IntKind.u64.wrap (4294967296 * ((r : Nat) : Int)) = ((4294967296 * r : Nat) : Int) := by rw [dv_mod]; omega
        have hadd : IntKind.u64.wrap (((4294967296 * r : Nat) : Int) + ((u1 : Nat) : Int)) = ((4294967296 * r + u1 : Nat) : Int) := by rw [dv_mod]; omega
        have hgt : decide (((q * 2313682944 : Nat) : Int) > ((4294967296 * r + u1 : Nat) : Int)) = true := by simp; omega
        refine wpK_loop (n := 400) (m := 0) (nx := 0) (hs := [(68, .eq (.val (.bool false))), (72, .eq (.val (.int .u64 ((q * 2313682944 : Nat) : Int)))), (74, .eq (.val (.int .u64 ((4294967296 * r : Nat) : Int)))), (76, .eq (.val (.int .u64 ((4294967296 * r + u1 : Nat) : Int)))), (77, .eq (.val (.bool true))), (80, .eq (.val (.int .u64 ((p : Nat) : Int)))), (83, .eq (.val (.int .u64 ((r' : Nat) : Int)))), (85, .eq (.val (.bool true))), (88888, .subE)]) (st' := regAt Tryd.f22 21) (s' := (⟨[(2, .val (.int .u64 10000000000000000000)), (8, .val (.int .u64 0)), (9, .val (.int .u64 2328306436)), (10, .val (.int .u64 2313682944)), (11, .val (.int .u64 ((u : Nat) : Int))), (13, .val (.int .u64 ((u1 : Nat) : Int))), (14, .val (.int .u64 ((ua : Nat) : Int))), (15, .val (.int .u64 ((p : Nat) : Int)))], []⟩ : AS)) follows [] [2, 8, 9, 10, 11, 13, 14, 15] [] (And.intro (congrArg Value.bool hq3) (And.intro (congrArg (Value.int .u64) hmul) (And.intro (congrArg (Value.int .u64) hm2) (And.intro (congrArg (Value.int .u64) hadd) (And.intro (congrArg Value.bool hgt) (And.intro (congrArg (Value.int .u64) hstep) (And.intro (congrArg (Value.int .u64) hr2) (congrArg Value.bool hge2)))))))) (by kernel_rfl) ?_
        exact hk
    · have hge2 : decide (((r' : Nat) : Int) ≥ 4294967296) = false := by simp; omega
      by_cases hbig : 4294967296 ≤ q
      · have hq3 : decide ((q : Int) ≥ 4294967296) = true := by simp; omega
        refine wpK_loop (n := 400) (m := 0) (nx := 0) (hs := [(68, .eq (.val (.bool true))), (80, .eq (.val (.int .u64 ((p : Nat) : Int)))), (83, .eq (.val (.int .u64 ((r' : Nat) : Int)))), (85, .eq (.val (.bool false)))]) (st' := loopAt Tryd.f22 0) (s' := (⟨[(2, .val (.int .u64 10000000000000000000)), (8, .val (.int .u64 0)), (9, .val (.int .u64 2328306436)), (10, .val (.int .u64 2313682944)), (11, .val (.int .u64 ((u : Nat) : Int))), (13, .val (.int .u64 ((u1 : Nat) : Int))), (14, .val (.int .u64 ((ua : Nat) : Int))), (15, .val (.int .u64 ((p : Nat) : Int))), (16, .val (.int .u64 ((r' : Nat) : Int)))], []⟩ : AS)) follows [] [2, 8, 9, 10, 11, 13, 14, 15, 16] [] (And.intro (congrArg Value.bool hq3) (And.intro (congrArg (Value.int .u64) hstep) (And.intro (congrArg (Value.int .u64) hr2) (congrArg Value.bool hge2)))) (by kernel_rfl) ?_
        exact ih p r' (by omega) hu3 (by omega) (by omega)
      · have hq3 : decide ((q : Int) ≥ 4294967296) = false := by simp; omega
        have hmul : IntKind.u64.wrap (((q : Nat) : Int) * 2313682944) = ((q * 2313682944 : Nat) : Int) := by rw [dv_mod]; omega
        have hm2 : IntKind.u64.wrap (4294967296 * ((r : Nat) : Int)) = ((4294967296 * r : Nat) : Int) := by rw [dv_mod]; omega
        have hadd : IntKind.u64.wrap (((4294967296 * r : Nat) : Int) + ((u1 : Nat) : Int)) = ((4294967296 * r + u1 : Nat) : Int) := by rw [dv_mod]; omega
        have hgt : decide (((q * 2313682944 : Nat) : Int) > ((4294967296 * r + u1 : Nat) : Int)) = true := by simp; omega
        refine wpK_loop (n := 400) (m := 0) (nx := 0) (hs := [(68, .eq (.val (.bool false))), (72, .eq (.val (.int .u64 ((q * 2313682944 : Nat) : Int)))), (74, .eq (.val (.int .u64 ((4294967296 * r : Nat) : Int)))), (76, .eq (.val (.int .u64 ((4294967296 * r + u1 : Nat) : Int)))), (77, .eq (.val (.bool true))), (80, .eq (.val (.int .u64 ((p : Nat) : Int)))), (83, .eq (.val (.int .u64 ((r' : Nat) : Int)))), (85, .eq (.val (.bool false)))]) (st' := loopAt Tryd.f22 0) (s' := (⟨[(2, .val (.int .u64 10000000000000000000)), (8, .val (.int .u64 0)), (9, .val (.int .u64 2328306436)), (10, .val (.int .u64 2313682944)), (11, .val (.int .u64 ((u : Nat) : Int))), (13, .val (.int .u64 ((u1 : Nat) : Int))), (14, .val (.int .u64 ((ua : Nat) : Int))), (15, .val (.int .u64 ((p : Nat) : Int))), (16, .val (.int .u64 ((r' : Nat) : Int)))], []⟩ : AS)) follows [] [2, 8, 9, 10, 11, 13, 14, 15, 16] [] (And.intro (congrArg Value.bool hq3) (And.intro (congrArg (Value.int .u64) hmul) (And.intro (congrArg (Value.int .u64) hm2) (And.intro (congrArg (Value.int .u64) hadd) (And.intro (congrArg Value.bool hgt) (And.intro (congrArg (Value.int .u64) hstep) (And.intro (congrArg (Value.int .u64) hr2) (congrArg Value.bool hge2)))))))) (by kernel_rfl) ?_
        exact ih p r' (by omega) hu3 (by omega) (by omega)
set_option maxHeartbeats 2000000 in
theorem dv1 (w : World) (Q V : Nat) (u u1 ua : Nat) (hu : u < 10000000000000000000) (h1 : u1 < 4294967296) (hQ : u * 4294967296 + u1 = Q * 10000000000000000000 + V) (hV : V < 10000000000000000000) (R : Ending → World → Prop) (hk : wpK (ctx Tryd.prog w Tryd.f22.ntmps) Tryd.f22 R (regAt Tryd.f22 28) ((⟨[(2, .val (.int .u64 10000000000000000000)), (8, .val (.int .u64 0)), (9, .val (.int .u64 2328306436)), (10, .val (.int .u64 2313682944)), (14, .val (.int .u64 ((u1 : Nat) : Int))), (15, .val (.int .u64 ((ua : Nat) : Int))), (17, .val (.int .u64 ((u : Nat) : Int))), (18, .val (.int .u64 ((Q : Nat) : Int)))], []⟩ : AS))) :
    ∀ (d q r : Nat), q = Q + d → u = q * 2328306436 + r → r < 4294967296 → q ≤ 4294967297 → wpK (ctx Tryd.prog w Tryd.f22.ntmps) Tryd.f22 R (loopAt Tryd.f22 1) ((⟨[(2, .val (.int .u64 10000000000000000000)), (8, .val (.int .u64 0)), (9, .val (.int .u64 2328306436)), (10, .val (.int .u64 2313682944)), (14, .val (.int .u64 ((u1 : Nat) : Int))), (15, .val (.int .u64 ((ua : Nat) : Int))), (17, .val (.int .u64 ((u : Nat) : Int))), (18, .val (.int .u64 ((q : Nat) : Int))), (16, .val (.int .u64 ((r : Nat) : Int)))], []⟩ : AS)) := by
  intro d
  induction d with
  | zero =>
    intro q r hq hu2 hr hq2
    have hq3 : decide ((q : Int) ≥ 4294967296) = false := by simp; omega
    have hmul : IntKind.u64.wrap (((q : Nat) : Int) * 2313682944) = ((q * 2313682944 : Nat) : Int) := by rw [dv_mod]; omega
    have hm2 : IntKind.u64.wrap (4294967296 * ((r : Nat) : Int)) = ((4294967296 * r : Nat) : Int) := by rw [dv_mod]; omega
    have hadd : IntKind.u64.wrap (((4294967296 * r : Nat) : Int) + ((u1 : Nat) : Int)) = ((4294967296 * r + u1 : Nat) : Int) := by rw [dv_mod]; omega
    have hgt : decide (((q * 2313682944 : Nat) : Int) > ((4294967296 * r + u1 : Nat) : Int)) = false := by simp; omega
    obtain rfl : q = Q := by omega
    refine wpK_loop (n := 400) (m := 0) (nx := 0) (hs := [(103, .eq (.val (.bool false))), (107, .eq (.val (.int .u64 ((q * 2313682944 : Nat) : Int)))), (109, .eq (.val (.int .u64 ((4294967296 * r : Nat) : Int)))), (111, .eq (.val (.int .u64 ((4294967296 * r + u1 : Nat) : Int)))), (112, .eq (.val (.bool false))), (88888, .subE)]) (st' := regAt Tryd.f22 28) (s' := (⟨[(2, .val (.int .u64 10000000000000000000)), (8, .val (.int .u64 0)), (9, .val (.int .u64 2328306436)), (10, .val (.int .u64 2313682944)), (14, .val (.int .u64 ((u1 : Nat) : Int))), (15, .val (.int .u64 ((ua : Nat) : Int))), (17, .val (.int .u64 ((u : Nat) : Int))), (18, .val (.int .u64 ((q : Nat) : Int)))], []⟩ : AS)) follows [] [2, 8, 9, 10, 14, 15, 17, 18] [] (And.intro (congrArg Value.bool hq3) (And.intro (congrArg (Value.int .u64) hmul) (And.intro (congrArg (Value.int .u64) hm2) (And.intro (congrArg (Value.int .u64) hadd) (congrArg Value.bool hgt))))) (by kernel_rfl) ?_
    exact hk
  | succ d ih =>
    intro q r hq hu2 hr hq2
    have hqd : Q < 4294967296 := by omega
    obtain ⟨p, hp⟩ : ∃ p, q = p + 1 := ⟨q - 1, by omega⟩
    obtain ⟨r', hr'⟩ : ∃ r', r' = r + 2328306436 := ⟨_, rfl⟩
    have hstep : IntKind.u64.wrap (((q : Nat) : Int) - 1) = ((p : Nat) : Int) := by rw [dv_mod]; omega
    have hr2 : IntKind.u64.wrap (((r : Nat) : Int) + 2328306436) = ((r' : Nat) : Int) := by rw [dv_mod]; omega
    have hu3 : u = p * 2328306436 + r' := dv_gen u q p r r' _ hp hr' hu2
    have hlast : 4294967296 ≤ r' → p = Q := by intro h; omega
    by_cases hbr : 4294967296 ≤ r'
    · have hge2 : decide (((r' : Nat) : Int) ≥ 4294967296) = true := by simp; omega
      have hqe := hlast hbr
      rw [← hqe] at hk
      by_cases hbig : 4294967296 ≤ q
      · have hq3 : decide ((q : Int) ≥ 4294967296) = true := by simp; omega
        refine wpK_loop (n := 400) (m := 0) (nx := 0) (hs := [(103, .eq (.val (.bool true))), (115, .eq (.val (.int .u64 ((p : Nat) : Int)))), (118, .eq (.val (.int .u64 ((r' : Nat) : Int)))), (120, .eq (.val (.bool true))), (88888, .subE)]) (st' := regAt Tryd.f22 28) (s' := (⟨[(2, .val (.int .u64 10000000000000000000)), (8, .val (.int .u64 0)), (9, .val (.int .u64 2328306436)), (10, .val (.int .u64 2313682944)), (14, .val (.int .u64 ((u1 : Nat) : Int))), (15, .val (.int .u64 ((ua : Nat) : Int))), (17, .val (.int .u64 ((u : Nat) : Int))), (18, .val (.int .u64 ((p : Nat) : Int)))], []⟩ : AS)) follows [] [2, 8, 9, 10, 14, 15, 17, 18] [] (And.intro (congrArg Value.bool hq3) (And.intro (congrArg (Value.int .u64) hstep) (And.intro (congrArg (Value.int .u64) hr2) (congrArg Value.bool hge2)))) (by kernel_rfl) ?_
        exact hk
      · have hq3 : decide ((q : Int) ≥ 4294967296) = false := by simp; omega
        have hmul : IntKind.u64.wrap (((q : Nat) : Int) * 2313682944) = ((q * 2313682944 : Nat) : Int) := by rw [dv_mod]; omega
        have hm2 : IntKind.u64.wrap (4294967296 * ((r : Nat) : Int)) = ((4294967296 * r : Nat) : Int) := by rw [dv_mod]; omega
        have hadd : IntKind.u64.wrap (((4294967296 * r : Nat) : Int) + ((u1 : Nat) : Int)) = ((4294967296 * r + u1 : Nat) : Int) := by rw [dv_mod]; omega
        have hgt : decide (((q * 2313682944 : Nat) : Int) > ((4294967296 * r + u1 : Nat) : Int)) = true := by simp; omega
        refine wpK_loop (n := 400) (m := 0) (nx := 0) (hs := [(103, .eq (.val (.bool false))), (107, .eq (.val (.int .u64 ((q * 2313682944 : Nat) : Int)))), (109, .eq (.val (.int .u64 ((4294967296 * r : Nat) : Int)))), (111, .eq (.val (.int .u64 ((4294967296 * r + u1 : Nat) : Int)))), (112, .eq (.val (.bool true))), (115, .eq (.val (.int .u64 ((p : Nat) : Int)))), (118, .eq (.val (.int .u64 ((r' : Nat) : Int)))), (120, .eq (.val (.bool true))), (88888, .subE)]) (st' := regAt Tryd.f22 28) (s' := (⟨[(2, .val (.int .u64 10000000000000000000)), (8, .val (.int .u64 0)), (9, .val (.int .u64 2328306436)), (10, .val (.int .u64 2313682944)), (14, .val (.int .u64 ((u1 : Nat) : Int))), (15, .val (.int .u64 ((ua : Nat) : Int))), (17, .val (.int .u64 ((u : Nat) : Int))), (18, .val (.int .u64 ((p : Nat) : Int)))], []⟩ : AS)) follows [] [2, 8, 9, 10, 14, 15, 17, 18] [] (And.intro (congrArg Value.bool hq3) (And.intro (congrArg (Value.int .u64) hmul) (And.intro (congrArg (Value.int .u64) hm2) (And.intro (congrArg (Value.int .u64) hadd) (And.intro (congrArg Value.bool hgt) (And.intro (congrArg (Value.int .u64) hstep) (And.intro (congrArg (Value.int .u64) hr2) (congrArg Value.bool hge2)))))))) (by kernel_rfl) ?_
        exact hk
    · have hge2 : decide (((r' : Nat) : Int) ≥ 4294967296) = false := by simp; omega
      by_cases hbig : 4294967296 ≤ q
      · have hq3 : decide ((q : Int) ≥ 4294967296) = true := by simp; omega
        refine wpK_loop (n := 400) (m := 0) (nx := 0) (hs := [(103, .eq (.val (.bool true))), (115, .eq (.val (.int .u64 ((p : Nat) : Int)))), (118, .eq (.val (.int .u64 ((r' : Nat) : Int)))), (120, .eq (.val (.bool false)))]) (st' := loopAt Tryd.f22 1) (s' := (⟨[(2, .val (.int .u64 10000000000000000000)), (8, .val (.int .u64 0)), (9, .val (.int .u64 2328306436)), (10, .val (.int .u64 2313682944)), (14, .val (.int .u64 ((u1 : Nat) : Int))), (15, .val (.int .u64 ((ua : Nat) : Int))), (17, .val (.int .u64 ((u : Nat) : Int))), (18, .val (.int .u64 ((p : Nat) : Int))), (16, .val (.int .u64 ((r' : Nat) : Int)))], []⟩ : AS)) follows [] [2, 8, 9, 10, 14, 15, 17, 18, 16] [] (And.intro (congrArg Value.bool hq3) (And.intro (congrArg (Value.int .u64) hstep) (And.intro (congrArg (Value.int .u64) hr2) (congrArg Value.bool hge2)))) (by kernel_rfl) ?_
        exact ih p r' (by omega) hu3 (by omega) (by omega)
      · have hq3 : decide ((q : Int) ≥ 4294967296) = false := by simp; omega
        have hmul : IntKind.u64.wrap (((q : Nat) : Int) * 2313682944) = ((q * 2313682944 : Nat) : Int) := by rw [dv_mod]; omega
        have hm2 : IntKind.u64.wrap (4294967296 * ((r : Nat) : Int)) = ((4294967296 * r : Nat) : Int) := by rw [dv_mod]; omega
        have hadd : IntKind.u64.wrap (((4294967296 * r : Nat) : Int) + ((u1 : Nat) : Int)) = ((4294967296 * r + u1 : Nat) : Int) := by rw [dv_mod]; omega
        have hgt : decide (((q * 2313682944 : Nat) : Int) > ((4294967296 * r + u1 : Nat) : Int)) = true := by simp; omega
        refine wpK_loop (n := 400) (m := 0) (nx := 0) (hs := [(103, .eq (.val (.bool false))), (107, .eq (.val (.int .u64 ((q * 2313682944 : Nat) : Int)))), (109, .eq (.val (.int .u64 ((4294967296 * r : Nat) : Int)))), (111, .eq (.val (.int .u64 ((4294967296 * r + u1 : Nat) : Int)))), (112, .eq (.val (.bool true))), (115, .eq (.val (.int .u64 ((p : Nat) : Int)))), (118, .eq (.val (.int .u64 ((r' : Nat) : Int)))), (120, .eq (.val (.bool false)))]) (st' := loopAt Tryd.f22 1) (s' := (⟨[(2, .val (.int .u64 10000000000000000000)), (8, .val (.int .u64 0)), (9, .val (.int .u64 2328306436)), (10, .val (.int .u64 2313682944)), (14, .val (.int .u64 ((u1 : Nat) : Int))), (15, .val (.int .u64 ((ua : Nat) : Int))), (17, .val (.int .u64 ((u : Nat) : Int))), (18, .val (.int .u64 ((p : Nat) : Int))), (16, .val (.int .u64 ((r' : Nat) : Int)))], []⟩ : AS)) follows [] [2, 8, 9, 10, 14, 15, 17, 18, 16] [] (And.intro (congrArg Value.bool hq3) (And.intro (congrArg (Value.int .u64) hmul) (And.intro (congrArg (Value.int .u64) hm2) (And.intro (congrArg (Value.int .u64) hadd) (And.intro (congrArg Value.bool hgt) (And.intro (congrArg (Value.int .u64) hstep) (And.intro (congrArg (Value.int .u64) hr2) (congrArg Value.bool hge2)))))))) (by kernel_rfl) ?_
        exact ih p r' (by omega) hu3 (by omega) (by omega)
set_option maxHeartbeats 2000000 in
theorem div64_c (hi lo : Nat) (hh : hi < 10000000000000000000) (hl : lo < 18446744073709551616) (w : World) : Calls Tryd.prog 22 #[.int .u64 (hi : Int), .int .u64 (lo : Int), .int .u64 10000000000000000000] w fun e w' => e = .returned (.tuple #[.int .u64 (((hi * 18446744073709551616 + lo) / 10000000000000000000 : Nat) : Int), .int .u64 (((hi * 18446744073709551616 + lo) % 10000000000000000000 : Nat) : Int)]) ∧ Below w.heap.size w w' := by
  have h24 : decide ((10000000000000000000 : Int) ≤ (hi : Int)) = false := by simp; omega
  by_cases h0 : hi = 0
  · subst h0
    have hq : IntKind.u64.wrap ((lo : Int).tdiv 10000000000000000000) = (((0 * 18446744073709551616 + lo) / 10000000000000000000 : Nat) : Int) := by rw [Int.tdiv_eq_ediv_of_nonneg (by omega), dv_mod]; omega
    have hr : (lo : Int).tmod 10000000000000000000 = (((0 * 18446744073709551616 + lo) % 10000000000000000000 : Nat) : Int) := by rw [Int.tmod_eq_emod_of_nonneg (by omega)]; omega
    refine calls_vm [.val (.int .u64 ((0 : Nat) : Int)), .val (.int .u64 (lo : Int)), .val (.int .u64 10000000000000000000)] (fn := Tryd.f22) Tryd.func22 (by kernel_rfl) (by kernel_rfl) (by kernel_rfl) (by simp [AV.okL, AV.ok]) ?_
    refine wpK_end (n := 400) (m := 0) (nx := 0) (hs := [(24, .eq (.val (.bool false))), (30, .eq (.val (.int .u64 (((0 * 18446744073709551616 + lo) / 10000000000000000000 : Nat) : Int)))), (33, .eq (.val (.int .u64 (((0 * 18446744073709551616 + lo) % 10000000000000000000 : Nat) : Int))))]) (v := .tup [.val (.int .u64 (((0 * 18446744073709551616 + lo) / 10000000000000000000 : Nat) : Int)), .val (.int .u64 (((0 * 18446744073709551616 + lo) % 10000000000000000000 : Nat) : Int))]) follows (And.intro (congrArg Value.bool h24) (And.intro (congrArg (Value.int .u64) hq) (congrArg (Value.int .u64) hr))) (by kernel_rfl) ?_
    intro ρ w' hf; exact ⟨rfl, hf.to_below⟩
  · have h27 : ((hi : Int) == 0) = false := by simp; omega
    have hsub : IntKind.u64.wrap (((hi : Nat) : Int) - ((hi / 2328306436 * 2328306436 : Nat) : Int)) = ((hi % 2328306436 : Nat) : Int) := by rw [dv_mod]; omega
    have hmul : IntKind.u64.wrap (((hi / 2328306436 : Nat) : Int) * 2328306436) = ((hi / 2328306436 * 2328306436 : Nat) : Int) := by rw [dv_mod]; omega
    have hh64 : hi < 18446744073709551616 := by omega
    refine calls_vm [.val (.int .u64 (hi : Int)), .val (.int .u64 (lo : Int)), .val (.int .u64 10000000000000000000)] (fn := Tryd.f22) Tryd.func22 (by kernel_rfl) (by kernel_rfl) (by kernel_rfl) (by simp [AV.okL, AV.ok]) ?_
    refine wpK_loop (n := 400) (m := 0) (nx := 0) (hs := [(24, .eq (.val (.bool false))), (27, .eq (.val (.bool false))), (35, .call (.val (.int .i64 0))), (36, .eq (.val (.int .u64 0))), (39, .eq (.val (.int .u64 10000000000000000000))), (41, .eq (.val (.int .u64 2328306436))), (43, .eq (.val (.int .u64 2313682944))), (46, .eq (.val (.int .u64 ((hi : Nat) : Int)))), (49, .eq (.val (.int .u64 64))), (50, .eq (.val (.int .u64 ((0 : Nat) : Int)))), (51, .eq (.val (.int .u64 ((hi : Nat) : Int)))), (54, .eq (.val (.int .u64 ((lo : Nat) : Int)))), (56, .eq (.val (.int .u64 ((lo / 4294967296 : Nat) : Int)))), (58, .eq (.val (.int .u64 ((lo % 4294967296 : Nat) : Int)))), (61, .eq (.val (.int .u64 ((hi / 2328306436 : Nat) : Int)))), (65, .eq (.val (.int .u64 ((hi / 2328306436 * 2328306436 : Nat) : Int)))), (66, .eq (.val (.int .u64 ((hi % 2328306436 : Nat) : Int))))]) (st' := loopAt Tryd.f22 0) (s' := (⟨[(2, .val (.int .u64 10000000000000000000)), (8, .val (.int .u64 0)), (9, .val (.int .u64 2328306436)), (10, .val (.int .u64 2313682944)), (11, .val (.int .u64 ((hi : Nat) : Int))), (13, .val (.int .u64 ((lo / 4294967296 : Nat) : Int))), (14, .val (.int .u64 ((lo % 4294967296 : Nat) : Int))), (15, .val (.int .u64 ((hi / 2328306436 : Nat) : Int))), (16, .val (.int .u64 ((hi % 2328306436 : Nat) : Int)))], []⟩ : AS)) follows [] [2, 8, 9, 10, 11, 13, 14, 15, 16] [] (And.intro (congrArg Value.bool h24) (And.intro (congrArg Value.bool h27) (And.intro (vcall w fun w' => lz_c w') (And.intro (congrArg (Value.int .u64) (show IntKind.u64.wrap 0 = 0 by decide)) (And.intro (congrArg (Value.int .u64) (show IntKind.u64.wrap (10000000000000000000 * 2 ^ min (Int.toNat 0) IntKind.u64.bits) = 10000000000000000000 by decide)) (And.intro (congrArg (Value.int .u64) (show (10000000000000000000 : Int).fdiv (2 ^ min (Int.toNat 32) IntKind.u64.bits) = 2328306436 by decide)) (And.intro (congrArg (Value.int .u64) (show IntKind.u64.wrap ((BitVec.ofInt IntKind.u64.bits 10000000000000000000 &&& BitVec.ofInt IntKind.u64.bits 4294967295).toNat : Int) = 2313682944 by decide +kernel)) (And.intro (congrArg (Value.int .u64) (dv_shl0 hi hh64)) (And.intro (congrArg (Value.int .u64) (show IntKind.u64.wrap (64 - 0) = 64 by decide)) (And.intro (congrArg (Value.int .u64) (dv_shr64 lo hl)) (And.intro (congrArg (Value.int .u64) (dv_or0 hi hh64)) (And.intro (congrArg (Value.int .u64) (dv_shl0 lo hl)) (And.intro (congrArg (Value.int .u64) (dv_hi lo)) (And.intro (congrArg (Value.int .u64) (dv_lo lo hl)) (And.intro (congrArg (Value.int .u64) (dv_quo hi hh64)) (And.intro (congrArg (Value.int .u64) hmul) (congrArg (Value.int .u64) hsub))))))))))))))))) (by kernel_rfl) ?_
    have hl1 : lo / 4294967296 < 4294967296 := by omega
    have hl0 : lo % 4294967296 < 4294967296 := by omega
    obtain ⟨Q, U, hQu, hUy⟩ := dv_qU hi (lo / 4294967296)
    obtain ⟨d, hd⟩ := dv_d _ _ _ _ hl1 hQu hUy
    refine dv0 w Q U hi (lo / 4294967296) (lo % 4294967296) hh hl1 hQu hUy _ ?_ d _ _ hd (dv_qr hi) (dv_r1 hi) (dv_q1 hi hh)
    have a87 := dv_mulM hi 4294967296 (by decide)
    have a89 := dv_addM (hi * 4294967296) (lo / 4294967296)
    have a92 := dv_mulM Q 10000000000000000000 (by decide)
    have hU64 : U < 18446744073709551616 := Nat.lt_trans hUy (by decide)
    have a93 := dv_subM _ _ U hQu hU64
    have hmul := dv_m11 U hU64
    have hsub := dv_s11 U hU64
    refine wpK_loop (n := 400) (m := 0) (nx := 0) (hs := [(87, .eq (.val (.int .u64 ((hi * 4294967296 % 18446744073709551616 : Nat) : Int)))), (89, .eq (.val (.int .u64 (((hi * 4294967296 + lo / 4294967296) % 18446744073709551616 : Nat) : Int)))), (92, .eq (.val (.int .u64 ((Q * 10000000000000000000 % 18446744073709551616 : Nat) : Int)))), (93, .eq (.val (.int .u64 ((U : Nat) : Int)))), (96, .eq (.val (.int .u64 ((U / 2328306436 : Nat) : Int)))), (100, .eq (.val (.int .u64 ((U / 2328306436 * 2328306436 : Nat) : Int)))), (101, .eq (.val (.int .u64 ((U % 2328306436 : Nat) : Int))))]) (st' := loopAt Tryd.f22 1) (s' := (⟨[(2, .val (.int .u64 10000000000000000000)), (8, .val (.int .u64 0)), (9, .val (.int .u64 2328306436)), (10, .val (.int .u64 2313682944)), (14, .val (.int .u64 ((lo % 4294967296 : Nat) : Int))), (15, .val (.int .u64 ((Q : Nat) : Int))), (17, .val (.int .u64 ((U : Nat) : Int))), (18, .val (.int .u64 ((U / 2328306436 : Nat) : Int))), (16, .val (.int .u64 ((U % 2328306436 : Nat) : Int)))], []⟩ : AS)) follows [] [2, 8, 9, 10, 14, 15, 17, 18, 16] [] (And.intro (congrArg (Value.int .u64) a87) (And.intro (congrArg (Value.int .u64) a89) (And.intro (congrArg (Value.int .u64) a92) (And.intro (congrArg (Value.int .u64) a93) (And.intro (congrArg (Value.int .u64) (dv_quo U hU64)) (And.intro (congrArg (Value.int .u64) hmul) (congrArg (Value.int .u64) hsub))))))) (by kernel_rfl) ?_
    obtain ⟨P, V, hPu, hVy⟩ := dv_qU U (lo % 4294967296)
    obtain ⟨d, hd⟩ := dv_d _ _ _ _ hl0 hPu hVy
    refine dv1 w P V U (lo % 4294967296) Q hUy hl0 hPu hVy _ ?_ d _ _ hd (dv_qr U) (dv_r1 U) (dv_q1 U hUy)
    have hall := dv_hl0 4294967296 hi (lo / 4294967296) (lo % 4294967296) Q U P V 10000000000000000000 hQu hPu
    have hlo : lo / 4294967296 * 4294967296 + lo % 4294967296 = lo := Nat.div_add_mod' lo 4294967296
    rw [hlo] at hall
    obtain ⟨hquo, hrem⟩ := dv_div (hi * 18446744073709551616 + lo) _ _ _ hall hVy
    rw [hquo, hrem]
    obtain ⟨b122, b124⟩ := dv_b124 Q P (dv_qlt _ _ _ _ hh hl1 hQu) (dv_qlt _ _ _ _ hUy hl0 hPu)
    have b126 := dv_mulM U 4294967296 (by decide)
    have b128 := dv_addM (U * 4294967296) (lo % 4294967296)
    have b131 := dv_mulM P 10000000000000000000 (by decide)
    have b132 := dv_subM _ _ V hPu (Nat.lt_trans hVy (by decide))
    have b134 := dv_shr0 V
    refine wpK_end (n := 400) (m := 0) (nx := 0) (hs := [(122, .eq (.val (.int .u64 ((Q * 4294967296 : Nat) : Int)))), (124, .eq (.val (.int .u64 ((Q * 4294967296 + P : Nat) : Int)))), (126, .eq (.val (.int .u64 ((U * 4294967296 % 18446744073709551616 : Nat) : Int)))), (128, .eq (.val (.int .u64 (((U * 4294967296 + lo % 4294967296) % 18446744073709551616 : Nat) : Int)))), (131, .eq (.val (.int .u64 ((P * 10000000000000000000 % 18446744073709551616 : Nat) : Int)))), (132, .eq (.val (.int .u64 ((V : Nat) : Int)))), (134, .eq (.val (.int .u64 ((V : Nat) : Int))))]) (v := .tup [.val (.int .u64 ((Q * 4294967296 + P : Nat) : Int)), .val (.int .u64 ((V : Nat) : Int))]) follows (And.intro (congrArg (Value.int .u64) b122) (And.intro (congrArg (Value.int .u64) b124) (And.intro (congrArg (Value.int .u64) b126) (And.intro (congrArg (Value.int .u64) b128) (And.intro (congrArg (Value.int .u64) b131) (And.intro (congrArg (Value.int .u64) b132) (congrArg (Value.int .u64) b134))))))) (by kernel_rfl) ?_
    intro ρ w' hf; exact ⟨rfl, hf.to_below⟩
end Go.Proofs.YthgnmpjcbicdhaaDoor

