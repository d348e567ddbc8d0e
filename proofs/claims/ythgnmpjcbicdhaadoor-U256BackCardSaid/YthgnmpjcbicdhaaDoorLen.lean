/- u256.Len and the document's. -/
import Derived.Test.YthgnmpjcbicdhaaDoorBit
import Derived.Test.YthgnmpjcbicdhaaDoorNumA
set_option linter.unusedSimpArgs false
set_option linter.unusedVariables false
namespace Go.Proofs.YthgnmpjcbicdhaaDoor
open Go Go.RowKit

theorem ret_eq {a b : Int} (h : a = b) : Ending.returned (.int .i64 a) = Ending.returned (.int .i64 b) := by rw [h]
theorem lenN_div (x k : Nat) (u : Nat) (h : x / 2 ^ k = u) (hu : 0 < u) : lenN x = k + lenN u := by
  have h1 := lenN_lt u
  have hl : 0 < lenN u := by unfold lenN; split <;> omega
  have h2 := lenN_top u hl
  obtain ⟨m, hm⟩ : ∃ m, lenN u = m + 1 := ⟨lenN u - 1, by omega⟩
  rw [hm] at h1 h2 ⊢
  have hp : 0 < 2 ^ k := Nat.two_pow_pos _
  refine lenN_of x (k + m) ?_ ?_
  · rw [Nat.pow_add]
    have := Nat.mul_le_mul_left (2 ^ k) h2
    simp only [Nat.add_sub_cancel] at this
    have h3 := Nat.div_mul_le_self x (2 ^ k)
    rw [h, Nat.mul_comm] at h3
    omega
  · rw [show k + m + 1 = k + (m + 1) by omega, Nat.pow_add]
    rw [← h] at h1
    have h5 := (Nat.div_lt_iff_lt_mul hp).1 h1
    rwa [Nat.mul_comm] at h5
set_option maxHeartbeats 1000000 in
set_option maxRecDepth 100000 in
theorem len64_0 (x : Nat) (hlo : 0 ≤ x) (hhi : x < 256) (w : World) :
    Calls Tryd.prog 43 #[.int .u64 x] w fun e w' => e = .returned (.int .i64 (lenN x)) ∧ w = w' := by
  have d0 : decide ((4294967296 : Int) ≤ x) = false := by simp; omega
  have d1 : decide ((65536 : Int) ≤ x) = false := by simp; omega
  have d2 : decide ((256 : Int) ≤ x) = false := by simp; omega
  have u2 : x < 256 := by omega
  clear hlo hhi
  go_enter Tryd.func43, Tryd.ntmps43
  go_wp2_with fail
  go_ret
  refine ⟨ret_eq ?_, rfl⟩
  clear d0 d1 d2
  obtain ⟨t, rfl⟩ : ∃ t : Fin 256, x = t.val := ⟨⟨x, u2⟩, rfl⟩
  clear u2
  revert t
  decide +kernel
set_option maxHeartbeats 1000000 in
set_option maxRecDepth 100000 in
theorem len64_1 (x : Nat) (hlo : 256 ≤ x) (hhi : x < 65536) (w : World) :
    Calls Tryd.prog 43 #[.int .u64 x] w fun e w' => e = .returned (.int .i64 (lenN x)) ∧ w = w' := by
  have d0 : decide ((4294967296 : Int) ≤ x) = false := by simp; omega
  have d1 : decide ((65536 : Int) ≤ x) = false := by simp; omega
  have d2 : decide ((256 : Int) ≤ x) = true := by simp; omega
  obtain ⟨u, hu⟩ : ∃ u : Nat, (x : Int) / 256 = (u : Int) := ⟨x / 256, by omega⟩
  have u2 : u < 256 := by omega
  have hl : lenN x = 8 + lenN u := lenN_div x 8 u (by omega) (by omega)
  have HL := Lib.hid hl
  clear hl hlo hhi
  go_enter Tryd.func43, Tryd.ntmps43
  go_wp2_with fail
  go_ret
  refine ⟨ret_eq ?_, rfl⟩
  rw [HL.out]
  clear HL
  clear d0 d1 d2 hu
  obtain ⟨t, rfl⟩ : ∃ t : Fin 256, u = t.val := ⟨⟨u, u2⟩, rfl⟩
  clear u2
  revert t
  decide +kernel
set_option maxHeartbeats 1000000 in
set_option maxRecDepth 100000 in
theorem len64_2 (x : Nat) (hlo : 65536 ≤ x) (hhi : x < 16777216) (w : World) :
    Calls Tryd.prog 43 #[.int .u64 x] w fun e w' => e = .returned (.int .i64 (lenN x)) ∧ w = w' := by
  have d0 : decide ((4294967296 : Int) ≤ x) = false := by simp; omega
  have d1 : decide ((65536 : Int) ≤ x) = true := by simp; omega
  obtain ⟨z, hz⟩ : ∃ z : Nat, (x : Int) / 65536 = (z : Int) := ⟨x / 65536, by omega⟩
  have d2 : decide ((256 : Int) ≤ z) = false := by simp; omega
  have u2 : z < 256 := by omega
  have hl : lenN x = 16 + lenN z := lenN_div x 16 z (by omega) (by omega)
  have HL := Lib.hid hl
  clear hl hlo hhi
  go_enter Tryd.func43, Tryd.ntmps43
  go_wp2_with fail
  go_ret
  refine ⟨ret_eq ?_, rfl⟩
  rw [HL.out]
  clear HL
  clear d0 d1 d2 hz
  obtain ⟨t, rfl⟩ : ∃ t : Fin 256, z = t.val := ⟨⟨z, u2⟩, rfl⟩
  clear u2
  revert t
  decide +kernel
set_option maxHeartbeats 1000000 in
set_option maxRecDepth 100000 in
theorem len64_3 (x : Nat) (hlo : 16777216 ≤ x) (hhi : x < 4294967296) (w : World) :
    Calls Tryd.prog 43 #[.int .u64 x] w fun e w' => e = .returned (.int .i64 (lenN x)) ∧ w = w' := by
  have d0 : decide ((4294967296 : Int) ≤ x) = false := by simp; omega
  have d1 : decide ((65536 : Int) ≤ x) = true := by simp; omega
  obtain ⟨z, hz⟩ : ∃ z : Nat, (x : Int) / 65536 = (z : Int) := ⟨x / 65536, by omega⟩
  have d2 : decide ((256 : Int) ≤ z) = true := by simp; omega
  obtain ⟨u, hu⟩ : ∃ u : Nat, (z : Int) / 256 = (u : Int) := ⟨z / 256, by omega⟩
  have u2 : u < 256 := by omega
  have hl : lenN x = 24 + lenN u := lenN_div x 24 u (by omega) (by omega)
  have HL := Lib.hid hl
  clear hl hlo hhi
  go_enter Tryd.func43, Tryd.ntmps43
  go_wp2_with fail
  go_ret
  refine ⟨ret_eq ?_, rfl⟩
  rw [HL.out]
  clear HL
  clear d0 d1 d2 hz hu
  obtain ⟨t, rfl⟩ : ∃ t : Fin 256, u = t.val := ⟨⟨u, u2⟩, rfl⟩
  clear u2
  revert t
  decide +kernel
set_option maxHeartbeats 1000000 in
set_option maxRecDepth 100000 in
theorem len64_4 (x : Nat) (hlo : 4294967296 ≤ x) (hhi : x < 1099511627776) (w : World) :
    Calls Tryd.prog 43 #[.int .u64 x] w fun e w' => e = .returned (.int .i64 (lenN x)) ∧ w = w' := by
  have d0 : decide ((4294967296 : Int) ≤ x) = true := by simp; omega
  obtain ⟨y, hy⟩ : ∃ y : Nat, (x : Int) / 4294967296 = (y : Int) := ⟨x / 4294967296, by omega⟩
  have d1 : decide ((65536 : Int) ≤ y) = false := by simp; omega
  have d2 : decide ((256 : Int) ≤ y) = false := by simp; omega
  have u2 : y < 256 := by omega
  have hl : lenN x = 32 + lenN y := lenN_div x 32 y (by omega) (by omega)
  have HL := Lib.hid hl
  clear hl hlo hhi
  go_enter Tryd.func43, Tryd.ntmps43
  go_wp2_with fail
  go_ret
  refine ⟨ret_eq ?_, rfl⟩
  rw [HL.out]
  clear HL
  clear d0 d1 d2 hy
  obtain ⟨t, rfl⟩ : ∃ t : Fin 256, y = t.val := ⟨⟨y, u2⟩, rfl⟩
  clear u2
  revert t
  decide +kernel
set_option maxHeartbeats 1000000 in
set_option maxRecDepth 100000 in
theorem len64_5 (x : Nat) (hlo : 1099511627776 ≤ x) (hhi : x < 281474976710656) (w : World) :
    Calls Tryd.prog 43 #[.int .u64 x] w fun e w' => e = .returned (.int .i64 (lenN x)) ∧ w = w' := by
  have d0 : decide ((4294967296 : Int) ≤ x) = true := by simp; omega
  obtain ⟨y, hy⟩ : ∃ y : Nat, (x : Int) / 4294967296 = (y : Int) := ⟨x / 4294967296, by omega⟩
  have d1 : decide ((65536 : Int) ≤ y) = false := by simp; omega
  have d2 : decide ((256 : Int) ≤ y) = true := by simp; omega
  obtain ⟨u, hu⟩ : ∃ u : Nat, (y : Int) / 256 = (u : Int) := ⟨y / 256, by omega⟩
  have u2 : u < 256 := by omega
  have hl : lenN x = 40 + lenN u := lenN_div x 40 u (by omega) (by omega)
  have HL := Lib.hid hl
  clear hl hlo hhi
  go_enter Tryd.func43, Tryd.ntmps43
  go_wp2_with fail
  go_ret
  refine ⟨ret_eq ?_, rfl⟩
  rw [HL.out]
  clear HL
  clear d0 d1 d2 hy hu
  obtain ⟨t, rfl⟩ : ∃ t : Fin 256, u = t.val := ⟨⟨u, u2⟩, rfl⟩
  clear u2
  revert t
  decide +kernel
set_option maxHeartbeats 1000000 in
set_option maxRecDepth 100000 in
theorem len64_6 (x : Nat) (hlo : 281474976710656 ≤ x) (hhi : x < 72057594037927936) (w : World) :
    Calls Tryd.prog 43 #[.int .u64 x] w fun e w' => e = .returned (.int .i64 (lenN x)) ∧ w = w' := by
  have d0 : decide ((4294967296 : Int) ≤ x) = true := by simp; omega
  obtain ⟨y, hy⟩ : ∃ y : Nat, (x : Int) / 4294967296 = (y : Int) := ⟨x / 4294967296, by omega⟩
  have d1 : decide ((65536 : Int) ≤ y) = true := by simp; omega
  obtain ⟨z, hz⟩ : ∃ z : Nat, (y : Int) / 65536 = (z : Int) := ⟨y / 65536, by omega⟩
  have d2 : decide ((256 : Int) ≤ z) = false := by simp; omega
  have u2 : z < 256 := by omega
  have hl : lenN x = 48 + lenN z := lenN_div x 48 z (by omega) (by omega)
  have HL := Lib.hid hl
  clear hl hlo hhi
  go_enter Tryd.func43, Tryd.ntmps43
  go_wp2_with fail
  go_ret
  refine ⟨ret_eq ?_, rfl⟩
  rw [HL.out]
  clear HL
  clear d0 d1 d2 hy hz
  obtain ⟨t, rfl⟩ : ∃ t : Fin 256, z = t.val := ⟨⟨z, u2⟩, rfl⟩
  clear u2
  revert t
  decide +kernel
set_option maxHeartbeats 1000000 in
set_option maxRecDepth 100000 in
theorem len64_7 (x : Nat) (hlo : 72057594037927936 ≤ x) (hhi : x < 18446744073709551616) (w : World) :
    Calls Tryd.prog 43 #[.int .u64 x] w fun e w' => e = .returned (.int .i64 (lenN x)) ∧ w = w' := by
  have d0 : decide ((4294967296 : Int) ≤ x) = true := by simp; omega
  obtain ⟨y, hy⟩ : ∃ y : Nat, (x : Int) / 4294967296 = (y : Int) := ⟨x / 4294967296, by omega⟩
  have d1 : decide ((65536 : Int) ≤ y) = true := by simp; omega
  obtain ⟨z, hz⟩ : ∃ z : Nat, (y : Int) / 65536 = (z : Int) := ⟨y / 65536, by omega⟩
  have d2 : decide ((256 : Int) ≤ z) = true := by simp; omega
  obtain ⟨u, hu⟩ : ∃ u : Nat, (z : Int) / 256 = (u : Int) := ⟨z / 256, by omega⟩
  have u2 : u < 256 := by omega
  have hl : lenN x = 56 + lenN u := lenN_div x 56 u (by omega) (by omega)
  have HL := Lib.hid hl
  clear hl hlo hhi
  go_enter Tryd.func43, Tryd.ntmps43
  go_wp2_with fail
  go_ret
  refine ⟨ret_eq ?_, rfl⟩
  rw [HL.out]
  clear HL
  clear d0 d1 d2 hy hz hu
  obtain ⟨t, rfl⟩ : ∃ t : Fin 256, u = t.val := ⟨⟨u, u2⟩, rfl⟩
  clear u2
  revert t
  decide +kernel
theorem len64_c (x : Nat) (h : x < 18446744073709551616) (w : World) :
    Calls Tryd.prog 43 #[.int .u64 x] w fun e w' => e = .returned (.int .i64 (lenN x)) ∧ w = w' := by
  by_cases h0 : x < 256
  · exact len64_0 x (by omega) h0 w
  by_cases h1 : x < 65536
  · exact len64_1 x (by omega) h1 w
  by_cases h2 : x < 16777216
  · exact len64_2 x (by omega) h2 w
  by_cases h3 : x < 4294967296
  · exact len64_3 x (by omega) h3 w
  by_cases h4 : x < 1099511627776
  · exact len64_4 x (by omega) h4 w
  by_cases h5 : x < 281474976710656
  · exact len64_5 x (by omega) h5 w
  by_cases h6 : x < 72057594037927936
  · exact len64_6 x (by omega) h6 w
  exact len64_7 x (by omega) (by omega) w

theorem lenN_L (a i : Nat) (ha : a < T256) (hi : i < 4) (hz : ∀ j, i < j → j < 4 → L a j = 0) (hx : L a i ≠ 0) : lenN a = 64 * i + lenN (Ln a i) := by
  have hp : 0 < Ln a i := by rw [L_Ln] at hx; omega
  refine lenN_limb a i (Ln a i) ?_ hp
  rw [T256_eq] at ha
  unfold Ln
  rw [Nat.mod_eq_of_lt]
  have z1 := hz 1; have z2 := hz 2; have z3 := hz 3
  rw [L1] at z1; rw [L2] at z2; rw [L3] at z3
  match i, hi with
  | 0, _ => have := z1 (by omega) (by omega); have := z2 (by omega) (by omega); have := z3 (by omega) (by omega); simp; omega
  | 1, _ => have := z2 (by omega) (by omega); have := z3 (by omega) (by omega); simp; omega
  | 2, _ => have := z3 (by omega) (by omega); simp; omega
  | 3, _ => simp; omega
theorem lenN_L0 (a : Nat) (ha : a < T256) (h0 : L a 0 = 0) (h1 : L a 1 = 0) (h2 : L a 2 = 0) (h3 : L a 3 = 0) : lenN a = 0 := by
  have : a = 0 := L_inj ha T256_pos (by rw [h0]; rfl) (by rw [h1]; rfl) (by rw [h2]; rfl) (by rw [h3]; rfl)
  subst this; rfl
set_option maxHeartbeats 1000000 in
set_option maxRecDepth 100000 in
theorem len_c (a : Nat) (ha : a < T256) (w : World) :
    Calls Tryd.prog 28 #[U a] w fun e w' => e = .returned (.int .i64 (lenN a)) ∧ Bl w w' := by
  by_cases c3 : L a 3 = 0
  · by_cases c2 : L a 2 = 0
    · by_cases c1 : L a 1 = 0
      · by_cases c0 : L a 0 = 0
        · rw [lenN_L0 a ha c0 c1 c2 c3]
          have n0 : (L a 0 != 0) = false := by simpa using c0
          have n1 : (L a 1 != 0) = false := by simpa using c1
          have n2 : (L a 2 != 0) = false := by simpa using c2
          have n3 : (L a 3 != 0) = false := by simpa using c3
          clear c0 c1 c2 c3 ha
          go_enter Tryd.func28, Tryd.ntmps28
          go_wp2_with fail
          refine wp_loop_rounds 5 ?_
          iterate 4 (rw [rounds_succ]; go_wp2_with fail)
          rw [rounds_succ]; go_wp2_with fail
          go_ret
          exact ⟨rfl, by repeat (first | exact Bl.refl _ | apply Bl.drew | apply Bl.alloc)⟩
        · have hl := lenN_L a 0 ha (by decide) (fun j h1 h2 => by rcases (by omega : j = 1 ∨ j = 2 ∨ j = 3) with rfl | rfl | rfl <;> assumption) c0
          have hlen := fun w => len64_c (Ln a 0) (Ln_lt a 0) w
          have hle : lenN (Ln a 0) ≤ 64 := lenN_le _ 64 (Ln_lt a 0)
          have n0 : (L a 0 != 0) = true := by simpa using c0
          have n1 : (L a 1 != 0) = false := by simpa using c1
          have n2 : (L a 2 != 0) = false := by simpa using c2
          have n3 : (L a 3 != 0) = false := by simpa using c3
          have hI : L a 0 = (Ln a 0 : Int) := L_Ln a 0
          have HI := Lib.hid hI; have HL := Lib.hid hl
          clear hl hI c0 c1 c2 c3 ha
          go_enter Tryd.func28, Tryd.ntmps28
          go_wp2_with fail
          refine wp_loop_rounds 5 ?_
          rw [rounds_succ]; go_wp2_with fail
          rw [rounds_succ]; go_wp2_with fail
          rw [rounds_succ]; go_wp2_with fail
          rw [rounds_succ]; go_wp2_with fail
          rw [HI.out]
          refine (hlen _).mono ?_
          rintro e w1 ⟨rfl, rfl⟩
          go_wp2_with fail
          go_ret
          exact ⟨ret_eq (by rw [HL.out]; first | omega | (simp; done)), by repeat (first | exact Bl.refl _ | apply Bl.drew | apply Bl.alloc)⟩
      · have hl := lenN_L a 1 ha (by decide) (fun j h1 h2 => by rcases (by omega : j = 2 ∨ j = 3) with rfl | rfl <;> assumption) c1
        have hlen := fun w => len64_c (Ln a 1) (Ln_lt a 1) w
        have hle : lenN (Ln a 1) ≤ 64 := lenN_le _ 64 (Ln_lt a 1)
        have n1 : (L a 1 != 0) = true := by simpa using c1
        have n2 : (L a 2 != 0) = false := by simpa using c2
        have n3 : (L a 3 != 0) = false := by simpa using c3
        have hI : L a 1 = (Ln a 1 : Int) := L_Ln a 1
        have HI := Lib.hid hI; have HL := Lib.hid hl
        clear hl hI c1 c2 c3 ha
        go_enter Tryd.func28, Tryd.ntmps28
        go_wp2_with fail
        refine wp_loop_rounds 5 ?_
        rw [rounds_succ]; go_wp2_with fail
        rw [rounds_succ]; go_wp2_with fail
        rw [rounds_succ]; go_wp2_with fail
        rw [HI.out]
        refine (hlen _).mono ?_
        rintro e w1 ⟨rfl, rfl⟩
        go_wp2_with fail
        go_ret
        exact ⟨ret_eq (by rw [HL.out]; first | omega | (simp; done)), by repeat (first | exact Bl.refl _ | apply Bl.drew | apply Bl.alloc)⟩
    · have hl := lenN_L a 2 ha (by decide) (fun j h1 h2 => by rcases (by omega : j = 3) with rfl <;> assumption) c2
      have hlen := fun w => len64_c (Ln a 2) (Ln_lt a 2) w
      have hle : lenN (Ln a 2) ≤ 64 := lenN_le _ 64 (Ln_lt a 2)
      have n2 : (L a 2 != 0) = true := by simpa using c2
      have n3 : (L a 3 != 0) = false := by simpa using c3
      have hI : L a 2 = (Ln a 2 : Int) := L_Ln a 2
      have HI := Lib.hid hI; have HL := Lib.hid hl
      clear hl hI c2 c3 ha
      go_enter Tryd.func28, Tryd.ntmps28
      go_wp2_with fail
      refine wp_loop_rounds 5 ?_
      rw [rounds_succ]; go_wp2_with fail
      rw [rounds_succ]; go_wp2_with fail
      rw [HI.out]
      refine (hlen _).mono ?_
      rintro e w1 ⟨rfl, rfl⟩
      go_wp2_with fail
      go_ret
      exact ⟨ret_eq (by rw [HL.out]; first | omega | (simp; done)), by repeat (first | exact Bl.refl _ | apply Bl.drew | apply Bl.alloc)⟩
  · have hl := lenN_L a 3 ha (by decide) (fun j h1 h2 => by omega) c3
    have hlen := fun w => len64_c (Ln a 3) (Ln_lt a 3) w
    have hle : lenN (Ln a 3) ≤ 64 := lenN_le _ 64 (Ln_lt a 3)
    have n3 : (L a 3 != 0) = true := by simpa using c3
    have hI : L a 3 = (Ln a 3 : Int) := L_Ln a 3
    have HI := Lib.hid hI; have HL := Lib.hid hl
    clear hl hI c3 ha
    go_enter Tryd.func28, Tryd.ntmps28
    go_wp2_with fail
    refine wp_loop_rounds 5 ?_
    rw [rounds_succ]; go_wp2_with fail
    rw [HI.out]
    refine (hlen _).mono ?_
    rintro e w1 ⟨rfl, rfl⟩
    go_wp2_with fail
    go_ret
    exact ⟨ret_eq (by rw [HL.out]; first | omega | (simp; done)), by repeat (first | exact Bl.refl _ | apply Bl.drew | apply Bl.alloc)⟩

/-- The document's: from the highest bit on. -/
structure LMem1 (w wr : World) (a : Nat) : Prop where
  x : Box wr w.heap.size (UC a) 24
  bl : Bl w wr
end Go.Proofs.YthgnmpjcbicdhaaDoor

