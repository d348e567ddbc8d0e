/- Put and Bytes. -/
import Derived.Test.YthgnmpjcbicdhaaDoorGv
import Derived.Test.YthgnmpjcbicdhaaDoorLay
import Derived.Test.YthgnmpjcbicdhaaDoorNumA
import Derived.Test.YthgnmpjcbicdhaaDoorLen
set_option linter.unusedSimpArgs false
set_option linter.unusedVariables false
namespace Go.Proofs.YthgnmpjcbicdhaaDoor
open Go Go.RowKit

/-- The byte of weight 256 ^ k. -/
def byteN (x k : Nat) : Int := ((x / 2 ^ (8 * k) % 256 : Nat) : Int)
/-- The 32 bytes when so many are laid, from the last on. -/
def putA (x i : Nat) : List Int := (List.range 32).map fun j => if 31 - j < i then byteN x (31 - j) else 0
theorem putA_len (x i : Nat) : (putA x i).length = 32 := by simp [putA]
theorem putA_zero (x : Nat) : putA x 0 = putA 0 0 := by simp [putA]
theorem putA_step (x i : Nat) (hi : i < 32) : (putA x i).set (31 - i) (byteN x i) = putA x (i + 1) := by
  refine List.ext_getElem (by simp [putA]) fun j h1 h2 => ?_
  have hj : j < 32 := by simpa [putA] using h2
  rw [List.getElem_set]
  simp only [putA, List.getElem_map, List.getElem_range]
  by_cases h : 31 - i = j
  · rw [if_pos h, if_pos (by omega), show 31 - j = i by omega]
  · rw [if_neg h]
    by_cases h3 : 31 - j < i
    · rw [if_pos h3, if_pos (by omega)]
    · rw [if_neg h3, if_neg (by omega)]
theorem byte_at (x i q r : Nat) (hq : q = i / 8) (hr : r = i % 8) : (L x q / 2 ^ (8 * r)) % 256 = byteN x i := by
  subst hq; subst hr
  have hm := Nat.mod_lt i (show 0 < 8 by omega)
  have e1 : x / 2 ^ (8 * i) = x / 2 ^ (64 * (i / 8)) / 2 ^ (8 * (i % 8)) := by
    rw [Nat.div_div_eq_div_mul, ← Nat.pow_add]; congr 2; omega
  unfold L byteN
  rw [e1]
  generalize x / 2 ^ (64 * (i / 8)) = y
  have e2 : 2 ^ 64 = 2 ^ (8 * (i % 8)) * 2 ^ (64 - 8 * (i % 8)) := by rw [← Nat.pow_add]; congr 1; omega
  have e3 : 2 ^ (64 - 8 * (i % 8)) = 256 * 2 ^ (56 - 8 * (i % 8)) := by rw [show (256 : Nat) = 2 ^ 8 from rfl, ← Nat.pow_add]; congr 1; omega
  have e4 : y % 2 ^ 64 / 2 ^ (8 * (i % 8)) % 256 = y / 2 ^ (8 * (i % 8)) % 256 := by
    rw [e2, Nat.mod_mul_right_div_self, e3, Nat.mod_mul_right_mod]
  rw [← e4]
  simp

theorem put_byte (x q r i : Nat) (hi : 8 * q + r = i) (hr : r < 8) : IntKind.u8.wrap ((L x q).fdiv ((2 ^ (8 * r) : Nat) : Int)) = byteN x i := by
  subst hi
  have hp : (0 : Int) ≤ ((2 ^ (8 * r) : Nat) : Int) := Int.natCast_nonneg _
  rw [Int.fdiv_eq_ediv_of_nonneg _ hp]
  have := byte_at x (8 * q + r) q r (by omega) (by omega)
  have e : ((2 ^ (8 * r) : Nat) : Int) = (2 : Int) ^ (8 * r) := by push_cast; rfl
  rw [e, ← this]
  rfl
/-- Bytes as what is answered. -/
abbrev bytesA (l : List Int) : AV := .agg [.ints .u8 32 l]
abbrev bytesV (l : List Int) : Value := .agg (l.map (Value.int .u8) ++ []).toArray
theorem put_v (x : Nat) (w : World) : Calls Tryd.prog 10 #[U x] w fun e w' => e = .returned (bytesV (putA x 32)) ∧ Below w.heap.size w w' := by
  refine calls_vm [.val (U x)] (fn := Tryd.f10) Tryd.func10 (by kernel_rfl) (by kernel_rfl) (by kernel_rfl) (by simp [AV.okL, AV.ok]) ?_
  refine wpK_end (n := 1000) (m := 33) (nx := 0) (hs := [(2, .row [.ints .u8 32 (List.replicate 32 0)]), (3, .row [.ints .u8 32 (List.replicate 32 0)]), (18, .eq (.val (.int .u8 (byteN x 0)))), (18, .eq (.val (.int .u8 (byteN x 1)))), (18, .eq (.val (.int .u8 (byteN x 2)))), (18, .eq (.val (.int .u8 (byteN x 3)))), (18, .eq (.val (.int .u8 (byteN x 4)))), (18, .eq (.val (.int .u8 (byteN x 5)))), (18, .eq (.val (.int .u8 (byteN x 6)))), (18, .eq (.val (.int .u8 (byteN x 7)))), (18, .eq (.val (.int .u8 (byteN x 8)))), (18, .eq (.val (.int .u8 (byteN x 9)))), (18, .eq (.val (.int .u8 (byteN x 10)))), (18, .eq (.val (.int .u8 (byteN x 11)))), (18, .eq (.val (.int .u8 (byteN x 12)))), (18, .eq (.val (.int .u8 (byteN x 13)))), (18, .eq (.val (.int .u8 (byteN x 14)))), (18, .eq (.val (.int .u8 (byteN x 15)))), (18, .eq (.val (.int .u8 (byteN x 16)))), (18, .eq (.val (.int .u8 (byteN x 17)))), (18, .eq (.val (.int .u8 (byteN x 18)))), (18, .eq (.val (.int .u8 (byteN x 19)))), (18, .eq (.val (.int .u8 (byteN x 20)))), (18, .eq (.val (.int .u8 (byteN x 21)))), (18, .eq (.val (.int .u8 (byteN x 22)))), (18, .eq (.val (.int .u8 (byteN x 23)))), (18, .eq (.val (.int .u8 (byteN x 24)))), (18, .eq (.val (.int .u8 (byteN x 25)))), (18, .eq (.val (.int .u8 (byteN x 26)))), (18, .eq (.val (.int .u8 (byteN x 27)))), (18, .eq (.val (.int .u8 (byteN x 28)))), (18, .eq (.val (.int .u8 (byteN x 29)))), (18, .eq (.val (.int .u8 (byteN x 30)))), (18, .eq (.val (.int .u8 (byteN x 31))))]) (v := bytesA (putA x 32)) follows (And.intro (fun ρ => (rfl : Seg.cells ρ [.ints .u8 32 (List.replicate 32 0)] = (Value.agg (ints .u8 (List.replicate 32 0))).cells.toList)) (And.intro (show Seg.ok No [.ints .u8 32 (List.replicate 32 0)] from ⟨rfl, trivial⟩) (And.intro (fun ρ => (rfl : Seg.cells ρ [.ints .u8 32 (List.replicate 32 0)] = (Value.agg (ints .u8 (List.replicate 32 0))).cells.toList)) (And.intro (show Seg.ok No [.ints .u8 32 (List.replicate 32 0)] from ⟨rfl, trivial⟩) (And.intro (congrArg (Value.int .u8) (put_byte x 0 0 0 rfl (by omega))) (And.intro (congrArg (Value.int .u8) (put_byte x 0 1 1 rfl (by omega))) (And.intro (congrArg (Value.int .u8) (put_byte x 0 2 2 rfl (by omega))) (And.intro (congrArg (Value.int .u8) (put_byte x 0 3 3 rfl (by omega))) (And.intro (congrArg (Value.int .u8) (put_byte x 0 4 4 rfl (by omega))) (And.intro (congrArg (Value.int .u8) (put_byte x 0 5 5 rfl (by omega))) (And.intro (congrArg (Value.int .u8) (put_byte x 0 6 6 rfl (by omega))) (And.intro (congrArg (Value.int .u8) (put_byte x 0 7 7 rfl (by omega))) (And.intro (congrArg (Value.int .u8) (put_byte x 1 0 8 rfl (by omega))) (And.intro (congrArg (Value.int .u8) (put_byte x 1 1 9 rfl (by omega))) (And.intro (congrArg (Value.int .u8) (put_byte x 1 2 10 rfl (by omega))) (And.intro (congrArg (Value.int .u8) (put_byte x 1 3 11 rfl (by omega))) (And.intro (congrArg (Value.int .u8) (put_byte x 1 4 12 rfl (by omega))) (And.intro (congrArg (Value.int .u8) (put_byte x 1 5 13 rfl (by omega))) (And.intro (congrArg (Value.int .u8) (put_byte x 1 6 14 rfl (by omega))) (And.intro (congrArg (Value.int .u8) (put_byte x 1 7 15 rfl (by omega))) (And.intro (congrArg (Value.int .u8) (put_byte x 2 0 16 rfl (by omega))) (And.intro (congrArg (Value.int .u8) (put_byte x 2 1 17 rfl (by omega))) (And.intro (congrArg (Value.int .u8) (put_byte x 2 2 18 rfl (by omega))) (And.intro (congrArg (Value.int .u8) (put_byte x 2 3 19 rfl (by omega))) (And.intro (congrArg (Value.int .u8) (put_byte x 2 4 20 rfl (by omega))) (And.intro (congrArg (Value.int .u8) (put_byte x 2 5 21 rfl (by omega))) (And.intro (congrArg (Value.int .u8) (put_byte x 2 6 22 rfl (by omega))) (And.intro (congrArg (Value.int .u8) (put_byte x 2 7 23 rfl (by omega))) (And.intro (congrArg (Value.int .u8) (put_byte x 3 0 24 rfl (by omega))) (And.intro (congrArg (Value.int .u8) (put_byte x 3 1 25 rfl (by omega))) (And.intro (congrArg (Value.int .u8) (put_byte x 3 2 26 rfl (by omega))) (And.intro (congrArg (Value.int .u8) (put_byte x 3 3 27 rfl (by omega))) (And.intro (congrArg (Value.int .u8) (put_byte x 3 4 28 rfl (by omega))) (And.intro (congrArg (Value.int .u8) (put_byte x 3 5 29 rfl (by omega))) (And.intro (congrArg (Value.int .u8) (put_byte x 3 6 30 rfl (by omega))) (congrArg (Value.int .u8) (put_byte x 3 7 31 rfl (by omega)))))))))))))))))))))))))))))))))))))) (by kernel_rfl) ?_
  intro ρ w' hf; exact ⟨rfl, hf.to_below⟩

/-- Without zeros ahead. -/
def strip : List Int → List Int
  | [] => []
  | x :: r => if x = 0 then strip r else x :: r
theorem strip_drop : ∀ (l : List Int) (k : Nat), k ≤ l.length → (∀ j, j < k → l.getD j 0 = 0) → (k < l.length → l.getD k 0 ≠ 0) → strip l = l.drop k
  | [], k, h, _, _ => by simp [strip]
  | x :: r, 0, _, _, h => by
    have := h (by simp)
    simp only [List.getD_cons_zero] at this
    simp [strip, this]
  | x :: r, k + 1, h0, h1, h2 => by
    have h3 := h1 0 (by omega)
    simp only [List.getD_cons_zero] at h3
    subst h3
    simp only [strip, if_true, List.drop_succ_cons]
    exact strip_drop r k (by simpa using h0) (fun j hj => by simpa using h1 (j + 1) (by omega)) (fun hk => by simpa using h2 (by simpa using hk))
theorem strip_snoc : ∀ (l : List Int) (v : Int), strip (l ++ [v]) = if strip l = [] ∧ v = 0 then [] else strip l ++ [v]
  | [], v => by by_cases h : v = 0 <;> simp [strip, h]
  | x :: r, v => by
    by_cases h : x = 0
    · simp only [List.cons_append, strip, h, if_true]
      exact strip_snoc r v
    · simp [strip, h]
theorem strip_len : ∀ (l : List Int), (strip l).length ≤ l.length
  | [] => by simp [strip]
  | x :: r => by
    by_cases h : x = 0
    · have := strip_len r
      simp [strip, h]; omega
    · simp [strip, h]
theorem putA_getD (x j : Nat) (h : j < 32) : (putA x 32).getD j 0 = byteN x (31 - j) := by
  unfold putA
  rw [List.getD_eq_getElem?_getD, List.getElem?_map, List.getElem?_range h]
  simp only [Option.map_some, Option.getD_some]
  rw [if_pos (by omega)]
/-- How many bytes. -/
def nbytes (x : Nat) : Nat := (lenN x + 7) / 8
theorem nbytes_le (x : Nat) (hx : x < T256) : nbytes x ≤ 32 := by
  have := lenN_le x 256 (by rw [← T256_pow]; exact hx)
  unfold nbytes; omega
theorem putA_strip (x : Nat) (hx : x < T256) : (putA x 32).drop (32 - nbytes x) = strip (putA x 32) := by
  have hn := nbytes_le x hx
  have hlt := lenN_lt x
  refine (strip_drop _ _ (by rw [putA_len]; omega) (fun j hj => ?_) (fun hk => ?_)).symm
  · rw [putA_getD x j (by omega)]
    unfold byteN
    have h1 : x < 2 ^ (8 * (31 - j)) := Nat.lt_of_lt_of_le hlt (Nat.pow_le_pow_right (by omega) (by unfold nbytes at hj; omega))
    rw [Nat.div_eq_of_lt h1]
    rfl
  · rw [putA_len] at hk
    rw [putA_getD x _ hk]
    have hpos : 0 < lenN x := by
      by_cases h0 : lenN x = 0
      · exfalso; unfold nbytes at hk; rw [h0] at hk; omega
      · omega
    have htop := lenN_top x hpos
    have hm : 31 - (32 - nbytes x) = nbytes x - 1 := by omega
    rw [hm]
    unfold byteN
    have h1 : 1 ≤ x / 2 ^ (8 * (nbytes x - 1)) := by
      rw [Nat.le_div_iff_mul_le (Nat.pow_pos (by omega)), Nat.one_mul]
      exact Nat.le_trans (Nat.pow_le_pow_right (by omega) (by unfold nbytes; omega)) htop
    have h2 : x / 2 ^ (8 * (nbytes x - 1)) < 256 := by
      rw [Nat.div_lt_iff_lt_mul (Nat.pow_pos (by omega)), show (256 : Nat) = 2 ^ 8 from rfl, ← Nat.pow_add]
      exact Nat.lt_of_lt_of_le hlt (Nat.pow_le_pow_right (by omega) (by unfold nbytes; omega))
    rw [Nat.mod_eq_of_lt h2]
    omega
def bytesOf (x : Nat) : List Int := strip (putA x 32)
theorem bytesOf_len (x : Nat) (hx : x < T256) : (bytesOf x).length = nbytes x := by
  have := nbytes_le x hx
  unfold bytesOf
  rw [← putA_strip x hx]
  simp [putA_len]; omega
set_option maxHeartbeats 1000000 in
theorem bytes_c (x : Nat) (hx : x < T256) (w : World) : Calls Tryd.prog 13 #[U x] w (Gives w (bytesOf x)) := by
  have hn := nbytes_le x hx
  have hl := bytesOf_len x hx
  have pc := fun w => put_v x w
  have lc := fun w => len_c x hx w
  obtain ⟨n, hN⟩ : ∃ n, n = nbytes x := ⟨_, rfl⟩
  have hb : (putA x 32).drop (32 - n) = bytesOf x := by rw [hN]; exact putA_strip x hx
  rw [← hN] at hn hl
  obtain ⟨ys, hY⟩ : ∃ ys, ys = bytesOf x := ⟨_, rfl⟩
  obtain ⟨zs, hZ⟩ : ∃ zs, zs = putA x 32 := ⟨_, rfl⟩
  have hzl : zs.length = 32 := by rw [hZ]; exact putA_len x 32
  rw [← hZ] at pc hb
  rw [← hY] at hb hl ⊢
  have w1 : IntKind.i64.wrap (IntKind.i64.wrap ((lenN x : Nat) : Int) + 7) = IntKind.i64.wrap ((lenN x : Nat) : Int) + 7 := by
    have := lenN_le x 256 (by rw [← T256_pow]; exact hx)
    rw [IntKind.wrap_i64, IntKind.wrap_i64]; omega
  have wl : ((lenN x : Nat) : Int) ≤ 256 := by
    have := lenN_le x 256 (by rw [← T256_pow]; exact hx); omega
  have w2 : IntKind.i64.wrap (Int.tdiv (IntKind.i64.wrap (((lenN x : Nat) : Int) + 7)) 8) = (n : Int) := by
    rw [hN]; unfold nbytes
    have e : IntKind.i64.wrap (((lenN x : Nat) : Int) + 7) = (((lenN x : Nat) : Int) + 7) := by rw [IntKind.wrap_i64]; omega
    rw [e, Int.tdiv_eq_ediv_of_nonneg (by omega), IntKind.wrap_i64]; omega
  have w3 : IntKind.i64.wrap (32 - (n : Int)) = ((32 - n : Nat) : Int) := by rw [IntKind.wrap_i64]; omega
  refine calls_vm [.val (U x)] (fn := Tryd.f13) Tryd.func13 (by kernel_rfl) (by kernel_rfl) (by kernel_rfl) (by simp [AV.okL, AV.ok]) ?_
  by_cases h0 : n = 0
  · subst h0
    have hys : ys = [] := by apply List.eq_nil_of_length_eq_zero; omega
    subst hys
    have e32 : ((32 - 0 : Nat) : Int) = ((32 : Nat) : Int) := by omega
    refine wpK_endM (n := 400) (m := 0) (nx := 0) (hs := [(6, .call (bytesA zs)), (8, .call (.val (.int .i64 (lenN x : Int)))), (10, .eq (.val (.int .i64 ((0 : Nat) : Int)))), (12, .eq (.val (.int .i64 ((32 - 0 : Nat) : Int)))), (13, .subE)]) (v := .own 14 1 0 0) (bs := [(14, ⟨[.ints .u8 0 []], 5, .own 1⟩)]) follows [14] (And.intro (vcall w pc) (And.intro (show (bytesA zs).ok No from ⟨hzl, trivial⟩) (And.intro (vcall w lc) (And.intro (congrArg (Value.int .i64) w2) (And.intro (congrArg (Value.int .i64) w3) (And.intro e32 (Nat.zero_le 32))))))) (by kernel_rfl) ?_
    intro ρ w' hf hh; exact gives_of (P := Tryd.prog) hl hf hh
  · have e32 : 32 - n < 32 := by omega
    have hcat : ∀ ρ, Seg.cells ρ [.ints .u8 n ys] = Seg.cells ρ [] ++ Seg.cells ρ [.ints .u8 (32 - (32 - n)) ((zs.drop (32 - n)).take (32 - (32 - n)))] := by
      intro ρ
      simp only [Seg.cells, Seg.cell1, List.nil_append, List.append_nil]
      rw [hb, List.take_of_length_le (by omega)]
    refine wpK_endM (n := 400) (m := 0) (nx := 0) (hs := [(6, .call (bytesA zs)), (8, .call (.val (.int .i64 (lenN x : Int)))), (10, .eq (.val (.int .i64 (n : Int)))), (12, .eq (.val (.int .i64 ((32 - n : Nat) : Int)))), (13, .sub (32 - n) 32), (14, .app [.ints .u8 n ys] n)]) (v := .own 14 1 0 n) (bs := [(14, ⟨[.ints .u8 n ys], 5, .own 1⟩)]) follows [14] (And.intro (vcall w pc) (And.intro (show (bytesA zs).ok No from ⟨hzl, trivial⟩) (And.intro (vcall w lc) (And.intro (congrArg (Value.int .i64) w2) (And.intro (congrArg (Value.int .i64) w3) (And.intro (rfl : ((32 - n : Nat) : Int) = ((32 - n : Nat) : Int)) (And.intro (rfl : (32 : Nat) = 32) (And.intro (show 32 - n ≤ 32 by omega) (And.intro (Nat.le_refl 32) (And.intro e32 (And.intro hcat (And.intro (show Seg.ok No [.ints .u8 n ys] from ⟨hl, trivial⟩) (And.intro (show n = 0 + (32 - (32 - n)) by omega) (And.intro (rfl : Seg.len [] = 0) (And.intro (show n ≤ 140737488355328 by omega) (show (32 - n) + (32 - (32 - n)) ≤ 32 by omega)))))))))))))))) (by kernel_rfl) ?_
    intro ρ w' hf hh; exact gives_of (P := Tryd.prog) hl hf hh
end Go.Proofs.YthgnmpjcbicdhaaDoor

