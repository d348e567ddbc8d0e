/- Digits of a number: what is said of them. -/
import Derived.Test.YtkanjdllaikoaaaDoorNum
import Derived.Test.YtkanjdllaikoaaaDoorHD
set_option linter.unusedSimpArgs false
set_option linter.unusedVariables false
namespace Go.Proofs.YtkanjdllaikoaaaDoor
open Go Go.RowKit

/-- The byte of weight 256 ^ k. -/
def byteN (x k : Nat) : Int := ((x / 2 ^ (8 * k) % 256 : Nat) : Int)
/-- The 32 bytes when so many are laid, from the last on. -/
def putA (x i : Nat) : List Int := (List.range 32).map fun j => if 31 - j < i then byteN x (31 - j) else 0
theorem putA_len (x i : Nat) : (putA x i).length = 32 := by simp [putA]
theorem putA_zero (x : Nat) : putA x 0 = putA 0 0 := by simp [putA]
theorem putA_step (x i : Nat) (hi : i < 32) : (putA x i).set (31 - i) (byteN x i) = putA x (i + 1) := by
  refine List.ext_getElem (by simp [putA]) fun j h1 h2 => ?_
  have hj : j < 32 := by simpa [putA] using h2
  rw [List.getElem_set]
  simp only [putA, List.getElem_map, List.getElem_range]
  by_cases h : 31 - i = j
  · rw [if_pos h, if_pos (by omega), show 31 - j = i by omega]
  · rw [if_neg h]
    by_cases h3 : 31 - j < i
    · rw [if_pos h3, if_pos (by omega)]
    · rw [if_neg h3, if_neg (by omega)]
theorem byte_at (x i q r : Nat) (hq : q = i / 8) (hr : r = i % 8) : (L x q / 2 ^ (8 * r)) % 256 = byteN x i := by
  subst hq; subst hr
  have hm := Nat.mod_lt i (show 0 < 8 by omega)
  have e1 : x / 2 ^ (8 * i) = x / 2 ^ (64 * (i / 8)) / 2 ^ (8 * (i % 8)) := by
    rw [Nat.div_div_eq_div_mul, ← Nat.pow_add]; congr 2; omega
  unfold L byteN
  rw [e1]
  generalize x / 2 ^ (64 * (i / 8)) = y
  have e2 : 2 ^ 64 = 2 ^ (8 * (i % 8)) * 2 ^ (64 - 8 * (i % 8)) := by rw [← Nat.pow_add]; congr 1; omega
  have e3 : 2 ^ (64 - 8 * (i % 8)) = 256 * 2 ^ (56 - 8 * (i % 8)) := by rw [show (256 : Nat) = 2 ^ 8 from rfl, ← Nat.pow_add]; congr 1; omega
  have e4 : y % 2 ^ 64 / 2 ^ (8 * (i % 8)) % 256 = y / 2 ^ (8 * (i % 8)) % 256 := by
    rw [e2, Nat.mod_mul_right_div_self, e3, Nat.mod_mul_right_mod]
  rw [← e4]
  simp

theorem put_byte (x q r i : Nat) (hi : 8 * q + r = i) (hr : r < 8) : IntKind.u8.wrap ((L x q).fdiv ((2 ^ (8 * r) : Nat) : Int)) = byteN x i := by
  subst hi
  have hp : (0 : Int) ≤ ((2 ^ (8 * r) : Nat) : Int) := Int.natCast_nonneg _
  rw [Int.fdiv_eq_ediv_of_nonneg _ hp]
  have := byte_at x (8 * q + r) q r (by omega) (by omega)
  have e : ((2 ^ (8 * r) : Nat) : Int) = (2 : Int) ^ (8 * r) := by push_cast; rfl
  rw [e, ← this]
  rfl
theorem byteN_byte (x k : Nat) : 0 ≤ byteN x k ∧ byteN x k < 256 := by unfold byteN; omega
theorem putA_bytes (x i : Nat) : Bytes (putA x i) := by
  intro j hj
  rw [List.getD_eq_getElem?_getD, List.getElem?_eq_getElem hj]
  simp only [putA, List.getElem_map, List.getElem_range, Option.getD_some]
  split
  · have := byteN_byte x (31 - j); omega
  · omega
/-- The four limbs. -/
def limL (x : Nat) : List Int := [L x 0, L x 1, L x 2, L x 3]
theorem limL_at (x i : Nat) (h : i < 4) : (limL x).getD i 0 = L x i := by
  match i, h with
  | 0, _ | 1, _ | 2, _ | 3, _ => rfl
/-- A digit of base 16. -/
def nibN (x k : Nat) : Nat := x / 2 ^ (4 * k) % 16
theorem nibN_lt (x k : Nat) : nibN x k < 16 := Nat.mod_lt _ (by decide)
theorem nib_at (x a c : Nat) (hc : c < 16) : x / 2 ^ (64 * a) % 2 ^ 64 / 2 ^ (4 * c) % 16 = x / 2 ^ (4 * (16 * a + c)) % 16 := by
  have e1 : x / 2 ^ (4 * (16 * a + c)) = x / 2 ^ (64 * a) / 2 ^ (4 * c) := by
    rw [Nat.div_div_eq_div_mul, ← Nat.pow_add]; congr 2; omega
  rw [e1]
  generalize x / 2 ^ (64 * a) = y
  have e2 : 2 ^ 64 = 2 ^ (4 * c) * 2 ^ (64 - 4 * c) := by rw [← Nat.pow_add]; congr 1; omega
  have e3 : 2 ^ (64 - 4 * c) = 16 * 2 ^ (60 - 4 * c) := by rw [show (16 : Nat) = 2 ^ 4 from rfl, ← Nat.pow_add]; congr 1; omega
  rw [e2, Nat.mod_mul_right_div_self, e3, Nat.mod_mul_right_mod]
theorem ref_nib (x q : Nat) (hq : q < 64) : ((((limL x).getD (q / 16) 0).fdiv (2 ^ min (IntKind.u64.wrap ((4 * (q % 16) : Nat) : Int)).toNat IntKind.u64.bits)).tmod 16) = ((nibN x q : Nat) : Int) := by
  have hw : IntKind.u64.wrap ((4 * (q % 16) : Nat) : Int) = ((4 * (q % 16) : Nat) : Int) := by rw [IntKind.wrap_u64]; omega
  have hb : IntKind.u64.bits = 64 := rfl
  rw [limL_at x (q / 16) (by omega), hw, hb, Int.toNat_natCast, Nat.min_eq_left (by omega)]
  have e : ((2 : Int) ^ (4 * (q % 16))) = ((2 ^ (4 * (q % 16)) : Nat) : Int) := by push_cast; rfl
  rw [e, Int.fdiv_eq_ediv_of_nonneg _ (Int.natCast_nonneg _)]
  unfold L
  rw [← Int.natCast_ediv, Int.tmod_eq_emod_of_nonneg (Int.natCast_nonneg _)]
  have := nib_at x (q / 16) (q % 16) (by omega)
  rw [show 16 * (q / 16) + q % 16 = q by omega] at this
  unfold nibN
  rw [← this]
  rfl
theorem hexL_range (f : Nat → Int) : ∀ n, hexL ((List.range n).map f) = (List.range (2 * n)).map fun j => dgt (if j % 2 = 0 then (f (j / 2)).toNat / 16 else (f (j / 2)).toNat % 16)
  | 0 => rfl
  | n + 1 => by
    rw [show 2 * (n + 1) = 2 * n + 1 + 1 by omega, List.range_succ, List.range_succ, List.range_succ, List.map_append, hexL_append, hexL_range f n]
    simp only [List.map_append, List.map_cons, List.map_nil, hexL, List.append_assoc, List.cons_append, List.nil_append]
    rw [if_pos (by omega), if_neg (by omega), show 2 * n / 2 = n by omega, show (2 * n + 1) / 2 = n by omega]
/-- All 64 digits. -/
def digsL (x : Nat) : List UInt8 := (List.range 64).map fun j => dgt (nibN x (63 - j))
theorem digsL_len (x : Nat) : (digsL x).length = 64 := by simp [digsL]
theorem hexL_put (x : Nat) : hexL (putA x 32) = digsL x := by
  unfold putA digsL
  rw [hexL_range]
  refine List.map_congr_left fun j hj => ?_
  have hj := List.mem_range.1 hj
  congr 1
  unfold byteN nibN
  by_cases h : j % 2 = 0
  · rw [if_pos h, if_pos (by omega), Int.toNat_natCast]
    rw [show (256 : Nat) = 16 * 16 from rfl, Nat.mod_mul_right_div_self, Nat.div_div_eq_div_mul]
    congr 2
    rw [show (16 : Nat) = 2 ^ 4 from rfl, ← Nat.pow_add]
    congr 1
    omega
  · rw [if_neg h, if_pos (by omega), Int.toNat_natCast]
    rw [show (256 : Nat) = 16 * 16 from rfl, Nat.mod_mul_right_mod]
    congr 3
    omega
theorem dw_snoc {p : UInt8 → Bool} : ∀ (l : List UInt8) (v : UInt8), (l ++ [v]).dropWhile p = if l.dropWhile p = [] then [v].dropWhile p else l.dropWhile p ++ [v]
  | [], v => by simp
  | a :: l, v => by
    cases h : p a with
    | true => rw [List.cons_append, List.dropWhile_cons_of_pos h, List.dropWhile_cons_of_pos h]; exact dw_snoc l v
    | false => simp [List.cons_append, List.dropWhile_cons, h]
/-- Without zeros ahead; of zero one. -/
def noZ (l : List UInt8) : List UInt8 := l.dropWhile (· == 48)
def qtyL (x : Nat) : List UInt8 := if noZ (digsL x) = [] then [48] else noZ (digsL x)
def qtyS (x : Nat) : ByteArray := withX ⟨(qtyL x).toArray⟩
def stL (x r : Nat) : List UInt8 := if r = 0 then qtyL x else noZ ((digsL x).take (64 - r))
theorem dgt_zero {d : Nat} (h : d < 16) : (dgt d == 48) = decide (d = 0) := by
  have : ∀ d, d < 16 → (dgt d == 48) = decide (d = 0) := by decide
  exact this d h
theorem stL_step (x q : Nat) (hq : q < 64) : stL x q = if nibN x q ≠ 0 ∨ stL x (q + 1) ≠ [] ∨ q = 0 then stL x (q + 1) ++ [dgt (nibN x q)] else stL x (q + 1) := by
  have hd := dgt_zero (nibN_lt x q)
  have htk : (digsL x).take (64 - q) = (digsL x).take (64 - (q + 1)) ++ [dgt (nibN x q)] := by
    rw [show 64 - q = 64 - (q + 1) + 1 by omega, List.take_add_one]
    congr 1
    unfold digsL
    rw [List.getElem?_map, List.getElem?_range (by omega)]
    simp only [Option.map_some, Option.toList_some]
    rw [show 63 - (64 - (q + 1)) = q by omega]
  have h1 : noZ ((digsL x).take (64 - q)) = if stL x (q + 1) = [] then (if nibN x q = 0 then [] else [dgt (nibN x q)]) else stL x (q + 1) ++ [dgt (nibN x q)] := by
    unfold stL
    rw [if_neg (by omega : ¬ q + 1 = 0)]
    unfold noZ
    rw [htk, dw_snoc]
    congr 1
    simp only [List.dropWhile_cons, hd, List.dropWhile_nil]
    by_cases h0 : nibN x q = 0 <;> simp [h0]
  have h0 : stL x q = if q = 0 then (if noZ ((digsL x).take (64 - q)) = [] then [48] else noZ ((digsL x).take (64 - q))) else noZ ((digsL x).take (64 - q)) := by
    unfold stL
    by_cases hq0 : q = 0
    · subst hq0
      rw [if_pos rfl, if_pos rfl, Nat.sub_zero, List.take_of_length_le (by rw [digsL_len]; exact Nat.le_refl _)]
      rfl
    · rw [if_neg hq0, if_neg hq0]
  rw [h0, h1]
  have h48 : nibN x q = 0 → dgt (nibN x q) = 48 := fun h => by rw [h]; rfl
  clear h0 h1 htk hd
  generalize stL x (q + 1) = A at *
  generalize nibN x q = d at *
  by_cases ha : A = []
  · by_cases hn : d = 0
    · by_cases hq0 : q = 0
      · simp [ha, hn, hq0]; rfl
      · simp [ha, hn, hq0]
    · by_cases hq0 : q = 0 <;> simp [ha, hn, hq0]
  · by_cases hq0 : q = 0 <;> simp [ha, hq0]
theorem noZ_len (l : List UInt8) : (noZ l).length ≤ l.length := (List.dropWhile_sublist _).length_le
theorem stL_len (x r : Nat) : (stL x r).length ≤ 64 := by
  have h1 := noZ_len (digsL x)
  have h2 := noZ_len ((digsL x).take (64 - r))
  have h3 := digsL_len x
  rw [List.length_take] at h2
  unfold stL qtyL
  split
  · split
    · simp
    · omega
  · omega
end Go.Proofs.YtkanjdllaikoaaaDoor

