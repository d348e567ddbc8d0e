/- What is written is read back: no program. -/
import Derived.Test.YtkanjdllaikoaaaDoorQt
import Derived.Test.YtkanjdllaikoaaaDoorPAd
set_option linter.unusedSimpArgs false
set_option linter.unusedVariables false
namespace Go.Proofs.YtkanjdllaikoaaaDoor
open Go Go.RowKit

/-- The digits of bytes. -/
def nibs : List Int → List Nat
  | [] => []
  | c :: r => c.toNat / 16 :: c.toNat % 16 :: nibs r
theorem hexL_nibs : ∀ l : List Int, hexL l = (nibs l).map dgt
  | [] => rfl
  | c :: r => by simp [hexL, nibs, hexL_nibs r]
theorem nibs_len : ∀ l : List Int, (nibs l).length = 2 * l.length
  | [] => rfl
  | c :: r => by simp [nibs, nibs_len r]; omega
theorem bytes_tail {c : Int} {r : List Int} (h : Bytes (c :: r)) : (0 ≤ c ∧ c ≤ 255) ∧ Bytes r :=
  ⟨by simpa using h 0 (by simp), fun i hi => by simpa using h (i + 1) (by simpa using hi)⟩
theorem nibs_lt : ∀ l : List Int, Bytes l → ∀ d ∈ nibs l, d < 16
  | [], _, d, hd => by simp [nibs] at hd
  | c :: r, h, d, hd => by
    obtain ⟨h1, h2⟩ := bytes_tail h
    simp only [nibs, List.mem_cons] at hd
    rcases hd with rfl | rfl | hd
    · omega
    · omega
    · exact nibs_lt r h2 d hd
theorem valOf_dgt (d : Nat) (h : d < 16) : valOf ((dgt d).toNat : Int) = (d : Int) := by
  have : ∀ d, d < 16 → valOf ((dgt d).toNat : Int) = (d : Int) := by decide
  exact this d h
/-- Digits as integers. -/
def dI (ds : List Nat) : List Int := ds.map fun d : Nat => (d : Int)
theorem vals_dgt (ds : List Nat) (h : ∀ d ∈ ds, d < 16) : (nums (ds.map dgt)).map valOf = dI ds := by
  unfold nums dI
  rw [List.map_map, List.map_map]
  exact List.map_congr_left fun d hd => valOf_dgt d (h d hd)
theorem valsL_of {l v : List Int} (h : l.map valOf = v) (hv : ∀ x ∈ v, 0 ≤ x) : valsL l = some v := by
  unfold valsL
  rw [if_pos, h]
  rw [List.all_eq_true]
  intro c hc
  have := hv (valOf c) (h ▸ List.mem_map_of_mem hc)
  simpa using this
theorem dI_nonneg (ds : List Nat) : ∀ x ∈ dI ds, 0 ≤ x := by
  intro x hx
  obtain ⟨d, _, rfl⟩ := List.mem_map.1 hx
  omega
theorem dI_len (ds : List Nat) : (dI ds).length = ds.length := by simp [dI]
theorem withX_bytes (l : List Int) (h : ByteL l) : bytesI (withX (strI l)) = 48 :: 120 :: l := by
  have h1 : (withX (strI l)).data.toList = [48, 120] ++ (strI l).data.toList := by simp [withX]
  have h2 := bytesI_strI l h
  unfold bytesI at h2 ⊢
  rw [h1, List.map_append, h2]
  rfl
theorem withX_hex (ds : List UInt8) : bytesI (withX ⟨ds.toArray⟩) = 48 :: 120 :: nums ds := by
  rw [← strI_nums]
  exact withX_bytes _ (nums_byte ds)
theorem textV_dgt (ds : List Nat) (h : ∀ d ∈ ds, d < 16) : textV (withX ⟨(ds.map dgt).toArray⟩) = some (dI ds) := by
  rw [textV_yes (withX_hex _)]
  exact valsL_of (vals_dgt ds h) (dI_nonneg ds)
theorem prL_nibs : ∀ l : List Int, Bytes l → prL (dI (nibs l)) l.length = l
  | [], _ => rfl
  | c :: r, h => by
    obtain ⟨h1, h2⟩ := bytes_tail h
    have e : dI (nibs (c :: r)) = ((c.toNat / 16 : Nat) : Int) :: ((c.toNat % 16 : Nat) : Int) :: dI (nibs r) := rfl
    rw [e, List.length_cons, prL_cons2, prL_nibs r h2]
    congr 1
    omega
theorem textV_hex (l : List Int) (h : Bytes l) : textV (withX ⟨(hexL l).toArray⟩) = some (dI (nibs l)) := by
  rw [hexL_nibs]
  exact textV_dgt _ (nibs_lt l h)
/-- Data is read back. -/
theorem dataP_hex (l : List Int) (h : Bytes l) : dataP (withX ⟨(hexL l).toArray⟩) = (l, 0) := by
  unfold dataP
  rw [textV_hex l h]
  have hl : (dI (nibs l)).length = 2 * l.length := by rw [dI_len, nibs_len]
  simp only
  rw [if_neg (by rw [hl]; omega)]
  unfold jnL
  rw [if_neg (by rw [hl]; omega), hl, show 2 * l.length / 2 = l.length by omega, prL_nibs l h]
/-- A digest is read back. -/
theorem hashP_hex (l : List Int) (h : Bytes l) (hl : l.length = 32) : hashP (withX ⟨(hexL l).toArray⟩) = (l, 0) := by
  unfold hashP
  rw [textV_hex l h]
  have hn : (dI (nibs l)).length = 64 := by rw [dI_len, nibs_len, hl]
  simp only
  rw [if_pos hn]
  have := prL_nibs l h
  rw [hl] at this
  rw [this]
theorem valOf_cap (h : List Int) (i d : Nat) (hd : d < 16) : valOf (capAt h i ((dgt d).toNat : Int)) = (d : Int) := by
  have h1 : ∀ d, d < 16 → valOf ((dgt d).toNat : Int) = (d : Int) ∧ ((97 : Int) ≤ ((dgt d).toNat : Int) → valOf (((dgt d).toNat : Int) - 32) = (d : Int)) := by decide
  unfold capAt
  split
  · rename_i hc
    exact (h1 d hd).2 hc.1
  · exact (h1 d hd).1
theorem sumL_vals (a : List Int) (hb : Bytes a) : (sumL a).map valOf = dI (nibs a) := by
  unfold sumL capL
  rw [hexL_nibs, List.map_map]
  have hl := nibs_len a
  refine List.ext_getElem (by simp [dI, hl]) fun i h1 h2 => ?_
  have hi : i < (nibs a).length := by simpa [dI] using h2
  simp only [List.getElem_map, List.getElem_range, Function.comp, dI]
  have e : (nums ((nibs a).map dgt)).getD i 0 = ((dgt (nibs a)[i]).toNat : Int) := by
    unfold nums
    rw [List.getD_eq_getElem?_getD, List.getElem?_map, List.getElem?_map, List.getElem?_eq_getElem hi]
    rfl
  rw [e]
  exact valOf_cap _ i _ (nibs_lt a hb _ (List.getElem_mem hi))
theorem sumL_byte (a : List Int) : ByteL (sumL a) := capL_byte _ _ _ (nums_byte _) (by rw [nums_len, hexL_len]; omega)
theorem textV_sum (a : List Int) (hb : Bytes a) : textV (withX (strI (sumL a))) = some (dI (nibs a)) := by
  rw [textV_yes (withX_bytes _ (sumL_byte a))]
  exact valsL_of (sumL_vals a hb) (dI_nonneg _)
/-- A checked address is read back. -/
theorem addrP_sum (a : List Int) (hb : Bytes a) (hl : a.length = 20) : addrP (withX (strI (sumL a))) = (a, 0) := by
  unfold addrP
  rw [textV_sum a hb]
  have hn : (dI (nibs a)).length = 40 := by rw [dI_len, nibs_len, hl]
  have hp := prL_nibs a hb
  rw [hl] at hp
  simp only
  rw [if_pos hn, hp]
  have : strNe (withX (strI (sumL a))) (withX (strI (sumL a))) = false := by rw [strNe_iff]; simp
  rw [this]
  simp
/-- A number's digits, without zeros ahead. -/
def qds (x : Nat) : List Nat := if ((List.range 64).map fun j => nibN x (63 - j)).dropWhile (· == 0) = [] then [0] else ((List.range 64).map fun j => nibN x (63 - j)).dropWhile (· == 0)
theorem noZ_map : ∀ ds : List Nat, (∀ d ∈ ds, d < 16) → noZ (ds.map dgt) = (ds.dropWhile (· == 0)).map dgt
  | [], _ => rfl
  | d :: r, h => by
    have hd := h d (by simp)
    have e := dgt_zero hd
    unfold noZ
    by_cases h0 : d = 0
    · have h1 : (dgt d == 48) = true := by rw [e]; simp [h0]
      rw [List.map_cons, List.dropWhile_cons_of_pos (p := fun a : UInt8 => a == 48) h1, List.dropWhile_cons_of_pos (by simp [h0])]
      exact noZ_map r fun d hd => h d (by simp [hd])
    · have h1 : ¬ (dgt d == 48) = true := by rw [e]; simp [h0]
      rw [List.map_cons, List.dropWhile_cons_of_neg (p := fun a : UInt8 => a == 48) h1, List.dropWhile_cons_of_neg (by simp [h0]), List.map_cons]
theorem nib64_lt (x : Nat) : ∀ d ∈ (List.range 64).map (fun j => nibN x (63 - j)), d < 16 := by
  intro d hd
  obtain ⟨j, _, rfl⟩ := List.mem_map.1 hd
  exact nibN_lt x _
theorem dW_mem {p : Nat → Bool} : ∀ {l : List Nat} {d : Nat}, d ∈ l.dropWhile p → d ∈ l := fun h => (List.dropWhile_sublist _).subset h
theorem qds_lt (x : Nat) : ∀ d ∈ qds x, d < 16 := by
  intro d hd
  unfold qds at hd
  split at hd
  · simp at hd; omega
  · exact nib64_lt x d (dW_mem hd)
theorem qtyL_qds (x : Nat) : qtyL x = (qds x).map dgt := by
  have h1 : digsL x = ((List.range 64).map fun j => nibN x (63 - j)).map dgt := by unfold digsL; rw [List.map_map]; rfl
  have h2 : noZ (digsL x) = (((List.range 64).map fun j => nibN x (63 - j)).dropWhile (· == 0)).map dgt := by rw [h1]; exact noZ_map _ (nib64_lt x)
  unfold qtyL qds
  rw [h2]
  by_cases h : ((List.range 64).map fun j => nibN x (63 - j)).dropWhile (· == 0) = []
  · rw [h]; rfl
  · rw [if_neg h, if_neg (by simpa using h)]
/-- The number that digits tell. -/
def vN (ds : List Nat) (acc : Nat) : Nat := ds.foldl (fun v d => v * 16 + d) acc
theorem vN_dI : ∀ (ds : List Nat) (acc : Nat), (dI ds).foldl (fun v x => v * 2 ^ 4 + x.toNat) acc = vN ds acc
  | [], acc => rfl
  | d :: r, acc => vN_dI r _
theorem vN_snoc (ds : List Nat) (d acc : Nat) : vN (ds ++ [d]) acc = vN ds acc * 16 + d := by simp [vN]
theorem vN_all : ∀ (n x : Nat), vN ((List.range n).map fun j => nibN x (n - 1 - j)) 0 = x % 2 ^ (4 * n)
  | 0, x => by simp [vN, Nat.mod_one]
  | n + 1, x => by
    rw [List.range_succ, List.map_append, List.map_cons, List.map_nil, vN_snoc]
    have e : (List.range n).map (fun j => nibN x (n + 1 - 1 - j)) = (List.range n).map (fun j => nibN (x / 16) (n - 1 - j)) := by
      refine List.map_congr_left fun j hj => ?_
      have hj := List.mem_range.1 hj
      unfold nibN
      rw [show (16 : Nat) = 2 ^ 4 from rfl, Nat.div_div_eq_div_mul, ← Nat.pow_add]
      congr 3
      omega
    rw [e, vN_all n (x / 16)]
    have e2 : nibN x (n + 1 - 1 - n) = x % 16 := by unfold nibN; rw [show n + 1 - 1 - n = 0 by omega]; simp
    have e3 : 2 ^ (4 * (n + 1)) = 16 * 2 ^ (4 * n) := by rw [show 4 * (n + 1) = 4 + 4 * n by omega, Nat.pow_add]
    rw [e2, e3, Nat.mod_mul, Nat.mul_comm, Nat.add_comm]
theorem vN_drop : ∀ ds : List Nat, vN (ds.dropWhile (· == 0)) 0 = vN ds 0
  | [] => rfl
  | d :: r => by
    by_cases h0 : d = 0
    · rw [List.dropWhile_cons_of_pos (by simp [h0]), vN_drop r]
      subst h0
      rfl
    · rw [List.dropWhile_cons_of_neg (by simp [h0])]
theorem qds_val (x : Nat) (h : x < T256) : valB 4 (dI (qds x)) = x := by
  unfold valB
  rw [vN_dI]
  have h1 : vN (((List.range 64).map fun j => nibN x (63 - j)).dropWhile (· == 0)) 0 = x := by
    rw [vN_drop]
    have := vN_all 64 x
    rw [Nat.mod_eq_of_lt (by rw [T256_eq] at h; omega)] at this
    exact this
  unfold qds
  by_cases hz : ((List.range 64).map fun j => nibN x (63 - j)).dropWhile (· == 0) = []
  · rw [if_pos hz]
    rw [hz] at h1
    exact h1
  · rw [if_neg hz]
    exact h1
theorem vN_ge : ∀ (ds : List Nat) (acc : Nat), acc * 16 ^ ds.length ≤ vN ds acc
  | [], acc => by simp [vN]
  | d :: r, acc => by
    have := vN_ge r (acc * 16 + d)
    have e : vN (d :: r) acc = vN r (acc * 16 + d) := rfl
    rw [e, List.length_cons, Nat.pow_succ, Nat.mul_comm (16 ^ r.length) 16, ← Nat.mul_assoc]
    exact Nat.le_trans (Nat.mul_le_mul_right _ (by omega)) this
theorem dW_head : ∀ (ds : List Nat) (d : Nat) (r : List Nat), ds.dropWhile (· == 0) = d :: r → d ≠ 0
  | [], d, r, h => by simp at h
  | a :: l, d, r, h => by
    by_cases h0 : a = 0
    · rw [List.dropWhile_cons_of_pos (by simp [h0])] at h
      exact dW_head l d r h
    · rw [List.dropWhile_cons_of_neg (by simp [h0])] at h
      simp only [List.cons.injEq] at h
      omega
/-- The first digit is no zero, unless it stands alone; and there are no more than the number needs. -/
theorem qds_form (x : Nat) : (qds x = [0]) ∨ ∃ d r, qds x = d :: r ∧ d ≠ 0 := by
  unfold qds
  by_cases hz : ((List.range 64).map fun j => nibN x (63 - j)).dropWhile (· == 0) = []
  · rw [if_pos hz]; exact .inl rfl
  · rw [if_neg hz]
    cases hq : ((List.range 64).map fun j => nibN x (63 - j)).dropWhile (· == 0) with
    | nil => exact absurd hq hz
    | cons d r => exact .inr ⟨d, r, rfl, dW_head _ d r hq⟩
theorem qds_len (x k : Nat) (h : x < T256) (hk : 1 ≤ k) (hx : x < 16 ^ k) : 1 ≤ (qds x).length ∧ (qds x).length ≤ k := by
  rcases qds_form x with h0 | ⟨d, r, hq, hd⟩
  · rw [h0]; exact ⟨Nat.le_refl 1, hk⟩
  · have hv := qds_val x h
    unfold valB at hv
    rw [vN_dI] at hv
    rw [hq] at hv ⊢
    refine ⟨by simp, ?_⟩
    have h1 := vN_ge r d
    have e : vN (d :: r) 0 = vN r d := by show vN r (0 * 16 + d) = _; rw [Nat.zero_mul, Nat.zero_add]
    rw [e] at hv
    rw [List.length_cons]
    rcases Nat.lt_or_ge r.length k with h2 | h2
    · omega
    · have h3 : 16 ^ k ≤ 16 ^ r.length := Nat.pow_le_pow_right (by omega) h2
      have h4 : 16 ^ r.length ≤ d * 16 ^ r.length := Nat.le_mul_of_pos_left _ (by omega)
      omega
/-- A quantity is read back. -/
theorem qP_qty (x most : Nat) (h : x < T256) (hk : 1 ≤ most) (hx : x < 16 ^ most) : qP (qtyS x) most = (x, 0) := by
  unfold qP qtyS
  rw [qtyL_qds, textV_dgt _ (qds_lt x)]
  obtain ⟨h1, h2⟩ := qds_len x most h hk hx
  have hv := qds_val x h
  simp only [dI_len]
  rw [if_neg (by omega), if_neg, if_neg (by omega), hv]
  rintro ⟨h3, h4⟩
  rcases qds_form x with h0 | ⟨d, r, hq, hd⟩
  · rw [h0] at h3; simp at h3
  · rw [hq] at h4
    have : ((d : Nat) : Int) = 0 := h4
    omega
end Go.Proofs.YtkanjdllaikoaaaDoor

