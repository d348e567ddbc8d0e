/- What is read is, but for the letters' case, what is written of it: no program. -/
import Derived.Test.YtkanjdllaikoaaaDoorBkP
import Derived.Test.YtkanjdllaikoaaaDoorLow
set_option linter.unusedSimpArgs false
set_option linter.unusedVariables false
namespace Go.Proofs.YtkanjdllaikoaaaDoor
open Go Go.RowKit

set_option maxRecDepth 100000 in
theorem lowC_dig {c : Int} (h : 0 ≤ valOf c) : lowC c = ((dgt (valOf c).toNat).toNat : Int) ∧ valOf c < 16 := by
  have key : ∀ n : Nat, n < 103 → 0 ≤ valOf (n : Int) → lowC (n : Int) = ((dgt (valOf (n : Int)).toNat).toNat : Int) ∧ valOf (n : Int) < 16 := by decide
  have hc := digit_cases h
  obtain ⟨n, rfl⟩ : ∃ n : Nat, c = (n : Int) := ⟨c.toNat, by omega⟩
  exact key n (by omega) h
theorem withX_strI (l : List Int) (h : ByteL l) : strI (48 :: 120 :: l) = withX (strI l) := by
  rw [← withX_bytes l h, strI_bytesI]
/-- Digits as naturals. -/
def nD (v : List Int) : List Nat := v.map Int.toNat
theorem nD_len (v : List Int) : (nD v).length = v.length := by simp [nD]
theorem dI_nD {v : List Int} (h : ∀ x ∈ v, 0 ≤ x) : dI (nD v) = v := by
  unfold dI nD
  rw [List.map_map]
  conv => rhs; rw [← List.map_id v]
  refine List.map_congr_left fun x hx => ?_
  have := h x hx
  simp only [Function.comp, id]
  omega
theorem lowS_of {s : ByteArray} {v : List Int} (h : textV s = some v) : lowS s = withX ⟨((nD v).map dgt).toArray⟩ := by
  obtain ⟨r, hr1, hr2⟩ := textV_some h
  have hv := (valsL_some hr2).1
  have ha := vals_all (s := s) hr2
  have e1 : lowI r = nums ((nD v).map dgt) := by
    unfold lowI nums nD
    rw [hv, List.map_map, List.map_map, List.map_map]
    exact List.map_congr_left fun c hc => (lowC_dig (ha c hc)).1
  unfold lowS
  rw [hr1, ← strI_nums, ← withX_strI _ (nums_byte _), ← e1]
  rfl
theorem nibs_prL : ∀ (m : Nat) (v : List Int), v.length = 2 * m → Digs v → nibs (prL v m) = nD v
  | 0, v, hl, _ => by
    have : v = [] := List.eq_nil_of_length_eq_zero (by omega)
    subst this
    rfl
  | m + 1, [], hl, _ => by simp at hl
  | m + 1, [a], hl, _ => by simp at hl; omega
  | m + 1, a :: b :: r, hl, hd => by
    have ha := hd 0 (by simp)
    have hb := hd 1 (by simp)
    simp only [List.getD_cons_zero, List.getD_cons_succ] at ha hb
    rw [prL_cons2]
    show (16 * a + b).toNat / 16 :: (16 * a + b).toNat % 16 :: nibs (prL r m) = a.toNat :: b.toNat :: nD r
    rw [nibs_prL m r (by simp at hl; omega) (digs_drop hd 2)]
    congr 1
    · omega
    · congr 1
      omega
theorem hexL_prL (m : Nat) (v : List Int) (hl : v.length = 2 * m) (hd : Digs v) : hexL (prL v m) = (nD v).map dgt := by rw [hexL_nibs, nibs_prL m v hl hd]
theorem digs_mem {v : List Int} (h : Digs v) : ∀ x ∈ v, 0 ≤ x ∧ x < 16 := by
  intro x hx
  obtain ⟨i, hi, rfl⟩ := List.mem_iff_getElem.1 hx
  have := h i hi
  rw [List.getD_eq_getElem?_getD, List.getElem?_eq_getElem hi] at this
  exact this
theorem byteL_bytes {l : List Int} (h : ByteL l) : Bytes l := fun i hi => by have := h.at i hi; omega
/-- Data. -/
theorem dataP_low (s : ByteArray) : Bytes (dataP s).1 ∧ (dataP s).1.length ≤ s.size ∧ ((dataP s).2 = 0 → withX ⟨(hexL (dataP s).1).toArray⟩ = lowS s) := by
  unfold dataP
  cases hv : textV s with
  | none => exact ⟨fun i hi => absurd hi (by simp), by simp, fun h => by simp at h⟩
  | some v =>
    simp only
    by_cases ho : v.length % 2 = 1
    · rw [if_pos ho]
      exact ⟨fun i hi => absurd hi (by simp), by simp, fun h => by simp at h⟩
    · rw [if_neg ho]
      obtain ⟨r, hr1, hr2⟩ := textV_some hv
      have hdg := digs_of hr2
      have hvr : v.length = r.length := by rw [(valsL_some hr2).1, List.length_map]
      have hsz := bytesI_len s
      rw [hr1] at hsz
      simp at hsz
      refine ⟨byteL_bytes (jnL_byte v hdg), by rw [jnL_len]; omega, fun _ => ?_⟩
      rw [lowS_of hv]
      unfold jnL
      rw [if_neg ho, hexL_prL _ v (by omega) hdg]
/-- A digest. -/
theorem hashP_low (s : ByteArray) : Bytes (hashP s).1 ∧ ((hashP s).2 = 0 → withX ⟨(hexL (hashP s).1).toArray⟩ = lowS s) := by
  have hz : Bytes (List.replicate 32 (0 : Int)) := fun i hi => by
    rw [List.getD_eq_getElem?_getD, List.getElem?_eq_getElem hi, List.getElem_replicate]; simp
  unfold hashP
  cases hv : textV s with
  | none => exact ⟨hz, fun h => by simp at h⟩
  | some v =>
    simp only
    by_cases h64 : v.length = 64
    · rw [if_pos h64]
      obtain ⟨r, hr1, hr2⟩ := textV_some hv
      have hdg := digs_of hr2
      exact ⟨byteL_bytes (prL_byte v 32 (by omega) hdg), fun _ => by rw [lowS_of hv, hexL_prL 32 v h64 hdg]⟩
    · rw [if_neg h64]
      exact ⟨hz, fun h => by simp at h⟩
/-- An address. -/
theorem addrP_low (s : ByteArray) : Bytes (addrP s).1 ∧ ((addrP s).2 = 0 → lowS (withX (strI (sumL (addrP s).1))) = lowS s) := by
  have hz : Bytes (List.replicate 20 (0 : Int)) := fun i hi => by
    rw [List.getD_eq_getElem?_getD, List.getElem?_eq_getElem hi, List.getElem_replicate]; simp
  unfold addrP
  cases hv : textV s with
  | none => exact ⟨hz, fun h => by simp at h⟩
  | some v =>
    simp only
    by_cases h40 : v.length = 40
    · rw [if_pos h40]
      obtain ⟨r, hr1, hr2⟩ := textV_some hv
      have hdg := digs_of hr2
      have hB := byteL_bytes (prL_byte v 20 (by omega) hdg)
      split
      · exact ⟨hz, fun h => by simp at h⟩
      · refine ⟨hB, fun _ => ?_⟩
        rw [lowS_of hv, lowS_of (textV_sum _ hB), nibs_prL 20 v h40 hdg, dI_nD (fun x hx => (digs_mem hdg x hx).1)]
    · rw [if_neg h40]
      exact ⟨hz, fun h => by simp at h⟩
/-- So many digits of a number. -/
def dgN (n x : Nat) : List Nat := (List.range n).map fun j => nibN x (n - 1 - j)
theorem dgN_succ (n x : Nat) : dgN (n + 1) x = dgN n (x / 16) ++ [x % 16] := by
  unfold dgN
  rw [List.range_succ, List.map_append, List.map_cons, List.map_nil]
  congr 1
  · refine List.map_congr_left fun j hj => ?_
    have hj := List.mem_range.1 hj
    unfold nibN
    rw [show (16 : Nat) = 2 ^ 4 from rfl, Nat.div_div_eq_div_mul, ← Nat.pow_add]
    congr 3
    omega
  · unfold nibN; rw [show n + 1 - 1 - n = 0 by omega]; simp
theorem dgN_of : ∀ (n : Nat) (ds : List Nat), ds.length = n → (∀ d ∈ ds, d < 16) → dgN n (vN ds 0) = ds
  | 0, ds, hl, _ => by
    have : ds = [] := List.eq_nil_of_length_eq_zero hl
    subst this
    rfl
  | n + 1, ds, hl, h => by
    obtain ⟨l, d, rfl⟩ : ∃ l d, ds = l ++ [d] := by
      rcases List.eq_nil_or_concat ds with h0 | ⟨l, d, h0⟩
      · subst h0; simp at hl
      · exact ⟨l, d, by rw [h0, List.concat_eq_append]⟩
    have hd := h d (by simp)
    rw [dgN_succ, vN_snoc, show (vN l 0 * 16 + d) / 16 = vN l 0 by omega, show (vN l 0 * 16 + d) % 16 = d by omega, dgN_of n l (by simpa using hl) (fun x hx => h x (by simp [hx]))]
theorem vN_zeros : ∀ (k : Nat) (ds : List Nat), vN (List.replicate k 0 ++ ds) 0 = vN ds 0
  | 0, ds => rfl
  | k + 1, ds => by
    rw [List.replicate_succ, List.cons_append]
    exact vN_zeros k ds
theorem dW_zeros : ∀ (k : Nat) (ds : List Nat), (List.replicate k 0 ++ ds).dropWhile (· == 0) = ds.dropWhile (· == 0)
  | 0, ds => rfl
  | k + 1, ds => by
    rw [List.replicate_succ, List.cons_append, List.dropWhile_cons_of_pos (by simp)]
    exact dW_zeros k ds
theorem vN_lt : ∀ (ds : List Nat) (acc : Nat), (∀ d ∈ ds, d < 16) → vN ds acc < (acc + 1) * 16 ^ ds.length
  | [], acc, _ => by simp [vN]
  | d :: r, acc, h => by
    have hd := h d (by simp)
    have := vN_lt r (acc * 16 + d) (fun x hx => h x (by simp [hx]))
    have e : vN (d :: r) acc = vN r (acc * 16 + d) := rfl
    rw [e, List.length_cons, Nat.pow_succ, Nat.mul_comm (16 ^ r.length) 16, ← Nat.mul_assoc]
    exact Nat.lt_of_lt_of_le this (Nat.mul_le_mul_right _ (by omega))
theorem qds_of (ds : List Nat) (h : ∀ d ∈ ds, d < 16) (hl : ds.length ≤ 64) (hf : ds = [0] ∨ ∃ d r, ds = d :: r ∧ d ≠ 0) : qds (vN ds 0) = ds := by
  have hpad : dgN 64 (vN ds 0) = List.replicate (64 - ds.length) 0 ++ ds := by
    have := dgN_of 64 (List.replicate (64 - ds.length) 0 ++ ds) (by simp; omega) (fun d hd => by
      rcases List.mem_append.1 hd with h1 | h1
      · have := (List.mem_replicate.1 h1).2; omega
      · exact h d h1)
    rw [vN_zeros] at this
    exact this
  have hdw : ((List.range 64).map fun j => nibN (vN ds 0) (63 - j)).dropWhile (· == 0) = ds.dropWhile (· == 0) := by
    have : (List.range 64).map (fun j => nibN (vN ds 0) (63 - j)) = dgN 64 (vN ds 0) := rfl
    rw [this, hpad, dW_zeros]
  unfold qds
  rw [hdw]
  rcases hf with rfl | ⟨d, r, rfl, hd⟩
  · rfl
  · rw [List.dropWhile_cons_of_neg (by simpa using hd)]
    simp
/-- A quantity. -/
theorem qP_low (s : ByteArray) (most : Nat) (hm : most ≤ 64) (h : (qP s most).2 = 0) : qtyS (qP s most).1 = lowS s ∧ (qP s most).1 < 16 ^ most := by
  unfold qP at h ⊢
  cases hv : textV s with
  | none => rw [hv] at h; simp at h
  | some v =>
    rw [hv] at h
    simp only at h ⊢
    obtain ⟨r, hr1, hr2⟩ := textV_some hv
    have hdg := digs_of hr2
    have hmem := digs_mem hdg
    by_cases h0 : v.length = 0
    · rw [if_pos h0] at h; simp at h
    · rw [if_neg h0] at h ⊢
      by_cases h1 : 1 < v.length ∧ v.getD 0 0 = 0
      · rw [if_pos h1] at h; simp at h
      · rw [if_neg h1] at h ⊢
        by_cases h2 : most < v.length
        · rw [if_pos h2] at h; simp at h
        · rw [if_neg h2]
          dsimp only
          have hnd : dI (nD v) = v := dI_nD fun x hx => (hmem x hx).1
          have hval : valB 4 v = vN (nD v) 0 := by
            conv => lhs; rw [← hnd]
            exact vN_dI (nD v) 0
          have hlt : ∀ d ∈ nD v, d < 16 := by
            intro d hd
            obtain ⟨x, hx, rfl⟩ := List.mem_map.1 hd
            have := hmem x hx
            omega
          have hform : nD v = [0] ∨ ∃ d r, nD v = d :: r ∧ d ≠ 0 := by
            match v, h0, h1, hmem with
            | a :: t, _, h1, hmem =>
              have ha := hmem a (by simp)
              by_cases ha0 : a = 0
              · left
                have : t = [] := by
                  cases t with
                  | nil => rfl
                  | cons b t => exact absurd ⟨by simp, by simpa using ha0⟩ h1
                subst this
                simp [nD, ha0]
              · right
                exact ⟨a.toNat, nD t, rfl, by omega⟩
          rw [hval]
          refine ⟨?_, ?_⟩
          · unfold qtyS
            rw [qtyL_qds, qds_of _ hlt (by rw [nD_len]; omega) hform, lowS_of hv]
          · have h3 := vN_lt (nD v) 0 hlt
            rw [nD_len] at h3
            have h4 : 16 ^ v.length ≤ 16 ^ most := Nat.pow_le_pow_right (by omega) (by omega)
            omega
theorem qP_more (s : ByteArray) (h : (qP s 16).2 = 0) : qP s 64 = qP s 16 := by
  unfold qP at h ⊢
  cases hv : textV s with
  | none => rfl
  | some v =>
    rw [hv] at h
    simp only at h ⊢
    by_cases h0 : v.length = 0
    · rw [if_pos h0, if_pos h0]
    · rw [if_neg h0] at h
      rw [if_neg h0, if_neg h0]
      by_cases h1 : 1 < v.length ∧ v.getD 0 0 = 0
      · rw [if_pos h1, if_pos h1]
      · rw [if_neg h1] at h
        rw [if_neg h1, if_neg h1]
        by_cases h2 : 16 < v.length
        · rw [if_pos h2] at h; simp at h
        · rw [if_neg h2, if_neg (by omega)]
end Go.Proofs.YtkanjdllaikoaaaDoor

