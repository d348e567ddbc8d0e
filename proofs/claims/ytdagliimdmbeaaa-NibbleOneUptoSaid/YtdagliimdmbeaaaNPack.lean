/- Packed rows: what Pack comes to, and what Unpack makes of it; on lists, no program. -/
import Derived.Test.YtdagliimdmbeaaaNPure
set_option linter.unusedSimpArgs false
set_option linter.unusedVariables false
namespace Go.Proofs.Ytdagliimdmbeaaa
open Go Go.RowKit Go.Proofs.YtdagliimdmbeaaaW.PrintWords Go.Proofs.YtdagliimdmbeaaaW.PrintLast Go.Proofs.YtdagliimdmbeaaaW.PrintMore Go.Proofs.Ytdagliimdmbeaaa.Fn


/-- Pack's answer. -/
def packA (l : List Int) (leaf : Bool) : List Int × Int :=
  if fineN l = true then (if l.length % 2 = 1 then ((16 * ((if leaf then 2 else 0) + 1) + l.getD 0 0) :: keyN (l.drop 1), 0) else ((16 * (if leaf then 2 else 0)) :: keyN l, 0)) else ([], 110)
theorem fineN_drop {l : List Int} (h : fineN l = true) (n : Nat) : fineN (l.drop n) = true := by
  unfold fineN at *; rw [List.all_eq_true] at *; exact fun x hx => h x (List.mem_of_mem_drop hx)
theorem or48 (y : Int) (h2 : 0 ≤ y) (h3 : y ≤ 15) : Go.bits .or .u8 (((Go.bits .or .u8 2 1) * 16) % 256) y = 48 + y := by
  have h : ∀ b : Fin 16, Go.bits .or .u8 (((Go.bits .or .u8 2 1) * 16) % 256) (b.val : Int) = 48 + (b.val : Int) := by decide +kernel
  obtain ⟨m, rfl⟩ := Int.eq_ofNat_of_zero_le h2
  exact h ⟨m, by omega⟩
theorem or16' (y : Int) (h2 : 0 ≤ y) (h3 : y ≤ 15) : Go.bits .or .u8 (((Go.bits .or .u8 0 1) * 16) % 256) y = 16 + y := by
  have h : ∀ b : Fin 16, Go.bits .or .u8 (((Go.bits .or .u8 0 1) * 16) % 256) (b.val : Int) = 16 + (b.val : Int) := by decide +kernel
  obtain ⟨m, rfl⟩ := Int.eq_ofNat_of_zero_le h2
  exact h ⟨m, by omega⟩
theorem key_fine {l : List Int} (h : fineN l = true) (he : l.length % 2 = 0) : keyA l = (keyN l, 0) := if_pos ⟨h, he⟩
theorem rd0 (l : List Int) : rd l 0 = l.getD 0 0 := rfl
theorem pack_f (l : List Int) (leaf : Bool) (hl : l.length ≤ 140737488351232) (hb : Bytes l) (k : Nat) (hk : l.length + 1 < k) : nibble_Pack.f k l leaf = some (packA l leaf) := by
  unfold nibble_Pack.f packA
  rw [fine_f l hl k (by omega)]
  simp only [Option.bind_some]
  by_cases hf : fineN l = true
  · rw [if_pos hf, if_pos hf]
    have hkl : (keyN l).length ≤ l.length := by rw [keyN_length]; omega
    have hkd : (keyN (l.drop 1)).length ≤ l.length := by rw [keyN_length, List.length_drop]; omega
    by_cases ho : l.length % 2 = 1
    · have h0 : 0 ≤ l.getD 0 0 ∧ l.getD 0 0 ≤ 15 := by
        cases l with
        | nil => simp at ho
        | cons x r => exact ⟨(hb x List.mem_cons_self).1, fineN_at hf x List.mem_cons_self⟩
      have hkk : nibble_Key.f k (l.drop 1) = some (keyN (l.drop 1), 0) := by
        rw [key_f (l.drop 1) (by simp; omega) (hb.drop 1) k (by simp; omega), key_fine (fineN_drop hf 1) (by simp; omega)]
      rw [if_pos ho, hkk, rd0, or48 _ h0.1 h0.2, or16' _ h0.1 h0.2]
      cases leaf
      · simp only [Bool.false_eq_true, if_false, Option.bind_some]
        rw [if_pos (by omega), if_pos (by omega), if_pos (by omega), if_pos (by simp only [List.nil_append, List.length_cons, List.length_nil]; omega)]; simp
      · simp only [if_true, Option.bind_some]
        rw [if_pos (by omega), if_pos (by omega), if_pos (by omega), if_pos (by simp only [List.nil_append, List.length_cons, List.length_nil]; omega)]; simp
    · have hkk : nibble_Key.f k l = some (keyN l, 0) := by rw [key_f l hl hb k (by omega), key_fine hf (by omega)]
      rw [if_neg ho, hkk]
      cases leaf
      · simp only [Bool.false_eq_true, if_false, Option.bind_some]
        rw [if_neg (by omega), if_pos (by simp only [List.nil_append, List.length_cons, List.length_nil]; omega)]; simp
      · simp only [if_true, Option.bind_some]
        rw [if_neg (by omega), if_pos (by simp only [List.nil_append, List.length_cons, List.length_nil]; omega)]; simp
  · rw [if_neg hf, if_neg hf]
theorem rpack_f (l : List Int) (leaf : Bool) (hl : l.length ≤ 140737488351232) (hb : Bytes l) (k : Nat) (hk : l.length + 1 < k) : waybillref11_Pack.f k l leaf = some (packA l leaf) := by
  unfold waybillref11_Pack.f packA
  rw [rfine_f l hl k (by omega)]
  simp only [Option.bind_some]
  by_cases hf : fineN l = true
  · rw [if_pos hf, if_pos hf]
    have hkl : (keyN l).length ≤ l.length := by rw [keyN_length]; omega
    have hkd : (keyN (l.drop 1)).length ≤ l.length := by rw [keyN_length, List.length_drop]; omega
    by_cases ho : l.length % 2 = 1
    · have h0 : 0 ≤ l.getD 0 0 ∧ l.getD 0 0 ≤ 15 := by
        cases l with
        | nil => simp at ho
        | cons x r => exact ⟨(hb x List.mem_cons_self).1, fineN_at hf x List.mem_cons_self⟩
      have hkk : waybillref11_Key.f k (l.drop 1) = some (keyN (l.drop 1), 0) := by
        rw [rkey_f (l.drop 1) (by simp; omega) (hb.drop 1) k (by simp; omega), key_fine (fineN_drop hf 1) (by simp; omega)]
      rw [if_pos ho, hkk, rd0, show (48 + l.getD 0 0) % 256 = 48 + l.getD 0 0 by omega, show (16 + l.getD 0 0) % 256 = 16 + l.getD 0 0 by omega]
      cases leaf
      · simp only [Bool.false_eq_true, if_false, Option.bind_some]
        rw [if_pos (by omega), if_pos (by omega), if_pos (by simp), if_pos (by omega), if_pos (by simp only [List.nil_append, List.length_cons, List.length_nil]; omega)]; simp
      · simp only [if_true, Option.bind_some]
        rw [if_pos (by omega), if_pos (by omega), if_pos (by simp), if_pos (by omega), if_pos (by simp only [List.nil_append, List.length_cons, List.length_nil]; omega)]; simp
    · have hkk : waybillref11_Key.f k (l.drop 0) = some (keyN l, 0) := by rw [List.drop_zero, rkey_f l hl hb k (by omega), key_fine hf (by omega)]
      rw [if_neg ho, hkk]
      cases leaf
      · simp only [Bool.false_eq_true, if_false, Option.bind_some]
        rw [if_neg (by omega), if_pos (by simp), if_pos (by omega), if_pos (by simp only [List.nil_append, List.length_cons, List.length_nil]; omega)]; simp
      · simp only [if_true, Option.bind_some]
        rw [if_neg (by omega), if_pos (by simp), if_pos (by omega), if_pos (by simp only [List.nil_append, List.length_cons, List.length_nil]; omega)]; simp
  · rw [if_neg hf, if_neg hf]
theorem packA_len (l : List Int) (leaf : Bool) : (packA l leaf).1.length ≤ l.length / 2 + 1 := by
  unfold packA; split
  · split
    · simp [keyN_length]; omega
    · simp [keyN_length]
  · simp
/-- Each element modulo 16. -/
def rowN (l : List Int) : List Int := l.map (· % 16)
theorem row_l0 (l : List Int) (hl : l.length ≤ 140737488351232) (hb : Bytes l) : ∀ (d k i : Nat) (m : List Int), l.drop i = m → m.length = d → d < k → waybilllaw11_row.l0 k l (rowN (l.take i) ++ List.replicate d 0) (i : Int) = some (rowN l)
  | 0, k, i, m, hm, hd, hk => by
    obtain ⟨k, rfl⟩ : ∃ q, k = q + 1 := ⟨k - 1, by omega⟩
    obtain rfl := List.eq_nil_of_length_eq_zero hd
    have := drop_nil hm
    simp only [waybilllaw11_row.l0]; rw [if_neg (by omega), List.take_of_length_le this]; simp
  | d + 1, k, i, x :: r, hm, hd, hk => by
    obtain ⟨k, rfl⟩ : ∃ q, k = q + 1 := ⟨k - 1, by omega⟩
    have hlt := drop_lt hm
    have hx := hb x (List.mem_of_mem_drop (i := i) (by rw [hm]; exact List.mem_cons_self))
    have ih := row_l0 l hl hb d k (i + 1) r (drop_next hm) (by simpa using hd) (by omega)
    have hli : l[i] = x := by
      have h2 := congrArg (fun m => m[0]?) hm
      simpa [List.getElem?_drop, hlt] using h2
    simp only [waybilllaw11_row.l0]
    have hlen : (rowN (l.take i)).length = i := by simp [rowN]; omega
    rw [if_pos (by omega), if_pos (by omega), if_pos (by simp [hlen]; omega), rd_cons hm, wrap_s i (by omega), tm16 x hx.1, Int.toNat_natCast]
    have e : (rowN (l.take i) ++ List.replicate (d + 1) 0).set i (x % 16) = rowN (l.take (i + 1)) ++ List.replicate d 0 := by
      rw [List.set_append_right _ _ (by omega), hlen, Nat.sub_self, List.replicate_succ, List.set_cons_zero, List.take_succ_eq_append_getElem hlt, hli]
      simp [rowN]
    rw [e, ih]
theorem row_f (l : List Int) (hl : l.length ≤ 140737488351232) (hb : Bytes l) (k : Nat) (hk : l.length < k) : waybilllaw11_row.f k l = some (rowN l) := by
  have := row_l0 l hl hb l.length k 0 l rfl rfl hk
  unfold waybilllaw11_row.f
  rw [if_pos (by omega), if_pos (by omega), Int.toNat_natCast]
  simpa [rowN] using this
theorem rowN_nib (l : List Int) : ∀ x ∈ rowN l, 0 ≤ x ∧ x ≤ 15 := by intro x hx; simp [rowN] at hx; obtain ⟨y, _, rfl⟩ := hx; omega
theorem rowN_bytes (l : List Int) : Bytes (rowN l) := fun x hx => by have := rowN_nib l x hx; omega
theorem rowN_fine (l : List Int) : fineN (rowN l) = true := by
  unfold fineN; rw [List.all_eq_true]; intro x hx; have := rowN_nib l x hx; simpa using this.2
theorem rowN_len (l : List Int) : (rowN l).length = l.length := by simp [rowN]
theorem packA_bytes (m : List Int) (leaf : Bool) (hn : ∀ x ∈ m, 0 ≤ x ∧ x ≤ 15) : Bytes (packA m leaf).1 := by
  unfold packA; split
  · split
    · rename_i ho
      have h0 : 0 ≤ m.getD 0 0 ∧ m.getD 0 0 ≤ 15 := by
        cases m with
        | nil => simp at ho
        | cons x r => exact hn x List.mem_cons_self
      have hk := keyN_bytes (m.drop 1) (fun x hx => hn x (List.mem_of_mem_drop hx))
      intro x hx
      simp only [List.mem_cons] at hx
      rcases hx with rfl | hx
      · cases leaf
        · simp only [Bool.false_eq_true, if_false]; omega
        · simp only [if_true]; omega
      · exact hk x hx
    · have hk := keyN_bytes m hn
      intro x hx
      simp only [List.mem_cons] at hx
      rcases hx with rfl | hx
      · cases leaf <;> simp
      · exact hk x hx
  · simp [Bytes]
/-- What is packed is unpacked again. -/
theorem unp_pack (m : List Int) (leaf : Bool) (hn : ∀ x ∈ m, 0 ≤ x ∧ x ≤ 15) : unpA (packA m leaf).1 = (m, leaf, 0) := by
  have hf : fineN m = true := by unfold fineN; rw [List.all_eq_true]; intro x hx; simpa using (hn x hx).2
  unfold packA
  rw [if_pos hf]
  by_cases ho : m.length % 2 = 1
  · rw [if_pos ho]
    cases m with
    | nil => simp at ho
    | cons x r =>
      have hx := hn x List.mem_cons_self
      have hk := ofN_keyN r (fun y hy => hn y (List.mem_cons_of_mem _ hy)) (by simp at ho; omega)
      simp only [unpA, List.getD_cons_zero, List.drop_succ_cons, List.drop_zero, hk]
      cases leaf
      · simp only [Bool.false_eq_true, if_false]
        rw [if_neg (by omega), if_pos (by omega)]
        simp; omega
      · simp only [if_true]
        rw [if_neg (by omega), if_pos (by omega)]
        simp; omega
  · rw [if_neg ho]
    have hk := ofN_keyN m hn (by omega)
    simp only [unpA, hk]
    cases leaf
    · simp
    · simp
/-- What is unpacked is packed again to itself. -/
theorem pack_unp (d : List Int) (hb : Bytes d) (h : (unpA d).2.2 = 0) : packA (unpA d).1 (unpA d).2.1 = (d, 0) ∧ (∀ x ∈ (unpA d).1, 0 ≤ x ∧ x ≤ 15) := by
  cases d with
  | nil => simp [unpA] at h
  | cons x r =>
    have hx := hb x List.mem_cons_self
    have hr := ofN_bytes r hb.tail
    have hlen := ofN_length r
    have hkey := keyN_ofN r
    have hfr : fineN (ofN r) = true := by unfold fineN; rw [List.all_eq_true]; intro y hy; simpa using (hr y hy).2
    unfold unpA at *
    simp only at h ⊢
    by_cases h64 : 64 ≤ x
    · rw [if_pos h64] at h; simp at h
    · rw [if_neg h64] at h ⊢
      by_cases ho : x / 16 % 2 = 1
      · rw [if_pos ho]
        have hf : fineN (x % 16 :: ofN r) = true := by
          have : x % 16 ≤ 15 := by omega
          unfold fineN at *; simp only [List.all_cons, hfr, Bool.and_true]; simpa using this
        refine ⟨?_, ?_⟩
        · unfold packA
          rw [if_pos hf, if_pos (by simp only [List.length_cons, hlen]; omega)]
          simp only [List.getD_cons_zero, List.drop_succ_cons, List.drop_zero, hkey]
          by_cases h2 : 2 ≤ x / 16
          · simp [h2]; omega
          · simp [h2]; omega
        · intro y hy
          simp only [List.mem_cons] at hy
          rcases hy with rfl | hy
          · omega
          · exact hr y hy
      · rw [if_neg ho] at h ⊢
        by_cases h0 : x % 16 = 0
        · rw [if_pos h0]
          refine ⟨?_, hr⟩
          unfold packA
          rw [if_pos hfr, if_neg (by rw [hlen]; omega)]
          simp only [hkey]
          by_cases h2 : 2 ≤ x / 16
          · simp [h2]; (try omega)
          · simp [h2]; (try omega)
        · rw [if_neg h0] at h; simp at h
/-- What is not unpacked is packed of no row; its answer is empty. -/
theorem unp_fail (d : List Int) (h : (unpA d).2.2 ≠ 0) : (unpA d).1 = [] ∧ (unpA d).2.1 = false := by
  unfold unpA at *
  split at h
  · exact ⟨rfl, rfl⟩
  · rename_i x r
    by_cases h64 : 64 ≤ x
    · rw [if_pos h64]; exact ⟨rfl, rfl⟩
    · rw [if_neg h64] at h ⊢
      by_cases ho : x / 16 % 2 = 1
      · rw [if_pos ho] at h; simp at h
      · rw [if_neg ho] at h ⊢
        by_cases h0 : x % 16 = 0
        · rw [if_pos h0] at h; simp at h
        · rw [if_neg h0]; exact ⟨rfl, rfl⟩
end Go.Proofs.Ytdagliimdmbeaaa
