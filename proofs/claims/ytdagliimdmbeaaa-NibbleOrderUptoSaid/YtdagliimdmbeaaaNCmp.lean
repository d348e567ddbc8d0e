/- The order of lists: Common and Compare; no program. -/
import Derived.Test.YtdagliimdmbeaaaNPure
set_option linter.unusedSimpArgs false
set_option linter.unusedVariables false
namespace Go.Proofs.Ytdagliimdmbeaaa
open Go Go.RowKit Go.Proofs.YtdagliimdmbeaaaW.PrintWords Go.Proofs.YtdagliimdmbeaaaW.PrintLast Go.Proofs.YtdagliimdmbeaaaW.PrintMore Go.Proofs.Ytdagliimdmbeaaa.Fn

/-- With how many equal elements two lists begin. -/
def comN : List Int → List Int → Nat
  | x :: r, y :: s => if x = y then comN r s + 1 else 0
  | _, _ => 0
theorem comN_le : ∀ a b : List Int, comN a b ≤ a.length ∧ comN a b ≤ b.length
  | x :: r, y :: s => by
    unfold comN; split
    · have := comN_le r s; simp; omega
    · simp
  | [], b => by simp [comN]
  | x :: r, [] => by simp [comN]
theorem comN_at : ∀ a b : List Int, comN a b < a.length → comN a b < b.length → a.getD (comN a b) 0 ≠ b.getD (comN a b) 0
  | x :: r, y :: s, h1, h2 => by
    unfold comN at *; split
    · rename_i h; rw [if_pos h] at h1 h2; simp only [List.length_cons] at h1 h2
      simpa using comN_at r s (by omega) (by omega)
    · rename_i h; simpa using h
  | [], b, h, _ => by simp [comN] at h
  | x :: r, [], _, h => by simp [comN] at h
theorem com_l0 (a b : List Int) (hl : a.length ≤ 140737488351232) : ∀ (d k i : Nat) (m n : List Int), a.drop i = m → b.drop i = n → m.length = d → d < k → nibble_common_byte.l0 k a b (i : Int) = some ((i + comN m n : Nat) : Int)
  | 0, k, i, m, n, hm, hn, hd, hk => by
    obtain ⟨k, rfl⟩ : ∃ q, k = q + 1 := ⟨k - 1, by omega⟩
    obtain rfl := List.eq_nil_of_length_eq_zero hd
    have := drop_nil hm
    simp only [nibble_common_byte.l0]; rw [if_neg (by omega)]; simp [comN]
  | d + 1, k, i, [], n, hm, hn, hd, hk => by simp at hd
  | d + 1, k, i, x :: r, [], hm, hn, hd, hk => by
    obtain ⟨k, rfl⟩ : ∃ q, k = q + 1 := ⟨k - 1, by omega⟩
    have h1 := drop_lt hm; have h2 := drop_nil hn
    simp only [nibble_common_byte.l0]; rw [if_pos (by omega), if_neg (by omega)]; simp [comN]
  | d + 1, k, i, x :: r, y :: s, hm, hn, hd, hk => by
    obtain ⟨k, rfl⟩ : ∃ q, k = q + 1 := ⟨k - 1, by omega⟩
    have hlt := drop_lt hm; have hlt2 := drop_lt hn
    have ih := com_l0 a b hl d k (i + 1) r s (drop_next hm) (drop_next hn) (by simpa using hd) (by omega)
    simp only [nibble_common_byte.l0]
    rw [if_pos (by omega), if_pos (by omega), if_pos (by omega), rd_cons hm, rd_cons hn, wrap_s i (by omega), ih]
    by_cases h : x = y
    · rw [if_pos h]; simp [comN, h]; omega
    · rw [if_neg h]; simp [comN, h]
theorem rcom_l0 (a b : List Int) (hl : a.length ≤ 140737488351232) : ∀ (d k i : Nat) (m n : List Int), a.drop i = m → b.drop i = n → m.length = d → d < k → waybillref11_Common.l0 k a b (i : Int) = some ((i + comN m n : Nat) : Int)
  | 0, k, i, m, n, hm, hn, hd, hk => by
    obtain ⟨k, rfl⟩ : ∃ q, k = q + 1 := ⟨k - 1, by omega⟩
    obtain rfl := List.eq_nil_of_length_eq_zero hd
    have := drop_nil hm
    simp only [waybillref11_Common.l0]; rw [if_neg (by omega)]; simp [comN]
  | d + 1, k, i, [], n, hm, hn, hd, hk => by simp at hd
  | d + 1, k, i, x :: r, [], hm, hn, hd, hk => by
    obtain ⟨k, rfl⟩ : ∃ q, k = q + 1 := ⟨k - 1, by omega⟩
    have h1 := drop_lt hm; have h2 := drop_nil hn
    simp only [waybillref11_Common.l0]; rw [if_pos (by omega), if_neg (by omega)]; simp [comN]
  | d + 1, k, i, x :: r, y :: s, hm, hn, hd, hk => by
    obtain ⟨k, rfl⟩ : ∃ q, k = q + 1 := ⟨k - 1, by omega⟩
    have hlt := drop_lt hm; have hlt2 := drop_lt hn
    have ih := rcom_l0 a b hl d k (i + 1) r s (drop_next hm) (drop_next hn) (by simpa using hd) (by omega)
    simp only [waybillref11_Common.l0]
    rw [if_pos (by omega), if_pos (by omega), if_pos (by omega), rd_cons hm, rd_cons hn, wrap_s i (by omega), ih]
    by_cases h : x = y
    · rw [if_pos h]; simp [comN, h]; omega
    · rw [if_neg h]; simp [comN, h]
theorem com_f (a b : List Int) (hl : a.length ≤ 140737488351232) (k : Nat) (hk : a.length < k) : nibble_common_byte.f k a b = some (comN a b : Int) := by
  have := com_l0 a b hl a.length k 0 a b rfl rfl rfl hk
  unfold nibble_common_byte.f; simpa using this
theorem rcom_f (a b : List Int) (hl : a.length ≤ 140737488351232) (k : Nat) (hk : a.length < k) : waybillref11_Common.f k a b = some (comN a b : Int) := by
  have := rcom_l0 a b hl a.length k 0 a b rfl rfl rfl hk
  unfold waybillref11_Common.f; simpa using this
/-- Which list comes first. -/
def cmpN (a b : List Int) : Int :=
  if comN a b = a.length ∨ comN a b = b.length then (if a.length < b.length then -1 else if b.length < a.length then 1 else 0)
  else if a.getD (comN a b) 0 < b.getD (comN a b) 0 then -1 else 1
theorem cmpI_f (x y : Int) : cmp_Compare_int.f x y = some (if x < y then -1 else if y < x then 1 else 0) := by
  unfold cmp_Compare_int.f cmp_isNaN_int.f
  simp
  split
  · rfl
  · split <;> rfl
theorem cmpB_f (x y : Int) : cmp_Compare_byte.f x y = some (if x < y then -1 else if y < x then 1 else 0) := by
  unfold cmp_Compare_byte.f cmp_isNaN_byte.f
  simp
  split
  · rfl
  · split <;> rfl
theorem j0_yes (k : Nat) (a b : List Int) (x : Int) : nibble_compare_byte.j0 (k + 1) a b x true = some (if (a.length : Int) < b.length then -1 else if (b.length : Int) < a.length then 1 else 0) := by
  simp only [nibble_compare_byte.j0, if_true, cmpI_f, Option.bind_some]
theorem j0_no (k : Nat) (a b : List Int) (x : Int) (h0 : 0 ≤ x) (h1 : x < a.length) (h2 : x < b.length) : nibble_compare_byte.j0 (k + 1) a b x false = some (if rd a x < rd b x then -1 else if rd b x < rd a x then 1 else 0) := by
  simp only [nibble_compare_byte.j0]
  rw [if_neg (by simp), if_pos h0, if_pos h1, if_pos h2, cmpB_f]
  rfl
theorem cmp_f (a b : List Int) (hl : a.length ≤ 140737488351232) (k : Nat) (hk : a.length < k) : nibble_Compare.f k a b = some (cmpN a b) := by
  have hle := comN_le a b
  unfold nibble_Compare.f nibble_compare_byte.f cmpN
  rw [com_f a b hl k hk]
  obtain ⟨k, rfl⟩ : ∃ q, k = q + 1 := ⟨k - 1, by omega⟩
  simp only [Option.bind_some]
  by_cases h1 : comN a b = a.length
  · rw [if_pos (by omega), j0_yes, if_pos (Or.inl h1)]
    simp
  · rw [if_neg (by omega)]
    by_cases h2 : comN a b = b.length
    · have e : (((comN a b : Nat) : Int) == (b.length : Int)) = true := by rw [beq_iff_eq]; omega
      rw [e, j0_yes, if_pos (Or.inr h2)]
      simp
    · have e : (((comN a b : Nat) : Int) == (b.length : Int)) = false := by rw [beq_eq_false_iff_ne]; omega
      have hne := comN_at a b (by omega) (by omega)
      have hno : ¬ (comN a b = a.length ∨ comN a b = b.length) := fun h => h.elim h1 h2
      rw [if_neg hno, e, j0_no _ _ _ _ (by omega) (by omega) (by omega)]
      rw [show rd a ((comN a b : Nat) : Int) = a.getD (comN a b) 0 from rfl, show rd b ((comN a b : Nat) : Int) = b.getD (comN a b) 0 from rfl]
      simp only [Option.bind_some]
      congr 1
      split <;> first | rfl | omega | (split <;> first | rfl | omega)
theorem rj_yes (k : Nat) (a b : List Int) (x : Int) : waybillref11_Compare.j0 (k + 1) a b x true = some 0 := by simp [waybillref11_Compare.j0]
theorem rj_no (k : Nat) (a b : List Int) (x : Int) (h0 : 0 ≤ x) (h1 : x ≤ a.length) (h2 : x ≤ b.length) (h3 : x < a.length ∨ x < b.length) : waybillref11_Compare.j0 (k + 1) a b x false = some (if x = a.length then -1 else if x = b.length then 1 else if rd a x < rd b x then -1 else 1) := by
  simp only [waybillref11_Compare.j0]
  rw [if_neg (by simp)]
  by_cases e1 : x = a.length
  · rw [if_pos e1, if_pos e1]
  · rw [if_neg e1, if_neg e1]
    by_cases e2 : x = b.length
    · rw [if_neg (by omega), if_pos e2]
    · rw [if_pos (by omega), if_pos h0, if_pos (by omega), if_neg e2]
      split <;> rfl
theorem rcmp_f (a b : List Int) (hl : a.length ≤ 140737488351232) (k : Nat) (hk : a.length < k) : waybillref11_Compare.f k a b = some (cmpN a b) := by
  have hle := comN_le a b
  unfold waybillref11_Compare.f cmpN
  rw [rcom_f a b hl k hk]
  obtain ⟨k, rfl⟩ : ∃ q, k = q + 1 := ⟨k - 1, by omega⟩
  simp only [Option.bind_some]
  by_cases h1 : comN a b = a.length
  · rw [if_pos (by omega), if_pos (Or.inl h1)]
    by_cases h2 : comN a b = b.length
    · have e : (((comN a b : Nat) : Int) == (b.length : Int)) = true := by rw [beq_iff_eq]; omega
      rw [e, rj_yes, if_neg (by omega), if_neg (by omega)]
    · have e : (((comN a b : Nat) : Int) == (b.length : Int)) = false := by rw [beq_eq_false_iff_ne]; omega
      rw [e, rj_no _ _ _ _ (by omega) (by omega) (by omega) (by omega), if_pos (by omega), if_pos (by omega)]
  · rw [if_neg (by omega), rj_no _ _ _ _ (by omega) (by omega) (by omega) (by omega), if_neg (by omega)]
    by_cases h2 : comN a b = b.length
    · rw [if_pos (by omega), if_pos (Or.inr h2), if_neg (by omega), if_pos (by omega)]
    · have hno : ¬ (comN a b = a.length ∨ comN a b = b.length) := fun h => h.elim h1 h2
      rw [if_neg (by omega), if_neg hno]
      rfl


/-- The order of lists, by their first elements. -/
def lexN : List Int → List Int → Int
  | [], [] => 0
  | [], _ :: _ => -1
  | _ :: _, [] => 1
  | x :: r, y :: s => if x < y then -1 else if y < x then 1 else lexN r s
theorem cmpN_lex : ∀ a b, cmpN a b = lexN a b
  | [], [] => by simp [cmpN, comN, lexN]
  | [], y :: s => by simp [cmpN, comN, lexN]
  | x :: r, [] => by simp [cmpN, comN, lexN]
  | x :: r, y :: s => by
    have ih := cmpN_lex r s
    by_cases h : x = y
    · subst h
      simp only [lexN, Int.lt_irrefl, if_false]
      rw [← ih]
      unfold cmpN
      have e : comN (x :: r) (x :: s) = comN r s + 1 := by simp [comN]
      simp [e]
    · have e : comN (x :: r) (y :: s) = 0 := by simp [comN, h]
      unfold cmpN lexN
      rw [e]
      simp only [List.length_cons, List.getD_cons_zero]
      rw [if_neg (by omega)]
      by_cases h2 : x < y
      · rw [if_pos h2, if_pos h2]
      · rw [if_neg h2, if_neg h2, if_pos (by omega)]
theorem lex_bd : ∀ a b, lexN a b = -1 ∨ lexN a b = 0 ∨ lexN a b = 1
  | [], [] => by simp [lexN]
  | [], _ :: _ => by simp [lexN]
  | _ :: _, [] => by simp [lexN]
  | x :: r, y :: s => by
    unfold lexN; split
    · simp
    · split
      · simp
      · exact lex_bd r s
theorem lex_anti : ∀ a b, lexN b a = - lexN a b
  | [], [] => by simp [lexN]
  | [], _ :: _ => by simp [lexN]
  | _ :: _, [] => by simp [lexN]
  | x :: r, y :: s => by
    have ih := lex_anti r s
    simp only [lexN]
    by_cases h1 : x < y
    · simp only [if_pos h1, if_neg (show ¬ y < x by omega)]; rfl
    · by_cases h2 : y < x
      · simp only [if_pos h2, if_neg h1]
      · simp only [if_neg h1, if_neg h2]; exact ih
theorem lex_zero : ∀ a b, lexN a b = 0 ↔ a = b
  | [], [] => by simp [lexN]
  | [], _ :: _ => by simp [lexN]
  | _ :: _, [] => by simp [lexN]
  | x :: r, y :: s => by
    have ih := lex_zero r s
    simp only [lexN, List.cons.injEq]
    by_cases h1 : x < y
    · rw [if_pos h1]; constructor
      · intro h; omega
      · intro h; omega
    · by_cases h2 : y < x
      · rw [if_neg h1, if_pos h2]; constructor
        · intro h; omega
        · intro h; omega
      · rw [if_neg h1, if_neg h2, ih]
        constructor
        · intro h; exact ⟨by omega, h⟩
        · intro h; exact h.2
theorem lex_trans : ∀ a b c, lexN a b ≤ 0 → lexN b c ≤ 0 → lexN a c ≤ 0
  | [], _, [], _, _ => by simp [lexN]
  | [], _, _ :: _, _, _ => by simp [lexN]
  | _ :: _, [], _, h, _ => by simp [lexN] at h
  | _ :: _, _ :: _, [], _, h => by simp [lexN] at h
  | x :: r, y :: s, z :: t, h1, h2 => by
    have ih := lex_trans r s t
    simp only [lexN] at *
    by_cases a1 : x < y
    · by_cases b1 : y < z
      · rw [if_pos (by omega)]; omega
      · rw [if_neg b1] at h2
        by_cases b2 : z < y
        · rw [if_pos b2] at h2; omega
        · rw [if_pos (by omega)]; omega
    · rw [if_neg a1] at h1
      by_cases a2 : y < x
      · rw [if_pos a2] at h1; omega
      · rw [if_neg a2] at h1
        by_cases b1 : y < z
        · rw [if_pos (by omega)]; omega
        · rw [if_neg b1] at h2
          by_cases b2 : z < y
          · rw [if_pos b2] at h2; omega
          · rw [if_neg b2] at h2
            rw [if_neg (by omega), if_neg (by omega)]
            exact ih h1 h2
theorem lex_trans' (a b c : List Int) (h1 : 0 ≤ lexN a b) (h2 : 0 ≤ lexN b c) : 0 ≤ lexN a c := by
  have e1 := lex_anti a b; have e2 := lex_anti b c; have e3 := lex_anti a c
  have := lex_trans c b a (by omega) (by omega)
  omega
theorem lex_of : ∀ a b, Bytes a → Bytes b → lexN (ofN a) (ofN b) = lexN a b
  | [], [], _, _ => by simp [lexN, ofN]
  | [], _ :: _, _, _ => by simp [lexN, ofN]
  | _ :: _, [], _, _ => by simp [lexN, ofN]
  | x :: r, y :: s, ha, hb => by
    have ih := lex_of r s ha.tail hb.tail
    have hx := ha x List.mem_cons_self; have hy := hb y List.mem_cons_self
    simp only [lexN, ofN]
    rw [ih]
    by_cases h1 : x < y
    · rw [if_pos h1]
      by_cases h3 : x / 16 < y / 16
      · rw [if_pos h3]
      · rw [if_neg h3, if_neg (by omega), if_pos (by omega)]
    · rw [if_neg h1]
      by_cases h2 : y < x
      · rw [if_pos h2, if_neg (by omega)]
        by_cases h3 : y / 16 < x / 16
        · rw [if_pos h3]
        · rw [if_neg h3, if_neg (by omega), if_pos (by omega)]
      · rw [if_neg h2, if_neg (by omega), if_neg (by omega), if_neg (by omega), if_neg (by omega)]
theorem com_of : ∀ a b, Bytes a → Bytes b → comN (ofN a) (ofN b) = 2 * comN a b ∨ comN (ofN a) (ofN b) = 2 * comN a b + 1
  | [], [], _, _ => by simp [comN, ofN]
  | [], _ :: _, _, _ => by simp [comN, ofN]
  | _ :: _, [], _, _ => by simp [comN, ofN]
  | x :: r, y :: s, ha, hb => by
    have ih := com_of r s ha.tail hb.tail
    simp only [comN, ofN]
    by_cases h : x = y
    · subst h; rw [if_pos rfl, if_pos rfl, if_pos rfl]; omega
    · rw [if_neg h]
      by_cases h3 : x / 16 = y / 16
      · rw [if_pos h3, if_neg (by omega)]; omega
      · rw [if_neg h3]; omega
theorem com_take : ∀ a b : List Int, a.take (comN a b) = b.take (comN a b)
  | x :: r, y :: s => by
    have ih := com_take r s
    simp only [comN]
    by_cases h : x = y
    · subst h; rw [if_pos rfl]; simp [ih]
    · rw [if_neg h]; simp
  | [], b => by simp [comN]
  | x :: r, [] => by simp [comN]
end Go.Proofs.Ytdagliimdmbeaaa
