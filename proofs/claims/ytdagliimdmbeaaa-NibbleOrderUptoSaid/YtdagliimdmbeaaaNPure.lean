/- What the printed functions of the nibbles come to, on lists: no program. -/
import Derived.Test.YtdagliimdmbeaaaFnx
set_option linter.unusedSimpArgs false
set_option linter.unusedVariables false
namespace Go.Proofs.Ytdagliimdmbeaaa
open Go Go.RowKit Go.Proofs.YtdagliimdmbeaaaW.PrintWords Go.Proofs.YtdagliimdmbeaaaW.PrintLast Go.Proofs.YtdagliimdmbeaaaW.PrintMore Go.Proofs.Ytdagliimdmbeaaa.Fn

def Bytes (l : List Int) : Prop := ∀ x ∈ l, 0 ≤ x ∧ x ≤ 255
theorem Bytes.drop {l : List Int} (h : Bytes l) (n : Nat) : Bytes (l.drop n) := fun x hx => h x (List.mem_of_mem_drop hx)
theorem Bytes.tail {x : Int} {l : List Int} (h : Bytes (x :: l)) : Bytes l := fun y hy => h y (List.mem_cons_of_mem _ hy)
theorem Bytes.append {l m : List Int} (h : Bytes l) (k : Bytes m) : Bytes (l ++ m) := fun x hx => (List.mem_append.1 hx).elim (h x) (k x)
theorem rd_cons {l : List Int} {i : Nat} {x : Int} {r : List Int} (h : l.drop i = x :: r) : rd l (i : Int) = x := by
  unfold rd
  have : l[i]? = some x := by
    have h2 := congrArg (fun m => m[0]?) h
    simpa [List.getElem?_drop] using h2
  simp [List.getD_eq_getElem?_getD, this]
theorem drop_next {l : List Int} {i : Nat} {x : Int} {r : List Int} (h : l.drop i = x :: r) : l.drop (i + 1) = r := by
  rw [← List.drop_drop, h]; rfl
theorem drop_lt {l : List Int} {i : Nat} {x : Int} {r : List Int} (h : l.drop i = x :: r) : i < l.length := by
  have := congrArg List.length h
  simp at this; omega
theorem drop_nil {l : List Int} {i : Nat} (h : l.drop i = []) : l.length ≤ i := by simpa using h
theorem wrap_s (i : Nat) (h : i < 140737488355328) : wrap64 ((i : Int) + 1) = ((i + 1 : Nat) : Int) := by unfold wrap64; omega
theorem wrap_ss (i : Nat) (h : i < 140737488355328) : wrap64 ((i : Int) + 2) = ((i + 2 : Nat) : Int) := by unfold wrap64; omega
theorem and15 (x : Int) (h0 : 0 ≤ x) (h1 : x ≤ 255) : Go.bits .and .u8 x 15 = x % 16 := by
  have h : ∀ y : Fin 256, Go.bits .and .u8 (y.val : Int) 15 = (y.val : Int) % 16 := by decide +kernel
  obtain ⟨n, rfl⟩ := Int.eq_ofNat_of_zero_le h0
  exact h ⟨n, by omega⟩
theorem or16 (x y : Int) (h0 : 0 ≤ x) (h1 : x ≤ 15) (h2 : 0 ≤ y) (h3 : y ≤ 15) : Go.bits .or .u8 ((x * 16) % 256) y = 16 * x + y := by
  have h : ∀ a b : Fin 16, Go.bits .or .u8 (((a.val : Int) * 16) % 256) (b.val : Int) = 16 * (a.val : Int) + (b.val : Int) := by decide +kernel
  obtain ⟨n, rfl⟩ := Int.eq_ofNat_of_zero_le h0
  obtain ⟨m, rfl⟩ := Int.eq_ofNat_of_zero_le h2
  exact h ⟨n, by omega⟩ ⟨m, by omega⟩

theorem td16 (x : Int) (h0 : 0 ≤ x) (h1 : x ≤ 255) : (Int.tdiv x 16) % 256 = x / 16 := by rw [Int.tdiv_eq_ediv_of_nonneg h0]; omega
theorem tm16 (x : Int) (h0 : 0 ≤ x) : Int.tmod x 16 = x % 16 := Int.tmod_eq_emod_of_nonneg h0
/-- The nibbles of a key. -/
def ofN : List Int → List Int
  | [] => []
  | b :: r => b / 16 :: b % 16 :: ofN r
theorem ofN_length : ∀ l, (ofN l).length = 2 * l.length
  | [] => rfl
  | b :: r => by simp [ofN, ofN_length r]; omega
theorem ofN_bytes : ∀ l, Bytes l → ∀ x ∈ ofN l, 0 ≤ x ∧ x ≤ 15
  | [], _ => by simp [ofN]
  | b :: r, h => by
    have hb := h b List.mem_cons_self
    intro x hx
    simp only [ofN, List.mem_cons] at hx
    rcases hx with rfl | rfl | hx
    · omega
    · omega
    · exact ofN_bytes r h.tail x hx
theorem of_l0 (l : List Int) (hl : l.length ≤ 1048576) (hb : Bytes l) : ∀ (d k i : Nat) (acc m : List Int), l.drop i = m → m.length = d → d < k → acc.length + 2 * d ≤ 140737488350000 →
    nibble_Of.l0 k acc l (l.length : Int) (i : Int) = some (acc ++ ofN m)
  | 0, k, i, acc, m, hm, hd, hk, ha => by
    obtain ⟨k, rfl⟩ : ∃ q, k = q + 1 := ⟨k - 1, by omega⟩
    obtain rfl := List.eq_nil_of_length_eq_zero hd
    have := drop_nil hm
    simp only [nibble_Of.l0]; rw [if_neg (by omega)]; simp [ofN]
  | d + 1, k, i, acc, x :: r, hm, hd, hk, ha => by
    obtain ⟨k, rfl⟩ : ∃ q, k = q + 1 := ⟨k - 1, by omega⟩
    have hlt := drop_lt hm
    have hx := hb x (by have : x ∈ l.drop i := by rw [hm]; exact List.mem_cons_self
                        exact List.mem_of_mem_drop this)
    have ih := of_l0 l hl hb d k (i + 1) (acc ++ [x / 16, x % 16]) r (drop_next hm) (by simpa using hd) (by omega) (by simp; omega)
    simp only [nibble_Of.l0]
    rw [if_pos (by omega), if_pos (by omega), if_pos (by omega), rd_cons hm, and15 x hx.1 hx.2]
    simp only [Option.bind_some]
    rw [if_pos (by simp; omega), wrap_s i (by omega), ih]
    simp [ofN]
theorem of_f (l : List Int) (hl : l.length ≤ 1048576) (hb : Bytes l) (k : Nat) (hk : l.length < k) : nibble_Of.f k l = some (ofN l) := by
  have := of_l0 l hl hb l.length k 0 [] l rfl rfl hk (by simp; omega)
  unfold nibble_Of.f; simpa using this
theorem rof_l0 (l : List Int) (hl : l.length ≤ 1048576) (hb : Bytes l) : ∀ (d k i : Nat) (acc m : List Int), l.drop i = m → m.length = d → d < k → acc.length + 2 * d ≤ 140737488350000 →
    waybillref11_Of.l0 k l acc (i : Int) = some (acc ++ ofN m)
  | 0, k, i, acc, m, hm, hd, hk, ha => by
    obtain ⟨k, rfl⟩ : ∃ q, k = q + 1 := ⟨k - 1, by omega⟩
    obtain rfl := List.eq_nil_of_length_eq_zero hd
    have := drop_nil hm
    simp only [waybillref11_Of.l0]; rw [if_neg (by omega)]; simp [ofN]
  | d + 1, k, i, acc, x :: r, hm, hd, hk, ha => by
    obtain ⟨k, rfl⟩ : ∃ q, k = q + 1 := ⟨k - 1, by omega⟩
    have hlt := drop_lt hm
    have hx := hb x (by have : x ∈ l.drop i := by rw [hm]; exact List.mem_cons_self
                        exact List.mem_of_mem_drop this)
    have ih := rof_l0 l hl hb d k (i + 1) (acc ++ [x / 16, x % 16]) r (drop_next hm) (by simpa using hd) (by omega) (by simp; omega)
    simp only [waybillref11_Of.l0]
    rw [if_pos (by omega), if_pos (by omega), rd_cons hm, td16 x hx.1 hx.2, tm16 x hx.1]
    simp only [Option.bind_some]
    rw [if_pos (by simp; omega), wrap_s i (by omega), ih]
    simp [ofN]
theorem rof_f (l : List Int) (hl : l.length ≤ 1048576) (hb : Bytes l) (k : Nat) (hk : l.length < k) : waybillref11_Of.f k l = some (ofN l) := by
  have := rof_l0 l hl hb l.length k 0 [] l rfl rfl hk (by simp; omega)
  unfold waybillref11_Of.f; simpa using this

def fineN (l : List Int) : Bool := l.all fun x => decide (x ≤ 15)
theorem fine_l0 (l : List Int) (hl : l.length ≤ 140737488351232) : ∀ (d k i : Nat) (m : List Int), l.drop i = m → m.length = d → d < k → nibble_fine.l0 k l (l.length : Int) (i : Int) = some (fineN m)
  | 0, k, i, m, hm, hd, hk => by
    obtain ⟨k, rfl⟩ : ∃ q, k = q + 1 := ⟨k - 1, by omega⟩
    obtain rfl := List.eq_nil_of_length_eq_zero hd
    have := drop_nil hm
    simp only [nibble_fine.l0]; rw [if_neg (by omega)]; simp [fineN]
  | d + 1, k, i, x :: r, hm, hd, hk => by
    obtain ⟨k, rfl⟩ : ∃ q, k = q + 1 := ⟨k - 1, by omega⟩
    have hlt := drop_lt hm
    have ih := fine_l0 l hl d k (i + 1) r (drop_next hm) (by simpa using hd) (by omega)
    simp only [nibble_fine.l0]
    rw [if_pos (by omega), if_pos (by omega), if_pos (by omega), rd_cons hm, wrap_s i (by omega), ih]
    by_cases h : x > 15
    · rw [if_pos h]; simp [fineN, show ¬ x ≤ 15 by omega]
    · rw [if_neg h]; simp [fineN, show x ≤ 15 by omega]
theorem fine_f (l : List Int) (hl : l.length ≤ 140737488351232) (k : Nat) (hk : l.length < k) : nibble_fine.f k l = some (fineN l) := by
  have := fine_l0 l hl l.length k 0 l rfl rfl hk
  unfold nibble_fine.f; simpa using this
theorem rfine_l0 (l : List Int) (hl : l.length ≤ 140737488351232) : ∀ (d k i : Nat) (m : List Int), l.drop i = m → m.length = d → d < k → waybillref11_row.l0 k l (i : Int) = some (fineN m)
  | 0, k, i, m, hm, hd, hk => by
    obtain ⟨k, rfl⟩ : ∃ q, k = q + 1 := ⟨k - 1, by omega⟩
    obtain rfl := List.eq_nil_of_length_eq_zero hd
    have := drop_nil hm
    simp only [waybillref11_row.l0]; rw [if_neg (by omega)]; simp [fineN]
  | d + 1, k, i, x :: r, hm, hd, hk => by
    obtain ⟨k, rfl⟩ : ∃ q, k = q + 1 := ⟨k - 1, by omega⟩
    have hlt := drop_lt hm
    have ih := rfine_l0 l hl d k (i + 1) r (drop_next hm) (by simpa using hd) (by omega)
    simp only [waybillref11_row.l0]
    rw [if_pos (by omega), if_pos (by omega), rd_cons hm, wrap_s i (by omega), ih]
    by_cases h : x > 15
    · rw [if_pos h]; simp [fineN, show ¬ x ≤ 15 by omega]
    · rw [if_neg h]; simp [fineN, show x ≤ 15 by omega]
theorem rfine_f (l : List Int) (hl : l.length ≤ 140737488351232) (k : Nat) (hk : l.length < k) : waybillref11_row.f k l = some (fineN l) := by
  have := rfine_l0 l hl l.length k 0 l rfl rfl hk
  unfold waybillref11_row.f; simpa using this
theorem fineN_at {l : List Int} (h : fineN l = true) : ∀ x ∈ l, x ≤ 15 := by unfold fineN at h; simpa using h

def keyN : List Int → List Int
  | a :: b :: r => (16 * a + b) :: keyN r
  | _ => []
theorem keyN_length : ∀ l : List Int, (keyN l).length = l.length / 2
  | a :: b :: r => by simp [keyN, keyN_length r]; omega
  | [a] => by simp [keyN]
  | [] => rfl
theorem keyN_ofN : ∀ l : List Int, keyN (ofN l) = l
  | [] => rfl
  | b :: r => by simp only [ofN, keyN, keyN_ofN r]; congr 1; omega
theorem ofN_keyN : ∀ l : List Int, (∀ x ∈ l, 0 ≤ x ∧ x ≤ 15) → l.length % 2 = 0 → ofN (keyN l) = l
  | a :: b :: r, h, he => by
    have ha := h a List.mem_cons_self
    have hb := h b (List.mem_cons_of_mem _ List.mem_cons_self)
    simp only [keyN, ofN, ofN_keyN r (fun x hx => h x (List.mem_cons_of_mem _ (List.mem_cons_of_mem _ hx))) (by simp at he; omega)]
    congr 1
    · omega
    · congr 1; omega
  | [a], _, he => by simp at he
  | [], _, _ => rfl
theorem keyN_bytes : ∀ l : List Int, (∀ x ∈ l, 0 ≤ x ∧ x ≤ 15) → Bytes (keyN l)
  | a :: b :: r, h => by
    have ha := h a List.mem_cons_self
    have hb := h b (List.mem_cons_of_mem _ List.mem_cons_self)
    intro x hx
    simp only [keyN, List.mem_cons] at hx
    rcases hx with rfl | hx
    · omega
    · exact keyN_bytes r (fun x hx => h x (List.mem_cons_of_mem _ (List.mem_cons_of_mem _ hx))) x hx
  | [a], _ => by simp [keyN, Bytes]
  | [], _ => by simp [keyN, Bytes]
theorem key_l0 (l : List Int) (hl : l.length ≤ 140737488351232) (hb : ∀ x ∈ l, 0 ≤ x ∧ x ≤ 15) (he : l.length % 2 = 0) : ∀ (d k i : Nat) (acc m : List Int), l.drop i = m → m.length = 2 * d → d < k → acc.length + d ≤ 140737488351232 →
    nibble_Key.l0 k l acc (i : Int) = some (acc ++ keyN m, 0)
  | 0, k, i, acc, m, hm, hd, hk, ha => by
    obtain ⟨k, rfl⟩ : ∃ q, k = q + 1 := ⟨k - 1, by omega⟩
    have hm0 : m = [] := List.eq_nil_of_length_eq_zero (by omega)
    subst hm0
    have := drop_nil hm
    simp only [nibble_Key.l0]; rw [if_neg (by omega)]; simp [keyN]
  | d + 1, k, i, acc, [], hm, hd, hk, ha => by simp only [List.length_nil] at hd; omega
  | d + 1, k, i, acc, [x], hm, hd, hk, ha => by simp only [List.length_cons, List.length_nil] at hd; omega
  | d + 1, k, i, acc, x :: y :: r, hm, hd, hk, ha => by
    obtain ⟨k, rfl⟩ : ∃ q, k = q + 1 := ⟨k - 1, by omega⟩
    have hlt := drop_lt hm
    have hm1 := drop_next hm
    have hlt1 := drop_lt hm1
    have hx := hb x (List.mem_of_mem_drop (i := i) (by rw [hm]; exact List.mem_cons_self))
    have hy := hb y (List.mem_of_mem_drop (i := i) (by rw [hm]; exact List.mem_cons_of_mem _ List.mem_cons_self))
    have ih := key_l0 l hl hb he d k (i + 2) (acc ++ [16 * x + y]) r (drop_next hm1) (by simp only [List.length_cons] at hd; omega) (by omega) (by simp; omega)
    simp only [nibble_Key.l0]
    rw [wrap_s i (by omega), if_pos (by omega), if_pos (by omega), if_pos (by omega), if_pos (by omega), if_pos (by omega), rd_cons hm, rd_cons hm1, or16 x y hx.1 hx.2 hy.1 hy.2, wrap_ss i (by omega), ih]
    simp [keyN]
theorem rkey_l0 (l : List Int) (hl : l.length ≤ 140737488351232) (hb : ∀ x ∈ l, 0 ≤ x ∧ x ≤ 15) (he : l.length % 2 = 0) : ∀ (d k i : Nat) (acc m : List Int), l.drop i = m → m.length = 2 * d → d < k → acc.length + d ≤ 140737488351232 →
    waybillref11_Key.l0 k l acc (i : Int) = some (acc ++ keyN m, 0)
  | 0, k, i, acc, m, hm, hd, hk, ha => by
    obtain ⟨k, rfl⟩ : ∃ q, k = q + 1 := ⟨k - 1, by omega⟩
    have hm0 : m = [] := List.eq_nil_of_length_eq_zero (by omega)
    subst hm0
    have := drop_nil hm
    simp only [waybillref11_Key.l0]; rw [if_neg (by omega)]; simp [keyN]
  | d + 1, k, i, acc, [], hm, hd, hk, ha => by simp only [List.length_nil] at hd; omega
  | d + 1, k, i, acc, [x], hm, hd, hk, ha => by simp only [List.length_cons, List.length_nil] at hd; omega
  | d + 1, k, i, acc, x :: y :: r, hm, hd, hk, ha => by
    obtain ⟨k, rfl⟩ : ∃ q, k = q + 1 := ⟨k - 1, by omega⟩
    have hlt := drop_lt hm
    have hm1 := drop_next hm
    have hlt1 := drop_lt hm1
    have hx := hb x (List.mem_of_mem_drop (i := i) (by rw [hm]; exact List.mem_cons_self))
    have hy := hb y (List.mem_of_mem_drop (i := i) (by rw [hm]; exact List.mem_cons_of_mem _ List.mem_cons_self))
    have ih := rkey_l0 l hl hb he d k (i + 2) (acc ++ [16 * x + y]) r (drop_next hm1) (by simp only [List.length_cons] at hd; omega) (by omega) (by simp; omega)
    simp only [waybillref11_Key.l0]
    rw [wrap_s i (by omega), if_pos (by omega), if_pos (by omega), if_pos (by omega), if_pos (by omega), if_pos (by omega), rd_cons hm, rd_cons hm1, show ((16 * x % 256) + y) % 256 = 16 * x + y by omega, wrap_ss i (by omega), ih]
    simp [keyN]
/-- Key's answer. -/
def keyA (l : List Int) : List Int × Int := if fineN l = true ∧ l.length % 2 = 0 then (keyN l, 0) else ([], 110)
theorem key_f (l : List Int) (hl : l.length ≤ 140737488351232) (hb : Bytes l) (k : Nat) (hk : l.length + 1 < k) : nibble_Key.f k l = some (keyA l) := by
  unfold nibble_Key.f keyA
  rw [fine_f l hl k (by omega)]
  simp only [Option.bind_some]
  obtain ⟨k, rfl⟩ : ∃ q, k = q + 1 := ⟨k - 1, by omega⟩
  by_cases hf : fineN l = true
  · rw [if_pos hf]
    by_cases he : l.length % 2 = 0
    · have e : (((l.length : Int) % 2) == 1) = false := by rw [beq_eq_false_iff_ne]; omega
      rw [e, if_pos ⟨hf, he⟩]
      simp only [nibble_Key.j0]
      rw [if_neg (by decide)]
      have := key_l0 l hl (fun x hx => ⟨(hb x hx).1, fineN_at hf x hx⟩) he (l.length / 2) k 0 [] l rfl (by omega) (by omega) (by simp; omega)
      simpa using this
    · have e : (((l.length : Int) % 2) == 1) = true := by rw [beq_iff_eq]; omega
      rw [e, if_neg (fun h => he h.2)]
      simp [nibble_Key.j0]
  · rw [if_neg hf, if_neg (fun h => hf h.1)]
    simp [nibble_Key.j0]
theorem rkey_f (l : List Int) (hl : l.length ≤ 140737488351232) (hb : Bytes l) (k : Nat) (hk : l.length + 1 < k) : waybillref11_Key.f k l = some (keyA l) := by
  unfold waybillref11_Key.f keyA
  rw [rfine_f l hl k (by omega)]
  simp only [Option.bind_some]
  obtain ⟨k, rfl⟩ : ∃ q, k = q + 1 := ⟨k - 1, by omega⟩
  by_cases hf : fineN l = true
  · rw [if_pos hf]
    by_cases he : l.length % 2 = 0
    · have e : (((l.length : Int) % 2) == 1) = false := by rw [beq_eq_false_iff_ne]; omega
      rw [e, if_pos ⟨hf, he⟩]
      simp only [waybillref11_Key.j0]
      rw [if_neg (by decide)]
      have := rkey_l0 l hl (fun x hx => ⟨(hb x hx).1, fineN_at hf x hx⟩) he (l.length / 2) k 0 [] l rfl (by omega) (by omega) (by simp; omega)
      simpa using this
    · have e : (((l.length : Int) % 2) == 1) = true := by rw [beq_iff_eq]; omega
      rw [e, if_neg (fun h => he h.2)]
      simp [waybillref11_Key.j0]
  · rw [if_neg hf, if_neg (fun h => hf h.1)]
    simp [waybillref11_Key.j0]
theorem keyA_bytes (l : List Int) (hb : Bytes l) : Bytes (keyA l).1 := by
  unfold keyA; split
  · rename_i h; exact keyN_bytes l fun x hx => ⟨(hb x hx).1, fineN_at h.1 x hx⟩
  · simp [Bytes]
theorem keyA_length (l : List Int) : (keyA l).1.length ≤ l.length := by
  unfold keyA; split
  · rw [keyN_length]; omega
  · simp

/-- Are two lists one? -/
theorem same_l0 (a b : List Int) (hl : a.length ≤ 140737488351232) (he : a.length = b.length) : ∀ (d k i : Nat) (m n : List Int), a.drop i = m → b.drop i = n → m.length = d → d < k → waybilllaw11_same.l0 k a b (i : Int) = some (decide (m = n))
  | 0, k, i, m, n, hm, hn, hd, hk => by
    obtain ⟨k, rfl⟩ : ∃ q, k = q + 1 := ⟨k - 1, by omega⟩
    obtain rfl := List.eq_nil_of_length_eq_zero hd
    have := drop_nil hm
    have hn0 : n = [] := by rw [← hn]; simp; omega
    subst hn0
    simp only [waybilllaw11_same.l0]; rw [if_neg (by omega)]; simp
  | d + 1, k, i, [], n, hm, hn, hd, hk => by simp at hd
  | d + 1, k, i, x :: r, [], hm, hn, hd, hk => by have h1 := drop_lt hm; have h2 := drop_nil hn; omega
  | d + 1, k, i, x :: r, y :: s, hm, hn, hd, hk => by
    obtain ⟨k, rfl⟩ : ∃ q, k = q + 1 := ⟨k - 1, by omega⟩
    have hlt := drop_lt hm
    have ih := same_l0 a b hl he d k (i + 1) r s (drop_next hm) (drop_next hn) (by simpa using hd) (by omega)
    simp only [waybilllaw11_same.l0]
    rw [if_pos (by omega), if_pos (by omega), if_pos (by omega), rd_cons hm, rd_cons hn, wrap_s i (by omega), ih]
    by_cases h : x = y
    · subst h; simp
    · rw [if_neg h]; simp [h]
theorem same_f (a b : List Int) (hl : a.length ≤ 140737488351232) (k : Nat) (hk : a.length < k) : waybilllaw11_same.f k a b = some (decide (a = b)) := by
  unfold waybilllaw11_same.f
  by_cases he : a.length = b.length
  · rw [if_pos (by omega)]
    have := same_l0 a b hl he a.length k 0 a b rfl rfl rfl hk
    simpa using this
  · rw [if_neg (by omega)]
    have : a ≠ b := fun h => he (by rw [h])
    simp [this]

/-- Unpack's answer. -/
def unpA (d : List Int) : List Int × Bool × Int :=
  match d with
  | [] => ([], false, 110)
  | x :: r => if 64 ≤ x then ([], false, 110) else if x / 16 % 2 = 1 then (x % 16 :: ofN r, decide (2 ≤ x / 16), 0) else if x % 16 = 0 then (ofN r, decide (2 ≤ x / 16), 0) else ([], false, 110)
theorem unp_f (d : List Int) (hl : d.length ≤ 1048576) (hb : Bytes d) (k : Nat) (hk : d.length + 1 < k) : nibble_Unpack.f k d = some (unpA d) := by
  unfold nibble_Unpack.f unpA
  match d, hl, hb, hk with
  | [], _, _, _ => simp
  | x :: r, hl, hb, hk =>
    have hx := hb x List.mem_cons_self
    simp only [List.length_cons] at hl hk ⊢
    have hof : nibble_Of.f k ((x :: r).drop 1) = some (ofN r) := of_f r (by omega) hb.tail k (by omega)
    rw [if_neg (by omega), if_pos (by omega), hof]
    simp only [Option.bind_some]
    rw [if_pos (by omega), show rd (x :: r) 0 = x from rfl, and15 x hx.1 hx.2]
    obtain ⟨k, rfl⟩ : ∃ q, k = q + 1 := ⟨k - 1, by omega⟩
    have hq : x / 16 = 0 ∨ x / 16 = 1 ∨ x / 16 = 2 ∨ x / 16 = 3 ∨ 4 ≤ x / 16 := by omega
    have hlen : (ofN r).length ≤ 2097152 := by rw [ofN_length]; omega
    have b12 : Go.bits .and .u8 1 2 = 0 := by decide +kernel
    have b32 : Go.bits .and .u8 3 2 = 2 := by decide +kernel
    simp only [nibble_Unpack.j0]
    rcases hq with hq | hq | hq | hq | hq
    · rw [hq, if_neg (by omega : ¬ 64 ≤ x)]
      by_cases h0 : x % 16 = 0
      · simp [h0]
      · simp [h0]
    · rw [hq, if_neg (by omega : ¬ 64 ≤ x)]
      simp [b12]; omega
    · rw [hq, if_neg (by omega : ¬ 64 ≤ x)]
      by_cases h0 : x % 16 = 0
      · simp [h0]
      · simp [h0]
    · rw [hq, if_neg (by omega : ¬ 64 ≤ x)]
      simp [b32]; omega
    · rw [if_pos (by omega : 64 ≤ x), if_neg (by omega)]
      have e : ((x / 16) == 2) = false := by rw [beq_eq_false_iff_ne]; omega
      rw [e]
      simp [show ¬ x / 16 = 1 by omega, show ¬ x / 16 = 3 by omega]
theorem runp_f (d : List Int) (hl : d.length ≤ 1048576) (hb : Bytes d) (k : Nat) (hk : d.length + 3 < k) : waybillref11_Unpack.f k d = some (unpA d) := by
  unfold waybillref11_Unpack.f unpA
  obtain ⟨k, rfl⟩ : ∃ q, k = q + 1 := ⟨k - 1, by omega⟩
  obtain ⟨k, rfl⟩ : ∃ q, k = q + 1 := ⟨k - 1, by omega⟩
  match d, hl, hb, hk with
  | [], _, _, _ => simp [waybillref11_Unpack.j0]
  | x :: r, hl, hb, hk =>
    have hx := hb x List.mem_cons_self
    simp only [List.length_cons] at hl hk ⊢
    have hof : waybillref11_Of.f k ((x :: r).drop 1) = some (ofN r) := rof_f r (by omega) hb.tail k (by omega)
    have hlen : (ofN r).length ≤ 2097152 := by rw [ofN_length]; omega
    rw [if_neg (by omega), if_pos (by omega), show rd (x :: r) 0 = x from rfl]
    by_cases h64 : 64 ≤ x
    · have e : decide (x ≥ 64) = true := by simpa using h64
      rw [e, if_pos h64]; simp [waybillref11_Unpack.j0]
    · have e : decide (x ≥ 64) = false := by simpa using h64
      rw [e, if_neg h64]
      have e1 := td16 x hx.1 hx.2
      have e2 := tm16 x hx.1
      simp only [waybillref11_Unpack.j0, waybillref11_Unpack.j1]
      rw [show rd (x :: r) 0 = x from rfl, e1, e2, hof]
      by_cases ho : x / 16 % 2 = 1
      · simp [ho, List.length_cons]; omega
      · by_cases h0 : x % 16 = 0
        · simp [ho, h0]; omega
        · simp [ho, h0]
end Go.Proofs.Ytdagliimdmbeaaa
