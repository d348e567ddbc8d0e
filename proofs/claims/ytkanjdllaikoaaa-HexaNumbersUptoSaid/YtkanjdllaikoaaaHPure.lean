/- What the printed functions of the hexadecimal texts come to, on lists: no program. -/
import Derived.Test.YtkanjdllaikoaaaPHexaDatax
set_option linter.unusedSimpArgs false
set_option linter.unusedVariables false
namespace Go.Proofs.Ytkanjdllaikoaaa
open Go Go.RowKit Go.Proofs.YtkanjdllaikoaaaW.PrintWords Go.Proofs.YtkanjdllaikoaaaW.PrintLast Go.Proofs.YtkanjdllaikoaaaW.PrintMore Go.Proofs.Ytkanjdllaikoaaa.PHexaData

theorem rd_cons {l : List Int} {i : Nat} {x : Int} {r : List Int} (h : l.drop i = x :: r) : rd l (i : Int) = x := by
  unfold rd
  have : l[i]? = some x := by
    have h2 := congrArg (fun m => m[0]?) h
    simpa [List.getElem?_drop] using h2
  simp [List.getD_eq_getElem?_getD, this]
theorem drop_next {l : List Int} {i : Nat} {x : Int} {r : List Int} (h : l.drop i = x :: r) : l.drop (i + 1) = r := by
  rw [← List.drop_drop, h]; rfl
theorem drop_lt {l : List Int} {i : Nat} {x : Int} {r : List Int} (h : l.drop i = x :: r) : i < l.length := by
  have := congrArg List.length h
  simp at this; omega
theorem drop_nil {l : List Int} {i : Nat} (h : l.drop i = []) : l.length ≤ i := by simpa using h
theorem wrap_s (i : Nat) (h : i < 140737488355328) : wrap64 ((i : Int) + 1) = ((i + 1 : Nat) : Int) := by unfold wrap64; omega
theorem wrap_ss (i : Nat) (h : i < 140737488355328) : wrap64 ((i : Int) + 2) = ((i + 2 : Nat) : Int) := by unfold wrap64; omega
theorem or16 (x y : Int) (h0 : 0 ≤ x) (h1 : x ≤ 15) (h2 : 0 ≤ y) (h3 : y ≤ 15) : Go.bits .or .u8 ((x * 16) % 256) y = 16 * x + y := by
  have h : ∀ a b : Fin 16, Go.bits .or .u8 (((a.val : Int) * 16) % 256) (b.val : Int) = 16 * (a.val : Int) + (b.val : Int) := by decide +kernel
  obtain ⟨n, rfl⟩ := Int.eq_ofNat_of_zero_le h0
  obtain ⟨m, rfl⟩ := Int.eq_ofNat_of_zero_le h2
  exact h ⟨n, by omega⟩ ⟨m, by omega⟩

/-- A digit's value; -1: it is none. -/
def valN (c : Int) : Int := if 48 ≤ c ∧ c ≤ 57 then c - 48 else if 97 ≤ c ∧ c ≤ 102 then c - 87 else if 65 ≤ c ∧ c ≤ 70 then c - 55 else -1
theorem valN_bd (c : Int) : -1 ≤ valN c ∧ valN c ≤ 15 := by
  unfold valN; split
  · omega
  · split
    · omega
    · split <;> omega
theorem value_f (c : Int) (k : Nat) (hk : 2 < k) : hexa_value.f k c = some (valN c) := by
  obtain ⟨k, rfl⟩ : ∃ q, k = q + 2 := ⟨k - 2, by omega⟩
  unfold hexa_value.f valN
  by_cases h1 : 48 ≤ c
  · rw [if_pos h1]
    by_cases h2 : c ≤ 57
    · have e : decide (c ≤ 57) = true := by simpa using h2
      rw [e, if_pos ⟨h1, h2⟩]; simp only [hexa_value.j0, if_true]; congr 1; omega
    · have e : decide (c ≤ 57) = false := by simpa using h2
      rw [e, if_neg (by omega)]
      simp only [hexa_value.j0, Bool.false_eq_true, if_false]
      by_cases h3 : c ≥ 97
      · rw [if_pos h3]
        by_cases h4 : c ≤ 102
        · have e2 : decide (c ≤ 102) = true := by simpa using h4
          rw [e2, if_pos ⟨h3, h4⟩]; simp only [hexa_value.j1, if_true]; congr 1; omega
        · have e2 : decide (c ≤ 102) = false := by simpa using h4
          rw [e2, if_neg (by omega), if_neg (by omega)]
          simp only [hexa_value.j1, Bool.false_eq_true, if_false]
          rw [if_pos (by omega), if_neg (by omega)]
      · rw [if_neg h3, if_neg (by omega)]
        simp only [hexa_value.j1, Bool.false_eq_true, if_false]
        by_cases h5 : c ≥ 65
        · rw [if_pos h5]
          by_cases h6 : c ≤ 70
          · rw [if_pos h6, if_pos ⟨h5, h6⟩]; congr 1; omega
          · rw [if_neg h6, if_neg (by omega)]
        · rw [if_neg h5, if_neg (by omega)]
  · rw [if_neg h1, if_neg (by omega), if_neg (by omega), if_neg (by omega)]
    simp only [hexa_value.j0, Bool.false_eq_true, if_false]
    rw [if_neg (by omega)]
    simp only [hexa_value.j1, Bool.false_eq_true, if_false]
    rw [if_neg (by omega)]
theorem rvalue_f (c : Int) (k : Nat) (hk : 2 < k) : waybillref08_Value.f k c = some (valN c) := by
  rw [← value_f c k hk]
  obtain ⟨k, rfl⟩ : ∃ q, k = q + 2 := ⟨k - 2, by omega⟩
  unfold hexa_value.f waybillref08_Value.f
  simp only [hexa_value.j0, waybillref08_Value.j0, hexa_value.j1, waybillref08_Value.j1]

theorem bt_cons {s : ByteArray} {i : Nat} {x : Int} {r : List Int} (h : (bytesOf s).drop i = x :: r) : bt s (i : Int) = x ∧ 0 ≤ x ∧ x ≤ 255 ∧ i < s.size := by
  have hl := drop_lt h
  rw [bytesOf_length] at hl
  have hx := rd_cons h
  have hb := bt_range s i
  have e : bt s (i : Int) = x := by
    rw [← hx]
    unfold bt rd
    rw [Int.toNat_natCast, dif_pos hl]
    simp [bytesOf, List.getD_eq_getElem?_getD, hl]
    rfl
  exact ⟨e, by omega, by omega, hl⟩
def goodN (l : List Int) : Bool := l.all fun c => decide (0 ≤ valN c)
/-- What the digits come to. -/
def digA (l : List Int) : List Int × Bool := if goodN l = true then (l.map valN, true) else ([], false)
theorem values_l0 (s : ByteArray) (hs : s.size ≤ 140737488351232) : ∀ (d k i : Nat) (acc m : List Int), (bytesOf s).drop i = m → m.length = d → d + 3 < k → acc.length + d ≤ 140737488351232 →
    hexa_values.l0 k s acc (s.size : Int) (i : Int) = some (if goodN m = true then (acc ++ m.map valN, true) else ([], false))
  | 0, k, i, acc, m, hm, hd, hk, ha => by
    obtain ⟨k, rfl⟩ : ∃ q, k = q + 1 := ⟨k - 1, by omega⟩
    obtain rfl := List.eq_nil_of_length_eq_zero hd
    have := drop_nil hm
    rw [bytesOf_length] at this
    simp only [hexa_values.l0]; rw [if_neg (by omega)]; simp [goodN]
  | d + 1, k, i, acc, x :: r, hm, hd, hk, ha => by
    obtain ⟨k, rfl⟩ : ∃ q, k = q + 1 := ⟨k - 1, by omega⟩
    obtain ⟨hx, hx0, hx1, hlt⟩ := bt_cons hm
    have hv := valN_bd x
    have ih := values_l0 s hs d k (i + 1) (acc ++ [valN x]) r (drop_next hm) (by simpa using hd) (by omega) (by simp; omega)
    simp only [hexa_values.l0]
    rw [if_pos (by omega), if_pos (by omega), if_pos (by omega), hx, value_f x k (by omega)]
    simp only [Option.bind_some]
    by_cases h : valN x < 0
    · rw [if_pos h, if_neg (by simp [goodN]; intro h2; omega)]
    · rw [if_neg h, if_pos (by omega), wrap_s i (by omega), show valN x % 256 = valN x by omega, ih]
      have e : goodN (x :: r) = goodN r := by simp [goodN]; intro _; omega
      rw [e]; simp
theorem rtail_l0 (s : ByteArray) (hs : s.size ≤ 33554434) : ∀ (d k i : Nat) (acc m : List Int), (bytesOf s).drop i = m → m.length = d → d + 3 < k → acc.length + d ≤ 33554434 →
    waybillref08_tail.l0 k s acc (i : Int) = some (if goodN m = true then (acc ++ m.map valN, true) else ([], false))
  | 0, k, i, acc, m, hm, hd, hk, ha => by
    obtain ⟨k, rfl⟩ : ∃ q, k = q + 1 := ⟨k - 1, by omega⟩
    obtain rfl := List.eq_nil_of_length_eq_zero hd
    have := drop_nil hm
    rw [bytesOf_length] at this
    simp only [waybillref08_tail.l0]; rw [if_neg (by omega)]; simp [goodN]
  | d + 1, k, i, acc, x :: r, hm, hd, hk, ha => by
    obtain ⟨k, rfl⟩ : ∃ q, k = q + 1 := ⟨k - 1, by omega⟩
    obtain ⟨hx, hx0, hx1, hlt⟩ := bt_cons hm
    have hv := valN_bd x
    have ih := rtail_l0 s hs d k (i + 1) (acc ++ [valN x]) r (drop_next hm) (by simpa using hd) (by omega) (by simp; omega)
    simp only [waybillref08_tail.l0]
    rw [if_pos (by omega), if_pos (by omega), hx, rvalue_f x k (by omega)]
    simp only [Option.bind_some]
    by_cases h : valN x < 0
    · rw [if_pos h, if_neg (by simp [goodN]; intro h2; omega)]
    · rw [if_neg h, if_pos (by omega), wrap_s i (by omega), ih]
      have e : goodN (x :: r) = goodN r := by simp [goodN]; intro _; omega
      rw [e]; simp
/-- The text begins with 0x. -/
def preN (l : List Int) : Bool := decide (l.take 2 = [48, 120])
theorem pre_eq (s : ByteArray) : ((s.extract 0 2).toList == (⟨#[48, 120]⟩ : ByteArray).toList) = preN (bytesOf s) := by
  rw [ByteArray.toList_eq, ByteArray.toList_eq]
  unfold preN
  have hd : (s.extract 0 2).data.toList = s.data.toList.take 2 := by
    rw [ByteArray.data_extract, Array.toList_extract]; simp [List.extract_eq_take_drop]
  have hinj : ∀ a b : UInt8, (a.toNat : Int) = (b.toNat : Int) → a = b := fun a b h => UInt8.toNat_inj.1 (by omega)
  rw [hd, Bool.eq_iff_iff, beq_iff_eq, decide_eq_true_iff]
  unfold bytesOf
  rw [← List.map_take]
  generalize s.data.toList.take 2 = m
  constructor
  · intro h; rw [h]; rfl
  · intro h
    match m, h with
    | [a, b], h =>
      simp only [List.map_cons, List.map_nil, List.cons.injEq, and_true] at h
      rw [hinj a 48 h.1, hinj b 120 h.2]
    | [], h => simp at h
    | [a], h => simp at h
    | a :: b :: c :: r, h => simp at h
theorem bytesOf_tail (s : ByteArray) : bytesOf (s.extract 2 s.size) = (bytesOf s).drop 2 := by
  unfold bytesOf
  rw [ByteArray.data_extract, Array.toList_extract, List.extract_eq_take_drop, ← List.map_drop]
  congr 1
  rw [List.take_of_length_le]
  rw [List.length_drop, data_length]; omega
/-- The digits behind 0x. -/
def tailA (s : ByteArray) : List Int × Bool := if preN (bytesOf s) = true then digA ((bytesOf s).drop 2) else ([], false)
theorem pre_size {s : ByteArray} (h : preN (bytesOf s) = true) : 2 ≤ s.size := by
  unfold preN at h
  have h2 := congrArg List.length (of_decide_eq_true h)
  simp [bytesOf_length] at h2; omega
theorem values_f (s : ByteArray) (hs : s.size ≤ 140737488351232) (k : Nat) (hk : s.size + 3 < k) : hexa_values.f k s = some (tailA s) := by
  unfold hexa_values.f strings_CutPrefix.f stringslite_CutPrefix.f stringslite_HasPrefix.f tailA
  have e2 : ((⟨#[48, 120]⟩ : ByteArray).size : Int) = 2 := rfl
  rw [e2]
  by_cases h : preN (bytesOf s) = true
  · have h2 := pre_size h
    rw [if_pos (by omega), if_pos (by omega), if_pos (by omega), if_pos h]
    simp only [Option.bind_some, show ((2 : Int) : Int).toNat = 2 from rfl]
    rw [pre_eq, h, if_pos rfl, if_pos (by omega), if_pos (by omega)]
    simp only [Option.bind_some, if_true]
    have hsz : (s.extract 2 s.size).size = s.size - 2 := by rw [ByteArray.size_extract]; omega
    have := values_l0 (s.extract 2 s.size) (by omega) ((bytesOf s).drop 2).length k 0 [] ((bytesOf s).drop 2) (by rw [bytesOf_tail]; rfl) rfl (by simp [bytesOf_length]; omega) (by simp [bytesOf_length]; omega)
    unfold digA
    simpa using this
  · rw [if_neg h]
    by_cases h2 : (2 : Int) ≤ s.size
    · rw [if_pos (by omega), if_pos (by omega), if_pos (by omega)]
      simp only [Option.bind_some, show ((2 : Int) : Int).toNat = 2 from rfl]
      rw [pre_eq]
      have : preN (bytesOf s) = false := by simpa using h
      rw [this]; simp
    · rw [if_neg (by omega)]; simp
theorem rtail_f (s : ByteArray) (hs : s.size ≤ 33554434) (k : Nat) (hk : s.size + 4 < k) : waybillref08_tail.f k s = some (tailA s) := by
  obtain ⟨k, rfl⟩ : ∃ q, k = q + 1 := ⟨k - 1, by omega⟩
  unfold waybillref08_tail.f tailA
  have hbl := bytesOf_length s
  match hm : bytesOf s, hbl with
  | [], hbl => rw [if_pos (by simp at hbl; omega), if_neg (by simp [preN])]; simp [waybillref08_tail.j0]
  | [x], hbl => rw [if_pos (by simp at hbl; omega), if_neg (by simp [preN])]; simp [waybillref08_tail.j0]
  | x :: y :: r, hbl =>
    simp only [List.length_cons] at hbl
    have h0 := (bt_cons (s := s) (i := 0) (by rw [hm]; rfl)).1
    have h1 := (bt_cons (s := s) (i := 1) (x := y) (r := r) (by rw [hm]; rfl)).1
    simp only [Int.ofNat_zero, Int.natCast_zero, Int.natCast_one, Int.ofNat_one] at h0 h1
    rw [if_neg (by omega), if_pos (by omega), h0, h1]
    have hl := rtail_l0 s hs r.length k 2 [] r (by rw [hm]; rfl) rfl (by omega) (by simp; omega)
    by_cases hx : x = 48
    · rw [if_pos hx, if_pos (by omega)]
      by_cases hy : y = 120
      · rw [if_pos (by simp [preN, hx, hy]), show (y != 120) = false by simp [hy]]
        simp only [waybillref08_tail.j0]
        rw [if_neg (by simp)]
        unfold digA
        simpa using hl
      · rw [if_neg (by simp [preN, hy]), show (y != 120) = true by simp [hy]]
        simp [waybillref08_tail.j0]
    · rw [if_neg hx, if_neg (by simp [preN, hx])]
      simp [waybillref08_tail.j0]

def packN : List Int → List Int
  | a :: b :: r => (16 * a + b) :: packN r
  | _ => []
theorem packN_length : ∀ l : List Int, (packN l).length = l.length / 2
  | a :: b :: r => by simp [packN, packN_length r]; omega
  | [a] => by simp [packN]
  | [] => rfl
theorem joined_l0 (l : List Int) (hl : l.length ≤ 140737488351232) (hb : ∀ x ∈ l, 0 ≤ x ∧ x ≤ 15) : ∀ (d k i : Nat) (acc m : List Int), l.drop i = m → m.length = 2 * d → d < k → acc.length + d ≤ 140737488351232 →
    hexa_joined.l0 k l acc (i : Int) = some (acc ++ packN m)
  | 0, k, i, acc, m, hm, hd, hk, ha => by
    obtain ⟨k, rfl⟩ : ∃ q, k = q + 1 := ⟨k - 1, by omega⟩
    have hm0 : m = [] := List.eq_nil_of_length_eq_zero (by omega)
    subst hm0
    have := drop_nil hm
    simp only [hexa_joined.l0]; rw [if_neg (by omega)]; simp [packN]
  | d + 1, k, i, acc, [], hm, hd, hk, ha => by simp only [List.length_nil] at hd; omega
  | d + 1, k, i, acc, [x], hm, hd, hk, ha => by simp only [List.length_cons, List.length_nil] at hd; omega
  | d + 1, k, i, acc, x :: y :: r, hm, hd, hk, ha => by
    obtain ⟨k, rfl⟩ : ∃ q, k = q + 1 := ⟨k - 1, by omega⟩
    have hlt := drop_lt hm
    have hm1 := drop_next hm
    have hlt1 := drop_lt hm1
    have hx := hb x (List.mem_of_mem_drop (i := i) (by rw [hm]; exact List.mem_cons_self))
    have hy := hb y (List.mem_of_mem_drop (i := i) (by rw [hm]; exact List.mem_cons_of_mem _ List.mem_cons_self))
    have ih := joined_l0 l hl hb d k (i + 2) (acc ++ [16 * x + y]) r (drop_next hm1) (by simp only [List.length_cons] at hd; omega) (by omega) (by simp; omega)
    simp only [hexa_joined.l0]
    rw [wrap_s i (by omega), if_pos (by omega), if_pos (by omega), if_pos (by omega), if_pos (by omega), if_pos (by omega), rd_cons hm, rd_cons hm1, or16 x y hx.1 hx.2 hy.1 hy.2, wrap_ss i (by omega), ih]
    simp [packN]
theorem rpacked_l0 (l : List Int) (hl : l.length ≤ 140737488351232) (hb : ∀ x ∈ l, 0 ≤ x ∧ x ≤ 15) : ∀ (d k i : Nat) (acc m : List Int), i ≤ l.length → l.drop i = m → m.length = 2 * d → d < k → acc.length + d ≤ 140737488351232 →
    waybillref08_packed.l0 k l acc (i : Int) = some (acc ++ packN m)
  | 0, k, i, acc, m, hi0, hm, hd, hk, ha => by
    obtain ⟨k, rfl⟩ : ∃ q, k = q + 1 := ⟨k - 1, by omega⟩
    have hm0 : m = [] := List.eq_nil_of_length_eq_zero (by omega)
    subst hm0
    have := drop_nil hm
    simp only [waybillref08_packed.l0]; rw [wrap_s i (by omega), if_neg (by omega)]; simp [packN]
  | d + 1, k, i, acc, [], hi0, hm, hd, hk, ha => by simp only [List.length_nil] at hd; omega
  | d + 1, k, i, acc, [x], hi0, hm, hd, hk, ha => by simp only [List.length_cons, List.length_nil] at hd; omega
  | d + 1, k, i, acc, x :: y :: r, hi0, hm, hd, hk, ha => by
    obtain ⟨k, rfl⟩ : ∃ q, k = q + 1 := ⟨k - 1, by omega⟩
    have hlt := drop_lt hm
    have hm1 := drop_next hm
    have hlt1 := drop_lt hm1
    have hx := hb x (List.mem_of_mem_drop (i := i) (by rw [hm]; exact List.mem_cons_self))
    have hy := hb y (List.mem_of_mem_drop (i := i) (by rw [hm]; exact List.mem_cons_of_mem _ List.mem_cons_self))
    have ih := rpacked_l0 l hl hb d k (i + 2) (acc ++ [16 * x + y]) r (by omega) (drop_next hm1) (by simp only [List.length_cons] at hd; omega) (by omega) (by simp; omega)
    have e1 : wrap64 (16 * x) = 16 * x := by unfold wrap64; omega
    have e2 : wrap64 (16 * x + y) = 16 * x + y := by unfold wrap64; omega
    simp only [waybillref08_packed.l0]
    rw [wrap_s i (by omega), if_pos (by omega), if_pos (by omega), if_pos (by omega), if_pos (by omega), if_pos (by omega), rd_cons hm, rd_cons hm1, e1, e2, show (16 * x + y) % 256 = 16 * x + y by omega, wrap_ss i (by omega), ih]
    simp [packN]
theorem digA_bd (l : List Int) : ∀ x ∈ (digA l).1, 0 ≤ x ∧ x ≤ 15 := by
  unfold digA; split
  · rename_i h
    intro x hx
    simp only [List.mem_map] at hx
    obtain ⟨c, hc, rfl⟩ := hx
    have h2 := (List.all_eq_true.1 h) c hc
    exact ⟨of_decide_eq_true h2, (valN_bd c).2⟩
  · simp
theorem digA_len (l : List Int) : (digA l).1.length ≤ l.length := by unfold digA; split <;> simp
theorem tailA_bd (s : ByteArray) : ∀ x ∈ (tailA s).1, 0 ≤ x ∧ x ≤ 15 := by
  unfold tailA; split
  · exact digA_bd _
  · simp
theorem tailA_len (s : ByteArray) : (tailA s).1.length ≤ s.size := by
  unfold tailA; split
  · have := digA_len ((bytesOf s).drop 2); simp [bytesOf_length] at this; omega
  · simp
/-- ParseData's answer. -/
def parA (s : ByteArray) : List Int × Int := if s.size > 33554434 then ([], 2) else if (tailA s).2 = true then (if (tailA s).1.length % 2 = 1 then ([], 81) else (packN (tailA s).1, 0)) else ([], 80)
theorem par_f (s : ByteArray) (k : Nat) (hk : s.size + 4 < k) : hexa_ParseData.f k s = some (parA s) := by
  unfold hexa_ParseData.f parA
  by_cases h : s.size > 33554434
  · rw [if_pos (by omega), if_pos h]
  · rw [if_neg (by omega), if_neg h, values_f s (by omega) k (by omega)]
    simp only [Option.bind_some]
    have hb := tailA_bd s; have hl := tailA_len s
    generalize tailA s = t at *
    by_cases h1 : t.2 = true
    · rw [if_pos h1, if_pos h1]
      by_cases h2 : t.1.length % 2 = 1
      · rw [if_pos (by omega), if_pos h2]
      · rw [if_neg (by omega), if_neg h2]
        unfold hexa_joined.f
        rw [if_neg (by omega)]
        obtain ⟨k, rfl⟩ : ∃ q, k = q + 1 := ⟨k - 1, by omega⟩
        simp only [hexa_joined.j0]
        have := joined_l0 t.1 (by omega) hb (t.1.length / 2) k 0 [] t.1 rfl (by omega) (by omega) (by simp; omega)
        rw [show ((0 : Nat) : Int) = 0 from rfl] at this
        rw [this]; simp
    · rw [if_neg h1, if_neg h1]
theorem rpar_f (s : ByteArray) (k : Nat) (hk : s.size + 4 < k) : waybillref08_ParseData.f k s = some (parA s) := by
  unfold waybillref08_ParseData.f parA
  by_cases h : s.size > 33554434
  · rw [if_pos (by omega), if_pos h]
  · rw [if_neg (by omega), if_neg h, rtail_f s (by omega) k (by omega)]
    simp only [Option.bind_some]
    have hb := tailA_bd s; have hl := tailA_len s
    generalize tailA s = t at *
    by_cases h1 : t.2 = true
    · rw [if_pos h1, if_pos h1]
      by_cases h2 : t.1.length % 2 = 1
      · rw [if_pos (by omega), if_pos h2]
      · rw [if_neg (by omega), if_neg h2]
        unfold waybillref08_packed.f
        have := rpacked_l0 t.1 (by omega) hb (t.1.length / 2) k 0 [] t.1 (by omega) rfl (by omega) (by omega) (by simp; omega)
        rw [show ((0 : Nat) : Int) = 0 from rfl] at this
        rw [this]; simp
    · rw [if_neg h1, if_neg h1]
theorem parA_len (s : ByteArray) : (parA s).1.length ≤ 33554434 := by
  unfold parA; split
  · simp
  · have := tailA_len s
    split
    · split
      · simp
      · simp [packN_length]; omega
    · simp
theorem lit_f : hexa_ParseData.f 20 (⟨#[48, 120, 48, 49, 48, 50]⟩ : ByteArray) = some ([1, 2], 0) := by decide +kernel
end Go.Proofs.Ytkanjdllaikoaaa
