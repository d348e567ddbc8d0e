/- Texts of hexadecimal digits: what is said of them. -/
import Derived.Test.YtkanjdllaikoaaaDoorCnv
import Derived.Test.YtkanjdllaikoaaaDoorWri
import Derived.Test.YtkanjdllaikoaaaDoorKSay
set_option linter.unusedVariables false
set_option linter.unusedSimpArgs false
namespace Go.Proofs.YtkanjdllaikoaaaDoor
open Go Go.RowKit
theorem strI_nums (l : List UInt8) : strI (nums l) = ⟨l.toArray⟩ := by
  unfold strI nums
  rw [List.map_map]
  have : (List.map ((fun x : Int => UInt8.ofNat x.toNat) ∘ fun b : UInt8 => (b.toNat : Int)) l) = List.map id l := by
    refine List.map_congr_left fun b _ => ?_
    simp
  rw [this, List.map_id]
theorem nums_byte (l : List UInt8) : ByteL (nums l) := by
  intro x hx
  unfold nums at hx
  obtain ⟨b, _, rfl⟩ := List.mem_map.1 hx
  have := b.toNat_lt
  omega
theorem nums_len (l : List UInt8) : (nums l).length = l.length := by simp [nums]
theorem nums_append (l m : List UInt8) : nums (l ++ m) = nums l ++ nums m := by simp [nums]
theorem ByteL.append {l m : List Int} (h : ByteL l) (k : ByteL m) : ByteL (l ++ m) := by
  intro x hx
  rcases List.mem_append.1 hx with h1 | h1
  · exact h x h1
  · exact k x h1
theorem ByteL.at {l : List Int} (h : ByteL l) (i : Nat) (hi : i < l.length) : 0 ≤ l.getD i 0 ∧ l.getD i 0 < 256 := by
  rw [List.getD_eq_getElem?_getD, List.getElem?_eq_getElem hi]
  exact h _ (List.getElem_mem hi)
theorem own_str {k m : Nat} {xs : List Int} {ρ : Env} {w : World} (h : Sits ρ w k (ob m xs)) (hl : xs.length = m) (hb : ByteL xs) : ((do pure (.value (← convert 22 9 (AV.conc ρ (.own k 1 0 m)))) : Sem Next)).run Tryd.prog w = .ok (.value (.string (strI xs))) w := by
  obtain ⟨A, c, e, hS, _⟩ := own_Sl h hl
  rw [e]
  cases A with
  | some A => exact strI_run w A m c xs hS hb
  | none =>
    have h0 : m = 0 := by
      rcases Nat.eq_zero_or_pos m with h0 | h0
      · exact h0
      · obtain ⟨ad, he⟩ := hS.has h0
        cases he
    subst h0
    have : xs = [] := List.eq_nil_of_length_eq_zero hl
    subst this
    rw [Sem.run_bind, run_convert_bytes_nil w 22 5 Tryd.underlying22 Tryd.underlying5 _ _ _ Tryd.underlying9]
    rfl
/-- Half a byte of a digest. -/
def nib (h : List Int) (i : Nat) : Int := if i % 2 = 0 then h.getD (i / 2) 0 / 16 else h.getD (i / 2) 0 % 16
/-- A letter, by the sum. -/
def capAt (h : List Int) (i : Nat) (c : Int) : Int := if 97 ≤ c ∧ 8 ≤ nib h i then c - 32 else c
/-- The first i letters, by the sum. -/
def capL (h xs : List Int) (i : Nat) : List Int := (List.range i).map fun j => capAt h j (xs.getD j 0)
theorem capL_len (h xs : List Int) (i : Nat) : (capL h xs i).length = i := by simp [capL]
theorem capL_succ (h xs : List Int) (i : Nat) : capL h xs (i + 1) = capL h xs i ++ [capAt h i (xs.getD i 0)] := by
  unfold capL
  rw [List.range_succ]
  simp
theorem capAt_byte (h : List Int) (i : Nat) (c : Int) (hc : 0 ≤ c ∧ c < 256) : 0 ≤ capAt h i c ∧ capAt h i c < 256 := by
  unfold capAt
  split <;> omega
theorem capL_byte (h xs : List Int) (i : Nat) (hb : ByteL xs) (hi : i ≤ xs.length) : ByteL (capL h xs i) := by
  intro x hx
  unfold capL at hx
  obtain ⟨j, hj, rfl⟩ := List.mem_map.1 hx
  have := List.mem_range.1 hj
  exact capAt_byte h j _ (hb.at j (by omega))
/-- The address's letters, some of them great. -/
def sumL (a : List Int) : List Int := capL (hashOf (digL (nums (hexL a)) 1)) (nums (hexL a)) (2 * a.length)
theorem bytesI_mk (l : List UInt8) : bytesI ⟨l.toArray⟩ = nums l := by simp [bytesI, nums]
theorem hexL_byte (l : List Int) : ByteL (nums (hexL l)) := nums_byte _
/-- 0x, and a text. -/
def withX (s : ByteArray) : ByteArray := ⟨#[48, 120]⟩ ++ s
set_option maxRecDepth 100000 in
theorem nib_bit (x : Int) (i : Nat) (hx : 0 ≤ x ∧ x < 256) : (!decide (IntKind.u8.wrap ((BitVec.ofInt IntKind.u8.bits (IntKind.u8.wrap (x * 2 ^ min (Int.toNat ((4 * (i % 2) : Nat) : Int)) IntKind.u8.bits)) &&& BitVec.ofInt IntKind.u8.bits 128).toNat : Int) = 0)) = decide (8 ≤ (if i % 2 = 0 then x / 16 else x % 16)) := by
  obtain ⟨n, rfl⟩ : ∃ n : Nat, x = (n : Int) := ⟨x.toNat, by omega⟩
  have h0 : ∀ n : Nat, n < 256 → (!decide (IntKind.u8.wrap ((BitVec.ofInt IntKind.u8.bits (IntKind.u8.wrap ((n : Int) * 2 ^ min (Int.toNat ((0 : Nat) : Int)) IntKind.u8.bits)) &&& BitVec.ofInt IntKind.u8.bits 128).toNat : Int) = 0)) = decide (8 ≤ (n : Int) / 16) := by decide
  have h1 : ∀ n : Nat, n < 256 → (!decide (IntKind.u8.wrap ((BitVec.ofInt IntKind.u8.bits (IntKind.u8.wrap ((n : Int) * 2 ^ min (Int.toNat ((4 : Nat) : Int)) IntKind.u8.bits)) &&& BitVec.ofInt IntKind.u8.bits 128).toNat : Int) = 0)) = decide (8 ≤ (n : Int) % 16) := by decide
  have hn : n < 256 := by omega
  rcases Nat.mod_two_eq_zero_or_one i with h | h
  · rw [h]; simp only [if_true, Nat.mul_zero]; exact h0 n hn
  · rw [h]; simp only [Nat.mul_one]; exact h1 n hn
end Go.Proofs.YtkanjdllaikoaaaDoor

