/- A quantity's digits: joined in pairs they tell the same number. No program. -/
import Derived.Test.YtkanjdllaikoaaaHPure
import Derived.Test.YtkanjdllaikoaaaGet
set_option linter.unusedSimpArgs false
set_option linter.unusedVariables false
namespace Go.Proofs.Ytkanjdllaikoaaa
open Go Go.RowKit Go.Proofs.YtkanjdllaikoaaaW.PrintWords Go.Proofs.YtkanjdllaikoaaaW.PrintLast Go.Proofs.YtkanjdllaikoaaaW.PrintMore Go.Proofs.Ytkanjdllaikoaaa.PHexaData

def joinN (l : List Int) : List Int := if l.length % 2 = 1 then l.getD 0 0 :: packN (l.drop 1) else packN l
theorem joined_f (l : List Int) (hl : l.length ≤ 64) (hb : ∀ x ∈ l, 0 ≤ x ∧ x ≤ 15) (k : Nat) (hk : 40 < k) : hexa_joined.f k l = some (joinN l) := by
  obtain ⟨k, rfl⟩ : ∃ q, k = q + 1 := ⟨k - 1, by omega⟩
  unfold hexa_joined.f joinN
  by_cases h : l.length % 2 = 1
  · match l, h with
    | x :: r, h =>
      have hlr : r.length ≤ 63 := by simpa using hl
      have h2 : r.length % 2 = 0 := by simp only [List.length_cons] at h; omega
      rw [if_pos (by omega), if_pos (by simp only [List.length_cons]; omega), if_pos (by simp), if_pos (by simp only [List.length_cons]; omega), if_pos h]
      simp only [hexa_joined.j0, List.drop_one, List.tail_cons, List.nil_append, List.getD_cons_zero]
      have := joined_l0 r (by omega) (fun y hy => hb y (List.mem_cons_of_mem _ hy)) (r.length / 2) k 0 [x] r rfl (by omega) (by omega) (by simp; omega)
      rw [show rd (x :: r) 0 = x by simp [rd]]
      simpa using this
  · rw [if_neg (by omega), if_neg h]
    simp only [hexa_joined.j0]
    have := joined_l0 l (by omega) hb (l.length / 2) k 0 [] l rfl (by omega) (by omega) (by simp; omega)
    simpa using this
theorem joinN_length (l : List Int) (hl : l.length ≤ 64) : (joinN l).length ≤ 32 := by
  unfold joinN
  split
  · rw [List.length_cons, packN_length, List.length_drop]; omega
  · rw [packN_length]; omega
theorem packN_bd : ∀ l : List Int, (∀ x ∈ l, 0 ≤ x ∧ x ≤ 15) → ∀ y ∈ packN l, 0 ≤ y ∧ y ≤ 255
  | a :: b :: r, hb, y, hy => by
    have h1 := hb a (by simp); have h2 := hb b (by simp)
    simp only [packN, List.mem_cons] at hy
    rcases hy with rfl | hy
    · omega
    · exact packN_bd r (fun x hx => hb x (by simp [hx])) y hy
  | [a], _, y, hy => by simp [packN] at hy
  | [], _, y, hy => by simp [packN] at hy
theorem joinN_bd (l : List Int) (hb : ∀ x ∈ l, 0 ≤ x ∧ x ≤ 15) : ∀ y ∈ joinN l, 0 ≤ y ∧ y ≤ 255 := by
  unfold joinN
  split
  · intro y hy
    rcases List.mem_cons.1 hy with rfl | hy
    · match l with
      | [] => simp
      | x :: r => have := hb x (by simp); simp; omega
    · exact packN_bd _ (fun x hx => hb x (List.mem_of_mem_drop hx)) y hy
  · exact packN_bd l hb
theorem pack_val : ∀ (m : List Int) (acc : Nat), (∀ x ∈ m, 0 ≤ x ∧ x ≤ 15) → m.length % 2 = 0 → (packN m).foldl (fun v x => v * 2 ^ 8 + x.toNat) acc = m.foldl (fun v x => v * 2 ^ 4 + x.toNat) acc
  | a :: b :: r, acc, hb, h => by
    have h1 := hb a (by simp); have h2 := hb b (by simp)
    simp only [packN, List.foldl_cons]
    rw [pack_val r _ (fun x hx => hb x (by simp [hx])) (by simp only [List.length_cons] at h; omega)]
    congr 1
    omega
  | [a], _, _, h => by simp at h
  | [], _, _, _ => rfl
theorem joinN_val (l : List Int) (hb : ∀ x ∈ l, 0 ≤ x ∧ x ≤ 15) : valB 8 (joinN l) = valB 4 l := by
  unfold joinN valB
  split
  · rename_i h
    match l, h with
    | x :: r, h =>
      simp only [List.getD_cons_zero, List.foldl_cons, List.drop_one, List.tail_cons]
      rw [pack_val r _ (fun y hy => hb y (by simp [hy])) (by simp only [List.length_cons] at h; omega)]
  · rename_i h
    exact pack_val l 0 hb (by omega)
/-- A quantity's answers. -/
def qE (l : List Int) (ok : Bool) (most : Nat) : Int := if ok = false ∨ l.length = 0 then 80 else if 1 < l.length ∧ rd l 0 = 0 then 82 else if most < l.length then 83 else 0
def qV (l : List Int) (ok : Bool) (most : Nat) : Nat := if ok = false ∨ l.length = 0 then 0 else if 1 < l.length ∧ rd l 0 = 0 then 0 else if most < l.length then 0 else valB 4 l
end Go.Proofs.Ytkanjdllaikoaaa
