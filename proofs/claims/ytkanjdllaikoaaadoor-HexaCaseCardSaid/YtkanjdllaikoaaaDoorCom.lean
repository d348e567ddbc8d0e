/- Texts: bytes of them, joined. -/
import Derived.Test.YtkanjdllaikoaaaDoorHSp
set_option linter.unusedSimpArgs false
set_option linter.unusedVariables false
namespace Go.Proofs.YtkanjdllaikoaaaDoor
open Go Go.RowKit

abbrev adrA (a : List Int) : AV := .agg [.ints .u8 20 a]
abbrev adrV (a : List Int) : Value := .agg (a.map (Value.int .u8) ++ []).toArray
abbrev siG (t : TypeId) (s : ByteArray) (i : Int) : Sem Next := do pure (.value (← Instr.index t (.string s) (.int .i64 i)))
theorem si_run (w : World) (s : ByteArray) (i : Nat) (hi : i < s.size) : (siG 9 s (i : Int)).run Tryd.prog w = .ok (.value (.int .u8 ((bytesI s).getD i 0))) w := by
  have h1 : (0 : Int) ≤ (i : Int) ∧ (i : Int) < (s.size : Int) := by omega
  have h2 : (bytesI s).getD i 0 = ((s[i]'hi).toNat : Int) := by
    unfold bytesI
    have h3 : i < s.data.size := hi
    rw [List.getD_eq_getElem?_getD, List.getElem?_map, Array.getElem?_toList, Array.getElem?_eq_getElem h3]
    rfl
  rw [h2]
  unfold siG
  simp [Instr.index, asIntOf, h1, hi]
abbrev catG (a b : ByteArray) : Sem Next := do pure (.value (← binOp .add 9 (.string a) (.string b)))
theorem cat_run (w : World) (a b : ByteArray) (h : a.size + b.size ≤ 9000000000000000000) : (catG a b).run Tryd.prog w = .ok (.value (.string (a ++ b))) w := by
  have h1 : ¬ ((a.size + b.size : Nat) : Int) > IntKind.i64.max := by
    have : IntKind.i64.max = 9223372036854775807 := rfl
    omega
  unfold catG
  simp only [binOp, Op.stringOp]
  rw [if_neg h1]
  rfl
theorem strI_size (l : List Int) : (strI l).size = l.length := by
  show ((l.map _).toArray).size = _
  simp
theorem cat_x {F : Nat → Prop} {w : World} (s : ByteArray) (h : s.size ≤ 8000000000000000000) : ∀ (ρ : Env) (w' : World), Fr F w w' → (catG ⟨#[48, 120]⟩ s).run Tryd.prog w' = .ok (.value (.string (withX s))) w' := fun ρ w' _ => cat_run w' _ _ (by have : (⟨#[48, 120]⟩ : ByteArray).size = 2 := rfl; omega)
theorem cat_xx (s : ByteArray) : (Value.string (⟨#[48, 120]⟩ ++ s)) = .string (withX s) := rfl
theorem sub_add (c : Int) (h : 97 ≤ c ∧ c < 256) : IntKind.u8.wrap (IntKind.u8.wrap (c - 97) + 65) = c - 32 := by
  rw [IntKind.wrap_u8, IntKind.wrap_u8]; omega
theorem h_div (x : Int) (h : 0 ≤ x ∧ x < 256) : IntKind.u8.wrap (x.tdiv 16) = x / 16 := by
  rw [Int.tdiv_eq_ediv_of_nonneg h.1, IntKind.wrap_u8]; omega
theorem h_mod (x : Int) (h : 0 ≤ x) : x.tmod 16 = x % 16 := by
  rw [Int.tmod_eq_emod_of_nonneg h]
theorem half2 (i : Nat) (h : i < 1000) : IntKind.i64.wrap ((i : Int).tdiv 2) = ((i / 2 : Nat) : Int) := by
  rw [Int.tdiv_eq_ediv_of_nonneg (by omega), IntKind.wrap_i64]; omega
theorem rem2 (i : Nat) : (i : Int).tmod 2 = ((i % 2 : Nat) : Int) := by
  rw [Int.tmod_eq_emod_of_nonneg (by omega)]; omega
theorem hashOf_byte (X : Nat → B64) : ByteL (hashOf X) := by
  intro x hx
  have : ∃ i, x = hashB X i := by
    unfold hashOf at hx
    simp only [List.mem_cons, List.not_mem_nil, or_false] at hx
    rcases hx with rfl | rfl | rfl | rfl | rfl | rfl | rfl | rfl | rfl | rfl | rfl | rfl | rfl | rfl | rfl | rfl | rfl | rfl | rfl | rfl | rfl | rfl | rfl | rfl | rfl | rfl | rfl | rfl | rfl | rfl | rfl | rfl
    all_goals exact ⟨_, rfl⟩
  obtain ⟨i, rfl⟩ := this
  have := hashB_byte X i
  omega
theorem stringSize (a : List Int) (h : a.length = 20) : (⟨(hexL a).toArray⟩ : ByteArray).size = 40 := by
  show (hexL a).toArray.size = 40
  simp [hexL_len, h]
def strR (w : World) (s : ByteArray) (e : Ending) (w' : World) : Prop := e = .returned (.string s) ∧ Below w.heap.size w w'
end Go.Proofs.YtkanjdllaikoaaaDoor

