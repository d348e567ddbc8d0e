/- Data, HashText: the program. -/
import Derived.Test.YtkanjdllaikoaaaDoorLnt
import Derived.Test.YtkanjdllaikoaaaDoorCom
set_option linter.unusedSimpArgs false
set_option linter.unusedVariables false
namespace Go.Proofs.YtkanjdllaikoaaaDoor
open Go Go.RowKit

def dataR (w : World) (l : List Int) (e : Ending) (w' : World) : Prop := e = .returned (.tuple #[.string (withX ⟨(hexL l).toArray⟩), .int .i64 0]) ∧ Below w.heap.size w w'
theorem hexS_size (l : List Int) : (⟨(hexL l).toArray⟩ : ByteArray).size = 2 * l.length := by
  show (hexL l).toArray.size = _
  simp [hexL_len]
theorem data_c (w : World) (A : Option Addr) (n c : Nat) (l : List Int) (hS : Sl .u8 w A n l) (hb : Bytes l) (hn : n ≤ 16777216) :
    Calls Tryd.prog 9 #[.slice A n c] w (dataR w l) := by
  obtain ⟨T, hT⟩ : ∃ T : ByteArray, T = ⟨(hexL l).toArray⟩ := ⟨_, rfl⟩
  have hs : T.size ≤ 8000000000000000000 := by rw [hT, hexS_size, hS.1]; omega
  have hg : decide ((n : Int) > 16777216) = false := by simp; omega
  have wc : ∀ w', Fr No w w' → Calls Tryd.prog 31 #[.slice A n c] w' fun e w'' => e = .returned (.string T) ∧ Below w'.heap.size w' w'' := fun w' hf => by
    have := written_c w' A n c l (hS.frN hf) hb (by omega)
    unfold wR at this
    rw [← hT] at this
    exact this
  unfold dataR
  rw [← hT]
  refine calls_vm [.val (.slice A n c)] (fn := Tryd.f9) Tryd.func9 (by kernel_rfl) (by kernel_rfl) (by kernel_rfl) (by simp [AV.okL, AV.ok]) ?_
  refine wpK_end (n := 400) (m := 0) (nx := 0) (hs := [(6, .eq (.val (.bool false))), (8, .call (.val (.string T))), (9, .as (.val (.string (withX T))))]) (v := .tup [.val (.string (withX T)), .val (.int .i64 0)]) follows (And.intro (congrArg Value.bool hg) (And.intro wc (cat_x (F := No) (w := w) T hs))) (by kernel_rfl) ?_
  intro ρ w' hf; exact ⟨rfl, hf.to_below⟩
theorem htext_c (w : World) (h : List Int) (hh : h.length = 32) (hb : Bytes h) :
    Calls Tryd.prog 20 #[adrV h] w (strR w (withX ⟨(hexL h).toArray⟩)) := by
  obtain ⟨T, hT⟩ : ∃ T : ByteArray, T = ⟨(hexL h).toArray⟩ := ⟨_, rfl⟩
  have hs : T.size ≤ 8000000000000000000 := by rw [hT, hexS_size, hh]; omega
  have hsm : ∀ (ρ : Env) w', Fr No w w' → hasAll (ctx Tryd.prog w Tryd.f20.ntmps) ρ w' [(0, ⟨[.ints .u8 32 h], 29, .arr⟩)] → Calls Tryd.prog 31 #[AV.conc ρ (.lst 0 0 0 32 32)] w' fun e w'' => e = .returned (AV.conc ρ (.val (.string T))) ∧ Below w'.heap.size w' w'' := by
    intro ρ w' hf hh'
    have hSl : Sl .u8 w' (some ⟨ρ.b 0, 0, none⟩) 32 h := arr_Sl hh'.1.1 hh fun j hj => by
      rw [Nat.zero_add]
      simp only [Seg.cells, Seg.cell1, List.append_nil]
      exact vals_get .u8 h j (by omega)
    have := written_c w' _ 32 32 h hSl hb (by omega)
    unfold wR at this
    rw [← hT] at this
    exact this
  unfold strR
  rw [← hT]
  refine calls_vm [.agg [.ints .u8 32 h]] (fn := Tryd.f20) Tryd.func20 (by kernel_rfl) (by kernel_rfl) (by kernel_rfl) ⟨⟨hh, trivial⟩, trivial⟩ ?_
  refine wpK_end (n := 400) (m := 0) (nx := 0) (hs := [(3, .sub 0 32), (4, .callM [0] (.val (.string T)) none), (5, .as (.val (.string (withX T))))]) (v := .val (.string (withX T))) follows (And.intro (rfl : (0 : Nat) = 0) (And.intro (rfl : (32 : Nat) = 32) (And.intro (Nat.zero_le 32) (And.intro (Nat.le_refl 32) (And.intro (Nat.succ_pos 31) (And.intro hsm (And.intro (show ∀ D : Nat → Prop, (∀ k, k ∈ [0] → D k) → AV.ok D (.val (.string T)) from fun _ _ => trivial) (cat_x (F := No) (w := w) T hs)))))))) (by kernel_rfl) ?_
  intro ρ w' hf; exact ⟨rfl, hf.to_below⟩
end Go.Proofs.YtkanjdllaikoaaaDoor

