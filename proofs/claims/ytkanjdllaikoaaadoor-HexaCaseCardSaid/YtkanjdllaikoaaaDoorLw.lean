/- What the laws of layer 8 share: num, lists lent. -/
import Derived.Test.YtkanjdllaikoaaaDoorLnt
import Derived.Test.YtkanjdllaikoaaaDoorCom
set_option linter.unusedSimpArgs false
set_option linter.unusedVariables false
namespace Go.Proofs.YtkanjdllaikoaaaDoor
open Go Go.RowKit

theorem nm_c (v : Int) (w : World) : Calls Tryd.prog 11 #[.int .i64 v] w fun e w' => e = .returned (.int .i64 v) ∧ Below w.heap.size w w' := by
  refine calls_vm [.val (.int .i64 v)] (fn := Tryd.f11) Tryd.func11 (by kernel_rfl) (by kernel_rfl) (by kernel_rfl) (by simp [AV.okL, AV.ok]) ?_
  refine wpK_end (n := 400) (m := 0) (nx := 0) (hs := []) (v := .val (.int .i64 v)) follows trivial (by kernel_rfl) ?_
  intro ρ w' hf; exact ⟨rfl, hf.to_below⟩
theorem str_ne (s : ByteArray) : (!(s.toList == s.toList)) = false := by simp
theorem str_eq (s : ByteArray) : (s.toList == s.toList) = true := by simp
theorem room_lo (ρ : Env) (n : Nat) (l : List Int) (hl : l.length = n) (j : Nat) (hj : j < n + 70) : (Seg.cells ρ (gb n l).row)[0 + j]? = some (.int .u8 ((roomJ l 70).getD j 0)) := by
  rw [Nat.zero_add]
  simp only [Seg.cells, Seg.cell1, List.append_nil]
  exact vals_get .u8 _ j (by rw [roomJ_len l 70 (by omega)]; omega)
theorem gb_sl {ρ : Env} {w : World} {k n : Nat} {l : List Int} (h : Sits ρ w k (gb n l)) (hl : l.length = n) : Sl .u8 w (some ⟨ρ.b k, 0, none⟩) n l :=
  arr_Sl h hl fun j hj => by rw [room_lo ρ n l hl j (by omega), roomJ_lo l 70 j (by omega)]
theorem gb_slR {ρ : Env} {w : World} {k n : Nat} {l : List Int} (h : Sits ρ w k (gb n l)) (hl : l.length = n) : Sl .u8 w (some ⟨ρ.b k, 0, none⟩) (n + 70) (roomJ l 70) :=
  arr_Sl h (by rw [roomJ_len l 70 (by omega), hl]) fun j hj => room_lo ρ n l hl j hj
theorem bytes_rev {l : List Int} (h : Bytes l) : Bytes l.reverse := by
  have h1 : ∀ x ∈ l, 0 ≤ x ∧ x ≤ 255 := fun x hx => by
    obtain ⟨i, hi, rfl⟩ := List.mem_iff_getElem.1 hx
    have := h i hi
    rw [List.getD_eq_getElem?_getD, List.getElem?_eq_getElem hi] at this
    exact this
  intro i hi
  rw [List.getD_eq_getElem?_getD, List.getElem?_eq_getElem hi]
  exact h1 _ (List.mem_reverse.1 (List.getElem_mem hi))
theorem room_copy (l m : List Int) (n : Nat) (hl : l.length = n) (hm : m.length = n) : roomJ m 70 = (roomJ l 70).take 0 ++ (m ++ (roomJ l 70).drop (0 + n)) := by
  unfold roomJ
  rw [List.take_zero, List.nil_append, Nat.zero_add, ← hl, List.drop_left]
/-- A call that lends. -/
theorem call_lent {w : World} {A : Option Addr} {n c : Nat} {l : List Int} (k nm : Nat) (hS : Sl .u8 w A n l) (hn : n ≤ 9000000000000) :
    ∀ (ρ : Env) (w' : World), Fr No w w' → hasAll (ctx Tryd.prog w k) ρ w' [] → Calls Tryd.prog 8 #[.slice A n c] w' fun e w'' => Below w'.heap.size w' w'' ∧ ∃ B C, e = .returned (AV.conc (ρ.up nm B C) (.lst nm 0 0 n (n + 70))) ∧ Sits (ρ.up nm B C) w'' nm (gb n l) ∧ (Vblk.alive (ρ.up nm B C) nm (gb n l) → w'.heap.size ≤ B) := by
  intro ρ w' hf _
  refine (lent_c w' A n c l (hS.frN hf) hn).mono ?_
  rintro e w'' ⟨hb, B, rfl, hB, hlt⟩
  refine ⟨hb, B, 0, ?_, ?_, fun _ => hlt⟩
  · simp [AV.conc, Env.up_same]
  · unfold Sits
    simp only [Env.up_same, Seg.cells, Seg.cell1, List.append_nil]
    exact hB
end Go.Proofs.YtkanjdllaikoaaaDoor

