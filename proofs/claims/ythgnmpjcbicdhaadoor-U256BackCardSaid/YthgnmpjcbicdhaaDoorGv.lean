/- Lists that are handed over, and lists of the call's own as another function sees them. -/
import Derived.Test.YthgnmpjcbicdhaaDoorSl
set_option linter.unusedVariables false
set_option linter.unusedSimpArgs false
namespace Go.Proofs.YthgnmpjcbicdhaaDoor
open Go Go.RowKit
/-- A list of bytes that is handed over: new. -/
def GivesT (ty : TypeId) (k : IntKind) (w : World) (l : List Int) (e : Ending) (w' : World) : Prop :=
  Below w.heap.size w w' ∧ ∃ B C, e = .returned (ownVal B C l.length) ∧ OwnAt w' B C 1 ty (l.map (Value.int k)) ∧ (0 < C → w.heap.size ≤ B)
abbrev Gives (w : World) (l : List Int) (e : Ending) (w' : World) : Prop := GivesT 5 .u8 w l e w'
abbrev ob (n : Nat) (l : List Int) : Vblk := ⟨[.ints .u8 n l], 5, .own 1⟩
theorem gives_ofT {P : Program} {w : World} {n m : Nat} {l : List Int} {k : Nat} {kd : IntKind} {ty : TypeId} {ρ : Env} {w' : World} (hl : l.length = n) (hf : Fr No w w') (hh : hasAll (ctx P w m) ρ w' [(k, ⟨[.ints kd n l], ty, .own 1⟩)]) : GivesT ty kd w l (.returned ((AV.own k 1 0 n).conc ρ)) w' := by
  subst hl
  have hs := hh.1.1
  refine ⟨hf.to_below, ρ.b k, ρ.c k, ?_, ?_, ?_⟩
  · unfold ownVal
    cases hc : ρ.c k with
    | zero => simp [AV.conc, hc]
    | succ c => simp [AV.conc, hc]
  · unfold Sits at hs
    simp only [Seg.cells, Seg.cell1, List.append_nil] at hs
    exact hs
  · intro hc
    rcases hh.1.2 hc with h | h
    · exact h.elim
    · exact h
theorem gives_of {P : Program} {w : World} {n m : Nat} {l : List Int} {k : Nat} {ρ : Env} {w' : World} (hl : l.length = n) (hf : Fr No w w') (hh : hasAll (ctx P w m) ρ w' [(k, ob n l)]) : Gives w l (.returned ((AV.own k 1 0 n).conc ρ)) w' := gives_ofT hl hf hh
/-- A call that hands over a new list. -/
theorem callGT {P : Program} {w : World} {f : FuncId} {args : Array Value} {l : List Int} {kd : IntKind} {ty : TypeId} (k nm n : Nat) (c : ∀ w', Fr No w w' → Calls P f args w' (GivesT ty kd w' l)) (hl : l.length = n) :
    ∀ (ρ : Env) (w' : World), Fr No w w' → hasAll (ctx P w k) ρ w' [] → Calls P f args w' fun e w'' => Below w'.heap.size w' w'' ∧ ∃ B C, e = .returned (AV.conc (ρ.up nm B C) (.own nm 1 0 n)) ∧ Sits (ρ.up nm B C) w'' nm ⟨[.ints kd n l], ty, .own 1⟩ ∧ (Vblk.alive (ρ.up nm B C) nm ⟨[.ints kd n l], ty, .own 1⟩ → w'.heap.size ≤ B) := by
  intro ρ w' hf _
  subst hl
  refine (c w' hf).mono ?_
  rintro e w'' ⟨hb, B, C, rfl, ho, hB⟩
  refine ⟨hb, B, C, by rw [ownVal_conc], ?_, fun ha => hB ?_⟩
  · unfold Sits
    simp only [Env.up_same, Env.up_sameC, Seg.cells, Seg.cell1, List.append_nil]
    exact ho
  · unfold Vblk.alive at ha
    simp only [Env.up_sameC] at ha
    exact ha
theorem callG {P : Program} {w : World} {f : FuncId} {args : Array Value} {l : List Int} (k nm n : Nat) (c : ∀ w', Fr No w w' → Calls P f args w' (Gives w' l)) (hl : l.length = n) :
    ∀ (ρ : Env) (w' : World), Fr No w w' → hasAll (ctx P w k) ρ w' [] → Calls P f args w' fun e w'' => Below w'.heap.size w' w'' ∧ ∃ B C, e = .returned (AV.conc (ρ.up nm B C) (.own nm 1 0 n)) ∧ Sits (ρ.up nm B C) w'' nm (ob n l) ∧ (Vblk.alive (ρ.up nm B C) nm (ob n l) → w'.heap.size ≤ B) := callGT k nm n c hl
theorem vals_get (k : IntKind) (l : List Int) (i : Nat) (hi : i < l.length) : (l.map (Value.int k))[i]? = some (.int k (l.getD i 0)) := by
  rw [List.getElem?_map, List.getElem?_eq_getElem hi]
  simp [hi]
/-- A list of the call's own, as another function sees it. -/
theorem own_Sl {ρ : Env} {w : World} {k n : Nat} {kd : IntKind} {l : List Int} {ty : TypeId} (h : Sits ρ w k ⟨[.ints kd n l], ty, .own 1⟩) (hl : l.length = n) :
    ∃ A c, AV.conc ρ (.own k 1 0 n) = .slice A n c ∧ Sl kd w A n l ∧ n ≤ c ∧ (c = ρ.c k) := by
  have hrow : Seg.cells ρ [.ints kd n l] = l.map (Value.int kd) := by simp [Seg.cells, Seg.cell1]
  subst hl
  have h0 := h
  unfold Sits at h
  simp only at h
  rw [hrow] at h
  obtain ⟨h1, h2⟩ := h
  by_cases hc : ρ.c k = 0
  · have := h1 hc
    have hl0 : l = [] := by simpa using this
    subst hl0
    exact ⟨none, 0, by simp [AV.conc, hc], ⟨rfl, fun i hi => absurd hi (by simp)⟩, Nat.le_refl _, hc.symm⟩
  · obtain ⟨c, hc⟩ : ∃ c, ρ.c k = c + 1 := ⟨ρ.c k - 1, by omega⟩
    obtain ⟨_, spare, e1, e2⟩ := h2 (by omega)
    refine ⟨some ⟨ρ.b k, 0, none⟩, c + 1, by simp [AV.conc, hc], ⟨rfl, fun j hj => ⟨_, rfl, ?_⟩⟩, ?_, by omega⟩
    · have := (h0.rd (by simp) (o := j) (v := .int kd (l.getD j 0)) (by rw [hrow]; exact vals_get kd l j hj)).1
      rw [add_at, Nat.zero_add]
      exact this
    · rw [hc] at e1
      simp at e1
      omega
/-- A list in a block of the call's own. -/
theorem arr_Sl {ρ : Env} {w : World} {k n : Nat} {kd : IntKind} {l : List Int} {ty : TypeId} {row : List Seg} {off : Nat} (h : Sits ρ w k ⟨row, ty, .arr⟩) (hl : l.length = n) (hr : ∀ j, j < n → (Seg.cells ρ row)[off + j]? = some (.int kd (l.getD j 0))) :
    Sl kd w (some ⟨ρ.b k, off, none⟩) n l := by
  refine ⟨hl, fun j hj => ⟨_, rfl, ?_⟩⟩
  have := (h.rd (by simp) (hr j hj)).1
  rw [add_at]
  exact this
end Go.Proofs.YthgnmpjcbicdhaaDoor

