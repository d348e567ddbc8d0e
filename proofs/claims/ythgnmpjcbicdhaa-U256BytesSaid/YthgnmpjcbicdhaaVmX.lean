/- The abstract machine: lists that are handed in, lists that are handed over. -/
import Derived.Test.YthgnmpjcbicdhaaVmK
import Derived.Test.YthgnmpjcbicdhaaWWords
set_option linter.unusedVariables false
set_option linter.unusedSimpArgs false
namespace Go.Proofs.Ythgnmpjcbicdhaa
open Go Go.RowKit Go.Proofs.YthgnmpjcbicdhaaW.PrintWords
abbrev slc (t : TypeId) (A : Option Addr) (n c : Nat) (k : IntKind) (i : Int) : Sem Next := do pure (.value (← Instr.indexAt t (.slice A n c) (.int k i)))
abbrev lda (t : TypeId) (A : Addr) : Sem Next := do pure (.value (← Instr.loadAt t (.pointer (some A))))
def adr (A : Option Addr) (i : Nat) : Addr := match A with
  | some a => a.add i
  | none => ⟨0, 0, none⟩
theorem C_at {k : IntKind} {w : World} {A : Option Addr} {n : Nat} {l : List Int} (h : Kd.C (Kd.int k) w A n l) (i : Nat) (hi : i < n) : ∃ ad, A = some ad ∧ w.cell? (ad.add i) = some (.int k (l.getD i 0)) := by
  obtain ⟨ad, e, hc⟩ := Kd.at_int h i (by omega) (by omega)
  exact ⟨ad, e, by simpa [rd] using hc⟩
/-- The place of a part of a list that was handed in. -/
theorem ext_index {P : Program} {w : World} {t e : TypeId} (hu : P.underlying t = some (.slice e)) (hs : (P.info? e).map (·.size) = some 1) {k k' : IntKind} {A : Option Addr} {n c : Nat} {l : List Int} (h : Kd.C (Kd.int k) w A n l) {i : Nat} (hi : i < n) :
    ∀ (ρ : Env) (w' : World), Fr No w w' → (slc t A n c k' (i : Int)).run P w' = .ok (.value (.pointer (some (adr A i)))) w' := by
  intro ρ w' hf
  obtain ⟨ad, rfl, hc⟩ := C_at h i hi
  have hsz : (sizeOf e).run P w' = .ok 1 w' := by
    cases hq : P.info? e with
    | none => rw [hq] at hs; cases hs
    | some inf =>
      rw [hq] at hs
      have hs : inf.size = 1 := by simpa using hs
      exact sizeA_run (Γ := ctx P w 0) (by unfold sizeA; show (match P.info? e with | some i => _ | none => _) = _; rw [hq, ← hs]) w'
  have h1 : (0 : Int) ≤ (i : Int) ∧ (i : Int) < (n : Int) := by omega
  unfold slc
  simp [Instr.indexAt, asIntOf, run_underlying hu, hsz, h1, hi, adr]
theorem ext_load {P : Program} {w : World} {t : TypeId} {d : TypeDesc} (hu : P.underlying t = some d) (hd : d.isRow = false) {k : IntKind} {A : Option Addr} {n : Nat} {l : List Int} (h : Kd.C (Kd.int k) w A n l) {i : Nat} (hi : i < n) :
    ∀ (ρ : Env) (w' : World), Fr No w w' → (lda t (adr A i)).run P w' = .ok (.value (.int k (l.getD i 0))) w' := by
  intro ρ w' hf
  obtain ⟨ad, rfl, hc⟩ := C_at (Kd.C_below h hf.to_below) i hi
  unfold lda
  have := run_loadVar_one (P := P) w' (ad.add i) t d _ hu hd hc
  simp [Instr.loadAt, Instr.sureAddr, adr, this]
abbrev sli (t : TypeId) (A : Addr) (n c : Nat) (k : IntKind) (u : Int) : Sem Next := do pure (.value (← Instr.sliceAt t (.slice (some A) n c) none (some (.int k u)) none))
theorem ext_slice {P : Program} {w : World} {t e : TypeId} (hu : P.underlying t = some (.slice e)) (hs : (P.info? e).map (·.size) = some 1) {k : IntKind} {A : Addr} {n c u : Nat} (h : u ≤ c) :
    ∀ (ρ : Env) (w' : World), Fr No w w' → (sli t A n c k (u : Int)).run P w' = .ok (.value (.slice (some A) u c)) w' := by
  intro ρ w' hf
  have hsz : (sizeOf e).run P w' = .ok 1 w' := by
    cases hq : P.info? e with
    | none => rw [hq] at hs; cases hs
    | some inf =>
      rw [hq] at hs
      have hs : inf.size = 1 := by simpa using hs
      exact sizeA_run (Γ := ctx P w 0) (by unfold sizeA; show (match P.info? e with | some i => _ | none => _) = _; rw [hq, ← hs]) w'
  have hb := bounds_run (P := P) (w := w') (isSlice := true) (lo := none) (hi := some (.int k (u : Int))) (len := n) (cap := c) (l := 0) (u := u) (by omega) h (.inl ⟨rfl, rfl⟩) (.inr ⟨k, rfl⟩)
  unfold sli
  have h0 : A.add 0 = A := by simp [Addr.add]
  simp [Instr.sliceAt, Instr.slice, run_underlying hu, hsz, hb, h0]
theorem nums_get (k : IntKind) (l : List Int) (i : Nat) (hi : i < l.length) : (l.map (Value.int k))[i]? = some (.int k (l.getD i 0)) := by
  rw [List.getElem?_map, List.getElem?_eq_getElem hi]
  simp [hi]
/-- A list of the call's own, as another function sees it. -/
theorem C_own {ρ : Env} {w : World} {k n : Nat} {kd : IntKind} {l : List Int} {ty : TypeId} (h : Sits ρ w k ⟨[.ints kd n l], ty, .own 1⟩) (hl : l.length = n) (hn : n ≤ 9223372036854775807) :
    ∃ A c, AV.conc ρ (.own k 1 0 n) = .slice A n c ∧ Kd.C (Kd.int kd) w A n l := by
  have hrow : Seg.cells ρ [.ints kd n l] = l.map (Value.int kd) := by simp [Seg.cells, Seg.cell1]
  subst hl
  have h0 := h
  unfold Sits at h
  simp only at h
  rw [hrow] at h
  obtain ⟨h1, h2⟩ := h
  by_cases hc : ρ.c k = 0
  · have := h1 hc
    have hl0 : l = [] := by simpa using this
    subst hl0
    refine ⟨none, 0, by simp [AV.conc, hc], Kd.C_of_reads (d := (0 : Int)) (h1 := fun _ => rfl) ⟨rfl, hn, fun h => absurd h (by simp)⟩⟩
  · obtain ⟨c, hc⟩ : ∃ c, ρ.c k = c + 1 := ⟨ρ.c k - 1, by omega⟩
    obtain ⟨_, spare, e1, e2⟩ := h2 (by omega)
    refine ⟨some ⟨ρ.b k, 0, none⟩, c + 1, by simp [AV.conc, hc], Kd.C_of_reads (d := (0 : Int)) (h1 := fun _ => rfl) ⟨rfl, hn, fun _ => ⟨_, rfl, fun j hj => ?_⟩⟩⟩
    have := (h0.rd (by simp) (o := j) (v := .int kd (l.getD j 0)) (by rw [hrow]; exact nums_get kd l j hj)).1
    rw [add_at, Nat.zero_add]
    simpa using this
/-- A list in a block of the call's own. -/
theorem C_arr {ρ : Env} {w : World} {k n : Nat} {kd : IntKind} {l : List Int} {ty : TypeId} {row : List Seg} {off : Nat} (h : Sits ρ w k ⟨row, ty, .arr⟩) (hl : l.length = n) (hn : n ≤ 9223372036854775807) (hr : ∀ j, j < n → (Seg.cells ρ row)[off + j]? = some (.int kd (l.getD j 0))) :
    Kd.C (Kd.int kd) w (some ⟨ρ.b k, off, none⟩) n l := by
  refine Kd.C_of_reads (d := (0 : Int)) (h1 := fun _ => rfl) ⟨hl, hn, fun _ => ⟨_, rfl, fun j hj => ?_⟩⟩
  have := (h.rd (by simp) (hr j hj)).1
  rw [add_at]
  simpa using this
end Go.Proofs.Ythgnmpjcbicdhaa

