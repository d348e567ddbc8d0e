/- Lists that are handed in: integers, as they lie; what reads of them. -/
import Derived.Test.YthgnmpjcbicdhaaDoorVmK
set_option linter.unusedVariables false
set_option linter.unusedSimpArgs false
namespace Go.Proofs.YthgnmpjcbicdhaaDoor
open Go Go.RowKit
/-- The integers of a list that was handed in. -/
def Sl (k : IntKind) (w : World) (A : Option Addr) (n : Nat) (l : List Int) : Prop := l.length = n ∧ ∀ i, i < n → ∃ ad, A = some ad ∧ w.cell? (ad.add i) = some (.int k (l.getD i 0))
theorem Sl.at {k : IntKind} {w : World} {A : Addr} {n : Nat} {l : List Int} (h : Sl k w (some A) n l) (i : Nat) (hi : i < n) : w.cell? (A.add i) = some (.int k (l.getD i 0)) := by
  obtain ⟨ad, e, hc⟩ := h.2 i hi
  simp only [Option.some.injEq] at e
  subst e
  exact hc
theorem Sl.has {k : IntKind} {w : World} {A : Option Addr} {n : Nat} {l : List Int} (h : Sl k w A n l) (hn : 0 < n) : ∃ ad, A = some ad := by
  obtain ⟨ad, e, _⟩ := h.2 0 hn
  exact ⟨ad, e⟩
theorem adr_add (A : Addr) (i j : Nat) : (A.add i).add j = A.add (i + j) := by
  unfold Addr.add
  by_cases h1 : i = 0 <;> by_cases h2 : j = 0 <;> simp [h1, h2, Nat.add_assoc]
  all_goals (try omega)
theorem add_block (A : Addr) (i : Nat) : (A.add i).block = A.block := by unfold Addr.add; split <;> rfl
theorem Sl.drop {k : IntKind} {w : World} {A : Addr} {n : Nat} {l : List Int} (h : Sl k w (some A) n l) (q : Nat) : Sl k w (some (A.add q)) (n - q) (l.drop q) := by
  refine ⟨by rw [List.length_drop, h.1], fun i hi => ⟨_, rfl, ?_⟩⟩
  rw [adr_add, h.at (q + i) (by omega)]
  congr 2
  rw [List.getD_eq_getElem?_getD, List.getD_eq_getElem?_getD, List.getElem?_drop]
theorem Sl.stay {k : IntKind} {w w' : World} {A : Option Addr} {n : Nat} {l : List Int} (h : Sl k w A n l) (hw : ∀ ad, A = some ad → w'.heap[ad.block]? = w.heap[ad.block]?) : Sl k w' A n l := by
  refine ⟨h.1, fun i hi => ?_⟩
  obtain ⟨ad, e, hc⟩ := h.2 i hi
  refine ⟨ad, e, ?_⟩
  have hb := add_block ad i
  unfold World.cell? at hc ⊢
  rw [hb] at hc ⊢
  rw [hw ad e]
  exact hc
theorem Sl.lt {k : IntKind} {w : World} {A : Addr} {n : Nat} {l : List Int} (h : Sl k w (some A) n l) (hn : 0 < n) : A.block < w.heap.size := by
  have hc := h.at 0 hn
  unfold World.cell? at hc
  rcases Nat.lt_or_ge A.block w.heap.size with hl | hl
  · exact hl
  · rw [add_block, Array.getElem?_eq_none hl] at hc
    cases hc
/-- It lies as it lay, where other blocks alone are written. -/
theorem Sl.fr {k : IntKind} {F : Nat → Prop} {w w' : World} {A : Option Addr} {n : Nat} {l : List Int} (h : Sl k w A n l) (hf : Fr F w w') (hF : ∀ ad, A = some ad → 0 < n → ¬ F ad.block) : Sl k w' A n l := by
  rcases Nat.eq_zero_or_pos n with h0 | h0
  · exact ⟨h.1, fun i hi => by omega⟩
  · obtain ⟨ad, rfl⟩ := h.has h0
    exact h.stay fun a e => by
      simp only [Option.some.injEq] at e
      subst e
      exact hf.block _ (h.lt h0) (hF _ rfl h0)
theorem Sl.frN {k : IntKind} {w w' : World} {A : Option Addr} {n : Nat} {l : List Int} (h : Sl k w A n l) (hf : Fr No w w') : Sl k w' A n l := h.fr hf fun _ _ _ h => h
/-- What a copy asks of its source. -/
theorem Sl.src {k : IntKind} {w : World} {A : Option Addr} {n : Nat} {l : List Int} (h : Sl k w A n l) (q : Nat) (hq : q ≤ n) : 0 < (l.take q).length → ∃ ad, A = some ad ∧ ∀ j v, ((l.take q).map (Value.int k))[j]? = some v → w.cell? (ad.add j) = some v := by
  intro hpos
  have hl := h.1
  obtain ⟨ad, rfl⟩ := h.has (by simp at hpos; omega)
  refine ⟨ad, rfl, fun j v hj => ?_⟩
  rw [List.getElem?_map, List.getElem?_take] at hj
  split at hj
  · rename_i hjq
    rw [h.at j (by omega)]
    rw [List.getElem?_eq_getElem (by omega)] at hj
    simp only [Option.map_some, Option.some.injEq] at hj
    rw [← hj]
    congr 2
    rw [List.getD_eq_getElem?_getD, List.getElem?_eq_getElem (by omega)]
    rfl
  · cases hj
theorem size_one {P : Program} {e : TypeId} (hs : (P.info? e).map (·.size) = some 1) (w : World) : (sizeOf e).run P w = .ok 1 w := by
  cases hq : P.info? e with
  | none => rw [hq] at hs; cases hs
  | some inf =>
    rw [hq] at hs
    have hs : inf.size = 1 := by simpa using hs
    exact sizeA_run (Γ := ctx P w 0) (by unfold sizeA; show (match P.info? e with | some i => _ | none => _) = _; rw [hq, ← hs]) w
abbrev slG (t : TypeId) (A : Option Addr) (n c : Nat) (k : IntKind) (i : Int) : Sem Next := do pure (.value (← Instr.indexAt t (.slice A n c) (.int k i)))
abbrev ldG (t : TypeId) (A : Addr) : Sem Next := do pure (.value (← Instr.loadAt t (.pointer (some A))))
abbrev slLo (t : TypeId) (A : Addr) (n c : Nat) (k : IntKind) (u : Int) : Sem Next := do pure (.value (← Instr.sliceAt t (.slice (some A) n c) (some (.int k u)) none none))
theorem sl_index {P : Program} {F : Nat → Prop} {w : World} {t e : TypeId} (hu : P.underlying t = some (.slice e)) (hs : (P.info? e).map (·.size) = some 1) {k' : IntKind} {A : Addr} {n c : Nat} {i : Nat} (hi : i < n) :
    ∀ (ρ : Env) (w' : World), Fr F w w' → (slG t (some A) n c k' (i : Int)).run P w' = .ok (.value (.pointer (some (A.add i)))) w' := by
  intro ρ w' hf
  have hsz := size_one hs w'
  have h1 : (0 : Int) ≤ (i : Int) ∧ (i : Int) < (n : Int) := by omega
  unfold slG
  simp [Instr.indexAt, asIntOf, run_underlying hu, hsz, h1, hi]
theorem sl_load {P : Program} {F : Nat → Prop} {w : World} {t : TypeId} {d : TypeDesc} (hu : P.underlying t = some d) (hd : d.isRow = false) {A : Addr} {v : Value} (h : ∀ w', Fr F w w' → w'.cell? A = some v) :
    ∀ (ρ : Env) (w' : World), Fr F w w' → (ldG t A).run P w' = .ok (.value v) w' := by
  intro ρ w' hf
  unfold ldG
  have := run_loadVar_one (P := P) w' A t d _ hu hd (h w' hf)
  simp [Instr.loadAt, Instr.sureAddr, this]
theorem sl_lo {P : Program} {F : Nat → Prop} {w : World} {t e : TypeId} (hu : P.underlying t = some (.slice e)) (hs : (P.info? e).map (·.size) = some 1) {k : IntKind} {A : Addr} {n c u : Nat} (h : u ≤ n) (hc : n ≤ c) :
    ∀ (ρ : Env) (w' : World), Fr F w w' → (slLo t A n c k (u : Int)).run P w' = .ok (.value (.slice (some (if c = u then A else A.add u)) (n - u) (c - u))) w' := by
  intro ρ w' hf
  have hsz := size_one hs w'
  have hb := bounds_run (P := P) (w := w') (isSlice := true) (lo := some (.int k (u : Int))) (hi := none) (len := n) (cap := c) (l := u) (u := n) h hc (.inr ⟨k, rfl⟩) (.inl ⟨rfl, rfl⟩)
  unfold slLo
  by_cases hcu : c = u
  · subst hcu
    simp [Instr.sliceAt, Instr.slice, run_underlying hu, hsz, hb]
  · have : c - u ≠ 0 := by omega
    simp [Instr.sliceAt, Instr.slice, run_underlying hu, hsz, hb, hcu, this]
theorem Sl.dropC {k : IntKind} {w : World} {A : Addr} {n c : Nat} {l : List Int} (h : Sl k w (some A) n l) (q : Nat) (hc : n ≤ c) : Sl k w (some (if c = q then A else A.add q)) (n - q) (l.drop q) := by
  split
  · exact ⟨by rw [List.length_drop, h.1], fun i hi => by omega⟩
  · exact h.drop q
theorem run_ptrNil {P : Program} (d : Nat) {t e : TypeId} (hu : P.underlying t = some (.pointer e)) (A : Addr) (w : World) : (Op.equalIn (d + 1) t (.pointer (some A)) (.pointer none)).run P w = .ok false w := by
  simp [Op.equalIn, run_underlying hu]
abbrev eqNil (t : TypeId) (A : Addr) : Sem Next := do pure (.value (← (do pure (Value.bool (← Op.equal t (.pointer (some A)) (.pointer none))))))
theorem ptr_eqNil {P : Program} {F : Nat → Prop} {w : World} {t e : TypeId} (hu : P.underlying t = some (.pointer e)) (k off : Nat) :
    ∀ (ρ : Env) (w' : World), Fr F w w' → (eqNil t ⟨ρ.b k, off, none⟩).run P w' = .ok (.value (.bool false)) w' := by
  intro ρ w' hf
  have h := run_ptrNil (P := P) 9999 hu ⟨ρ.b k, off, none⟩ w'
  have e : (Op.equal t (.pointer (some ⟨ρ.b k, off, none⟩)) (.pointer none)).run P w' = .ok false w' := h
  unfold eqNil
  simp [e]
end Go.Proofs.YthgnmpjcbicdhaaDoor

