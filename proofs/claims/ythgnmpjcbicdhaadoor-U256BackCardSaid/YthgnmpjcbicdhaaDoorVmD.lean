/- The abstract machine: a region that draws its order. -/
import Derived.Test.YthgnmpjcbicdhaaDoorVmC
set_option linter.unusedVariables false
set_option linter.unusedSimpArgs false
namespace Go.Proofs.YthgnmpjcbicdhaaDoor
open Go Go.RowKit

/-- Those of the operations that are done. -/
noncomputable def sAt (base : Nat) (D : Nat → Prop) : Nat → List (Oper × Option Res) → AS → AS
  | _, [], s => s
  | k, (o, q) :: r, s => sAt base D (k + 1) r (open Classical in if D k then applyQ (base + k) o q s else s)
/-- What an operation writes. -/
def wT (o : Oper) (q : Option Res) : Option Nat := match q with
  | none => o.dst
  | some r => match r.tv with
    | some _ => o.dst
    | none => none
def wM (nm : Nat) (q : Option Res) : List Nat := match q with
  | none => []
  | some r => (r.mw nm).map (·.1)
theorem look_setD_ne {d : Option Tmp} {v : Option AV} {tm : List (Nat × AV)} {t : Nat} (h : d ≠ some t ∨ v = none) : look t (setD d v tm) = look t tm := by
  unfold setD
  split
  · rename_i d v
    refine look_lay_ne (fun e => ?_) _ _
    rcases h with h | h
    · exact h (by rw [e])
    · cases h
  · rfl
theorem look_layAll_ne : ∀ {ms : List (Nat × Vblk)} {mem : List (Nat × Vblk)} {k : Nat}, k ∉ ms.map (·.1) → look k (layAll ms mem) = look k mem
  | [], _, _, _ => rfl
  | (j, b) :: r, mem, k, h => by
    simp only [List.map_cons, List.mem_cons, not_or] at h
    simp only [layAll]
    rw [look_layAll_ne h.2, look_lay_ne h.1]
theorem look_layAll_in : ∀ {ms : List (Nat × Vblk)} {mem mem' : List (Nat × Vblk)} {k : Nat}, k ∈ ms.map (·.1) → look k (layAll ms mem) = look k (layAll ms mem')
  | [], _, _, _, h => by cases h
  | (j, b) :: r, mem, mem', k, h => by
    simp only [layAll]
    by_cases hr : k ∈ r.map (·.1)
    · exact look_layAll_in hr
    · rw [look_layAll_ne hr, look_layAll_ne hr]
      simp only [List.map_cons, List.mem_cons] at h
      have := h.resolve_right hr
      subst this
      rw [look_lay_same, look_lay_same]
theorem apply_tm_ne {nm : Nat} {o : Oper} {q : Option Res} {s : AS} {t : Nat} (h : wT o q ≠ some t) : look t (applyQ nm o q s).tm = look t s.tm := by
  unfold applyQ
  cases q with
  | none => exact look_setD_ne (.inl h)
  | some r =>
    refine look_setD_ne ?_
    unfold wT at h
    simp only at h
    cases hv : r.tv with
    | none => exact .inr rfl
    | some v => rw [hv] at h; exact .inl h
theorem apply_mem_ne {nm : Nat} {o : Oper} {q : Option Res} {s : AS} {k : Nat} (h : k ∉ wM nm q) : look k (applyQ nm o q s).mem = look k s.mem := by
  unfold applyQ
  cases q with
  | none => rfl
  | some r => exact look_layAll_ne h
theorem apply_tm_eq {nm : Nat} {o : Oper} {q : Option Res} {s s' : AS} {t : Nat} (h : wT o q = some t) : look t (applyQ nm o q s).tm = look t (applyQ nm o q s').tm := by
  unfold applyQ
  cases q with
  | none =>
    have h : o.dst = some t := h
    simp only [setD, h]
    rw [look_lay_same, look_lay_same]
  | some r =>
    unfold wT at h
    simp only at h
    cases hv : r.tv with
    | none => rw [hv] at h; cases h
    | some v =>
      rw [hv] at h
      have h : o.dst = some t := h
      simp only [setD, h, hv]
      rw [look_lay_same, look_lay_same]
theorem apply_mem_eq {nm : Nat} {o : Oper} {q : Option Res} {s s' : AS} {k : Nat} (h : k ∈ wM nm q) : look k (applyQ nm o q s).mem = look k (applyQ nm o q s').mem := by
  unfold applyQ
  cases q with
  | none => cases h
  | some r => exact look_layAll_in h
variable {base : Nat}
/-- Two choices that differ in none that writes there. -/
theorem sAt_tm {D D' : Nat → Prop} {t : Nat} : ∀ (l : List (Oper × Option Res)) (k : Nat) (s s' : AS), look t s.tm = look t s'.tm → (∀ m o q, l[m]? = some (o, q) → (D (k + m) ↔ D' (k + m)) ∨ wT o q ≠ some t) → look t (sAt base D k l s).tm = look t (sAt base D' k l s').tm
  | [], k, s, s', h, _ => h
  | (o, q) :: r, k, s, s', h, hl => by
    simp only [sAt]
    refine sAt_tm r (k + 1) _ _ ?_ (fun m o' q' hm => by
      have := hl (m + 1) o' q' (by simpa using hm)
      rwa [show k + (m + 1) = k + 1 + m by omega] at this)
    have h0 := hl 0 o q rfl
    rw [Nat.add_zero] at h0
    rcases h0 with h0 | h0
    · by_cases hD : D k
      · rw [if_pos hD, if_pos (h0.1 hD)]
        by_cases hw : wT o q = some t
        · exact apply_tm_eq hw
        · rw [apply_tm_ne hw, apply_tm_ne hw]; exact h
      · rw [if_neg hD, if_neg (fun e => hD (h0.2 e))]; exact h
    · by_cases hD : D k <;> by_cases hD' : D' k
      · rw [if_pos hD, if_pos hD', apply_tm_ne h0, apply_tm_ne h0]; exact h
      · rw [if_pos hD, if_neg hD', apply_tm_ne h0]; exact h
      · rw [if_neg hD, if_pos hD', apply_tm_ne h0]; exact h
      · rw [if_neg hD, if_neg hD']; exact h
theorem sAt_mem {D D' : Nat → Prop} {t : Nat} : ∀ (l : List (Oper × Option Res)) (k : Nat) (s s' : AS), look t s.mem = look t s'.mem → (∀ m o q, l[m]? = some (o, q) → (D (k + m) ↔ D' (k + m)) ∨ t ∉ wM (base + (k + m)) q) → look t (sAt base D k l s).mem = look t (sAt base D' k l s').mem
  | [], k, s, s', h, _ => h
  | (o, q) :: r, k, s, s', h, hl => by
    simp only [sAt]
    refine sAt_mem r (k + 1) _ _ ?_ (fun m o' q' hm => by
      have := hl (m + 1) o' q' (by simpa using hm)
      rwa [show k + (m + 1) = k + 1 + m by omega] at this)
    have h0 := hl 0 o q rfl
    rw [Nat.add_zero] at h0
    rcases h0 with h0 | h0
    · by_cases hD : D k
      · rw [if_pos hD, if_pos (h0.1 hD)]
        by_cases hw : t ∈ wM (base + k) q
        · exact apply_mem_eq hw
        · rw [apply_mem_ne hw, apply_mem_ne hw]; exact h
      · rw [if_neg hD, if_neg (fun e => hD (h0.2 e))]; exact h
    · by_cases hD : D k <;> by_cases hD' : D' k
      · rw [if_pos hD, if_pos hD', apply_mem_ne h0, apply_mem_ne h0]; exact h
      · rw [if_pos hD, if_neg hD', apply_mem_ne h0]; exact h
      · rw [if_neg hD, if_pos hD', apply_mem_ne h0]; exact h
      · rw [if_neg hD, if_neg hD']; exact h
theorem sAt_none {D : Nat → Prop} : ∀ (l : List (Oper × Option Res)) (k : Nat) (s : AS), (∀ j, k ≤ j → ¬ D j) → sAt base D k l s = s
  | [], k, s, _ => rfl
  | (o, q) :: r, k, s, h => by
    simp only [sAt]
    rw [if_neg (h k (Nat.le_refl k))]
    exact sAt_none r (k + 1) s (fun j hj => h j (by omega))
theorem sAt_append {D : Nat → Prop} : ∀ (l m : List (Oper × Option Res)) (k : Nat) (s : AS), sAt base D k (l ++ m) s = sAt base D (k + l.length) m (sAt base D k l s)
  | [], m, k, s => rfl
  | (o, q) :: r, m, k, s => by
    simp only [List.cons_append, sAt]
    rw [sAt_append r m (k + 1)]
    congr 1
    simp only [List.length_cons]; omega
theorem split_at {α : Type} {l : List α} {i : Nat} {x : α} (h : l[i]? = some x) : l = l.take i ++ x :: l.drop (i + 1) := by
  obtain ⟨h1, rfl⟩ := List.getElem?_eq_some_iff.1 h
  rw [List.getElem_cons_drop, List.take_append_drop]
/-- One more is done: that is as if it had been done last. -/
theorem sAt_more_tm {D : Nat → Prop} {l : List (Oper × Option Res)} {i : Nat} {o : Oper} {q : Option Res} {s : AS} (hi : l[i]? = some (o, q)) (hn : ¬ D i) (t : Nat)
    (hind : ∀ m o' q', l[m]? = some (o', q') → D m → i < m → ∀ t, wT o q = some t → wT o' q' ≠ some t) : look t (sAt base (fun j => j = i ∨ D j) 0 l s).tm = look t (applyQ (base + i) o q (sAt base D 0 l s)).tm := by
  by_cases hw : wT o q = some t
  · have hsplit := split_at hi
    have hlt : i < l.length := (List.getElem?_eq_some_iff.1 hi).1
    have hlen : (l.take i).length = i := by rw [List.length_take]; omega
    generalize hX : sAt base D 0 l s = X
    rw [hsplit, sAt_append, hlen, Nat.zero_add]
    simp only [sAt]
    rw [if_pos (.inl rfl)]
    rw [sAt_tm (D' := fun _ => False) (l.drop (i + 1)) (i + 1) _ _ rfl (fun m o' q' hm => ?_), sAt_none _ _ _ (fun _ _ h => h)]
    · exact apply_tm_eq hw
    · by_cases hd : D (i + 1 + m)
      · right
        exact hind (i + 1 + m) o' q' (by rw [List.getElem?_drop] at hm; exact hm) hd (by omega) t hw
      · left
        refine ⟨fun h => ?_, fun h => h.elim⟩
        rcases h with h | h
        · omega
        · exact hd h
  · rw [apply_tm_ne hw]
    refine sAt_tm l 0 _ _ rfl fun m o' q' hm => ?_
    by_cases he : m = i
    · subst he
      rw [hi] at hm
      simp only [Option.some.injEq, Prod.mk.injEq] at hm
      obtain ⟨rfl, rfl⟩ := hm
      rw [Nat.zero_add]
      exact .inr hw
    · left
      rw [Nat.zero_add]
      exact ⟨fun h => h.resolve_left he, .inr⟩
theorem sAt_more_mem {D : Nat → Prop} {l : List (Oper × Option Res)} {i : Nat} {o : Oper} {q : Option Res} {s : AS} (hi : l[i]? = some (o, q)) (hn : ¬ D i) (t : Nat)
    (hind : ∀ m o' q', l[m]? = some (o', q') → D m → i < m → ∀ t, t ∈ wM (base + i) q → t ∉ wM (base + m) q') : look t (sAt base (fun j => j = i ∨ D j) 0 l s).mem = look t (applyQ (base + i) o q (sAt base D 0 l s)).mem := by
  by_cases hw : t ∈ wM (base + i) q
  · have hsplit := split_at hi
    have hlt : i < l.length := (List.getElem?_eq_some_iff.1 hi).1
    have hlen : (l.take i).length = i := by rw [List.length_take]; omega
    generalize hX : sAt base D 0 l s = X
    rw [hsplit, sAt_append, hlen, Nat.zero_add]
    simp only [sAt]
    rw [if_pos (.inl rfl)]
    rw [sAt_mem (D' := fun _ => False) (l.drop (i + 1)) (i + 1) _ _ rfl (fun m o' q' hm => ?_), sAt_none _ _ _ (fun _ _ h => h)]
    · exact apply_mem_eq hw
    · by_cases hd : D (i + 1 + m)
      · right
        exact hind (i + 1 + m) o' q' (by rw [List.getElem?_drop] at hm; exact hm) hd (by omega) t hw
      · left
        refine ⟨fun h => ?_, fun h => h.elim⟩
        rcases h with h | h
        · omega
        · exact hd h
  · rw [apply_mem_ne hw]
    refine sAt_mem l 0 _ _ rfl fun m o' q' hm => ?_
    by_cases he : m = i
    · subst he
      rw [hi] at hm
      simp only [Option.some.injEq, Prod.mk.injEq] at hm
      obtain ⟨rfl, rfl⟩ := hm
      rw [Nat.zero_add]
      exact .inr hw
    · left
      rw [Nat.zero_add]
      exact ⟨fun h => h.resolve_left he, .inr⟩

/-- What the text's order gives at each operation. -/
theorem runOps_trace {Γ : Ctx} {ops : Array Oper} : ∀ (l : List Oper) (i : Nat) (hs : List (Nat × Hint)) (s : AS) (tr : List (Oper × Option Res)) (hs' : List (Nat × Hint)) (s' : AS),
    runOps Γ ops base i l hs s = some (tr, hs', s') →
    s' = sAt base (fun _ => True) i tr s ∧ tr.length = l.length ∧ ∀ m o q, tr[m]? = some (o, q) → l[m]? = some o ∧ dstOk Γ o = true ∧
      ∃ st : AS, st = sAt base (fun j => j < i + m) i tr s ∧ (match q with
        | none => wantedA ops st.tm o = some false
        | some r => wantedA ops st.tm o = some true ∧ ∃ h, exec Γ (base + (i + m)) h o st.tm st.mem = some r)
  | [], i, hs, s, tr, hs', s', h => by
    simp only [runOps, Option.some.injEq, Prod.mk.injEq] at h
    obtain ⟨rfl, _, rfl⟩ := h
    exact ⟨rfl, rfl, fun m o q hm => by simp at hm⟩
  | o :: rest, i, hs, s, tr, hs', s', h => by
    have fin : ∀ (q : Option Res) (tr1 : List (Oper × Option Res)) (s1 : AS), dstOk Γ o = true → (match q with
        | none => wantedA ops s.tm o = some false
        | some r => wantedA ops s.tm o = some true ∧ ∃ h, exec Γ (base + i) h o s.tm s.mem = some r) →
        (s1 = sAt base (fun _ => True) (i + 1) tr1 (applyQ (base + i) o q s) ∧ tr1.length = rest.length ∧ ∀ m o' q', tr1[m]? = some (o', q') → rest[m]? = some o' ∧ dstOk Γ o' = true ∧
          ∃ st : AS, st = sAt base (fun j => j < i + 1 + m) (i + 1) tr1 (applyQ (base + i) o q s) ∧ (match q' with
            | none => wantedA ops st.tm o' = some false
            | some r => wantedA ops st.tm o' = some true ∧ ∃ h, exec Γ (base + (i + 1 + m)) h o' st.tm st.mem = some r)) →
        (s1 = sAt base (fun _ => True) i ((o, q) :: tr1) s ∧ ((o, q) :: tr1).length = (o :: rest).length ∧ ∀ m o' q', ((o, q) :: tr1)[m]? = some (o', q') → (o :: rest)[m]? = some o' ∧ dstOk Γ o' = true ∧
          ∃ st : AS, st = sAt base (fun j => j < i + m) i ((o, q) :: tr1) s ∧ (match q' with
            | none => wantedA ops st.tm o' = some false
            | some r => wantedA ops st.tm o' = some true ∧ ∃ h, exec Γ (base + (i + m)) h o' st.tm st.mem = some r)) := by
      intro q tr1 s1 hd hq ⟨h1, h2, h3⟩
      refine ⟨?_, by simp [h2], ?_⟩
      · simp only [sAt]; rw [if_pos trivial]; exact h1
      · intro m o' q' hm
        cases m with
        | zero =>
          simp only [List.getElem?_cons_zero, Option.some.injEq, Prod.mk.injEq] at hm
          obtain ⟨rfl, rfl⟩ := hm
          refine ⟨rfl, hd, s, ?_, by simpa using hq⟩
          rw [sAt_none]
          intro j hj hlt
          omega
        | succ m =>
          obtain ⟨g1, g2, st, g3, g4⟩ := h3 m o' q' (by simpa using hm)
          refine ⟨by simpa using g1, g2, st, ?_, ?_⟩
          · simp only [sAt]
            rw [if_pos (by omega), g3]
            congr 1
            funext j
            rw [show i + 1 + m = i + (m + 1) by omega]
          · rw [show i + (m + 1) = i + 1 + m by omega]; exact g4
    simp only [runOps] at h
    split at h
    · rename_i hd hw
      split at h
      · rename_i tr1 hs1 s1 hrec
        simp only [Option.some.injEq, Prod.mk.injEq] at h
        obtain ⟨rfl, rfl, rfl⟩ := h
        exact fin none _ _ hd hw (runOps_trace rest (i + 1) _ _ _ _ _ hrec)
      · cases h
    · rename_i hd hw
      split at h
      · rename_i r hex
        split at h
        · rename_i tr1 hs2 s1 hrec
          simp only [Option.some.injEq, Prod.mk.injEq] at h
          obtain ⟨rfl, rfl, rfl⟩ := h
          exact fin (some r) _ _ hd ⟨hw, _, hex⟩ (runOps_trace rest (i + 1) _ _ _ _ _ hrec)
        · cases h
      · cases h
    · cases h
theorem trVc_at : ∀ (tr : List (Oper × Option Res)) (m : Nat) (o : Oper) (q : Option Res), tr[m]? = some (o, q) → ∀ p ∈ qvc q, p ∈ trVc tr
  | [], m, o, q, h, _, _ => by simp at h
  | (o', q') :: r, 0, o, q, h, p, hp => by
    simp only [List.getElem?_cons_zero, Option.some.injEq, Prod.mk.injEq] at h
    obtain ⟨rfl, rfl⟩ := h
    simp [trVc, hp]
  | (o', q') :: r, m + 1, o, q, h, p, hp => by
    have := trVc_at r m o q (by simpa using h) p hp
    simp [trVc, this]

/-! Which operations wait for which, and which have nothing to do with one another. -/
def mask (acc : List Nat) : List Edge → Nat
  | [] => 0
  | e :: r => match Region.binds .any e with
    | true => Nat.lor (Nat.lor (Nat.shiftLeft 1 e.on) (acc.getD e.on 0)) (mask acc r)
    | false => mask acc r
def masks : List Nat → List Oper → List Nat
  | acc, [] => acc
  | acc, o :: r => masks (acc ++ [mask acc o.after.toList]) r
def opTmps : List Operand → List Nat
  | [] => []
  | .tmp t :: r => t :: opTmps r
  | _ :: r => opTmps r
def readT (ops : Array Oper) (o : Oper) : List Nat := match guardTmp ops o with
  | some t => t :: opTmps o.op.operands.toList
  | none => opTmps o.op.operands.toList
def foot (nm : Nat) (q : Option Res) : List Nat := match q with
  | none => []
  | some r => match r.isNew with
    | true => nm :: r.touch
    | false => r.touch
def notIn (x : Option Nat) : List Nat → Bool
  | [] => true
  | y :: r => match x with
    | some z => match Nat.beq z y with
      | true => false
      | false => notIn x r
    | none => true
def optNe (x y : Option Nat) : Bool := match x, y with
  | some a, some b => !(Nat.beq a b)
  | _, _ => true
def apartL : List Nat → List Nat → Bool
  | [], _ => true
  | x :: r, l => notIn (some x) l && apartL r l
def indep (ops : Array Oper) (n1 : Nat) (o1 : Oper) (q1 : Option Res) (n2 : Nat) (o2 : Oper) (q2 : Option Res) : Bool :=
  notIn (wT o1 q1) (readT ops o2) && notIn (wT o2 q2) (readT ops o1) && optNe (wT o1 q1) (wT o2 q2) && apartL (wM n1 q1) (foot n2 q2) && apartL (wM n2 q2) (foot n1 q1)
/-- Number j against all those ahead of it. -/
def freeOf (ops : Array Oper) (base : Nat) (mk : Nat) (j : Nat) (o : Oper) (q : Option Res) : Nat → List (Oper × Option Res) → Bool
  | _, [] => true
  | i, (o', q') :: r => (Nat.testBit mk i || indep ops (base + i) o' q' (base + j) o q) && freeOf ops base mk j o q (i + 1) r
def freeAll (ops : Array Oper) (base : Nat) (mks : List Nat) (tr : List (Oper × Option Res)) : Nat → List (Oper × Option Res) → Bool
  | _, [] => true
  | j, (o, q) :: r => freeOf ops base (mks.getD j 0) j o q 0 (tr.take j) && freeAll ops base mks tr (j + 1) r
def regionFree (ops : Array Oper) (base : Nat) (tr : List (Oper × Option Res)) : Bool := freeAll ops base (masks [] ops.toList) tr 0 tr
inductive Anc (l : List Oper) (i : Nat) : Nat → Prop
  | edge {j : Nat} {o : Oper} {e : Edge} : l[j]? = some o → e ∈ o.after.toList → Region.binds .any e = true → e.on = i → Anc l i j
  | far {j : Nat} {o : Oper} {e : Edge} : l[j]? = some o → e ∈ o.after.toList → Region.binds .any e = true → Anc l i e.on → Anc l i j
theorem mask_spec {acc : List Nat} {i : Nat} : ∀ (es : List Edge), Nat.testBit (mask acc es) i = true → ∃ e ∈ es, Region.binds .any e = true ∧ (e.on = i ∨ Nat.testBit (acc.getD e.on 0) i = true)
  | [], h => by simp [mask] at h
  | e :: r, h => by
    simp only [mask] at h
    split at h
    · rename_i hb
      change Nat.testBit (((1 <<< e.on) ||| acc.getD e.on 0) ||| mask acc r) i = true at h
      rw [Nat.testBit_or, Nat.testBit_or, Nat.one_shiftLeft, Nat.testBit_two_pow] at h
      simp only [Bool.or_eq_true, decide_eq_true_eq] at h
      rcases h with (h | h) | h
      · exact ⟨e, by simp, hb, .inl h⟩
      · exact ⟨e, by simp, hb, .inr h⟩
      · obtain ⟨e', h1, h2⟩ := mask_spec r h
        exact ⟨e', by simp [h1], h2⟩
    · obtain ⟨e', h1, h2⟩ := mask_spec r h
      exact ⟨e', by simp [h1], h2⟩
theorem masks_spec {all : List Oper} : ∀ (l : List Oper) (acc : List Nat), (∀ m o, l[m]? = some o → all[acc.length + m]? = some o) → (∀ j i, Nat.testBit (acc.getD j 0) i = true → Anc all i j) → ∀ j i, Nat.testBit ((masks acc l).getD j 0) i = true → Anc all i j
  | [], acc, _, h, j, i, hb => h j i hb
  | o :: r, acc, hl, h, j, i, hb => by
    simp only [masks] at hb
    refine masks_spec r (acc ++ [mask acc o.after.toList]) (fun m o' hm => ?_) (fun j i hb => ?_) j i hb
    · have := hl (m + 1) o' (by simpa using hm)
      simp only [List.length_append, List.length_singleton]
      rwa [show acc.length + 1 + m = acc.length + (m + 1) by omega]
    · rw [List.getD_eq_getElem?_getD] at hb
      rcases Nat.lt_trichotomy j acc.length with hj | hj | hj
      · rw [List.getElem?_append_left hj, ← List.getD_eq_getElem?_getD] at hb
        exact h j i hb
      · subst hj
        rw [List.getElem?_append_right (Nat.le_refl _), Nat.sub_self] at hb
        simp only [List.getElem?_cons_zero, Option.getD_some] at hb
        obtain ⟨e, h1, h2, h3⟩ := mask_spec _ hb
        have ho := hl 0 o rfl
        rw [Nat.add_zero] at ho
        rcases h3 with h3 | h3
        · exact .edge ho h1 h2 h3
        · exact .far ho h1 h2 (h _ _ h3)
      · rw [List.getElem?_eq_none (by simp; omega)] at hb
        simp at hb
theorem Anc.done {l : List Oper} {D : Nat → Prop} (hc : ∀ j, D j → ∀ o, l[j]? = some o → ∀ e ∈ o.after.toList, Region.binds .any e = true → D e.on) {i j : Nat} (h : Anc l i j) : D j → D i := by
  induction h with
  | edge h1 h2 h3 h4 => intro hd; rw [← h4]; exact hc _ hd _ h1 _ h2 h3
  | far h1 h2 h3 _ ih => intro hd; exact ih (hc _ hd _ h1 _ h2 h3)
theorem freeOf_spec {ops : Array Oper} {mk j : Nat} {o : Oper} {q : Option Res} : ∀ (l : List (Oper × Option Res)) (i : Nat), freeOf ops base mk j o q i l = true → ∀ m o' q', l[m]? = some (o', q') → Nat.testBit mk (i + m) = true ∨ indep ops (base + (i + m)) o' q' (base + j) o q = true
  | [], i, _, m, o', q', hm => by simp at hm
  | (o1, q1) :: r, i, h, m, o', q', hm => by
    simp only [freeOf, Bool.and_eq_true, Bool.or_eq_true] at h
    cases m with
    | zero =>
      simp only [List.getElem?_cons_zero, Option.some.injEq, Prod.mk.injEq] at hm
      obtain ⟨rfl, rfl⟩ := hm
      exact h.1
    | succ m =>
      have := freeOf_spec r (i + 1) h.2 m o' q' (by simpa using hm)
      rwa [show i + 1 + m = i + (m + 1) by omega] at this
theorem freeAll_spec {ops : Array Oper} {mks : List Nat} {tr : List (Oper × Option Res)} : ∀ (l : List (Oper × Option Res)) (j : Nat), freeAll ops base mks tr j l = true → ∀ m o q, l[m]? = some (o, q) → freeOf ops base (mks.getD (j + m) 0) (j + m) o q 0 (tr.take (j + m)) = true
  | [], j, _, m, o, q, hm => by simp at hm
  | (o1, q1) :: r, j, h, m, o, q, hm => by
    simp only [freeAll, Bool.and_eq_true] at h
    cases m with
    | zero =>
      simp only [List.getElem?_cons_zero, Option.some.injEq, Prod.mk.injEq] at hm
      obtain ⟨rfl, rfl⟩ := hm
      exact h.1
    | succ m =>
      have := freeAll_spec r (j + 1) h.2 m o q (by simpa using hm)
      rwa [show j + 1 + m = j + (m + 1) by omega] at this
/-- Of two operations one waits for the other, or they have nothing to do with one another. -/
theorem regionFree_spec {ops : Array Oper} {tr : List (Oper × Option Res)} (h : regionFree ops base tr = true) {i j : Nat} (hij : i < j) {o o' : Oper} {q q' : Option Res} (hi : tr[i]? = some (o, q)) (hj : tr[j]? = some (o', q')) :
    Anc ops.toList i j ∨ indep ops (base + i) o q (base + j) o' q' = true := by
  have h1 := freeAll_spec tr 0 h j o' q' hj
  rw [Nat.zero_add] at h1
  have h2 := freeOf_spec _ 0 h1 i o q (by rw [List.getElem?_take_of_lt hij]; exact hi)
  rw [Nat.zero_add] at h2
  refine h2.imp (fun hb => ?_) id
  exact masks_spec ops.toList [] (fun m o hm => by simpa using hm) (fun j i hb => by simp at hb) j i hb
theorem notIn_spec {x : Option Nat} : ∀ (l : List Nat), notIn x l = true → ∀ t ∈ l, x ≠ some t
  | [], _, t, ht => by cases ht
  | y :: r, h, t, ht => by
    simp only [notIn] at h
    cases x with
    | none => simp
    | some z =>
      simp only at h
      split at h
      · cases h
      · rename_i hb
        rcases List.mem_cons.1 ht with rfl | ht
        · intro e
          simp only [Option.some.injEq] at e
          subst e
          simp at hb
        · exact notIn_spec r h t ht
theorem apartL_spec : ∀ (l m : List Nat), apartL l m = true → ∀ k ∈ l, k ∉ m
  | [], m, _, k, hk => by cases hk
  | x :: r, m, h, k, hk => by
    simp only [apartL, Bool.and_eq_true] at h
    rcases List.mem_cons.1 hk with rfl | hk
    · exact fun e => notIn_spec _ h.1 k e rfl
    · exact apartL_spec r m h.2 k hk
theorem optNe_spec {x y : Option Nat} (h : optNe x y = true) (t : Nat) (hx : x = some t) : y ≠ some t := by
  subst hx
  intro hy
  subst hy
  simp [optNe] at h
theorem opTmps_spec : ∀ (l : List Operand) (t : Nat), .tmp t ∈ l → t ∈ opTmps l
  | [], t, h => by cases h
  | x :: r, t, h => by
    rcases List.mem_cons.1 h with h | h
    · subst h; simp [opTmps]
    · have := opTmps_spec r t h
      cases x <;> simp [opTmps, this]
theorem ev_agree {tm tm' : List (Nat × AV)} {x : Operand} (h : ∀ t, x = .tmp t → look t tm = look t tm') : ev tm x = ev tm' x := by
  cases x with
  | tmp t => exact h t rfl
  | _ => rfl

theorem foot_touch (nm : Nat) (r : Res) (k : Nat) (h : k ∈ r.touch) : k ∈ foot nm (some r) := by
  unfold foot
  simp only
  cases hn : r.isNew with
  | true => exact List.mem_cons_of_mem _ h
  | false => exact h
theorem foot_new (nm : Nat) (r : Res) (h : r.isNew = true) : nm ∈ foot nm (some r) := by
  have e : foot nm (some r) = nm :: r.touch := by unfold foot; simp only [h]
  rw [e]
  exact List.mem_cons_self
theorem wM_foot (n : Nat) (q : Option Res) (k : Nat) (hk : k ∈ wM n q) : k ∈ foot n q := by
  cases q with
  | none => simp [wM] at hk
  | some r =>
    cases r with
    | gen v ms rd nw vc =>
      simp only [wM, Res.mw] at hk
      unfold foot
      cases nw <;> simp [Res.isNew, Res.touch, hk]
    | _ => simp_all [wM, Res.mw, foot, Res.isNew, Res.touch]
set_option maxHeartbeats 1000000 in
/-- A REGION THAT DRAWS ITS ORDER. -/
theorem region_draw {Γ : Ctx} {id : Nat} {ops : Array Oper} {hs hs' : List (Nat × Hint)} {s s' : AS} {tr : List (Oper × Option Res)} {Q : Exit → Act → World → Prop} {ρ : Env} {a : Act} {w : World}
    (hm : Γ.P.follows .mixedOrders = true) (hac : acyc ops = true) (hrun : runOps Γ ops base 0 ops.toList hs s = some (tr, hs', s')) (hfree : regionFree ops base tr = true) (hvc : ∀ p ∈ trVc tr, p) (hR : Rel Γ ρ s a w)
    (hQ : ∀ ρ' a' w', Rel Γ ρ' s' a' w' → Q .normal a' w') : (Code.region id ops true).wp Γ.P Q a w := by
  obtain ⟨hs1, hlen, htr⟩ := runOps_trace _ _ _ _ _ _ _ hrun
  have hsz : tr.length = ops.size := by rw [hlen]; simp
  let Inv : (Nat → Prop) → Act → World → Prop := fun D a w =>
    (∀ j, D j → ∀ o, ops.toList[j]? = some o → ∀ e ∈ o.after.toList, Region.binds .any e = true → D e.on) ∧ ∃ ρ, Rel Γ ρ (sAt base D 0 tr s) a w
  have hstep : ∀ i o, ops[i]? = some o → StepD Γ.P ops Q Inv i o := by
    intro i o ho D a w hnD hpre ⟨hclosed, ρ, hR⟩
    have hilt : i < tr.length := by rw [hsz]; exact (Array.getElem?_eq_some_iff.1 ho).1
    obtain ⟨⟨o1, q⟩, hti⟩ : ∃ x, tr[i]? = some x := ⟨_, List.getElem?_eq_getElem hilt⟩
    obtain ⟨g1, hd, st, hst, hq⟩ := htr i o1 q hti
    have ho' : ops.toList[i]? = some o := by simpa using ho
    rw [ho'] at g1
    simp only [Option.some.injEq] at g1
    subst g1
    simp only [Nat.zero_add] at hst hq
    have hpreD : ∀ e ∈ o.after.toList, Region.binds .any e = true → D e.on := by
      have : ∀ (l : List Edge), PreD D l → ∀ e ∈ l, Region.binds .any e = true → D e.on := by
        intro l
        induction l with
        | nil => intro _ e he; cases he
        | cons x r ih =>
          intro hp e he hb
          rcases List.mem_cons.1 he with rfl | he
          · exact hp.1 hb
          · exact ih hp.2 e he hb
      exact this _ hpre
    have hanc : ∀ j, Anc ops.toList j i → D j := by
      intro j hj
      cases hj with
      | edge h1 h2 h3 h4 => rw [ho'] at h1; simp only [Option.some.injEq] at h1; subst h1; rw [← h4]; exact hpreD _ h2 h3
      | far h1 h2 h3 h4 => rw [ho'] at h1; simp only [Option.some.injEq] at h1; subst h1; exact h4.done hclosed (hpreD _ h2 h3)
    -- each other operation has nothing to do with this one, or stands where it should
    have hsym : ∀ m o' q', tr[m]? = some (o', q') → m ≠ i → (D m ↔ m < i) ∨ (notIn (wT o' q') (readT ops o) = true ∧ apartL (wM (base + m) q') (foot (base + i) q) = true ∧ (∀ t, wT o q = some t → wT o' q' ≠ some t) ∧ ∀ k, k ∈ wM (base + i) q → k ∉ wM (base + m) q') := by
      intro m o' q' hm hne
      have hwm := wM_foot
      rcases Nat.lt_or_gt_of_ne hne with hlt | hgt
      · rcases regionFree_spec hfree hlt hm hti with h | h
        · exact .inl ⟨fun _ => hlt, fun _ => hanc m h⟩
        · simp only [indep, Bool.and_eq_true] at h
          obtain ⟨⟨⟨⟨h1, h2⟩, h3⟩, h4⟩, h5⟩ := h
          refine .inr ⟨h1, h4, fun t ht e => optNe_spec h3 t e ht, fun k hk e => ?_⟩
          exact apartL_spec _ _ h4 k e (hwm _ _ _ hk)
      · rcases regionFree_spec hfree hgt hti hm with h | h
        · left
          refine ⟨fun hD => absurd (h.done hclosed hD) hnD, fun h => by omega⟩
        · simp only [indep, Bool.and_eq_true] at h
          obtain ⟨⟨⟨⟨h1, h2⟩, h3⟩, h4⟩, h5⟩ := h
          refine .inr ⟨h2, h5, fun t ht => optNe_spec h3 t ht, fun k hk e => ?_⟩
          exact apartL_spec _ _ h5 k e (hwm _ _ _ hk)
    have hagT : ∀ t ∈ readT ops o, look t st.tm = look t (sAt base D 0 tr s).tm := by
      intro t ht
      rw [hst]
      refine sAt_tm tr 0 _ _ rfl fun m o' q' hm => ?_
      rw [Nat.zero_add]
      by_cases he : m = i
      · left; subst he; exact ⟨fun h => absurd h (Nat.lt_irrefl _), fun h => absurd h hnD⟩
      · rcases hsym m o' q' hm he with h | h
        · exact .inl h.symm
        · exact .inr (notIn_spec _ h.1 t ht)
    have hagM : ∀ k ∈ foot (base + i) q, look k st.mem = look k (sAt base D 0 tr s).mem := by
      intro k hk
      rw [hst]
      refine sAt_mem tr 0 _ _ rfl fun m o' q' hm => ?_
      rw [Nat.zero_add]
      by_cases he : m = i
      · left; subst he; exact ⟨fun h => absurd h (Nat.lt_irrefl _), fun h => absurd h hnD⟩
      · rcases hsym m o' q' hm he with h | h
        · exact .inl h.symm
        · exact .inr (fun e => apartL_spec _ _ h.2.1 k e hk)
    have hguard : ∀ b, wantedA ops st.tm o = some b → wantedA ops (sAt base D 0 tr s).tm o = some b := by
      intro b hb
      unfold wantedA at hb ⊢
      cases hg : o.guard with
      | none => rw [hg] at hb; simpa using hb
      | some jw =>
        obtain ⟨j, want⟩ := jw
        rw [hg] at hb
        simp only at hb ⊢
        cases ht : (ops[j]?).bind (·.dst) with
        | none => rw [ht] at hb; simp at hb
        | some t =>
          rw [ht] at hb
          simp only at hb ⊢
          rw [← hagT t (by unfold readT guardTmp; rw [hg]; simp only [ht]; simp)]
          exact hb
    -- what comes behind
    have hnext : ∀ ρ' a' w', Rel Γ ρ' (applyQ (base + i) o q (sAt base D 0 tr s)) a' w' → Inv (fun j => j = i ∨ D j) a' w' := by
      intro ρ' a' w' h
      refine ⟨fun j hj o2 ho2 e he hb => ?_, ρ', h.congr (fun t => ?_) (fun k => ?_)⟩
      · rcases hj with rfl | hj
        · rw [ho'] at ho2; simp only [Option.some.injEq] at ho2; subst ho2; exact .inr (hpreD e he hb)
        · exact .inr (hclosed j hj o2 ho2 e he hb)
      · refine sAt_more_tm hti hnD t fun m o' q' hm hDm hlt t ht => ?_
        rcases hsym m o' q' hm (by omega) with h | h
        · exact absurd (h.1 hDm) (by omega)
        · exact h.2.2.1 t ht
      · refine sAt_more_mem hti hnD k fun m o' q' hm hDm hlt k hk => ?_
        rcases hsym m o' q' hm (by omega) with h | h
        · exact absurd (h.1 hDm) (by omega)
        · exact h.2.2.2 k hk
    unfold wpOp
    rw [ho]
    cases q with
    | none =>
      have hw := wantedA_spec hR (hguard _ hq)
      simp only [hw, Bool.false_eq_true, if_false]
      refine hnext ρ _ _ ?_
      unfold dstOk at hd
      cases hdst : o.dst with
      | none => simp only [applyQ, hdst, setD, Act.put]; exact hR
      | some d =>
        rw [hdst] at hd
        have := hR.put d (Nat.le_of_ble_eq_true hd) (.val undef) (by simp [AV.ok])
        simpa [applyQ, hdst, setD, AV.conc] using this
    | some r =>
      obtain ⟨hw, h, hex⟩ := hq
      have hw := wantedA_spec hR (hguard _ hw)
      simp only [hw, if_true]
      refine .inl (op_wp hR (exec_sound hex (fun p hp => hvc p (trVc_at tr i o (some r) hti p hp)) hR (fun x hx => ev_agree fun t ht => hagT t ?_) (fun k hk => hagM k ?_) (fun hn => ?_)) hd (exec_wr hex) (fun ρ' a' w' h => hnext ρ' a' w' h))
      · have : t ∈ opTmps o.op.operands.toList := opTmps_spec _ t (by subst ht; simpa using hx)
        unfold readT
        cases guardTmp ops o <;> simp [this]
      · exact foot_touch _ r k hk
      · have h1 := exec_fresh hex hn
        rw [hagM (base + i) (foot_new _ r hn)] at h1
        exact h1
  refine wp_region_any hm (told_any hac hstep (fun D a' w' hall hI => ?_) ops.size _ a _ (by simp) (by simp) ?_)
  · obtain ⟨_, ρ', hR'⟩ := hI
    refine hQ ρ' a' w' (hR'.congr (fun t => ?_) (fun k => ?_))
    · rw [hs1]
      refine sAt_tm tr 0 _ _ rfl fun m o q hm => .inl ?_
      have : m < tr.length := (List.getElem?_eq_some_iff.1 hm).1
      exact ⟨fun _ => by rw [Nat.zero_add]; exact hall m (by omega), fun _ => trivial⟩
    · rw [hs1]
      refine sAt_mem tr 0 _ _ rfl fun m o q hm => .inl ?_
      have : m < tr.length := (List.getElem?_eq_some_iff.1 hm).1
      exact ⟨fun _ => by rw [Nat.zero_add]; exact hall m (by omega), fun _ => trivial⟩
  · have hf : ∀ j, ¬ ((Array.replicate ops.size false).getD j false = true) := by
      intro j
      simp [Array.getElem?_replicate]
      split <;> simp
    refine ⟨fun j hj => absurd hj (hf j), ρ, ?_⟩
    rw [sAt_none _ _ _ (fun j _ => hf j)]
    exact hR.world (Below.drew (Below.refl _ _))
end Go.Proofs.YthgnmpjcbicdhaaDoor

