/- An abstract machine over values: blocks of the call's own go by numbers; it is reckoned by the kernel alone. -/
import Derived.Test.YthgnmpjcbicdhaaDoorArrEq
import Derived.WalkKit
import Derived.KernelRfl
import Derived.Below
import Derived.Orders
import Derived.Laws.Cells
import Derived.Laws.Rows
import Derived.Deep.MidRow
set_option linter.unusedVariables false
set_option linter.unusedSimpArgs false
namespace Go.Proofs.YthgnmpjcbicdhaaDoor
open Go Go.RowKit

/-- What a computation gives that looks at no memory. -/
def prun {α : Type} (P : Program) : Sem α → Option α
  | .pure a => some a
  | .program k => prun P (k P)
  | .mark _ k => prun P k
  | _ => none
theorem prun_run {α : Type} (P : Program) : ∀ (s : Sem α) (a : α), prun P s = some a → ∀ w, s.run P w = .ok a w := by
  intro s
  induction s with
  | pure b => intro a h w; simp only [prun, Option.some.injEq] at h; subst h; rfl
  | program k ih => intro a h w; simp only [prun] at h; simpa [Sem.run] using ih P a h w
  | mark m k ih => intro a h w; simp only [prun] at h; simpa [Sem.run] using ih a h w
  | _ => intro a h; simp [prun] at h

structure Env where
  b : Nat → Nat
  c : Nat → Nat

mutual
/-- A value: val a plain one; ptr, elt pointers into block k (at a place; at part i of the row that begins at a place); lst a list in block k; agg a struct or an array; tup a tuple; ifc in an interface. -/
inductive AV where
  | val (x : Value)
  | ptr (k off : Nat)
  | elt (k base i : Nat)
  | lst (k base st len cap : Nat)
  | own (k sz st len : Nat)
  | agg (cs : List Seg)
  | tup (cs : List AV)
  | ifc (ty : TypeId) (x : AV)
/-- A cell, or a row of n integers, or of n plain values. -/
inductive Seg where
  | cell (x : AV)
  | ints (k : IntKind) (n : Nat) (xs : List Int)
  | vals (n : Nat) (vs : List Value)
end
instance : Inhabited AV := ⟨.val default⟩

mutual
def AV.conc (ρ : Env) : AV → Value
  | .val x => x
  | .ptr k off => .pointer (some ⟨ρ.b k, off, none⟩)
  | .elt k base i => .pointer (some ⟨ρ.b k, base + i, none⟩)
  | .lst k base st len cap => .slice (some ⟨ρ.b k, base + st, none⟩) len cap
  | .own k sz st len => match ρ.c k with
    | 0 => .slice none 0 0
    | c + 1 => .slice (some ⟨ρ.b k, st * sz, none⟩) len (c + 1 - st)
  | .agg cs => .agg (Seg.cells ρ cs).toArray
  | .tup cs => .tuple (AV.concL ρ cs).toArray
  | .ifc ty x => .iface ty (AV.conc ρ x)
def AV.concL (ρ : Env) : List AV → List Value
  | [] => []
  | x :: r => AV.conc ρ x :: AV.concL ρ r
def Seg.cells (ρ : Env) : List Seg → List Value
  | [] => []
  | x :: r => Seg.cell1 ρ x ++ Seg.cells ρ r
def Seg.cell1 (ρ : Env) : Seg → List Value
  | .cell x => [AV.conc ρ x]
  | .ints k _ xs => xs.map (Value.int k)
  | .vals _ vs => vs
end

mutual
/-- The value, where nothing in it goes by a number. -/
def AV.toV : AV → Option Value
  | .val x => some x
  | .agg cs => match Seg.toV cs with
    | some l => some (.agg l.toArray)
    | none => none
  | .tup cs => match AV.toVL cs with
    | some l => some (.tuple l.toArray)
    | none => none
  | .ifc ty x => match AV.toV x with
    | some y => some (.iface ty y)
    | none => none
  | _ => none
def AV.toVL : List AV → Option (List Value)
  | [] => some []
  | x :: r => match AV.toV x, AV.toVL r with
    | some y, some l => some (y :: l)
    | _, _ => none
def Seg.toV : List Seg → Option (List Value)
  | [] => some []
  | x :: r => match Seg.toV1 x, Seg.toV r with
    | some l, some m => some (l ++ m)
    | _, _ => none
def Seg.toV1 : Seg → Option (List Value)
  | .cell x => match AV.toV x with
    | some y => some [y]
    | none => none
  | .ints k _ xs => some (xs.map (Value.int k))
  | .vals _ vs => some vs
end

mutual
theorem AV.conc_toV (ρ : Env) : ∀ (x : AV) (v : Value), x.toV = some v → x.conc ρ = v
  | .val x, v, h => by simpa [AV.toV, AV.conc] using h
  | .ptr .., v, h => by simp [AV.toV] at h
  | .elt .., v, h => by simp [AV.toV] at h
  | .lst .., v, h => by simp [AV.toV] at h
  | .own .., v, h => by simp [AV.toV] at h
  | .agg cs, v, h => by
    simp only [AV.toV] at h
    cases hc : Seg.toV cs with
    | none => simp [hc] at h
    | some l => simp only [hc, Option.some.injEq] at h; subst h; simp only [AV.conc]; rw [Seg.cells_toV ρ cs l hc]
  | .tup cs, v, h => by
    simp only [AV.toV] at h
    cases hc : AV.toVL cs with
    | none => simp [hc] at h
    | some l => simp only [hc, Option.some.injEq] at h; subst h; simp only [AV.conc]; rw [AV.concL_toV ρ cs l hc]
  | .ifc ty x, v, h => by
    simp only [AV.toV] at h
    cases hc : AV.toV x with
    | none => simp [hc] at h
    | some l => simp only [hc, Option.some.injEq] at h; subst h; simp only [AV.conc]; rw [AV.conc_toV ρ x l hc]
theorem AV.concL_toV (ρ : Env) : ∀ (x : List AV) (v : List Value), AV.toVL x = some v → AV.concL ρ x = v
  | [], v, h => by simpa [AV.toVL, AV.concL] using h
  | x :: r, v, h => by
    simp only [AV.toVL] at h
    cases h1 : AV.toV x with
    | none => simp [h1] at h
    | some y =>
      cases h2 : AV.toVL r with
      | none => simp [h1, h2] at h
      | some l => simp only [h1, h2, Option.some.injEq] at h; subst h; simp only [AV.concL]; rw [AV.conc_toV ρ x y h1, AV.concL_toV ρ r l h2]
theorem Seg.cells_toV (ρ : Env) : ∀ (x : List Seg) (v : List Value), Seg.toV x = some v → Seg.cells ρ x = v
  | [], v, h => by simpa [Seg.toV, Seg.cells] using h
  | x :: r, v, h => by
    simp only [Seg.toV] at h
    cases h1 : Seg.toV1 x with
    | none => simp [h1] at h
    | some y =>
      cases h2 : Seg.toV r with
      | none => simp [h1, h2] at h
      | some l => simp only [h1, h2, Option.some.injEq] at h; subst h; simp only [Seg.cells]; rw [Seg.cell1_toV ρ x y h1, Seg.cells_toV ρ r l h2]
theorem Seg.cell1_toV (ρ : Env) : ∀ (x : Seg) (v : List Value), Seg.toV1 x = some v → Seg.cell1 ρ x = v
  | .cell x, v, h => by
    simp only [Seg.toV1] at h
    cases hc : AV.toV x with
    | none => simp [hc] at h
    | some l => simp only [hc, Option.some.injEq] at h; subst h; simp only [Seg.cell1]; rw [AV.conc_toV ρ x l hc]
  | .ints k n xs, v, h => by simpa [Seg.toV1, Seg.cell1] using h
  | .vals n vs, v, h => by simpa [Seg.toV1, Seg.cell1] using h
end

/-! Rows. -/
def Seg.len : List Seg → Nat
  | [] => 0
  | .cell _ :: r => Seg.len r + 1
  | .ints _ n _ :: r => Seg.len r + n
  | .vals n _ :: r => Seg.len r + n
def AV.one : AV → Bool
  | .val x => x.oneCell'
  | .agg _ | .tup _ => false
  | _ => true
mutual
/-- Each segment is as long as it says, each cell is one, each block that is named is there. -/
def Seg.ok (D : Nat → Prop) : List Seg → Prop
  | [] => True
  | .cell x :: r => (x.one = true ∧ AV.ok D x) ∧ Seg.ok D r
  | .ints _ n xs :: r => xs.length = n ∧ Seg.ok D r
  | .vals n vs :: r => (vs.length = n ∧ ∀ v ∈ vs, v.oneCell' = true) ∧ Seg.ok D r
def AV.ok (D : Nat → Prop) : AV → Prop
  | .val _ => True
  | .ptr k _ => D k
  | .elt k _ _ => D k
  | .lst k _ _ _ _ => D k
  | .own k _ _ _ => D k
  | .agg cs => Seg.ok D cs
  | .tup cs => AV.okL D cs
  | .ifc _ x => AV.ok D x
def AV.okL (D : Nat → Prop) : List AV → Prop
  | [] => True
  | x :: r => AV.ok D x ∧ AV.okL D r
end
mutual
theorem Seg.ok_mono {D E : Nat → Prop} (h : ∀ k, D k → E k) : ∀ r, Seg.ok D r → Seg.ok E r
  | [], _ => trivial
  | .cell x :: r, hr => by simp only [Seg.ok] at hr ⊢; exact ⟨⟨hr.1.1, AV.ok_mono h x hr.1.2⟩, Seg.ok_mono h r hr.2⟩
  | .ints _ n xs :: r, hr => by simp only [Seg.ok] at hr ⊢; exact ⟨hr.1, Seg.ok_mono h r hr.2⟩
  | .vals n vs :: r, hr => by simp only [Seg.ok] at hr ⊢; exact ⟨hr.1, Seg.ok_mono h r hr.2⟩
theorem AV.ok_mono {D E : Nat → Prop} (h : ∀ k, D k → E k) : ∀ x, AV.ok D x → AV.ok E x
  | .val _, _ => by simp [AV.ok]
  | .ptr k _, hx => by simp only [AV.ok] at hx ⊢; exact h k hx
  | .elt k _ _, hx => by simp only [AV.ok] at hx ⊢; exact h k hx
  | .lst k _ _ _ _, hx => by simp only [AV.ok] at hx ⊢; exact h k hx
  | .own k _ _ _, hx => by simp only [AV.ok] at hx ⊢; exact h k hx
  | .agg cs, hx => by simp only [AV.ok] at hx ⊢; exact Seg.ok_mono h cs hx
  | .tup cs, hx => by simp only [AV.ok] at hx ⊢; exact AV.okL_mono h cs hx
  | .ifc _ x, hx => by simp only [AV.ok] at hx ⊢; exact AV.ok_mono h x hx
theorem AV.okL_mono {D E : Nat → Prop} (h : ∀ k, D k → E k) : ∀ r, AV.okL D r → AV.okL E r
  | [], _ => trivial
  | x :: r, hr => by simp only [AV.okL] at hr ⊢; exact ⟨AV.ok_mono h x hr.1, AV.okL_mono h r hr.2⟩
end
mutual
theorem Seg.cells_agree {D : Nat → Prop} {ρ ρ' : Env} (h : ∀ k, D k → ρ'.b k = ρ.b k ∧ ρ'.c k = ρ.c k) : ∀ r, Seg.ok D r → Seg.cells ρ' r = Seg.cells ρ r
  | [], _ => rfl
  | .cell x :: r, hr => by
    simp only [Seg.ok] at hr
    simp only [Seg.cells, Seg.cell1]
    rw [AV.conc_agree h x hr.1.2, Seg.cells_agree h r hr.2]
  | .ints _ n xs :: r, hr => by
    simp only [Seg.ok] at hr
    simp only [Seg.cells, Seg.cell1]
    rw [Seg.cells_agree h r hr.2]
  | .vals n vs :: r, hr => by
    simp only [Seg.ok] at hr
    simp only [Seg.cells, Seg.cell1]
    rw [Seg.cells_agree h r hr.2]
theorem AV.conc_agree {D : Nat → Prop} {ρ ρ' : Env} (h : ∀ k, D k → ρ'.b k = ρ.b k ∧ ρ'.c k = ρ.c k) : ∀ x, AV.ok D x → AV.conc ρ' x = AV.conc ρ x
  | .val _, _ => by simp [AV.conc]
  | .ptr k _, hx => by simp only [AV.ok] at hx; simp only [AV.conc, (h k hx).1]
  | .elt k _ _, hx => by simp only [AV.ok] at hx; simp only [AV.conc, (h k hx).1]
  | .lst k _ _ _ _, hx => by simp only [AV.ok] at hx; simp only [AV.conc, (h k hx).1]
  | .own k _ _ _, hx => by simp only [AV.ok] at hx; simp only [AV.conc, (h k hx).1, (h k hx).2]
  | .agg cs, hx => by simp only [AV.ok] at hx; simp only [AV.conc]; rw [Seg.cells_agree h cs hx]
  | .tup cs, hx => by simp only [AV.ok] at hx; simp only [AV.conc]; rw [AV.concL_agree h cs hx]
  | .ifc _ x, hx => by simp only [AV.ok] at hx; simp only [AV.conc]; rw [AV.conc_agree h x hx]
theorem AV.concL_agree {D : Nat → Prop} {ρ ρ' : Env} (h : ∀ k, D k → ρ'.b k = ρ.b k ∧ ρ'.c k = ρ.c k) : ∀ r, AV.okL D r → AV.concL ρ' r = AV.concL ρ r
  | [], _ => rfl
  | x :: r, hr => by
    simp only [AV.okL] at hr
    simp only [AV.concL]
    rw [AV.conc_agree h x hr.1, AV.concL_agree h r hr.2]
end
theorem AV.one_conc (ρ : Env) (x : AV) (h : x.one = true) : (x.conc ρ).oneCell' = true := by
  cases x with
  | own k sz st len => simp only [AV.conc]; split <;> rfl
  | _ => simp_all [AV.one, AV.conc, Value.oneCell']
section
variable {D : Nat → Prop}
theorem Seg.cells_len (ρ : Env) : ∀ (r : List Seg), Seg.ok D r → (Seg.cells ρ r).length = Seg.len r
  | [], _ => rfl
  | .cell x :: r, h => by simp [Seg.cells, Seg.cell1, Seg.len, Seg.cells_len ρ r h.2]
  | .ints k n xs :: r, h => by simp only [Seg.cells, Seg.cell1, Seg.len, List.length_append, List.length_map, Seg.cells_len ρ r h.2, h.1]; omega
  | .vals n vs :: r, h => by simp only [Seg.cells, Seg.cell1, Seg.len, List.length_append, Seg.cells_len ρ r h.2, h.1.1]; omega
theorem Seg.cells_one (ρ : Env) : ∀ (r : List Seg), Seg.ok D r → ∀ v ∈ Seg.cells ρ r, v.oneCell' = true
  | [], _, v, hv => by simp [Seg.cells] at hv
  | .cell x :: r, h, v, hv => by
    simp only [Seg.cells, Seg.cell1, List.singleton_append, List.mem_cons] at hv
    rcases hv with rfl | hv
    · exact AV.one_conc ρ x h.1.1
    · exact Seg.cells_one ρ r h.2 v hv
  | .ints k n xs :: r, h, v, hv => by
    simp only [Seg.cells, Seg.cell1, List.mem_append, List.mem_map] at hv
    rcases hv with ⟨y, _, rfl⟩ | hv
    · rfl
    · exact Seg.cells_one ρ r h.2 v hv
  | .vals n vs :: r, h, v, hv => by
    simp only [Seg.cells, Seg.cell1, List.mem_append] at hv
    rcases hv with hv | hv
    · exact h.1.2 v hv
    · exact Seg.cells_one ρ r h.2 v hv
theorem Seg.cells_append (ρ : Env) : ∀ (r t : List Seg), Seg.cells ρ (r ++ t) = Seg.cells ρ r ++ Seg.cells ρ t
  | [], t => rfl
  | x :: r, t => by simp [Seg.cells, Seg.cells_append ρ r t]
theorem Seg.ok_append : ∀ (r t : List Seg), Seg.ok D r → Seg.ok D t → Seg.ok D (r ++ t)
  | [], t, _, h => h
  | .cell x :: r, t, h, h' => ⟨h.1, Seg.ok_append r t h.2 h'⟩
  | .ints _ n xs :: r, t, h, h' => ⟨h.1, Seg.ok_append r t h.2 h'⟩
  | .vals n vs :: r, t, h, h' => ⟨h.1, Seg.ok_append r t h.2 h'⟩

/-- The first n cells, and the others. -/
def Seg.cut : Nat → List Seg → Option (List Seg × List Seg)
  | 0, r => some ([], r)
  | n + 1, .cell x :: r => match Seg.cut n r with
    | some (a, b) => some (.cell x :: a, b)
    | none => none
  | n + 1, .ints k m xs :: r => match Nat.ble m (n + 1) with
    | true => match m with
      | 0 => none
      | m' + 1 => match Seg.cut (n - m') r with
        | some (a, b) => some (.ints k (m' + 1) xs :: a, b)
        | none => none
    | false => none
  | n + 1, .vals m vs :: r => match Nat.ble m (n + 1) with
    | true => match m with
      | 0 => none
      | m' + 1 => match Seg.cut (n - m') r with
        | some (a, b) => some (.vals (m' + 1) vs :: a, b)
        | none => none
    | false => none
  | _ + 1, [] => none
theorem Seg.cut_spec (ρ : Env) : ∀ (r : List Seg) (n : Nat) (a b : List Seg), Seg.cut n r = some (a, b) → Seg.ok D r → r = a ++ b ∧ Seg.ok D a ∧ Seg.ok D b ∧ Seg.len a = n
  | r, 0, a, b, h, hr => by
    simp [Seg.cut] at h
    obtain ⟨rfl, rfl⟩ := h
    exact ⟨rfl, trivial, hr, rfl⟩
  | [], n + 1, a, b, h, hr => by simp [Seg.cut] at h
  | .cell x :: r, n + 1, a, b, h, hr => by
    simp only [Seg.cut] at h
    split at h
    · rename_i a' b' hc
      simp only [Option.some.injEq, Prod.mk.injEq] at h
      obtain ⟨rfl, rfl⟩ := h
      obtain ⟨h1, h2, h3, h4⟩ := Seg.cut_spec ρ r n a' b' hc hr.2
      exact ⟨by rw [h1]; rfl, ⟨hr.1, h2⟩, h3, by simp [Seg.len, h4]⟩
    · cases h
  | .ints k m xs :: r, n + 1, a, b, h, hr => by
    simp only [Seg.cut] at h
    split at h
    · rename_i hle
      have hle' : m ≤ n + 1 := Nat.le_of_ble_eq_true hle
      split at h
      · cases h
      · rename_i m'
        split at h
        · rename_i a' b' hc
          simp only [Option.some.injEq, Prod.mk.injEq] at h
          obtain ⟨rfl, rfl⟩ := h
          obtain ⟨h1, h2, h3, h4⟩ := Seg.cut_spec ρ r (n - m') a' b' hc hr.2
          exact ⟨by rw [h1]; rfl, ⟨hr.1, h2⟩, h3, by simp [Seg.len, h4]; omega⟩
        · cases h
    · cases h
  | .vals m vs :: r, n + 1, a, b, h, hr => by
    simp only [Seg.cut] at h
    split at h
    · rename_i hle
      have hle' : m ≤ n + 1 := Nat.le_of_ble_eq_true hle
      split at h
      · cases h
      · rename_i m'
        split at h
        · rename_i a' b' hc
          simp only [Option.some.injEq, Prod.mk.injEq] at h
          obtain ⟨rfl, rfl⟩ := h
          obtain ⟨h1, h2, h3, h4⟩ := Seg.cut_spec ρ r (n - m') a' b' hc hr.2
          exact ⟨by rw [h1]; rfl, ⟨hr.1, h2⟩, h3, by simp [Seg.len, h4]; omega⟩
        · cases h
    · cases h
/-- The cell at a place that is told. -/
def Seg.get : Nat → List Seg → Option AV
  | 0, .cell x :: _ => some x
  | n + 1, .cell _ :: r => Seg.get n r
  | i, .ints k m xs :: r => match Nat.blt i m with
    | true => some (.val (.int k (xs.getD i 0)))
    | false => Seg.get (i - m) r
  | i, .vals m vs :: r => match Nat.blt i m with
    | true => some (.val (vs.getD i .nilIface))
    | false => Seg.get (i - m) r
  | _, [] => none
theorem Seg.get_spec (ρ : Env) : ∀ (r : List Seg) (i : Nat) (x : AV), Seg.get i r = some x → Seg.ok D r → (Seg.cells ρ r)[i]? = some (x.conc ρ) ∧ x.ok D
  | [], i, x, h, _ => by cases i <;> simp [Seg.get] at h
  | .cell y :: r, 0, x, h, hr => by
    simp only [Seg.get, Option.some.injEq] at h
    subst h
    have := hr.1
    exact ⟨by simp [Seg.cells, Seg.cell1], this.2⟩
  | .cell y :: r, n + 1, x, h, hr => by
    simp only [Seg.get] at h
    have := Seg.get_spec ρ r n x h hr.2
    simpa [Seg.cells, Seg.cell1] using this
  | .ints k m xs :: r, i, x, h, hr => by
    have h' : (match Nat.blt i m with
      | true => some (.val (.int k (xs.getD i 0)))
      | false => Seg.get (i - m) r) = some x := by cases i <;> simpa [Seg.get] using h
    have hl := hr.1
    split at h'
    · rename_i hb
      have hlt : i < m := Nat.le_of_ble_eq_true hb
      simp only [Option.some.injEq] at h'
      subst h'
      refine ⟨?_, trivial⟩
      simp only [Seg.cells, Seg.cell1, AV.conc]
      rw [List.getElem?_append_left (by simp; omega), List.getElem?_map]
      simp [List.getD_eq_getElem?_getD, show i < xs.length by omega]
    · rename_i hb
      have hge : m ≤ i := by
        rcases Nat.lt_or_ge i m with h2 | h2
        · have : Nat.blt i m = true := Nat.ble_eq_true_of_le h2
          rw [this] at hb; cases hb
        · exact h2
      have := Seg.get_spec ρ r (i - m) x h' hr.2
      refine ⟨?_, this.2⟩
      simp only [Seg.cells, Seg.cell1]
      rw [List.getElem?_append_right (by simp; omega)]
      simpa [hl] using this.1
  | .vals m vs :: r, i, x, h, hr => by
    have h' : (match Nat.blt i m with
      | true => some (.val (vs.getD i .nilIface))
      | false => Seg.get (i - m) r) = some x := by cases i <;> simpa [Seg.get] using h
    have hl := hr.1.1
    split at h'
    · rename_i hb
      have hlt : i < m := Nat.le_of_ble_eq_true hb
      simp only [Option.some.injEq] at h'
      subst h'
      refine ⟨?_, trivial⟩
      simp only [Seg.cells, Seg.cell1, AV.conc]
      rw [List.getElem?_append_left (by omega)]
      simp [List.getD_eq_getElem?_getD, show i < vs.length by omega]
    · rename_i hb
      have hge : m ≤ i := by
        rcases Nat.lt_or_ge i m with h2 | h2
        · have : Nat.blt i m = true := Nat.ble_eq_true_of_le h2
          rw [this] at hb; cases hb
        · exact h2
      have := Seg.get_spec ρ r (i - m) x h' hr.2
      refine ⟨?_, this.2⟩
      simp only [Seg.cells, Seg.cell1]
      rw [List.getElem?_append_right (by omega)]
      simpa [hl] using this.1
end

/-! The state. -/
theorem beq_no {i j : Nat} (h : i ≠ j) : Nat.beq i j = false := by
  cases e : Nat.beq i j with
  | false => rfl
  | true => exact absurd (Nat.eq_of_beq_eq_true e) h
def Env.up (ρ : Env) (k b : Nat) (c : Nat := 0) : Env := ⟨fun j => if j = k then b else ρ.b j, fun j => if j = k then c else ρ.c j⟩
theorem Env.up_same (ρ : Env) (k b : Nat) (c : Nat) : (ρ.up k b c).b k = b := if_pos rfl
theorem Env.up_sameC (ρ : Env) (k b : Nat) (c : Nat) : (ρ.up k b c).c k = c := if_pos rfl
theorem Env.up_ne (ρ : Env) {k j : Nat} (b : Nat) (c : Nat) (h : j ≠ k) : (ρ.up k b c).b j = ρ.b j ∧ (ρ.up k b c).c j = ρ.c j := ⟨if_neg h, if_neg h⟩
def look {α : Type} (k : Nat) : List (Nat × α) → Option α
  | [] => none
  | (j, x) :: r => match Nat.beq j k with
    | true => some x
    | false => look k r
def lay {α : Type} (k : Nat) (x : α) : List (Nat × α) → List (Nat × α)
  | [] => [(k, x)]
  | (j, y) :: r => match Nat.beq j k with
    | true => (k, x) :: r
    | false => (j, y) :: lay k x r
theorem look_lay_same {α : Type} (k : Nat) (x : α) : ∀ l, look k (lay k x l) = some x
  | [] => by simp [lay, look]
  | (j, y) :: r => by
    simp only [lay]
    split
    · simp [look]
    · rename_i h; simp only [look, h]; exact look_lay_same k x r
theorem look_lay_ne {α : Type} {j k : Nat} (h : j ≠ k) (x : α) : ∀ l, look j (lay k x l) = look j l
  | [] => by simp only [lay, look, beq_no (Ne.symm h)]
  | (i, y) :: r => by
    simp only [lay]
    split
    · rename_i hb
      have : i = k := Nat.eq_of_beq_eq_true hb
      subst this
      simp only [look, beq_no (Ne.symm h)]
    · simp only [look]
      split
      · rfl
      · exact look_lay_ne h x r
theorem look_lay {α : Type} (j k : Nat) (x : α) (l) : look j (lay k x l) = if j = k then some x else look j l := by
  split
  · rename_i h; subst h; exact look_lay_same _ x l
  · rename_i h; exact look_lay_ne h x l

/-- How a block is held: whole; as a list that the call has made, whose room behind is not told (and that may be none); no longer. -/
inductive Held where
  | arr
  | own (sz : Nat)
  | dead
structure Vblk where
  row : List Seg
  ty : TypeId
  held : Held
structure AS where
  tm : List (Nat × AV)
  mem : List (Nat × Vblk)
structure Ctx where
  P : Program
  w0 : World
  F : Nat → Prop
  ρ0 : Env
  n0 : Nat
  size : Nat

/-- Elder memory is as it was, but for the blocks that F names. -/
structure Fr (F : Nat → Prop) (w w' : World) : Prop where
  os : w'.os = w.os
  tape : w'.tape = w.tape
  output : w'.output = w.output
  size : w.heap.size ≤ w'.heap.size
  block : ∀ k, k < w.heap.size → ¬ F k → w'.heap[k]? = w.heap[k]?
theorem Fr.refl (F : Nat → Prop) (w : World) : Fr F w w := ⟨rfl, rfl, rfl, Nat.le_refl _, fun _ _ _ => rfl⟩
theorem Fr.trans {F : Nat → Prop} {a b c : World} (h : Fr F a b) (k : Fr F b c) : Fr F a c :=
  ⟨k.os.trans h.os, k.tape.trans h.tape, k.output.trans h.output, Nat.le_trans h.size k.size, fun i hi hf => (k.block i (Nat.lt_of_lt_of_le hi h.size) hf).trans (h.block i hi hf)⟩
theorem Fr.below {F : Nat → Prop} {a b : World} (h : Below a.heap.size a b) : Fr F a b := ⟨h.os, h.tape, h.output, h.size, fun k hk _ => h.block k hk⟩
theorem Fr.to_below {a b : World} (h : Fr (fun _ => False) a b) : Below a.heap.size a b := ⟨h.os, h.tape, h.output, h.size, fun k hk => h.block k hk (fun f => f)⟩

def AS.dom (m : List (Nat × Vblk)) (k : Nat) : Prop := (look k m).isSome = true
def Sits (ρ : Env) (w : World) (k : Nat) (b : Vblk) : Prop := match b.held with
  | .dead => True
  | .arr => w.heap[ρ.b k]? = some (.cells (Seg.cells ρ b.row).toArray b.ty (0, 0))
  | .own sz => (ρ.c k = 0 → Seg.cells ρ b.row = []) ∧ (0 < ρ.c k → ρ.c k ≤ maxLen ∧ ∃ spare : List Value, (Seg.cells ρ b.row ++ spare).length = ρ.c k * sz ∧ w.heap[ρ.b k]? = some (.cells (Seg.cells ρ b.row ++ spare).toArray b.ty (0, 0)))
/-- There is a block behind it. -/
def Vblk.alive (ρ : Env) (k : Nat) (b : Vblk) : Prop := match b.held with
  | .dead => False
  | .arr => True
  | .own _ => 0 < ρ.c k
/-- The memory that a state tells of. -/
structure RelM (Γ : Ctx) (ρ : Env) (m : List (Nat × Vblk)) (w : World) : Prop where
  sits : ∀ k b, look k m = some b → Sits ρ w k b ∧ Seg.ok (AS.dom m) b.row
  inj : ∀ j k b c, look j m = some b → look k m = some c → b.alive ρ j → c.alive ρ k → ρ.b j = ρ.b k → j = k
  home : ∀ k b, look k m = some b → b.alive ρ k → Γ.F (ρ.b k) ∨ Γ.w0.heap.size ≤ ρ.b k
  fix : ∀ k, k < Γ.n0 → AS.dom m k ∧ ρ.b k = Γ.ρ0.b k ∧ ρ.c k = Γ.ρ0.c k
  fr : Fr Γ.F Γ.w0 w
structure Rel (Γ : Ctx) (ρ : Env) (s : AS) (a : Act) (w : World) : Prop where
  mem : RelM Γ ρ s.mem w
  tm : ∀ t v, look t s.tm = some v → a.tmps[t]? = some (v.conc ρ) ∧ v.ok (AS.dom s.mem)
  df : a.defers = []
  size : a.tmps.size = Γ.size

theorem Sits.lt {ρ : Env} {w : World} {k : Nat} {b : Vblk} (h : Sits ρ w k b) (ha : b.alive ρ k) : ρ.b k < w.heap.size := by
  unfold Sits at h
  unfold Vblk.alive at ha
  cases hb : b.held with
  | arr => rw [hb] at h; exact (Array.getElem?_eq_some_iff.1 h).1
  | own sz =>
    rw [hb] at h ha
    obtain ⟨_, spare, _, h1⟩ := h.2 ha
    exact (Array.getElem?_eq_some_iff.1 h1).1
  | dead => rw [hb] at ha; exact ha.elim
/-- Its cells, as the memory has them. -/
theorem Sits.rd {ρ : Env} {w : World} {k : Nat} {b : Vblk} (h : Sits ρ w k b) (hd : b.held ≠ .dead) {o : Nat} {v : Value} (hv : (Seg.cells ρ b.row)[o]? = some v) : w.cell? ⟨ρ.b k, o, none⟩ = some v ∧ w.frozen? ⟨ρ.b k, o, none⟩ = false ∧ b.alive ρ k := by
  unfold Sits at h
  unfold Vblk.alive
  cases hb : b.held with
  | dead => exact absurd hb hd
  | arr => rw [hb] at h; simp only at h ⊢; exact ⟨by simpa [World.cell?, h] using hv, by simp [World.frozen?, h], trivial⟩
  | own sz =>
    rw [hb] at h
    simp only at h ⊢
    rcases Nat.eq_zero_or_pos (ρ.c k) with h0 | h0
    · rw [h.1 h0] at hv; simp at hv
    · obtain ⟨_, spare, _, h1⟩ := h.2 h0
      have hlt : o < (Seg.cells ρ b.row).length := (List.getElem?_eq_some_iff.1 hv).1
      refine ⟨?_, by simp [World.frozen?, h1], h0⟩
      simp only [World.cell?, h1]
      simp only [Option.isSome_none, Bool.false_eq_true, if_false, List.getElem?_toArray]
      rw [List.getElem?_append_left hlt]
      exact hv
/-- It stays where nothing has been written to its block. -/
theorem Sits.stay {ρ ρ' : Env} {w w' : World} {k : Nat} {b : Vblk} (h : Sits ρ w k b) (hc : Seg.cells ρ' b.row = Seg.cells ρ b.row) (hb : ρ'.b k = ρ.b k ∧ ρ'.c k = ρ.c k) (hw : b.alive ρ k → w'.heap[ρ.b k]? = w.heap[ρ.b k]?) : Sits ρ' w' k b := by
  unfold Sits at *
  unfold Vblk.alive at hw
  cases hh : b.held with
  | dead => trivial
  | arr => rw [hh] at h hw; simp only at h hw ⊢; rw [hc, hb.1, hw trivial]; exact h
  | own sz =>
    rw [hh] at h hw
    simp only at h hw ⊢
    rw [hc, hb.1, hb.2]
    refine ⟨h.1, fun h0 => ?_⟩
    rw [hw h0]
    exact h.2 h0
theorem alive_agree {ρ ρ' : Env} {k : Nat} {b : Vblk} (hb : ρ'.c k = ρ.c k) : b.alive ρ' k ↔ b.alive ρ k := by
  unfold Vblk.alive
  cases b.held <;> simp [hb]
/-- A slot is written. -/
theorem Rel.put {Γ : Ctx} {ρ : Env} {s : AS} {a : Act} {w : World} (h : Rel Γ ρ s a w) (d : Nat) (hd : d < Γ.size) (v : AV) (hv : v.ok (AS.dom s.mem)) :
    Rel Γ ρ ⟨lay d v s.tm, s.mem⟩ (a.put (some d) (v.conc ρ)) w := by
  refine ⟨h.mem, fun t u hu => ?_, h.df, by simp [Act.put, h.size]⟩
  simp only at hu
  rw [look_lay] at hu
  simp only [Act.put, Array.getElem?_setIfInBounds]
  split at hu
  · rename_i e
    subst e
    simp only [Option.some.injEq] at hu
    subst hu
    exact ⟨by simp [h.size, hd], hv⟩
  · rename_i e
    have := h.tm t u hu
    rw [if_neg (Ne.symm e)]
    exact this
/-- A world that differs in nothing that is told. -/
theorem RelM.world {Γ : Ctx} {ρ : Env} {m : List (Nat × Vblk)} {w w' : World} (h : RelM Γ ρ m w) (hb : Below w.heap.size w w') : RelM Γ ρ m w' := by
  refine ⟨fun k b hk => ?_, h.inj, h.home, h.fix, h.fr.trans (Fr.below hb)⟩
  obtain ⟨h1, h2⟩ := h.sits k b hk
  exact ⟨h1.stay rfl ⟨rfl, rfl⟩ (fun ha => hb.block _ (h1.lt ha)), h2⟩
theorem Rel.world {Γ : Ctx} {ρ : Env} {s : AS} {a : Act} {w w' : World} (h : Rel Γ ρ s a w) (hb : Below w.heap.size w w') : Rel Γ ρ s a w' := ⟨h.mem.world hb, h.tm, h.df, h.size⟩
theorem dom_lay {m : List (Nat × Vblk)} {k : Nat} {b : Vblk} {j : Nat} : AS.dom (lay k b m) j ↔ j = k ∨ AS.dom m j := by
  unfold AS.dom
  rw [look_lay]
  split <;> simp_all
/-- A name is laid: for a block that is made, for one that another name had, for none. -/
theorem RelM.name {Γ : Ctx} {ρ : Env} {m : List (Nat × Vblk)} {w w' : World} (h : RelM Γ ρ m w) (k B C : Nat) (hk : look k m = none) (b : Vblk) (hb : Seg.ok (AS.dom m) b.row)
    (hs : Sits (ρ.up k B C) w' k b) (hfar : ∀ j c, look j m = some c → c.alive ρ j → ρ.b j ≠ B ∨ ¬ b.alive (ρ.up k B C) k) (hB : b.alive (ρ.up k B C) k → Γ.F B ∨ Γ.w0.heap.size ≤ B)
    (hst : ∀ j c, look j m = some c → c.alive ρ j → w'.heap[ρ.b j]? = w.heap[ρ.b j]?) (hfr : Fr Γ.F Γ.w0 w') :
    RelM Γ (ρ.up k B C) (lay k b m) w' ∧ ∀ j, AS.dom m j → (ρ.up k B C).b j = ρ.b j ∧ (ρ.up k B C).c j = ρ.c j := by
  have hnk : ∀ j, AS.dom m j → j ≠ k := fun j hj e => by subst e; unfold AS.dom at hj; rw [hk] at hj; simp at hj
  have hag : ∀ j, AS.dom m j → (ρ.up k B C).b j = ρ.b j ∧ (ρ.up k B C).c j = ρ.c j := fun j hj => Env.up_ne _ _ _ (hnk j hj)
  have hdm : ∀ j c, look j m = some c → AS.dom m j := fun j c hj => by unfold AS.dom; rw [hj]; rfl
  refine ⟨⟨fun j c hj => ?_, fun i j b1 c1 hi hj ai aj hij => ?_, fun j c hj aj => ?_, fun j hj => ?_, hfr⟩, hag⟩
  · rw [look_lay] at hj
    split at hj
    · rename_i e
      subst e
      simp only [Option.some.injEq] at hj
      subst hj
      exact ⟨hs, Seg.ok_mono (fun i hi => dom_lay.2 (.inr hi)) _ hb⟩
    · obtain ⟨h1, h2⟩ := h.sits j c hj
      exact ⟨h1.stay (Seg.cells_agree hag _ h2) (hag j (hdm j c hj)) (hst j c hj), Seg.ok_mono (fun i hi => dom_lay.2 (.inr hi)) _ h2⟩
  · rw [look_lay] at hi hj
    split at hi <;> split at hj
    · rename_i e1 e2; rw [e1, e2]
    · rename_i e1 e2
      subst e1
      simp only [Option.some.injEq] at hi
      subst hi
      have hd := hag j (hdm j c1 hj)
      rw [alive_agree hd.2] at aj
      rw [Env.up_same, hd.1] at hij
      rcases hfar j c1 hj aj with hne | hne
      · exact absurd hij.symm hne
      · exact absurd ai hne
    · rename_i e1 e2
      subst e2
      simp only [Option.some.injEq] at hj
      subst hj
      have hd := hag i (hdm i b1 hi)
      rw [alive_agree hd.2] at ai
      rw [Env.up_same, hd.1] at hij
      rcases hfar i b1 hi ai with hne | hne
      · exact absurd hij hne
      · exact absurd aj hne
    · have d1 := hag i (hdm i b1 hi)
      have d2 := hag j (hdm j c1 hj)
      rw [alive_agree d1.2] at ai
      rw [alive_agree d2.2] at aj
      rw [d1.1, d2.1] at hij
      exact h.inj i j b1 c1 hi hj ai aj hij
  · rw [look_lay] at hj
    split at hj
    · rename_i e
      subst e
      simp only [Option.some.injEq] at hj
      subst hj
      rw [Env.up_same]
      exact hB aj
    · have d1 := hag j (hdm j c hj)
      rw [alive_agree d1.2] at aj
      rw [d1.1]
      exact h.home j c hj aj
  · obtain ⟨h1, h2, h3⟩ := h.fix j hj
    have d1 := hag j h1
    exact ⟨dom_lay.2 (.inr h1), by rw [d1.1]; exact h2, by rw [d1.2]; exact h3⟩
/-- A block is made. -/
theorem RelM.make {Γ : Ctx} {ρ : Env} {m : List (Nat × Vblk)} {w : World} (h : RelM Γ ρ m w) (k : Nat) (hk : look k m = none) (b : Vblk) (hh : b.held = .arr) (hb : Seg.ok (AS.dom m) b.row) :
    RelM Γ (ρ.up k w.heap.size) (lay k b m) (w.alloc (.cells (Seg.cells ρ b.row).toArray b.ty)) ∧ ∀ j, AS.dom m j → (ρ.up k w.heap.size).b j = ρ.b j ∧ (ρ.up k w.heap.size).c j = ρ.c j := by
  have hnk : ∀ j, AS.dom m j → j ≠ k := fun j hj e => by subst e; unfold AS.dom at hj; rw [hk] at hj; simp at hj
  refine h.name k w.heap.size 0 hk b hb ?_ (fun j c hj aj => .inl ?_) (fun _ => .inr h.fr.size) (fun j c hj aj => ?_) (h.fr.trans (Fr.below ((Below.refl _ _).alloc (Nat.le_refl _) _)))
  · unfold Sits
    rw [hh]
    simp only
    rw [Env.up_same, Seg.cells_agree (ρ := ρ) (D := AS.dom m) (fun j hj => Env.up_ne _ _ _ (hnk j hj)) _ hb]
    show (w.heap.push _)[w.heap.size]? = _
    simp
  · have := (h.sits j c hj).1.lt aj
    omega
  · have hl := (h.sits j c hj).1.lt aj
    show (w.heap.push _)[_]? = _
    rw [Array.getElem?_push_lt hl, Array.getElem?_eq_getElem hl]
theorem Rel.names {Γ : Ctx} {ρ ρ' : Env} {s : AS} {a : Act} {w w' : World} (h : Rel Γ ρ s a w) {m : List (Nat × Vblk)} (h1 : RelM Γ ρ' m w') (h2 : ∀ j, AS.dom s.mem j → ρ'.b j = ρ.b j ∧ ρ'.c j = ρ.c j) (h3 : ∀ j, AS.dom s.mem j → AS.dom m j) : Rel Γ ρ' ⟨s.tm, m⟩ a w' := by
  refine ⟨h1, fun t v hv => ?_, h.df, h.size⟩
  obtain ⟨h4, h5⟩ := h.tm t v hv
  exact ⟨by rw [AV.conc_agree (ρ := ρ) (D := AS.dom s.mem) h2 _ h5]; exact h4, AV.ok_mono h3 _ h5⟩
theorem Rel.make {Γ : Ctx} {ρ : Env} {s : AS} {a : Act} {w : World} (h : Rel Γ ρ s a w) (k : Nat) (hk : look k s.mem = none) (b : Vblk) (hh : b.held = .arr) (hb : Seg.ok (AS.dom s.mem) b.row) :
    Rel Γ (ρ.up k w.heap.size) ⟨s.tm, lay k b s.mem⟩ a (w.alloc (.cells (Seg.cells ρ b.row).toArray b.ty)) := by
  obtain ⟨h1, h2⟩ := h.mem.make k hk b hh hb
  exact h.names h1 h2 fun i hi => dom_lay.2 (.inr hi)
/-- A block is written. -/
theorem RelM.write {Γ : Ctx} {ρ : Env} {m : List (Nat × Vblk)} {w w' : World} (h : RelM Γ ρ m w) (k : Nat) (b0 b : Vblk) (hk : look k m = some b0) (hal : b.alive ρ k → b0.alive ρ k) (hb : Seg.ok (AS.dom m) b.row)
    (hat : Sits ρ w' k b) (hoff : ∀ j, j ≠ ρ.b k ∨ ¬ b0.alive ρ k → w'.heap[j]? = w.heap[j]?) (hsz : w'.heap.size = w.heap.size) (ho : w'.os = w.os) (ht : w'.tape = w.tape) (hp : w'.output = w.output) : RelM Γ ρ (lay k b m) w' := by
  have hdk : AS.dom m k := by unfold AS.dom; rw [hk]; rfl
  have hdom : ∀ j, AS.dom (lay k b m) j ↔ AS.dom m j := fun j => by
    rw [dom_lay]; exact ⟨fun e => e.elim (fun e => by subst e; exact hdk) id, .inr⟩
  -- each name had a block that is no less alive
  have hold : ∀ j c, look j (lay k b m) = some c → c.alive ρ j → ∃ c0, look j m = some c0 ∧ c0.alive ρ j := by
    intro j c hj ha
    rw [look_lay] at hj
    split at hj
    · rename_i e
      subst e
      simp only [Option.some.injEq] at hj
      subst hj
      exact ⟨b0, hk, hal ha⟩
    · exact ⟨c, hj, ha⟩
  refine ⟨fun j c hj => ?_, fun i j b1 c1 hi hj ai aj => ?_, fun j c hj aj => ?_, fun j hj => ⟨(hdom j).2 (h.fix j hj).1, (h.fix j hj).2⟩, ?_⟩
  · rw [look_lay] at hj
    split at hj
    · rename_i e
      subst e
      simp only [Option.some.injEq] at hj
      subst hj
      exact ⟨hat, Seg.ok_mono (fun i hi => (hdom i).2 hi) _ hb⟩
    · rename_i e
      obtain ⟨h1, h2⟩ := h.sits j c hj
      refine ⟨h1.stay rfl ⟨rfl, rfl⟩ (fun ha => hoff _ ?_), Seg.ok_mono (fun i hi => (hdom i).2 hi) _ h2⟩
      by_cases hb0 : b0.alive ρ k
      · exact .inl (fun e2 => e (h.inj j k c b0 hj hk ha hb0 e2))
      · exact .inr hb0
  · obtain ⟨b2, hi2, ai2⟩ := hold i b1 hi ai
    obtain ⟨c2, hj2, aj2⟩ := hold j c1 hj aj
    exact h.inj i j b2 c2 hi2 hj2 ai2 aj2
  · obtain ⟨c2, hj2, aj2⟩ := hold j c hj aj
    exact h.home j c2 hj2 aj2
  · refine ⟨ho.trans h.fr.os, ht.trans h.fr.tape, hp.trans h.fr.output, by rw [hsz]; exact h.fr.size, fun j hj hF => ?_⟩
    rw [hoff j ?_]
    · exact h.fr.block j hj hF
    · by_cases hb0 : b0.alive ρ k
      · left
        intro e
        rcases h.home k b0 hk hb0 with hf | hf
        · exact hF (e ▸ hf)
        · omega
      · exact .inr hb0
theorem Rel.write {Γ : Ctx} {ρ : Env} {s : AS} {a : Act} {w w' : World} (h : Rel Γ ρ s a w) (k : Nat) (b0 b : Vblk) (hk : look k s.mem = some b0) (hal : b.alive ρ k → b0.alive ρ k) (hb : Seg.ok (AS.dom s.mem) b.row)
    (hat : Sits ρ w' k b) (hoff : ∀ j, j ≠ ρ.b k ∨ ¬ b0.alive ρ k → w'.heap[j]? = w.heap[j]?) (hsz : w'.heap.size = w.heap.size) (ho : w'.os = w.os) (ht : w'.tape = w.tape) (hp : w'.output = w.output) : Rel Γ ρ ⟨s.tm, lay k b s.mem⟩ a w' :=
  ⟨h.mem.write k b0 b hk hal hb hat hoff hsz ho ht hp, fun t v hv => ⟨(h.tm t v hv).1, AV.ok_mono (fun i hi => dom_lay.2 (.inr hi)) _ (h.tm t v hv).2⟩, h.df, h.size⟩

/-! Operations. -/
def ev (tm : List (Nat × AV)) : Operand → Option AV
  | .tmp t => look t tm
  | .const v => some (.val v)
  | .global g => some (.val (.pointer (some ⟨g, 0, none⟩)))
  | .func f => some (.val (.func (.func f) #[] #[]))
def evV (tm : List (Nat × AV)) (x : Operand) : Value := match ev tm x with
  | some v => match v.toV with
    | some y => y
    | none => undef
  | none => undef
def evC (ρ : Env) (tm : List (Nat × AV)) (x : Operand) : Value := match ev tm x with
  | some v => v.conc ρ
  | none => undef
theorem Rel.ev {Γ : Ctx} {ρ : Env} {s : AS} {a : Act} {w : World} (h : Rel Γ ρ s a w) {x : Operand} {v : AV} (hx : ev s.tm x = some v) : a.eval x = v.conc ρ ∧ v.ok (AS.dom s.mem) := by
  cases x with
  | tmp t =>
    obtain ⟨h1, h2⟩ := h.tm t v hx
    refine ⟨?_, h2⟩
    simp only [Act.eval, Array.getD_eq_getD_getElem?, h1, Option.getD_some]
  | const c => simp only [Go.Proofs.YthgnmpjcbicdhaaDoor.ev, Option.some.injEq] at hx; subst hx; exact ⟨by simp [Act.eval, AV.conc], by simp [AV.ok]⟩
  | global g => simp only [Go.Proofs.YthgnmpjcbicdhaaDoor.ev, Option.some.injEq] at hx; subst hx; exact ⟨by simp [Act.eval, AV.conc], by simp [AV.ok]⟩
  | func f => simp only [Go.Proofs.YthgnmpjcbicdhaaDoor.ev, Option.some.injEq] at hx; subst hx; exact ⟨by simp [Act.eval, AV.conc], by simp [AV.ok]⟩

/-- What is told of an operation: its value; its value, spelled otherwise; an index; bounds; how a block is to be seen; what a call answers. -/
inductive Hint where
  | as (v : AV)
  | eq (v : AV)
  | ix (n : Nat)
  | sub (lo hi : Nat)
  | row (r : List Seg)
  | call (r : AV)
  | cmp (b : Bool)
  | app (row : List Seg) (len : Nat)
  | appx (row : List Seg) (len : Nat) (ys : List Value)
  | callM (rd : List Nat) (v : AV) (nb : Option Vblk)
  | mk (row : List Seg) (n m : Nat)
  | copy (ys xs : List Int) (q : Nat)
  | subE
  | callW (rd : List Nat) (k : Nat) (b : Vblk) (v : AV)
  | asW (rd : List Nat) (k : Nat) (b : Vblk) (v : AV)
  | asN (rd : List Nat) (v : AV) (b : Vblk)
  | asR (rd : List Nat) (v : AV)
inductive Res where
  | val (v : AV) (rd : List Nat) (vc : List Prop)
  | new (v : AV) (b : Vblk) (vc : List Prop)
  | wr (k : Nat) (b : Vblk) (vc : List Prop)
  | call (f : FuncId) (args : List Value) (r : AV) (vc : List Prop)
  | gen (v : AV) (ms : List (Nat × Vblk)) (rd : List Nat) (nw : Bool) (vc : List Prop)
def Res.vc : Res → List Prop
  | .val _ _ vc => vc
  | .new _ _ vc => vc
  | .wr _ _ vc => vc
  | .call _ _ _ vc => vc
  | .gen _ _ _ _ vc => vc

def isSelect : Op → Bool
  | .select .. => true
  | _ => false
def allIn (tm : List (Nat × AV)) : List Operand → Bool
  | [] => true
  | x :: r => match ev tm x with
    | some _ => allIn tm r
    | none => false
def allV (tm : List (Nat × AV)) : List Operand → Bool
  | [] => true
  | x :: r => match ev tm x with
    | some v => match v.toV with
      | some _ => allV tm r
      | none => false
    | none => false
def No (_ : Nat) : Prop := False
def AV.vc (v : AV) : List Prop := match v with
  | .val _ => []
  | v => [v.ok No]
/-- '==' and '!=' of structs and arrays. -/
def cmpOp (Γ : Ctx) (b : Bool) (op : BinOp) (t : TypeId) (x y : Operand) (u v : Option AV) : Option Res :=
  match u, v with
  | some u, some v => match u.toV, v.toV with
    | some (.agg c), some (.agg d) => match prun Γ.P (eqGuard op t x y (.agg c) (.agg d)) with
      | some _ => match op with
        | .eql => some (.val (.val (.bool b)) [] [∀ w, (Op.equal t (.agg c) (.agg d)).run Γ.P w = .ok b w])
        | .neq => some (.val (.val (.bool (!b))) [] [∀ w, (Op.equal t (.agg c) (.agg d)).run Γ.P w = .ok b w])
        | _ => none
      | none => none
    | _, _ => none
  | _, _ => none
/-- Operations that look at no block of the call's own. -/
def genOp (Γ : Ctx) (h : Option Hint) (o : Oper) (tm : List (Nat × AV)) : Option Res :=
  match isSelect o.op with
  | true => none
  | false => match h with
    | some (.call v) => match allV tm o.op.operands.toList, v.toV with
      | true, some y => match prun Γ.P (execOp (evV tm) o) with
        | some (.enter f args) => some (.call f args.toList v ((∀ w, Fr Γ.F Γ.w0 w → Calls Γ.P f args w fun e w' => e = .returned y ∧ Below w.heap.size w w') :: v.vc))
        | _ => none
      | _, _ => none
    | some (.cmp b) => match o.op with
      | .binOp op t x y _ => cmpOp Γ b op t x y (ev tm x) (ev tm y)
      | _ => none
    | some (.as v) => match allIn tm o.op.operands.toList with
      | true => some (.val v [] ((∀ ρ w, Fr Γ.F Γ.w0 w → (execOp (evC ρ tm) o).run Γ.P w = .ok (.value (v.conc ρ)) w) :: v.vc))
      | false => none
    | some (.eq v) => match allV tm o.op.operands.toList, v.toV with
      | true, some y => match prun Γ.P (execOp (evV tm) o) with
        | some (.value x) => some (.val v [] ((x = y) :: v.vc))
        | _ => none
      | _, _ => none
    | _ => match allV tm o.op.operands.toList with
      | true => match prun Γ.P (execOp (evV tm) o) with
        | some (.value x) => some (.val (.val x) [] [])
        | _ => none
      | false => none

/-- Of what form the variables of a type are: some none: one cell; some (some n): a struct or an array of n cells. -/
def kindOf (Γ : Ctx) (t : TypeId) : Option (Option Nat) :=
  match Γ.P.underlying t, Γ.P.info? t with
  | some d, some i => match d.isRow with
    | true => some (some i.size)
    | false => match Nat.beq i.size 1 with
      | true => some none
      | false => none
  | _, _ => none
/-- A block that is still held. -/
def live (k : Nat) (mem : List (Nat × Vblk)) : Option Vblk := match look k mem with
  | some b => match b.held with
    | .dead => none
    | _ => some b
  | none => none
theorem live_spec {k : Nat} {mem : List (Nat × Vblk)} {b : Vblk} (h : live k mem = some b) : look k mem = some b ∧ b.held ≠ .dead := by
  unfold live at h
  split at h
  · rename_i c hc
    split at h
    · cases h
    · rename_i hne
      simp only [Option.some.injEq] at h
      subst h
      exact ⟨hc, hne⟩
  · cases h
def loadOp (Γ : Ctx) (t : TypeId) (p : AV) (mem : List (Nat × Vblk)) : Option Res :=
  match p with
  | .ptr k off => match live k mem, kindOf Γ t with
    | some b, some none => match Seg.get off b.row with
      | some x => some (.val x [k] [])
      | none => none
    | some b, some (some n) => match Seg.cut off b.row with
      | some (_, r1) => match Seg.cut n r1 with
        | some (r2, _) => some (.val (.agg r2) [k] [])
        | none => none
      | none => none
    | _, _ => none
  | .elt k base i => match live k mem with
    | some b => match Seg.cut base b.row with
      | some (_, .ints kd m xs :: _) => match kindOf Γ t with
        | some none => some (.val (.val (.int kd (xs.getD i 0))) [k] [i < m])
        | some (some n) => some (.val (.agg [.ints kd n ((xs.drop i).take n)]) [k] [i + n ≤ m])
        | none => none
      | some (_, .vals m vs :: _) => match kindOf Γ t with
        | some none => some (.val (.val (vs.getD i .nilIface)) [k] [i < m])
        | some (some n) => some (.val (.agg [.vals n ((vs.drop i).take n)]) [k] [i + n ≤ m])
        | none => none
      | _ => none
    | none => none
  | _ => none
/-- A value's cells. -/
def AV.segs : AV → Option (List Seg)
  | .agg cs => some cs
  | .tup _ => none
  | .val x => match x with
    | .agg cs => match cs.toList.all (·.oneCell') with
      | true => some (cs.toList.map fun c => .cell (.val c))
      | false => none
    | .tuple _ => none
    | y => match y.oneCell' with
      | true => some [.cell (.val y)]
      | false => none
  | y => some [.cell y]
def Seg.setIn (k : IntKind) (m : Nat) (xs : List Int) (i : Nat) (r : List Seg) : AV → Option (List Seg)
  | .val (.int k' v) => match decide (k = k') with
    | true => some (.ints k m (xs.set i v) :: r)
    | false => none
  | _ => none
/-- A cell is written. -/
def Seg.set : Nat → AV → List Seg → Option (List Seg)
  | 0, x, .cell _ :: r => some (.cell x :: r)
  | n + 1, x, .cell y :: r => match Seg.set n x r with
    | some r' => some (.cell y :: r')
    | none => none
  | i, x, .ints k m xs :: r => match Nat.blt i m with
    | true => Seg.setIn k m xs i r x
    | false => match Seg.set (i - m) x r with
      | some r' => some (.ints k m xs :: r')
      | none => none
  | _, _, .vals _ _ :: _ => none
  | _, _, [] => none
def storeOp (Γ : Ctx) (t : TypeId) (p x : AV) (mem : List (Nat × Vblk)) : Option Res :=
  match p with
  | .ptr k off => match live k mem, kindOf Γ t with
    | some b, some none => match x.one with
      | true => match Seg.set off x b.row with
        | some r => some (.wr k { b with row := r } [])
        | none => none
      | false => none
    | some b, some (some n) => match x.segs with
      | some cs => match Nat.beq (Seg.len cs) n with
        | true => match Seg.cut off b.row with
          | some (r0, r1) => match Seg.cut n r1 with
            | some (_, r2) => some (.wr k { b with row := r0 ++ (cs ++ r2) } [])
            | none => none
          | none => none
        | false => none
      | none => none
    | _, _ => none
  | .elt k base i => match live k mem with
    | some b => match Seg.cut base b.row with
      | some (r0, .ints kd m xs :: r2) => match kindOf Γ t with
        | some none => match x with
          | .val (.int kd' v) => match decide (kd = kd') with
            | true => some (.wr k { b with row := r0 ++ .ints kd m (xs.set i v) :: r2 } [i < m])
            | false => none
          | _ => none
        | some (some n) => match x with
          | .agg [.ints kd' n' ys] => match decide (kd = kd'), Nat.beq n' n with
            | true, true => some (.wr k { b with row := r0 ++ .ints kd m (xs.take i ++ (ys ++ xs.drop (i + n))) :: r2 } [i + n ≤ m])
            | _, _ => none
          | _ => none
        | none => none
      | _ => none
    | none => none
  | _ => none
def makeOp (Γ : Ctx) (nm : Nat) (h : Option Hint) (t : TypeId) (v : AV) : Option Res :=
  match h with
  | some (.row r) => match v.toV with
    | some y => some (.new (.ptr nm 0) ⟨r, t, .arr⟩ [∀ ρ, Seg.cells ρ r = y.cells.toList, Seg.ok No r])
    | none => none
  | _ => match v.segs with
    | some r => some (.new (.ptr nm 0) ⟨r, t, .arr⟩ [])
    | none => none

theorem run_loadVar_one {P : Program} (w : World) (a : Addr) (t : TypeId) (d : TypeDesc) (v : Value) (hu : P.underlying t = some d) (hd : d.isRow = false) (hc : w.cell? a = some v) : (loadVar t a).run P w = .ok v w := by
  have hagg : (isAgg t).run P w = .ok false w := by
    unfold isAgg
    rw [Sem.run_bind, run_underlying hu w]
    cases d <;> simp_all
  simp [loadVar, Sem.run_bind, hagg, hc]
theorem kindOf_none {Γ : Ctx} {t : TypeId} (h : kindOf Γ t = some none) : ∃ d, Γ.P.underlying t = some d ∧ d.isRow = false ∧ (Γ.P.info? t).map (·.size) = some 1 := by
  unfold kindOf at h
  split at h
  · rename_i d i hu hi
    split at h
    · simp at h
    · rename_i hd
      split at h
      · rename_i hb
        exact ⟨d, hu, by simpa using hd, by rw [hi]; simp [Nat.eq_of_beq_eq_true hb]⟩
      · simp at h
  · simp at h
theorem kindOf_some {Γ : Ctx} {t : TypeId} {n : Nat} (h : kindOf Γ t = some (some n)) : ∃ d, Γ.P.underlying t = some d ∧ d.isRow = true ∧ (Γ.P.info? t).map (·.size) = some n := by
  unfold kindOf at h
  split at h
  · rename_i d i hu hi
    split at h
    · rename_i hd
      simp only [Option.some.injEq] at h
      exact ⟨d, hu, by simpa using hd, by rw [hi]; simp [h]⟩
    · split at h <;> simp at h
  · simp at h
theorem Sits.range {ρ : Env} {w : World} {k : Nat} {b : Vblk} (h : Sits ρ w k b) (hd : b.held ≠ .dead) (o : Nat) (cs : List Value) (he : ∀ j v, cs[j]? = some v → (Seg.cells ρ b.row)[o + j]? = some v) : w.rangeAt (ρ.b k) o cs := fun j v hv => (h.rd hd (he j v hv)).1

/-! The operations are what they are told to be. -/
def layAll : List (Nat × Vblk) → List (Nat × Vblk) → List (Nat × Vblk)
  | [], mem => mem
  | (k, b) :: r, mem => layAll r (lay k b mem)
def ResOk (Γ : Ctx) (nm : Nat) (o : Oper) (ρ : Env) (s : AS) (a : Act) (w : World) : Res → Prop
  | .val v _ _ => (execOp a.eval o).run Γ.P w = .ok (.value (v.conc ρ)) w ∧ v.ok (AS.dom s.mem)
  | .new v b _ => look nm s.mem = none ∧ b.held = .arr ∧ Seg.ok (AS.dom s.mem) b.row ∧ v.ok (AS.dom (lay nm b s.mem)) ∧
      (execOp a.eval o).run Γ.P w = .ok (.value (v.conc (ρ.up nm w.heap.size))) (w.alloc (.cells (Seg.cells ρ b.row).toArray b.ty))
  | .wr k b1 _ => ∃ b0 w', look k s.mem = some b0 ∧ (execOp a.eval o).run Γ.P w = .ok .skip w' ∧ Seg.ok (AS.dom s.mem) b1.row ∧ Sits ρ w' k b1 ∧ (b1.alive ρ k → b0.alive ρ k) ∧
      (∀ j, j ≠ ρ.b k ∨ ¬ b0.alive ρ k → w'.heap[j]? = w.heap[j]?) ∧ w'.heap.size = w.heap.size ∧ w'.os = w.os ∧ w'.tape = w.tape ∧ w'.output = w.output
  | .call f args r _ => (execOp a.eval o).run Γ.P w = .ok (.enter f args.toArray) w ∧ r.ok (AS.dom s.mem) ∧
      Calls Γ.P f args.toArray w fun e w' => e = .returned (r.conc ρ) ∧ Below w.heap.size w w'
  | .gen v ms _ nw _ => ∀ (K : Act → World → Prop) (Q : Exit → Act → World → Prop), (∀ ρ' w', Rel Γ ρ' ⟨s.tm, layAll ms s.mem⟩ a w' → v.ok (AS.dom (layAll ms s.mem)) → K (a.put o.dst (v.conc ρ')) w') → o.wp Γ.P a w K Q

theorem allIn_spec {tm : List (Nat × AV)} : ∀ (l : List Operand), allIn tm l = true → ∀ x ∈ l, ∃ v, ev tm x = some v
  | [], _, x, hx => by cases hx
  | y :: r, h, x, hx => by
    simp only [allIn] at h
    split at h
    · rename_i v hv
      rcases List.mem_cons.1 hx with rfl | hx
      · exact ⟨v, hv⟩
      · exact allIn_spec r h x hx
    · cases h
theorem allV_spec {tm : List (Nat × AV)} : ∀ (l : List Operand), allV tm l = true → ∀ x ∈ l, ∃ v y, ev tm x = some v ∧ v.toV = some y
  | [], _, x, hx => by cases hx
  | y :: r, h, x, hx => by
    simp only [allV] at h
    split at h
    · rename_i v hv
      split at h
      · rename_i z hz
        rcases List.mem_cons.1 hx with rfl | hx
        · exact ⟨v, z, hv, hz⟩
        · exact allV_spec r h x hx
      · cases h
    · cases h
theorem isSelect_no {o : Oper} (h : isSelect o.op = false) : ∀ cs b, o.op ≠ .select cs b := by
  intro cs b e; rw [e] at h; simp [isSelect] at h
theorem AV.vc_ok {v : AV} {D : Nat → Prop} (h : ∀ p ∈ v.vc, p) : v.ok D := by
  have hm : ∀ k, No k → D k := fun _ h => h.elim
  cases v <;> first | (simp [AV.ok]; done) | exact AV.ok_mono hm _ (h _ (by simp [AV.vc]))
theorem toV_ok (D : Nat → Prop) {v : AV} {y : Value} (hv : ∀ p ∈ v.vc, p) : v.ok D := AV.vc_ok hv
theorem cmpOp_sound {Γ : Ctx} {nm : Nat} {o : Oper} {b : Bool} {op : BinOp} {t yt : TypeId} {x y : Operand} (ho : o.op = .binOp op t x y yt) {ρ : Env} {s : AS} {a : Act} {w : World} {r : Res} (hr : cmpOp Γ b op t x y (ev s.tm x) (ev s.tm y) = some r) (hvc : ∀ p ∈ r.vc, p) (hR : Rel Γ ρ s a w) : ResOk Γ nm o ρ s a w r := by
  unfold cmpOp at hr
  split at hr
  · rename_i u v hu hv
    split at hr
    · rename_i c d hc hd
      have hx : a.eval x = .agg c := by rw [(hR.ev hu).1, AV.conc_toV ρ u _ hc]
      have hy : a.eval y = .agg d := by rw [(hR.ev hv).1, AV.conc_toV ρ v _ hd]
      split at hr
      · rename_i hg
        have hg := prun_run Γ.P _ _ hg w
        split at hr
        · simp only [Option.some.injEq] at hr
          subst hr
          have h1 : ∀ w, (Op.equal t (.agg c) (.agg d)).run Γ.P w = .ok b w := hvc _ (by simp [Res.vc])
          refine ⟨?_, by simp [AV.ok]⟩
          unfold execOp
          simp only [ho, hx, hy, Sem.run_bind, hg, Result.andThen_ok, Sem.run_pure, AV.conc]
          show ((do pure (Value.bool (← Op.equal t (.agg c) (.agg d))) : Sem Value).run Γ.P w).andThen _ = _
          rw [Sem.run_bind, h1 w]
          rfl
        · simp only [Option.some.injEq] at hr
          subst hr
          have h1 : ∀ w, (Op.equal t (.agg c) (.agg d)).run Γ.P w = .ok b w := hvc _ (by simp [Res.vc])
          refine ⟨?_, by simp [AV.ok]⟩
          unfold execOp
          simp only [ho, hx, hy, Sem.run_bind, hg, Result.andThen_ok, Sem.run_pure, AV.conc]
          show ((do pure (Value.bool (!(← Op.equal t (.agg c) (.agg d)))) : Sem Value).run Γ.P w).andThen _ = _
          rw [Sem.run_bind, h1 w]
          rfl
        · cases hr
      · cases hr
    · cases hr
  · cases hr
theorem genOp_sound {Γ : Ctx} {nm : Nat} {h : Option Hint} {o : Oper} {tm : List (Nat × AV)} {ρ : Env} {s : AS} {a : Act} {w : World} {r : Res} (hr : genOp Γ h o tm = some r) (hvc : ∀ p ∈ r.vc, p) (hR : Rel Γ ρ s a w)
    (hag : ∀ x ∈ o.op.operands, ev tm x = ev s.tm x) : ResOk Γ nm o ρ s a w r := by
  have heC : isSelect o.op = false → allIn tm o.op.operands.toList = true → execOp a.eval o = execOp (evC ρ tm) o := fun hsel hall =>
    execOp_congr o (isSelect_no hsel) fun x hx => by
      obtain ⟨u, hu⟩ := allIn_spec _ hall x (by simpa using hx)
      unfold evC
      rw [hu]
      rw [hag x hx] at hu
      rw [(hR.ev hu).1]
  have heV : isSelect o.op = false → allV tm o.op.operands.toList = true → execOp a.eval o = execOp (evV tm) o := fun hsel hall =>
    execOp_congr o (isSelect_no hsel) fun x hx => by
      obtain ⟨u, z, hu, hz⟩ := allV_spec _ hall x (by simpa using hx)
      unfold evV
      rw [hu]
      simp only [hz]
      rw [hag x hx] at hu
      rw [(hR.ev hu).1]
      exact AV.conc_toV ρ u z hz
  unfold genOp at hr
  split at hr
  · cases hr
  · rename_i hsel
    split at hr
    · rename_i v
      split at hr
      · rename_i y hall hy
        have he := heV hsel hall
        split at hr
        · rename_i f args hx
          simp only [Option.some.injEq] at hr
          subst hr
          have hc : ∀ w, Fr Γ.F Γ.w0 w → Calls Γ.P f args w fun e w' => e = .returned y ∧ Below w.heap.size w w' := hvc _ (by simp only [Res.vc]; exact List.mem_cons_self)
          refine ⟨?_, AV.vc_ok fun p hp => hvc p (by simp [Res.vc, hp]), ?_⟩
          · rw [he, prun_run Γ.P _ _ hx w]
          · rw [AV.conc_toV ρ v y hy]
            exact hc w hR.mem.fr
        · cases hr
      · cases hr
    · split at hr
      · rename_i op t x y yt ho
        rw [hag x (by simp [ho, Op.operands]), hag y (by simp [ho, Op.operands])] at hr
        exact cmpOp_sound ho hr hvc hR
      · cases hr
    · rename_i v
      split at hr
      · rename_i hall
        simp only [Option.some.injEq] at hr
        subst hr
        refine ⟨?_, AV.vc_ok fun p hp => hvc p (by simp [Res.vc, hp])⟩
        have hl : ∀ ρ w, Fr Γ.F Γ.w0 w → (execOp (evC ρ tm) o).run Γ.P w = .ok (.value (v.conc ρ)) w := hvc _ (by simp only [Res.vc]; exact List.mem_cons_self)
        rw [heC hsel hall]
        exact hl ρ w hR.mem.fr
      · cases hr
    · rename_i v
      split at hr
      · rename_i y hall hy
        split at hr
        · rename_i x hx
          simp only [Option.some.injEq] at hr
          subst hr
          refine ⟨?_, AV.vc_ok fun p hp => hvc p (by simp [Res.vc, hp])⟩
          have hxy : x = y := hvc _ (by simp [Res.vc])
          rw [heV hsel hall, prun_run Γ.P _ _ hx w, AV.conc_toV ρ v y hy, hxy]
        · cases hr
      · cases hr
    · split at hr
      · rename_i hall
        split at hr
        · rename_i x hx
          simp only [Option.some.injEq] at hr
          subst hr
          refine ⟨?_, by simp [AV.ok]⟩
          rw [heV hsel hall, prun_run Γ.P _ _ hx w]
          simp [AV.conc]
        · cases hr
      · cases hr

theorem RelM.at {Γ : Ctx} {ρ : Env} {m : List (Nat × Vblk)} {w : World} (h : RelM Γ ρ m w) {k : Nat} {b : Vblk} (hk : look k m = some b) : Sits ρ w k b ∧ Seg.ok (AS.dom m) b.row := h.sits k b hk
theorem cut_ints {D : Nat → Prop} {ρ : Env} {row r0 r2 : List Seg} {base m : Nat} {kd : IntKind} {xs : List Int} (h : Seg.cut base row = some (r0, .ints kd m xs :: r2)) (ho : Seg.ok D row) :
    row = r0 ++ .ints kd m xs :: r2 ∧ Seg.ok D r0 ∧ xs.length = m ∧ Seg.ok D r2 ∧ (Seg.cells ρ r0).length = base ∧ Seg.cells ρ row = Seg.cells ρ r0 ++ (xs.map (Value.int kd) ++ Seg.cells ρ r2) := by
  obtain ⟨h1, h2, h3, h4⟩ := Seg.cut_spec ρ _ _ _ _ h ho
  simp only [Seg.ok] at h3
  exact ⟨h1, h2, h3.1, h3.2, by rw [Seg.cells_len ρ r0 h2, h4], by rw [h1, Seg.cells_append]; rfl⟩
theorem cut_vals {D : Nat → Prop} {ρ : Env} {row r0 r2 : List Seg} {base m : Nat} {vs : List Value} (h : Seg.cut base row = some (r0, .vals m vs :: r2)) (ho : Seg.ok D row) :
    row = r0 ++ .vals m vs :: r2 ∧ Seg.ok D r0 ∧ vs.length = m ∧ Seg.ok D r2 ∧ (Seg.cells ρ r0).length = base ∧ Seg.cells ρ row = Seg.cells ρ r0 ++ (vs ++ Seg.cells ρ r2) ∧ ∀ v ∈ vs, v.oneCell' = true := by
  obtain ⟨h1, h2, h3, h4⟩ := Seg.cut_spec ρ _ _ _ _ h ho
  simp only [Seg.ok] at h3
  exact ⟨h1, h2, h3.1.1, h3.2, by rw [Seg.cells_len ρ r0 h2, h4], by rw [h1, Seg.cells_append]; rfl, h3.1.2⟩
theorem RelM.liveAt {Γ : Ctx} {ρ : Env} {m : List (Nat × Vblk)} {w : World} (h : RelM Γ ρ m w) {k : Nat} {b : Vblk} (hk : live k m = some b) : Sits ρ w k b ∧ Seg.ok (AS.dom m) b.row ∧ b.held ≠ .dead ∧ look k m = some b :=
  ⟨(h.sits k b (live_spec hk).1).1, (h.sits k b (live_spec hk).1).2, (live_spec hk).2, (live_spec hk).1⟩
theorem loadOp_sound {Γ : Ctx} {nm : Nat} {o : Oper} {t : TypeId} {x : Operand} {p : AV} (ho : o.op = .load t x) {ρ : Env} {s : AS} {a : Act} {w : World} {r : Res} (hx : ev s.tm x = some p) (hr : loadOp Γ t p s.mem = some r) (hvc : ∀ p ∈ r.vc, p) (hR : Rel Γ ρ s a w) : ResOk Γ nm o ρ s a w r := by
  have hx1 := (hR.ev hx).1
  have hexec : ∀ (ad : Addr) (v : Value), a.eval x = .pointer (some ad) → (loadVar t ad).run Γ.P w = .ok v w → (execOp a.eval o).run Γ.P w = .ok (.value v) w := by
    intro ad v h1 h2
    unfold execOp
    simp [ho, h1, Instr.loadAt, Instr.sureAddr, h2]
  unfold loadOp at hr
  split at hr
  · rename_i k off
    simp only [AV.conc] at hx1
    split at hr
    · rename_i b hb hk
      obtain ⟨d, hd1, hd2, _⟩ := kindOf_none hk
      obtain ⟨hs, hok, hdd, hlk⟩ := hR.mem.liveAt hb
      split at hr
      · rename_i y hy
        simp only [Option.some.injEq] at hr
        subst hr
        obtain ⟨h1, h2⟩ := Seg.get_spec ρ _ _ _ hy hok
        exact ⟨hexec _ _ hx1 (run_loadVar_one w _ t d _ hd1 hd2 (hs.rd hdd h1).1), h2⟩
      · cases hr
    · rename_i b n hb hk
      obtain ⟨d, hd1, hd2, hd3⟩ := kindOf_some hk
      obtain ⟨hs, hok, hdd, hlk⟩ := hR.mem.liveAt hb
      split at hr
      · rename_i r0 r1 hc1
        split at hr
        · rename_i r2 r3 hc2
          simp only [Option.some.injEq] at hr
          subst hr
          obtain ⟨e1, e2, e3, e4⟩ := Seg.cut_spec ρ _ _ _ _ hc1 hok
          obtain ⟨f1, f2, f3, f4⟩ := Seg.cut_spec ρ _ _ _ _ hc2 e3
          have l0 : (Seg.cells ρ r0).length = off := by rw [Seg.cells_len ρ r0 e2, e4]
          have l2 : (Seg.cells ρ r2).length = n := by rw [Seg.cells_len ρ r2 f2, f4]
          refine ⟨hexec _ _ hx1 ?_, by simpa [AV.ok] using f2⟩
          simp only [AV.conc]
          refine run_loadVar_mid w _ _ t (Seg.cells ρ r2) d (hs.range hdd _ _ fun j v hv => ?_) hd1 hd2 (by rw [hd3, l2])
          have hj : j < (Seg.cells ρ r2).length := (List.getElem?_eq_some_iff.1 hv).1
          rw [e1, f1, Seg.cells_append, Seg.cells_append, List.getElem?_append_right (by omega), l0, show off + j - off = j by omega, List.getElem?_append_left hj]
          exact hv
        · cases hr
      · cases hr
    · cases hr
  · rename_i k base i
    simp only [AV.conc] at hx1
    split at hr
    · rename_i b hb
      obtain ⟨hs, hok, hdd, hlk⟩ := hR.mem.liveAt hb
      split at hr
      · rename_i r0 kd m xs r2 hc
        obtain ⟨e1, e2, e3, e4, e5, e6⟩ := cut_ints (ρ := ρ) hc hok
        split at hr
        · rename_i hk
          obtain ⟨d, hd1, hd2, _⟩ := kindOf_none hk
          simp only [Option.some.injEq] at hr
          subst hr
          have hlt : i < m := hvc _ (by simp [Res.vc])
          refine ⟨hexec _ _ hx1 (run_loadVar_one w _ t d _ hd1 hd2 (hs.rd hdd ?_).1), by simp [AV.ok]⟩
          rw [e6, List.getElem?_append_right (by omega), e5, show base + i - base = i by omega, List.getElem?_append_left (by simp; omega), List.getElem?_map]
          simp [AV.conc, List.getD_eq_getElem?_getD, show i < xs.length by omega]
        · rename_i n hk
          obtain ⟨d, hd1, hd2, hd3⟩ := kindOf_some hk
          simp only [Option.some.injEq] at hr
          subst hr
          have hlt : i + n ≤ m := hvc _ (by simp [Res.vc])
          refine ⟨hexec _ _ hx1 ?_, ?_⟩
          · simp only [AV.conc, Seg.cells, Seg.cell1, List.append_nil]
            refine run_loadVar_mid w _ _ t _ d (hs.range hdd _ _ fun j v hv => ?_) hd1 hd2 (by rw [hd3]; simp; omega)
            have hj : j < n := by have := (List.getElem?_eq_some_iff.1 hv).1; simp at this; omega
            rw [e6, List.getElem?_append_right (by omega), e5, show base + i + j - base = i + j by omega, List.getElem?_append_left (by simp; omega)]
            rw [List.getElem?_map, List.getElem?_take_of_lt hj, List.getElem?_drop] at hv
            rw [List.getElem?_map]
            exact hv
          · simp [AV.ok, Seg.ok]; omega
        · cases hr
      · rename_i r0 m vs r2 hc
        obtain ⟨e1, e2, e3, e4, e5, e6, e7⟩ := cut_vals (ρ := ρ) hc hok
        split at hr
        · rename_i hk
          obtain ⟨d, hd1, hd2, _⟩ := kindOf_none hk
          simp only [Option.some.injEq] at hr
          subst hr
          have hlt : i < m := hvc _ (by simp [Res.vc])
          refine ⟨hexec _ _ hx1 (run_loadVar_one w _ t d _ hd1 hd2 (hs.rd hdd ?_).1), by simp [AV.ok]⟩
          rw [e6, List.getElem?_append_right (by omega), e5, show base + i - base = i by omega, List.getElem?_append_left (by omega)]
          simp [AV.conc, List.getD_eq_getElem?_getD, show i < vs.length by omega]
        · rename_i n hk
          obtain ⟨d, hd1, hd2, hd3⟩ := kindOf_some hk
          simp only [Option.some.injEq] at hr
          subst hr
          have hlt : i + n ≤ m := hvc _ (by simp [Res.vc])
          refine ⟨hexec _ _ hx1 ?_, ?_⟩
          · simp only [AV.conc, Seg.cells, Seg.cell1, List.append_nil]
            refine run_loadVar_mid w _ _ t _ d (hs.range hdd _ _ fun j v hv => ?_) hd1 hd2 (by rw [hd3]; simp; omega)
            have hj : j < n := by have := (List.getElem?_eq_some_iff.1 hv).1; simp at this; omega
            rw [e6, List.getElem?_append_right (by omega), e5, show base + i + j - base = i + j by omega, List.getElem?_append_left (by omega)]
            rw [List.getElem?_take_of_lt hj, List.getElem?_drop] at hv
            exact hv
          · simp only [AV.ok, Seg.ok]
            exact ⟨⟨by simp; omega, fun v hv => e7 v (List.mem_of_mem_drop (List.mem_of_mem_take hv))⟩, trivial⟩
        · cases hr
      · cases hr
    · cases hr
  · cases hr

theorem setCells_heap (b : Nat) : ∀ (vs : List Value) (o : Nat) (w : World) (C : Array Value) (T : TypeId), w.heap[b]? = some (.cells C T (0, 0)) → o + vs.length ≤ C.size →
    (w.setCells b o vs).heap[b]? = some (.cells (C.toList.take o ++ (vs ++ C.toList.drop (o + vs.length))).toArray T (0, 0)) ∧ (∀ j, j ≠ b → (w.setCells b o vs).heap[j]? = w.heap[j]?) ∧ (w.setCells b o vs).heap.size = w.heap.size ∧ (w.setCells b o vs).os = w.os ∧ (w.setCells b o vs).tape = w.tape ∧ (w.setCells b o vs).output = w.output
  | [], o, w, C, T, h, hl => by
    have e : C.toList.take o ++ ([] ++ C.toList.drop (o + ([] : List Value).length)) = C.toList := by simp
    rw [e]
    exact ⟨h, fun _ _ => rfl, rfl, rfl, rfl, rfl⟩
  | v :: r, o, w, C, T, h, hl => by
    simp only [List.length_cons] at hl
    have h1 : (w.setCell ⟨b, o, none⟩ v).heap[b]? = some (.cells (C.setIfInBounds o v) T (0, 0)) := by
      simp [World.setCell, Array.getElem?_modify, h]
    obtain ⟨g1, g2, g3, g4, g5, g6⟩ := setCells_heap b r (o + 1) (w.setCell ⟨b, o, none⟩ v) _ T h1 (by simp; omega)
    have hlt : o < C.toList.length := by simp; omega
    have e : (C.setIfInBounds o v).toList.take (o + 1) ++ (r ++ (C.setIfInBounds o v).toList.drop (o + 1 + r.length)) = C.toList.take o ++ (v :: r ++ C.toList.drop (o + (v :: r).length)) := by
      rw [Array.toList_setIfInBounds, List.take_succ_eq_append_getElem (by simpa using hlt), List.take_set_of_le (Nat.le_refl o), List.getElem_set_self, List.drop_set_of_lt (by omega)]
      simp only [List.append_assoc, List.singleton_append, List.length_cons, List.cons_append, List.nil_append]
      rw [show o + 1 + r.length = o + (r.length + 1) by omega]
    rw [e] at g1
    refine ⟨g1, fun j hj => ?_, ?_, g4, g5, g6⟩
    · show ((w.setCell ⟨b, o, none⟩ v).setCells b (o + 1) r).heap[j]? = _
      rw [g2 j hj]
      simp [World.setCell, Array.getElem?_modify, Ne.symm hj]
    · show ((w.setCell ⟨b, o, none⟩ v).setCells b (o + 1) r).heap.size = _
      rw [g3]; simp [World.setCell]
theorem Sits.store {ρ : Env} {w : World} {k : Nat} {b : Vblk} (h : Sits ρ w k b) (hd : b.held ≠ .dead) (off : Nat) (vs : List Value) (hl : off + vs.length ≤ (Seg.cells ρ b.row).length) (row' : List Seg)
    (hrow : Seg.cells ρ row' = (Seg.cells ρ b.row).take off ++ (vs ++ (Seg.cells ρ b.row).drop (off + vs.length))) :
    Sits ρ (w.setCells (ρ.b k) off vs) k { b with row := row' } ∧ (∀ j, j ≠ ρ.b k ∨ ¬ b.alive ρ k → (w.setCells (ρ.b k) off vs).heap[j]? = w.heap[j]?) ∧ (w.setCells (ρ.b k) off vs).heap.size = w.heap.size ∧
      (w.setCells (ρ.b k) off vs).os = w.os ∧ (w.setCells (ρ.b k) off vs).tape = w.tape ∧ (w.setCells (ρ.b k) off vs).output = w.output := by
  unfold Sits at *
  unfold Vblk.alive
  cases hh : b.held with
  | dead => exact absurd hh hd
  | arr =>
    rw [hh] at h
    simp only at h ⊢
    obtain ⟨g1, g2, g3, g4, g5, g6⟩ := setCells_heap (ρ.b k) vs off w _ b.ty h (by simpa using hl)
    refine ⟨?_, fun j hj => g2 j (hj.elim id (fun f => absurd trivial f)), g3, g4, g5, g6⟩
    rw [g1, hrow]
  | own sz =>
    rw [hh] at h
    simp only at h ⊢
    rcases Nat.eq_zero_or_pos (ρ.c k) with h0 | h0
    · have hn := h.1 h0
      rw [hn] at hl hrow
      have hvs : vs = [] := List.eq_nil_of_length_eq_zero (by rw [List.length_nil] at hl; omega)
      subst hvs
      refine ⟨⟨fun _ => by simpa using hrow, fun h1 => by omega⟩, fun _ _ => rfl, rfl, rfl, rfl, rfl⟩
    · obtain ⟨hm, spare, hsz, h1⟩ := h.2 h0
      obtain ⟨g1, g2, g3, g4, g5, g6⟩ := setCells_heap (ρ.b k) vs off w _ b.ty h1 (by simp; omega)
      have hlen : (Seg.cells ρ row').length = (Seg.cells ρ b.row).length := by rw [hrow]; simp; omega
      refine ⟨⟨fun h2 => by omega, fun _ => ⟨hm, spare, by rw [List.length_append, hlen, ← List.length_append]; exact hsz, ?_⟩⟩, fun j hj => g2 j (hj.elim id (fun f => absurd h0 f)), g3, g4, g5, g6⟩
      rw [g1, hrow]
      congr 3
      rw [List.take_append_of_le_length (by omega), List.drop_append_of_le_length (by omega)]
      simp

theorem storeRun {P : Program} {o : Oper} {t : TypeId} {x y : Operand} (ho : o.op = .store t x y) {a : Act} {w : World} {b off : Nat} {v : Value} {vs : List Value} (hx : a.eval x = .pointer (some ⟨b, off, none⟩)) (hy : a.eval y = v) (hv : v.cells.toList = vs)
    (hc : ∀ j, j < vs.length → (w.cell? ⟨b, off + j, none⟩).isSome = true ∧ w.frozen? ⟨b, off + j, none⟩ = false) (h1 : ∀ u ∈ vs, u.oneCell' = true) (hi : (P.info? t).map (·.size) = some vs.length) :
    (execOp a.eval o).run P w = .ok .skip (w.setCells b off vs) := by
  have hrun := run_storeCells_cells (P := P) b off vs 0 w (fun j hj => (hc j hj).1) (fun j hj => (hc j hj).2) h1
  cases hq : P.info? t with
  | none => simp [hq] at hi
  | some i =>
    have hsz : i.size = vs.length := by simpa [hq] using hi
    have hvs : v.cells.size = i.size := by rw [← Array.length_toList, hv, hsz]
    unfold execOp
    simp only [Nat.add_zero] at hrun
    simp [ho, hx, hy, Instr.storeAt, Instr.sureAddr, storeVar, sizeOf, typeInfo, hq, hvs, hv, hrun]
theorem Sits.there {ρ : Env} {w : World} {k : Nat} {b : Vblk} (h : Sits ρ w k b) (hd : b.held ≠ .dead) {off n : Nat} (hl : off + n ≤ (Seg.cells ρ b.row).length) : ∀ j, j < n → (w.cell? ⟨ρ.b k, off + j, none⟩).isSome = true ∧ w.frozen? ⟨ρ.b k, off + j, none⟩ = false := by
  intro j hj
  have hlt : off + j < (Seg.cells ρ b.row).length := by omega
  obtain ⟨h1, h2, _⟩ := h.rd hd (List.getElem?_eq_getElem hlt)
  exact ⟨by rw [h1]; rfl, h2⟩
/-- A store, to the end. -/
theorem storeRes {Γ : Ctx} {nm : Nat} {o : Oper} {t : TypeId} {x y : Operand} (ho : o.op = .store t x y) {ρ : Env} {s : AS} {a : Act} {w : World} (hR : Rel Γ ρ s a w) {k off : Nat} {b : Vblk} (hb : live k s.mem = some b) {v : Value} {vs : List Value} {row' : List Seg}
    (hx : a.eval x = .pointer (some ⟨ρ.b k, off, none⟩)) (hy : a.eval y = v) (hv : v.cells.toList = vs) (h1 : ∀ u ∈ vs, u.oneCell' = true) (hi : (Γ.P.info? t).map (·.size) = some vs.length)
    (hl : off + vs.length ≤ (Seg.cells ρ b.row).length) (hrow : Seg.cells ρ row' = (Seg.cells ρ b.row).take off ++ (vs ++ (Seg.cells ρ b.row).drop (off + vs.length))) (hok' : Seg.ok (AS.dom s.mem) row') (vc : List Prop) :
    ResOk Γ nm o ρ s a w (.wr k { b with row := row' } vc) := by
  obtain ⟨hs, hok, hdd, hlk⟩ := hR.mem.liveAt hb
  obtain ⟨g1, g2, g3, g4, g5, g6⟩ := hs.store hdd off vs hl row' hrow
  exact ⟨b, _, hlk, storeRun ho hx hy hv (hs.there hdd hl) h1 hi, hok', g1, fun h => h, g2, g3, g4, g5, g6⟩
theorem AV.segs_spec {x : AV} {cs : List Seg} (h : x.segs = some cs) {D : Nat → Prop} (hx : x.ok D) (ρ : Env) : (x.conc ρ).cells.toList = Seg.cells ρ cs ∧ Seg.ok D cs := by
  cases x with
  | agg c => simp only [AV.segs, Option.some.injEq] at h; subst h; exact ⟨by simp [AV.conc, Value.cells], by simpa [AV.ok] using hx⟩
  | tup c => simp [AV.segs] at h
  | ptr k off => simp only [AV.segs, Option.some.injEq] at h; subst h; exact ⟨by simp [AV.conc, Value.cells, Seg.cells, Seg.cell1], by simp only [Seg.ok, AV.one, AV.ok]; exact ⟨⟨trivial, by simpa [AV.ok] using hx⟩, trivial⟩⟩
  | elt k off i => simp only [AV.segs, Option.some.injEq] at h; subst h; exact ⟨by simp [AV.conc, Value.cells, Seg.cells, Seg.cell1], by simp only [Seg.ok, AV.one, AV.ok]; exact ⟨⟨trivial, by simpa [AV.ok] using hx⟩, trivial⟩⟩
  | lst k off i l c => simp only [AV.segs, Option.some.injEq] at h; subst h; exact ⟨by simp [AV.conc, Value.cells, Seg.cells, Seg.cell1], by simp only [Seg.ok, AV.one, AV.ok]; exact ⟨⟨trivial, by simpa [AV.ok] using hx⟩, trivial⟩⟩
  | own k sz i l => simp only [AV.segs, Option.some.injEq] at h; subst h; exact ⟨by simp only [AV.conc, Seg.cells, Seg.cell1, List.append_nil]; split <;> simp [Value.cells], by simp only [Seg.ok, AV.one, AV.ok]; exact ⟨⟨trivial, by simpa [AV.ok] using hx⟩, trivial⟩⟩
  | ifc ty y => simp only [AV.segs, Option.some.injEq] at h; subst h; exact ⟨by simp [AV.conc, Value.cells, Seg.cells, Seg.cell1], by simp only [Seg.ok, AV.one]; exact ⟨⟨trivial, hx⟩, trivial⟩⟩
  | val v =>
    simp only [AV.segs] at h
    split at h
    · rename_i c
      split at h
      · rename_i hall
        simp only [Option.some.injEq] at h
        subst h
        simp only [AV.conc, Value.cells]
        have key : ∀ l : List Value, l.all (·.oneCell') = true → l = Seg.cells ρ (l.map fun c => Seg.cell (.val c)) ∧ Seg.ok D (l.map fun c => Seg.cell (.val c)) := by
          intro l
          induction l with
          | nil => intro _; exact ⟨rfl, trivial⟩
          | cons y r ih =>
            intro hl
            simp only [List.all_cons, Bool.and_eq_true] at hl
            obtain ⟨i1, i2⟩ := ih hl.2
            refine ⟨?_, ?_⟩
            · simp only [List.map_cons, Seg.cells, Seg.cell1, AV.conc, List.singleton_append]
              rw [← i1]
            · simp only [List.map_cons, Seg.ok]
              exact ⟨⟨hl.1, by simp [AV.ok]⟩, i2⟩
        exact key _ hall
      · cases h
    · cases h
    · rename_i hna hnt
      split at h
      · rename_i h1
        simp only [Option.some.injEq] at h
        subst h
        refine ⟨?_, by simp only [Seg.ok, AV.one, AV.ok]; exact ⟨⟨h1, trivial⟩, trivial⟩⟩
        cases v <;> first | (simp [AV.conc, Value.cells, Seg.cells, Seg.cell1]; done) | (exfalso; exact hna _ rfl) 
      · cases h
theorem Seg.set_spec {D : Nat → Prop} (ρ : Env) : ∀ (row : List Seg) (i : Nat) (x : AV) (r : List Seg), Seg.set i x row = some r → Seg.ok D row → x.one = true → x.ok D →
    Seg.ok D r ∧ Seg.cells ρ r = (Seg.cells ρ row).set i (x.conc ρ) ∧ i < (Seg.cells ρ row).length
  | [], i, x, r, h, _, _, _ => by cases i <;> simp [Seg.set] at h
  | .cell y :: row, 0, x, r, h, hr, h1, h2 => by
    simp only [Seg.set, Option.some.injEq] at h
    subst h
    simp only [Seg.ok] at hr ⊢
    exact ⟨⟨⟨h1, h2⟩, hr.2⟩, by simp [Seg.cells, Seg.cell1], by simp [Seg.cells, Seg.cell1]⟩
  | .cell y :: row, n + 1, x, r, h, hr, h1, h2 => by
    simp only [Seg.set] at h
    split at h
    · rename_i r' hs
      simp only [Option.some.injEq] at h
      subst h
      simp only [Seg.ok] at hr ⊢
      obtain ⟨i1, i2, i3⟩ := Seg.set_spec ρ row n x r' hs hr.2 h1 h2
      exact ⟨⟨hr.1, i1⟩, by simp [Seg.cells, Seg.cell1, i2], by simp [Seg.cells, Seg.cell1]; omega⟩
    · cases h
  | .vals m vs :: row, i, x, r, h, hr, h1, h2 => by
    cases i <;> simp [Seg.set] at h
  | .ints k m xs :: row, i, x, r, h, hr, h1, h2 => by
    have h' : (match Nat.blt i m with
      | true => Seg.setIn k m xs i row x
      | false => match Seg.set (i - m) x row with
        | some r' => some (.ints k m xs :: r')
        | none => none) = some r := by cases i <;> (simp only [Seg.set] at h; exact h)
    simp only [Seg.ok] at hr
    split at h'
    · rename_i hb
      have hlt : i < m := Nat.le_of_ble_eq_true hb
      cases x with
      | val y =>
        cases y with
        | int k' v =>
          simp only [Seg.setIn] at h'
          by_cases hk : k = k'
          · subst hk
            simp only [decide_true, Option.some.injEq] at h'
            subst h'
            simp only [Seg.ok]
            refine ⟨⟨by simp [hr.1], hr.2⟩, ?_, by simp [Seg.cells, Seg.cell1, hr.1]; omega⟩
            simp only [Seg.cells, Seg.cell1, AV.conc]
            rw [List.set_append_left _ _ (by simp; omega), List.map_set]
          · simp [hk] at h'
        | _ => simp [Seg.setIn] at h'
      | _ => simp [Seg.setIn] at h'
    · rename_i hb
      have hge : m ≤ i := by
        rcases Nat.lt_or_ge i m with h2 | h2
        · have : Nat.blt i m = true := Nat.ble_eq_true_of_le h2
          rw [this] at hb; cases hb
        · exact h2
      split at h'
      · rename_i r' hs
        simp only [Option.some.injEq] at h'
        subst h'
        obtain ⟨i1, i2, i3⟩ := Seg.set_spec ρ row (i - m) x r' hs hr.2 h1 h2
        simp only [Seg.ok]
        refine ⟨⟨hr.1, i1⟩, ?_, by simp [Seg.cells, Seg.cell1, hr.1]; omega⟩
        simp only [Seg.cells, Seg.cell1]
        rw [List.set_append_right _ _ (by simp; omega), i2]
        simp [hr.1]
      · cases h'

theorem storeOp_sound {Γ : Ctx} {nm : Nat} {o : Oper} {t : TypeId} {x y : Operand} {p u : AV} (ho : o.op = .store t x y) {ρ : Env} {s : AS} {a : Act} {w : World} {r : Res} (hx : ev s.tm x = some p) (hy : ev s.tm y = some u) (hr : storeOp Γ t p u s.mem = some r) (hvc : ∀ p ∈ r.vc, p) (hR : Rel Γ ρ s a w) : ResOk Γ nm o ρ s a w r := by
  have hx1 := (hR.ev hx).1
  obtain ⟨hy1, hy2⟩ := hR.ev hy
  unfold storeOp at hr
  split at hr
  · rename_i k off
    simp only [AV.conc] at hx1
    split at hr
    · rename_i b hb hk
      obtain ⟨d, hd1, hd2, hd3⟩ := kindOf_none hk
      obtain ⟨hs, hok, hdd, hlk⟩ := hR.mem.liveAt hb
      split at hr
      · rename_i h1
        split at hr
        · rename_i r' hset
          simp only [Option.some.injEq] at hr
          subst hr
          obtain ⟨i1, i2, i3⟩ := Seg.set_spec ρ _ _ _ _ hset hok h1 hy2
          have hone := AV.one_conc ρ u h1
          have hvs : (u.conc ρ).cells.toList = [u.conc ρ] := by
            generalize u.conc ρ = z at hone
            cases z <;> first | rfl | simp [Value.oneCell'] at hone
          refine storeRes ho hR hb hx1 hy1 hvs (fun v hv => by simp only [List.mem_singleton] at hv; subst hv; exact hone) hd3 (by simp; omega) ?_ i1 _
          rw [i2, List.set_eq_take_append_cons_drop, if_pos i3]
          rfl
        · cases hr
      · cases hr
    · rename_i b n hb hk
      obtain ⟨d, hd1, hd2, hd3⟩ := kindOf_some hk
      obtain ⟨hs, hok, hdd, hlk⟩ := hR.mem.liveAt hb
      split at hr
      · rename_i cs hsegs
        obtain ⟨c1, c2⟩ := AV.segs_spec hsegs hy2 ρ
        split at hr
        · rename_i hlen
          have hlen : Seg.len cs = n := Nat.eq_of_beq_eq_true hlen
          split at hr
          · rename_i r0 r1 hc1
            split at hr
            · rename_i r2 r3 hc2
              simp only [Option.some.injEq] at hr
              subst hr
              obtain ⟨e1, e2, e3, e4⟩ := Seg.cut_spec ρ _ _ _ _ hc1 hok
              obtain ⟨f1, f2, f3, f4⟩ := Seg.cut_spec ρ _ _ _ _ hc2 e3
              have l0 : (Seg.cells ρ r0).length = off := by rw [Seg.cells_len ρ r0 e2, e4]
              have l1 : (Seg.cells ρ r2).length = n := by rw [Seg.cells_len ρ r2 f2, f4]
              have ln : (Seg.cells ρ cs).length = n := by rw [Seg.cells_len ρ cs c2, hlen]
              have hcells : Seg.cells ρ b.row = Seg.cells ρ r0 ++ (Seg.cells ρ r2 ++ Seg.cells ρ r3) := by rw [e1, f1, Seg.cells_append, Seg.cells_append]
              refine storeRes ho hR hb hx1 hy1 c1 (Seg.cells_one ρ cs c2) (by rw [hd3, ln]) (by rw [hcells]; simp; omega) ?_ (Seg.ok_append _ _ e2 (Seg.ok_append _ _ c2 f3)) _
              rw [hcells, Seg.cells_append, Seg.cells_append, List.take_append_of_le_length (by omega), List.take_of_length_le (by omega), List.drop_append, List.drop_of_length_le (by omega), List.nil_append, l0,
                show off + (Seg.cells ρ cs).length - off = n by omega, List.drop_append, List.drop_of_length_le (by omega), List.nil_append, l1, Nat.sub_self, List.drop_zero]
            · cases hr
          · cases hr
        · cases hr
      · cases hr
    · cases hr
  · rename_i k base i
    simp only [AV.conc] at hx1
    split at hr
    · rename_i b hb
      obtain ⟨hs, hok, hdd, hlk⟩ := hR.mem.liveAt hb
      split at hr
      · rename_i r0 kd m xs r2 hc
        obtain ⟨e1, e2, e3, e4, e5, e6⟩ := cut_ints (ρ := ρ) hc hok
        split at hr
        · rename_i hk
          obtain ⟨d, hd1, hd2, hd3⟩ := kindOf_none hk
          split at hr
          · rename_i kd' v
            split at hr
            · rename_i hkd
              have hkd : kd = kd' := of_decide_eq_true hkd
              subst hkd
              simp only [Option.some.injEq] at hr
              subst hr
              have hlt : i < m := hvc _ (by simp [Res.vc])
              have hlt' : base + i < (Seg.cells ρ b.row).length := by rw [e6]; simp; omega
              simp only [AV.conc] at hy1
              refine storeRes ho hR hb hx1 hy1 (vs := [Value.int kd v]) rfl (fun v hv => by simp only [List.mem_singleton] at hv; subst hv; rfl) hd3 (by simp; omega) ?_ (Seg.ok_append _ _ e2 (by simp only [Seg.ok]; exact ⟨by simp [e3], e4⟩)) _
              have : (Seg.cells ρ b.row).set (base + i) (.int kd v) = Seg.cells ρ (r0 ++ .ints kd m (xs.set i v) :: r2) := by
                rw [e6, List.set_append_right _ _ (by omega), e5, show base + i - base = i by omega, List.set_append_left _ _ (by simp; omega), ← List.map_set, Seg.cells_append]
                rfl
              rw [← this, List.set_eq_take_append_cons_drop, if_pos hlt']
              rfl
            · cases hr
          · cases hr
        · rename_i n hk
          obtain ⟨d, hd1, hd2, hd3⟩ := kindOf_some hk
          split at hr
          · rename_i kd' n' ys
            split at hr
            · rename_i hkd hn'
              have hkd : kd = kd' := of_decide_eq_true hkd
              subst hkd
              have hn' : n' = n := Nat.eq_of_beq_eq_true hn'
              subst hn'
              simp only [Option.some.injEq] at hr
              subst hr
              have hlt : i + n' ≤ m := hvc _ (by simp [Res.vc])
              have hys : ys.length = n' := by simp only [AV.ok, Seg.ok] at hy2; exact hy2.1
              simp only [AV.conc, Seg.cells, Seg.cell1, List.append_nil] at hy1
              refine storeRes ho hR hb hx1 hy1 (vs := ys.map (Value.int kd)) (by simp [Value.cells]) (fun v hv => by simp only [List.mem_map] at hv; obtain ⟨_, _, rfl⟩ := hv; rfl) (by rw [hd3]; simp [hys]) (by rw [e6]; simp; omega) ?_
                (Seg.ok_append _ _ e2 (by simp only [Seg.ok]; exact ⟨by simp [e3, hys]; omega, e4⟩)) _
              have l1 : (Seg.cells ρ b.row).take (base + i) = Seg.cells ρ r0 ++ (xs.map (Value.int kd)).take i := by
                rw [e6, List.take_append, e5, show base + i - base = i by omega, List.take_append_of_le_length (by rw [List.length_map, e3]; omega), List.take_of_length_le (l := Seg.cells ρ r0) (by omega)]
              have l2 : (Seg.cells ρ b.row).drop (base + i + (ys.map (Value.int kd)).length) = (xs.map (Value.int kd)).drop (i + n') ++ Seg.cells ρ r2 := by
                rw [e6, List.drop_append, e5, List.length_map, hys, List.drop_of_length_le (l := Seg.cells ρ r0) (by omega), List.nil_append, show base + i + n' - base = i + n' by omega, List.drop_append_of_le_length (by rw [List.length_map, e3]; omega)]
              rw [l1, l2, Seg.cells_append]
              simp only [Seg.cells, Seg.cell1, List.map_append, List.append_assoc, List.map_take, List.map_drop]
            · cases hr
          · cases hr
        · cases hr
      · cases hr
    · cases hr
  · cases hr

/-! Addresses, parts, wholes. -/
def AV.here : AV → Bool
  | .ptr .. => true
  | .elt .. => true
  | .lst .. => true
  | .own .. => true
  | _ => false
def sizeA (Γ : Ctx) (t : TypeId) : Option Nat := match Γ.P.info? t with
  | some i => some i.size
  | none => none
/-- An index: what it is, what is to be shown, whether it is told. -/
def ixOf (h : Option Hint) (j : Int) (len : Nat) : Option (Nat × List Prop × Bool) := match h with
  | some (.ix n) => some (n, [j = (n : Int), n < len], true)
  | _ => match decide (0 ≤ j ∧ j < (len : Int)) with
    | true => some (j.toNat, [], false)
    | false => none
def times (n sz : Nat) : Nat := match Nat.beq sz 1 with
  | true => n
  | false => n * sz
theorem times_eq (n sz : Nat) : times n sz = n * sz := by
  unfold times
  split
  · rename_i h; rw [Nat.eq_of_beq_eq_true h]; omega
  · rfl
def fieldAddrOp (Γ : Ctx) (st : TypeId) (p : AV) (f : Nat) : Option Res := match p with
  | .ptr k off => match Γ.P.underlying st with
    | some (.struct fs) => match fs[f]? with
      | some fl => match sizeA Γ fl.type with
        | some (_ + 1) => some (.val (.ptr k (off + fl.offset)) [] [])
        | _ => none
      | none => none
    | _ => none
  | _ => none
def indexAddrOp (Γ : Ctx) (h : Option Hint) (t : TypeId) (p i : AV) : Option Res := match i with
  | .val (.int _ j) => match p, Γ.P.underlying t with
    | .ptr k off, some (.array len elem) => match ixOf h j len, sizeA Γ elem with
      | some (n, vc, true), some sz => some (.val (.elt k off (times n sz)) [] vc)
      | some (n, vc, false), some sz => some (.val (.ptr k (off + times n sz)) [] vc)
      | _, _ => none
    | .elt k base i0, some (.array len elem) => match ixOf h j len, sizeA Γ elem with
      | some (n, vc, _), some sz => some (.val (.elt k base (i0 + times n sz)) [] vc)
      | _, _ => none
    | .lst k base st len _, some (.slice elem) => match ixOf h j len, sizeA Γ elem with
      | some (n, vc, true), some sz => some (.val (.elt k base (times n sz + st)) [] vc)
      | some (n, vc, false), some sz => some (.val (.ptr k (base + (times n sz + st))) [] vc)
      | _, _ => none
    | _, _ => none
  | _ => none
theorem add_at (b o n : Nat) : (⟨b, o, none⟩ : Addr).add n = ⟨b, o + n, none⟩ := by unfold Addr.add; split <;> simp_all
theorem sizeA_run {Γ : Ctx} {t : TypeId} {n : Nat} (h : sizeA Γ t = some n) (w : World) : (sizeOf t).run Γ.P w = .ok n w := by
  unfold sizeA at h
  split at h
  · rename_i i hi
    simp only [Option.some.injEq] at h
    simp [sizeOf, typeInfo, hi, h]
  · cases h
theorem ixOf_spec {h : Option Hint} {j : Int} {len n : Nat} {vc : List Prop} {b : Bool} (hi : ixOf h j len = some (n, vc, b)) (hv : ∀ p ∈ vc, p) : j = (n : Int) ∧ n < len := by
  unfold ixOf at hi
  split at hi
  · simp only [Option.some.injEq, Prod.mk.injEq] at hi
    obtain ⟨rfl, rfl, _⟩ := hi
    exact ⟨hv _ (by simp), hv _ (by simp)⟩
  · split at hi
    · rename_i hd
      have hd := of_decide_eq_true hd
      simp only [Option.some.injEq, Prod.mk.injEq] at hi
      obtain ⟨rfl, _, _⟩ := hi
      omega
    · cases hi
theorem fieldAddrOp_sound {Γ : Ctx} {nm : Nat} {o : Oper} {st : TypeId} {x : Operand} {f : Nat} {p : AV} (ho : o.op = .fieldAddr st x f) {ρ : Env} {s : AS} {a : Act} {w : World} {r : Res} (hx : ev s.tm x = some p) (hr : fieldAddrOp Γ st p f = some r) (hvc : ∀ p ∈ r.vc, p) (hR : Rel Γ ρ s a w) : ResOk Γ nm o ρ s a w r := by
  obtain ⟨hx1, hx2⟩ := hR.ev hx
  unfold fieldAddrOp at hr
  split at hr
  · rename_i k off
    split at hr
    · rename_i fs hu
      split at hr
      · rename_i fl hfl
        split at hr
        · rename_i m hsz
          simp only [Option.some.injEq] at hr
          subst hr
          refine ⟨?_, by simpa [AV.ok] using hx2⟩
          simp only [AV.conc] at hx1
          have hsz := sizeA_run hsz w
          unfold execOp
          simp [ho, hx1, Instr.fieldAt, run_underlying hu, hfl, Instr.sureAddr, fieldPlace, hsz, add_at, AV.conc]
        · cases hr
      · cases hr
    · cases hr
  · cases hr
theorem indexAddrOp_sound {Γ : Ctx} {nm : Nat} {o : Oper} {h : Option Hint} {t : TypeId} {x y : Operand} {p i : AV} (ho : o.op = .indexAddr t x y) {ρ : Env} {s : AS} {a : Act} {w : World} {r : Res} (hx : ev s.tm x = some p) (hy : ev s.tm y = some i) (hr : indexAddrOp Γ h t p i = some r) (hvc : ∀ p ∈ r.vc, p) (hR : Rel Γ ρ s a w) : ResOk Γ nm o ρ s a w r := by
  obtain ⟨hx1, hx2⟩ := hR.ev hx
  have hy1 := (hR.ev hy).1
  unfold indexAddrOp at hr
  split at hr
  · rename_i kd j
    simp only [AV.conc] at hy1
    split at hr
    · rename_i k off len elem hu
      simp only [AV.conc] at hx1
      have key : ∀ n : Nat, j = (n : Int) ∧ n < len → ∀ sz, sizeA Γ elem = some sz → (execOp a.eval o).run Γ.P w = .ok (.value (.pointer (some ⟨ρ.b k, off + n * sz, none⟩))) w := by
        rintro n ⟨rfl, hn⟩ sz hs
        have hs := sizeA_run hs w
        have h1 : (0 : Int) ≤ (n : Int) ∧ (n : Int) < (len : Int) := by omega
        unfold execOp
        simp [ho, hx1, hy1, Instr.indexAt, asIntOf, run_underlying hu, Instr.sureAddr, hs, add_at, h1, hn]
      split at hr
      · rename_i n vc sz hix hs
        simp only [Option.some.injEq] at hr
        subst hr
        refine ⟨?_, by simpa [AV.ok] using hx2⟩
        rw [key n (ixOf_spec hix hvc) sz hs]
        simp [AV.conc, times_eq]
      · rename_i n vc sz hix hs
        simp only [Option.some.injEq] at hr
        subst hr
        refine ⟨?_, by simpa [AV.ok] using hx2⟩
        rw [key n (ixOf_spec hix hvc) sz hs]
        simp [AV.conc, times_eq]
      · cases hr
    · rename_i k base i0 len elem hu
      simp only [AV.conc] at hx1
      have key : ∀ n : Nat, j = (n : Int) ∧ n < len → ∀ sz, sizeA Γ elem = some sz → (execOp a.eval o).run Γ.P w = .ok (.value (.pointer (some ⟨ρ.b k, base + i0 + n * sz, none⟩))) w := by
        rintro n ⟨rfl, hn⟩ sz hs
        have hs := sizeA_run hs w
        have h1 : (0 : Int) ≤ (n : Int) ∧ (n : Int) < (len : Int) := by omega
        unfold execOp
        simp [ho, hx1, hy1, Instr.indexAt, asIntOf, run_underlying hu, Instr.sureAddr, hs, add_at, h1, hn]
      split at hr
      · rename_i n vc b sz hix hs
        simp only [Option.some.injEq] at hr
        subst hr
        refine ⟨?_, by simpa [AV.ok] using hx2⟩
        rw [key n (ixOf_spec hix hvc) sz hs]
        simp [AV.conc, times_eq, Nat.add_assoc]
      · cases hr
    · rename_i k base st len cap elem hu
      simp only [AV.conc] at hx1
      have key : ∀ n : Nat, j = (n : Int) ∧ n < len → ∀ sz, sizeA Γ elem = some sz → (execOp a.eval o).run Γ.P w = .ok (.value (.pointer (some ⟨ρ.b k, base + (n * sz + st), none⟩))) w := by
        rintro n ⟨rfl, hn⟩ sz hs
        have hs := sizeA_run hs w
        have h1 : (0 : Int) ≤ (n : Int) ∧ (n : Int) < (len : Int) := by omega
        unfold execOp
        simp [ho, hx1, hy1, Instr.indexAt, asIntOf, run_underlying hu, hs, add_at, h1, hn]
        try omega
      split at hr
      · rename_i n vc sz hix hs
        simp only [Option.some.injEq] at hr
        subst hr
        refine ⟨?_, by simpa [AV.ok] using hx2⟩
        rw [key n (ixOf_spec hix hvc) sz hs]
        simp [AV.conc, times_eq]
      · rename_i n vc sz hix hs
        simp only [Option.some.injEq] at hr
        subst hr
        refine ⟨?_, by simpa [AV.ok] using hx2⟩
        rw [key n (ixOf_spec hix hvc) sz hs]
        simp [AV.conc, times_eq]
      · cases hr
    · cases hr
  · cases hr
theorem makeOp_sound {Γ : Ctx} {nm : Nat} {o : Oper} {h : Option Hint} {t : TypeId} {v : AV} {ρ : Env} {s : AS} {a : Act} {w : World} {r : Res} (hrun : (execOp a.eval o).run Γ.P w = .ok (.value (.pointer (some ⟨w.heap.size, 0, none⟩))) (w.alloc (.cells (v.conc ρ).cells t))) (hv : v.ok (AS.dom s.mem)) (hn : look nm s.mem = none) (hr : makeOp Γ nm h t v = some r) (hvc : ∀ p ∈ r.vc, p) (hR : Rel Γ ρ s a w) : ResOk Γ nm o ρ s a w r := by
  have fin : ∀ row : List Seg, (v.conc ρ).cells.toList = Seg.cells ρ row → Seg.ok (AS.dom s.mem) row → ResOk Γ nm o ρ s a w (.new (.ptr nm 0) ⟨row, t, .arr⟩ []) := by
    intro row h1 h2
    refine ⟨hn, rfl, h2, by simp only [AV.ok]; exact dom_lay.2 (.inl rfl), ?_⟩
    rw [hrun]
    simp only [AV.conc, Env.up_same]
    rw [← h1]
  unfold makeOp at hr
  split at hr
  · rename_i row
    split at hr
    · rename_i y hy
      simp only [Option.some.injEq] at hr
      subst hr
      have h1 : ∀ ρ, Seg.cells ρ row = y.cells.toList := hvc _ (by simp [Res.vc])
      have h2 : Seg.ok No row := hvc _ (by simp [Res.vc])
      exact fin row (by rw [AV.conc_toV ρ v y hy, h1]) (Seg.ok_mono (fun _ h => h.elim) _ h2)
    · cases hr
  · split at hr
    · rename_i row hs
      simp only [Option.some.injEq] at hr
      subst hr
      obtain ⟨h1, h2⟩ := AV.segs_spec hs hv ρ
      exact fin row h1 h2
    · cases hr

/-- The bounds of a part of a list: what they are, what is to be shown. -/
def boundsOf (h : Option Hint) (lo hi : Option AV) (len cap : Nat) : Option (Nat × Nat × List Prop) :=
  match h with
  | some (.sub l u) =>
    match lo, hi with
    | none, none => some (l, u, [l = 0, u = len, l ≤ u, u ≤ cap, l < cap])
    | some (.val (.int _ x)), none => some (l, u, [x = (l : Int), u = len, l ≤ u, u ≤ cap, l < cap])
    | none, some (.val (.int _ y)) => some (l, u, [l = 0, y = (u : Int), l ≤ u, u ≤ cap, l < cap])
    | some (.val (.int _ x)), some (.val (.int _ y)) => some (l, u, [x = (l : Int), y = (u : Int), l ≤ u, u ≤ cap, l < cap])
    | _, _ => none
  | _ =>
    match lo, hi with
    | none, none => match decide (len ≤ cap ∧ 0 < cap) with
      | true => some (0, len, [])
      | false => none
    | some (.val (.int _ x)), none => match decide (0 ≤ x ∧ x ≤ (len : Int) ∧ len ≤ cap ∧ x < (cap : Int)) with
      | true => some (x.toNat, len, [])
      | false => none
    | none, some (.val (.int _ y)) => match decide (0 ≤ y ∧ y ≤ (cap : Int) ∧ 0 < cap) with
      | true => some (0, y.toNat, [])
      | false => none
    | some (.val (.int _ x)), some (.val (.int _ y)) => match decide (0 ≤ x ∧ x ≤ y ∧ y ≤ (cap : Int) ∧ x < (cap : Int)) with
      | true => some (x.toNat, y.toNat, [])
      | false => none
    | _, _ => none
theorem boundsOf_spec {h : Option Hint} {lo hi : Option AV} {len cap l u : Nat} {vc : List Prop} (hb : boundsOf h lo hi len cap = some (l, u, vc)) (hv : ∀ p ∈ vc, p) :
    l ≤ u ∧ u ≤ cap ∧ l < cap ∧ ((lo = none ∧ l = 0) ∨ ∃ k, lo = some (.val (.int k (l : Int)))) ∧ ((hi = none ∧ u = len) ∨ ∃ k, hi = some (.val (.int k (u : Int)))) := by
  unfold boundsOf at hb
  split at hb
  · split at hb
    all_goals first
      | cases hb; done
      | (simp only [Option.some.injEq, Prod.mk.injEq] at hb
         obtain ⟨rfl, rfl, rfl⟩ := hb
         have h1 := hv _ (List.mem_cons_self)
         have h2 := hv _ (List.mem_cons_of_mem _ List.mem_cons_self)
         have h3 := hv _ (List.mem_cons_of_mem _ (List.mem_cons_of_mem _ List.mem_cons_self))
         have h4 := hv _ (List.mem_cons_of_mem _ (List.mem_cons_of_mem _ (List.mem_cons_of_mem _ List.mem_cons_self)))
         have h5 := hv _ (List.mem_cons_of_mem _ (List.mem_cons_of_mem _ (List.mem_cons_of_mem _ (List.mem_cons_of_mem _ List.mem_cons_self))))
         refine ⟨h3, h4, h5, ?_, ?_⟩
         · first | exact .inl ⟨rfl, h1⟩ | (rw [h1]; exact .inr ⟨_, rfl⟩)
         · first | exact .inl ⟨rfl, h2⟩ | (rw [h2]; exact .inr ⟨_, rfl⟩))
  · split at hb
    all_goals first
      | cases hb; done
      | (split at hb
         · rename_i hd
           have hd := of_decide_eq_true hd
           simp only [Option.some.injEq, Prod.mk.injEq] at hb
           obtain ⟨rfl, rfl, rfl⟩ := hb
           refine ⟨by omega, by omega, by omega, ?_, ?_⟩
           · first | exact .inl ⟨rfl, rfl⟩ | exact .inr ⟨_, congrArg (fun z => some (AV.val (Value.int _ z))) (Int.toNat_of_nonneg (by omega)).symm⟩
           · first | exact .inl ⟨rfl, rfl⟩ | exact .inr ⟨_, congrArg (fun z => some (AV.val (Value.int _ z))) (Int.toNat_of_nonneg (by omega)).symm⟩
         · cases hb)
def evO (tm : List (Nat × AV)) : Option Operand → Option (Option AV)
  | none => some none
  | some x => match ev tm x with
    | some v => some (some v)
    | none => none
def sliceMid (Γ : Ctx) (h : Option Hint) (t : TypeId) (p : AV) (lo hi : Option AV) : Option Res :=
  match p, Γ.P.underlying t with
  | .ptr k off, some (.array n elem) => match boundsOf h lo hi n n, sizeA Γ elem with
    | some (l, u, vc), some sz => some (.val (.lst k off (times l sz) (u - l) (n - l)) [] vc)
    | _, _ => none
  | .lst k base st len cap, some (.slice elem) => match boundsOf h lo hi len cap, sizeA Γ elem with
    | some (l, u, vc), some sz => some (.val (.lst k base (times l sz + st) (u - l) (cap - l)) [] vc)
    | _, _ => none
  | _, _ => none
/-- A part behind the end of all. -/
def sliceEnd (Γ : Ctx) (t : TypeId) (p : AV) (lo hi : Option AV) : Option Res :=
  match p, Γ.P.underlying t, lo with
  | .ptr k off, some (.array n elem), some (.val (.int _ x)) => match sizeA Γ elem, hi with
    | some _, none => some (.val (.lst k off 0 0 0) [] [x = (n : Int)])
    | some _, some (.val (.int _ y)) => some (.val (.lst k off 0 0 0) [] [x = (n : Int), y = (n : Int)])
    | _, _ => none
  | .lst k base st len cap, some (.slice elem), some (.val (.int _ x)) => match sizeA Γ elem, hi with
    | some _, none => some (.val (.lst k base st 0 0) [] [x = (cap : Int), len = cap])
    | some _, some (.val (.int _ y)) => some (.val (.lst k base st 0 0) [] [x = (cap : Int), y = (cap : Int)])
    | _, _ => none
  | _, _, _ => none
def sliceOp (Γ : Ctx) (h : Option Hint) (t : TypeId) (p : AV) (lo hi : Option AV) : Option Res := match h with
  | some .subE => sliceEnd Γ t p lo hi
  | h => sliceMid Γ h t p lo hi
theorem bounds_run {P : Program} {w : World} {isSlice : Bool} {lo hi : Option Value} {len cap l u : Nat} (h1 : l ≤ u) (h2 : u ≤ cap) (hlo : (lo = none ∧ l = 0) ∨ ∃ k, lo = some (.int k (l : Int))) (hhi : (hi = none ∧ u = len) ∨ ∃ k, hi = some (.int k (u : Int))) :
    (Instr.sliceBounds isSlice len cap lo hi none).run P w = .ok (l, u, cap) w := by
  have g1 : (0 : Int) ≤ (l : Int) ∧ (l : Int) ≤ (u : Int) := by omega
  have g2 : (0 : Int) ≤ (u : Int) ∧ (u : Int) ≤ (cap : Int) := by omega
  rcases hlo with ⟨rfl, rfl⟩ | ⟨k, rfl⟩ <;> rcases hhi with ⟨rfl, rfl⟩ | ⟨k', rfl⟩ <;> simp [Instr.sliceBounds, Instr.sliceBound, asIntOf, g1, g2, h1, h2]
theorem sliceMid_sound {Γ : Ctx} {nm : Nat} {o : Oper} {h : Option Hint} {t : TypeId} {x : Operand} {xlo xhi : Option Operand} {p : AV} {lo hi : Option AV} (ho : o.op = .slice t x xlo xhi none) {ρ : Env} {s : AS} {a : Act} {w : World} {r : Res} (hx : ev s.tm x = some p) (hlo : evO s.tm xlo = some lo) (hhi : evO s.tm xhi = some hi) (hr : sliceMid Γ h t p lo hi = some r) (hvc : ∀ p ∈ r.vc, p) (hR : Rel Γ ρ s a w) : ResOk Γ nm o ρ s a w r := by
  obtain ⟨hx1, hx2⟩ := hR.ev hx
  have hO : ∀ (y : Option Operand) (v : Option AV) (n m : Nat), evO s.tm y = some v → ((v = none ∧ n = m) ∨ ∃ k, v = some (.val (.int k (n : Int)))) → ((y.map a.eval = none ∧ n = m) ∨ ∃ k, y.map a.eval = some (.int k (n : Int))) := by
    intro y v n m hy hv
    cases y with
    | none => simp only [evO, Option.some.injEq] at hy; subst hy; simpa using hv
    | some y =>
      simp only [evO] at hy
      split at hy
      · rename_i v' hv'
        simp only [Option.some.injEq] at hy
        subst hy
        rcases hv with ⟨h1, _⟩ | ⟨k, h1⟩
        · cases h1
        · simp only [Option.some.injEq] at h1
          subst h1
          exact .inr ⟨k, by simp [(hR.ev hv').1, AV.conc]⟩
      · cases hy
  unfold sliceMid at hr
  split at hr
  · rename_i k off n elem hu
    simp only [AV.conc] at hx1
    split at hr
    · rename_i l u vc sz hb hs
      simp only [Option.some.injEq] at hr
      subst hr
      obtain ⟨b1, b2, b3, b4, b5⟩ := boundsOf_spec hb hvc
      refine ⟨?_, by simpa [AV.ok] using hx2⟩
      have hrun := bounds_run (P := Γ.P) (w := w) (isSlice := false) b1 b2 (hO _ _ _ _ hlo b4) (hO _ _ _ _ hhi b5)
      have hs := sizeA_run hs w
      have hne : ¬ n = l := by omega
      unfold execOp
      simp [ho, hx1, Instr.sliceAt, run_underlying hu, Instr.sureAddr, hrun, hs, hne, add_at, AV.conc, times_eq]
    · cases hr
  · rename_i k base st len cap elem hu
    simp only [AV.conc] at hx1
    split at hr
    · rename_i l u vc sz hb hs
      simp only [Option.some.injEq] at hr
      subst hr
      obtain ⟨b1, b2, b3, b4, b5⟩ := boundsOf_spec hb hvc
      refine ⟨?_, by simpa [AV.ok] using hx2⟩
      have hrun := bounds_run (P := Γ.P) (w := w) (isSlice := true) b1 b2 (hO _ _ _ _ hlo b4) (hO _ _ _ _ hhi b5)
      have hs := sizeA_run hs w
      have hne : ¬ cap = l := by omega
      unfold execOp
      simp [ho, hx1, Instr.sliceAt, Instr.slice, run_underlying hu, hrun, hs, hne, add_at, AV.conc, times_eq]
      try omega
    · cases hr
  · cases hr

theorem evO_some {Γ : Ctx} {ρ : Env} {s : AS} {a : Act} {w : World} (hR : Rel Γ ρ s a w) {y : Option Operand} {k : IntKind} {x : Int} (h : evO s.tm y = some (some (.val (.int k x)))) : y.map a.eval = some (.int k x) := by
  cases y with
  | none => simp [evO] at h
  | some y =>
    simp only [evO] at h
    split at h
    · rename_i v' hv'
      simp only [Option.some.injEq] at h
      subst h
      simp [(hR.ev hv').1, AV.conc]
    · cases h
theorem evO_none {tm : List (Nat × AV)} {y : Option Operand} (h : evO tm y = some none) : y = none := by
  cases y with
  | none => rfl
  | some y =>
    simp only [evO] at h
    split at h <;> simp at h
theorem sliceEnd_sound {Γ : Ctx} {nm : Nat} {o : Oper} {t : TypeId} {x : Operand} {xlo xhi : Option Operand} {p : AV} {lo hi : Option AV} (ho : o.op = .slice t x xlo xhi none) {ρ : Env} {s : AS} {a : Act} {w : World} {r : Res} (hx : ev s.tm x = some p) (hlo : evO s.tm xlo = some lo) (hhi : evO s.tm xhi = some hi) (hr : sliceEnd Γ t p lo hi = some r) (hvc : ∀ p ∈ r.vc, p) (hR : Rel Γ ρ s a w) : ResOk Γ nm o ρ s a w r := by
  obtain ⟨hx1, hx2⟩ := hR.ev hx
  unfold sliceEnd at hr
  split at hr
  · rename_i k off n elem kx xv hu
    simp only [AV.conc] at hx1
    have hl := evO_some hR hlo
    split at hr
    · rename_i sz hs
      simp only [Option.some.injEq] at hr
      subst hr
      have v1 : xv = (n : Int) := hvc _ (by simp [Res.vc])
      have hh := evO_none hhi
      subst hh v1
      refine ⟨?_, by simpa [AV.ok] using hx2⟩
      have hrun := bounds_run (P := Γ.P) (w := w) (isSlice := false) (lo := some (.int kx (n : Int))) (hi := none) (len := n) (cap := n) (l := n) (u := n) (by omega) (by omega) (.inr ⟨_, rfl⟩) (.inl ⟨rfl, rfl⟩)
      have hs := sizeA_run hs w
      unfold execOp
      simp [ho, hx1, hl, Instr.sliceAt, run_underlying hu, Instr.sureAddr, hrun, hs, AV.conc]
    · rename_i sz ky yv hs
      simp only [Option.some.injEq] at hr
      subst hr
      have v1 : xv = (n : Int) := hvc _ (by simp [Res.vc])
      have v2 : yv = (n : Int) := hvc _ (by simp [Res.vc])
      have hh := evO_some hR hhi
      subst v1 v2
      refine ⟨?_, by simpa [AV.ok] using hx2⟩
      have hrun := bounds_run (P := Γ.P) (w := w) (isSlice := false) (lo := some (.int kx (n : Int))) (hi := some (.int ky (n : Int))) (len := n) (cap := n) (l := n) (u := n) (by omega) (by omega) (.inr ⟨_, rfl⟩) (.inr ⟨_, rfl⟩)
      have hs := sizeA_run hs w
      unfold execOp
      simp [ho, hx1, hl, hh, Instr.sliceAt, run_underlying hu, Instr.sureAddr, hrun, hs, AV.conc]
    · cases hr
  · rename_i k base st len cap elem kx xv hu
    simp only [AV.conc] at hx1
    have hl := evO_some hR hlo
    split at hr
    · rename_i sz hs
      simp only [Option.some.injEq] at hr
      subst hr
      have v1 : xv = (cap : Int) := hvc _ (by simp [Res.vc])
      have v2 : len = cap := hvc _ (by simp [Res.vc])
      have hh := evO_none hhi
      subst hh v1 v2
      refine ⟨?_, by simpa [AV.ok] using hx2⟩
      have hrun := bounds_run (P := Γ.P) (w := w) (isSlice := true) (lo := some (.int kx (len : Int))) (hi := none) (len := len) (cap := len) (l := len) (u := len) (by omega) (by omega) (.inr ⟨_, rfl⟩) (.inl ⟨rfl, rfl⟩)
      have hs := sizeA_run hs w
      unfold execOp
      simp [ho, hx1, hl, Instr.sliceAt, Instr.slice, run_underlying hu, hrun, hs, AV.conc]
    · rename_i sz ky yv hs
      simp only [Option.some.injEq] at hr
      subst hr
      have v1 : xv = (cap : Int) := hvc _ (by simp [Res.vc])
      have v2 : yv = (cap : Int) := hvc _ (by simp [Res.vc])
      have hh := evO_some hR hhi
      subst v1 v2
      refine ⟨?_, by simpa [AV.ok] using hx2⟩
      have hrun := bounds_run (P := Γ.P) (w := w) (isSlice := true) (lo := some (.int kx (cap : Int))) (hi := some (.int ky (cap : Int))) (len := len) (cap := cap) (l := cap) (u := cap) (by omega) (by omega) (.inr ⟨_, rfl⟩) (.inr ⟨_, rfl⟩)
      have hs := sizeA_run hs w
      unfold execOp
      simp [ho, hx1, hl, hh, Instr.sliceAt, Instr.slice, run_underlying hu, hrun, hs, AV.conc]
    · cases hr
  · cases hr
theorem sliceOp_sound {Γ : Ctx} {nm : Nat} {o : Oper} {h : Option Hint} {t : TypeId} {x : Operand} {xlo xhi : Option Operand} {p : AV} {lo hi : Option AV} (ho : o.op = .slice t x xlo xhi none) {ρ : Env} {s : AS} {a : Act} {w : World} {r : Res} (hx : ev s.tm x = some p) (hlo : evO s.tm xlo = some lo) (hhi : evO s.tm xhi = some hi) (hr : sliceOp Γ h t p lo hi = some r) (hvc : ∀ p ∈ r.vc, p) (hR : Rel Γ ρ s a w) : ResOk Γ nm o ρ s a w r := by
  unfold sliceOp at hr
  split at hr
  · exact sliceEnd_sound ho hx hlo hhi hr hvc hR
  · exact sliceMid_sound ho hx hlo hhi hr hvc hR
/-- A field, an element, of a value that is no plain one. -/
def partOp (Γ : Ctx) (t : TypeId) (cs : List Seg) (off : Nat) : Option AV := match kindOf Γ t with
  | some none => Seg.get off cs
  | some (some n) => match Seg.cut off cs with
    | some (_, r1) => match Seg.cut n r1 with
      | some (r2, _) => some (.agg r2)
      | none => none
    | none => none
  | none => none
theorem run_isAgg {P : Program} {t : TypeId} {d : TypeDesc} (hu : P.underlying t = some d) (w : World) : (isAgg t).run P w = .ok d.isRow w := by
  unfold isAgg
  rw [Sem.run_bind, run_underlying hu w]
  cases d <;> simp_all
theorem partOp_run {Γ : Ctx} {t : TypeId} {cs : List Seg} {off : Nat} {v : AV} (h : partOp Γ t cs off = some v) {D : Nat → Prop} (hc : Seg.ok D cs) (ρ : Env) (w : World) :
    (part t (Seg.cells ρ cs).toArray off).run Γ.P w = .ok (v.conc ρ) w ∧ v.ok D := by
  unfold partOp at h
  split at h
  · rename_i hk
    obtain ⟨d, hd1, hd2, _⟩ := kindOf_none hk
    obtain ⟨h1, h2⟩ := Seg.get_spec ρ _ _ _ h hc
    refine ⟨?_, h2⟩
    have hag := run_isAgg hd1 w
    rw [hd2] at hag
    simp [part, hag, h1]
  · rename_i n hk
    obtain ⟨d, hd1, hd2, hd3⟩ := kindOf_some hk
    split at h
    · rename_i r0 r1 hc1
      split at h
      · rename_i r2 r3 hc2
        simp only [Option.some.injEq] at h
        subst h
        obtain ⟨e1, e2, e3, e4⟩ := Seg.cut_spec ρ _ _ _ _ hc1 hc
        obtain ⟨f1, f2, f3, f4⟩ := Seg.cut_spec ρ _ _ _ _ hc2 e3
        have l0 : (Seg.cells ρ r0).length = off := by rw [Seg.cells_len ρ r0 e2, e4]
        have l2 : (Seg.cells ρ r2).length = n := by rw [Seg.cells_len ρ r2 f2, f4]
        refine ⟨?_, by simpa [AV.ok] using f2⟩
        have hag := run_isAgg hd1 w
        rw [hd2] at hag
        cases hq : Γ.P.info? t with
        | none => simp [hq] at hd3
        | some i =>
          have hsz : i.size = n := by simpa [hq] using hd3
          simp [part, hag, sizeOf, typeInfo, hq, hsz, AV.conc]
          rw [e1, f1, Seg.cells_append, Seg.cells_append, List.drop_append, List.drop_of_length_le (by omega), l0, Nat.sub_self, List.nil_append, List.drop_zero, List.take_append_of_le_length (by omega), List.take_of_length_le (by omega)]
      · cases h
    · cases h
  · cases h
def fieldOp (Γ : Ctx) (t : TypeId) (x : AV) (f : Nat) : Option Res := match x, Γ.P.underlying t with
  | .agg cs, some (.struct fs) => match fs[f]? with
    | some fl => match partOp Γ fl.type cs fl.offset with
      | some v => some (.val v [] [])
      | none => none
    | none => none
  | _, _ => none
def indexOp (Γ : Ctx) (h : Option Hint) (t : TypeId) (x i : AV) : Option Res := match x, i, Γ.P.underlying t with
  | .agg cs, .val (.int _ j), some (.array len elem) => match h with
    | some (.ix n) => match cs, kindOf Γ elem with
      | [.ints kd m xs], some none => some (.val (.val (.int kd (xs.getD n 0))) [] [j = (n : Int), n < len, n < m])
      | _, _ => none
    | _ => match decide (0 ≤ j ∧ j < (len : Int)), sizeA Γ elem with
      | true, some sz => match partOp Γ elem cs (times j.toNat sz) with
        | some v => some (.val v [] [])
        | none => none
      | _, _ => none
  | _, _, _ => none
theorem fieldOp_sound {Γ : Ctx} {nm : Nat} {o : Oper} {t : TypeId} {x : Operand} {f : Nat} {p : AV} (ho : o.op = .field t x f) {ρ : Env} {s : AS} {a : Act} {w : World} {r : Res} (hx : ev s.tm x = some p) (hr : fieldOp Γ t p f = some r) (hR : Rel Γ ρ s a w) : ResOk Γ nm o ρ s a w r := by
  obtain ⟨hx1, hx2⟩ := hR.ev hx
  unfold fieldOp at hr
  split at hr
  · rename_i cs fs hu
    split at hr
    · rename_i fl hfl
      split at hr
      · rename_i v hv
        simp only [Option.some.injEq] at hr
        subst hr
        simp only [AV.ok] at hx2
        simp only [AV.conc] at hx1
        obtain ⟨h1, h2⟩ := partOp_run hv hx2 ρ w
        refine ⟨?_, h2⟩
        unfold execOp
        simp [ho, hx1, Instr.field, run_underlying hu, hfl, asAgg, h1]
      · cases hr
    · cases hr
  · cases hr
theorem indexOp_sound {Γ : Ctx} {nm : Nat} {o : Oper} {h : Option Hint} {t : TypeId} {x y : Operand} {p i : AV} (ho : o.op = .index t x y) {ρ : Env} {s : AS} {a : Act} {w : World} {r : Res} (hx : ev s.tm x = some p) (hy : ev s.tm y = some i) (hr : indexOp Γ h t p i = some r) (hvc : ∀ p ∈ r.vc, p) (hR : Rel Γ ρ s a w) : ResOk Γ nm o ρ s a w r := by
  obtain ⟨hx1, hx2⟩ := hR.ev hx
  have hy1 := (hR.ev hy).1
  unfold indexOp at hr
  split at hr
  · rename_i cs kd j len elem hu
    simp only [AV.ok] at hx2
    simp only [AV.conc] at hx1 hy1
    split at hr
    · rename_i n
      split at hr
      · rename_i kd' m xs hk
        obtain ⟨d, hd1, hd2, hd3⟩ := kindOf_none hk
        simp only [Option.some.injEq] at hr
        subst hr
        have e1 : j = (n : Int) := hvc _ (by simp [Res.vc])
        have e2 : n < len := hvc _ (by simp [Res.vc])
        have e3 : n < m := hvc _ (by simp [Res.vc])
        subst e1
        simp only [Seg.ok] at hx2
        refine ⟨?_, by simp [AV.ok]⟩
        have hag := run_isAgg hd1 w
        rw [hd2] at hag
        have h1 : (0 : Int) ≤ (n : Int) ∧ (n : Int) < (len : Int) := by omega
        cases hq : Γ.P.info? elem with
        | none => simp [hq] at hd3
        | some inf =>
          have hsz : inf.size = 1 := by simpa [hq] using hd3
          unfold execOp
          simp [ho, hx1, hy1, Instr.index, asIntOf, run_underlying hu, h1, e2, sizeOf, typeInfo, hq, hsz, part, hag, Seg.cells, Seg.cell1, hx2.1, e3, AV.conc, List.getD_eq_getElem?_getD]
      · cases hr
    · split at hr
      · rename_i sz hd hs
        have hd := of_decide_eq_true hd
        split at hr
        · rename_i v hv
          simp only [Option.some.injEq] at hr
          subst hr
          obtain ⟨h1, h2⟩ := partOp_run hv hx2 ρ w
          rw [times_eq] at h1
          refine ⟨?_, h2⟩
          have hs := sizeA_run hs w
          unfold execOp
          simp [ho, hx1, hy1, Instr.index, asIntOf, run_underlying hu, hd, hs, h1]
        · cases hr
      · cases hr
  · cases hr
end Go.Proofs.YthgnmpjcbicdhaaDoor

