/- An abstract machine over values: blocks of the call's own go by numbers; it is reckoned by the kernel alone. -/
import Derived.Test.YthgnmpjcbicdhaaArrEq
import Derived.WalkKit
import Derived.KernelRfl
import Derived.Below
import Derived.Orders
import Derived.Laws.Cells
import Derived.Laws.Rows
import Derived.Deep.MidRow
set_option linter.unusedVariables false
set_option linter.unusedSimpArgs false
namespace Go.Proofs.Ythgnmpjcbicdhaa
open Go Go.RowKit

/-- What a computation gives that looks at no memory. -/
def prun {α : Type} (P : Program) : Sem α → Option α
  | .pure a => some a
  | .program k => prun P (k P)
  | .mark _ k => prun P k
  | _ => none
theorem prun_run {α : Type} (P : Program) : ∀ (s : Sem α) (a : α), prun P s = some a → ∀ w, s.run P w = .ok a w := by
  intro s
  induction s with
  | pure b => intro a h w; simp only [prun, Option.some.injEq] at h; subst h; rfl
  | program k ih => intro a h w; simp only [prun] at h; simpa [Sem.run] using ih P a h w
  | mark m k ih => intro a h w; simp only [prun] at h; simpa [Sem.run] using ih a h w
  | _ => intro a h; simp [prun] at h

structure Env where
  b : Nat → Nat
  c : Nat → Nat

mutual
/-- A value: val a plain one; ptr, elt pointers into block k (at a place; at part i of the row that begins at a place); lst a list in block k; agg a struct or an array; tup a tuple; ifc in an interface. -/
inductive AV where
  | val (x : Value)
  | ptr (k off : Nat)
  | elt (k base i : Nat)
  | lst (k base st len cap : Nat)
  | agg (cs : List Seg)
  | tup (cs : List AV)
  | ifc (ty : TypeId) (x : AV)
/-- A cell, or a row of n integers. -/
inductive Seg where
  | cell (x : AV)
  | ints (k : IntKind) (n : Nat) (xs : List Int)
end
instance : Inhabited AV := ⟨.val default⟩

mutual
def AV.conc (ρ : Env) : AV → Value
  | .val x => x
  | .ptr k off => .pointer (some ⟨ρ.b k, off, none⟩)
  | .elt k base i => .pointer (some ⟨ρ.b k, base + i, none⟩)
  | .lst k base st len cap => .slice (some ⟨ρ.b k, base + st, none⟩) len cap
  | .agg cs => .agg (Seg.cells ρ cs).toArray
  | .tup cs => .tuple (AV.concL ρ cs).toArray
  | .ifc ty x => .iface ty (AV.conc ρ x)
def AV.concL (ρ : Env) : List AV → List Value
  | [] => []
  | x :: r => AV.conc ρ x :: AV.concL ρ r
def Seg.cells (ρ : Env) : List Seg → List Value
  | [] => []
  | x :: r => Seg.cell1 ρ x ++ Seg.cells ρ r
def Seg.cell1 (ρ : Env) : Seg → List Value
  | .cell x => [AV.conc ρ x]
  | .ints k _ xs => xs.map (Value.int k)
end

mutual
/-- The value, where nothing in it goes by a number. -/
def AV.toV : AV → Option Value
  | .val x => some x
  | .agg cs => match Seg.toV cs with
    | some l => some (.agg l.toArray)
    | none => none
  | .tup cs => match AV.toVL cs with
    | some l => some (.tuple l.toArray)
    | none => none
  | .ifc ty x => match AV.toV x with
    | some y => some (.iface ty y)
    | none => none
  | _ => none
def AV.toVL : List AV → Option (List Value)
  | [] => some []
  | x :: r => match AV.toV x, AV.toVL r with
    | some y, some l => some (y :: l)
    | _, _ => none
def Seg.toV : List Seg → Option (List Value)
  | [] => some []
  | x :: r => match Seg.toV1 x, Seg.toV r with
    | some l, some m => some (l ++ m)
    | _, _ => none
def Seg.toV1 : Seg → Option (List Value)
  | .cell x => match AV.toV x with
    | some y => some [y]
    | none => none
  | .ints k _ xs => some (xs.map (Value.int k))
end

mutual
theorem AV.conc_toV (ρ : Env) : ∀ (x : AV) (v : Value), x.toV = some v → x.conc ρ = v
  | .val x, v, h => by simpa [AV.toV, AV.conc] using h
  | .ptr .., v, h => by simp [AV.toV] at h
  | .elt .., v, h => by simp [AV.toV] at h
  | .lst .., v, h => by simp [AV.toV] at h
  | .agg cs, v, h => by
    simp only [AV.toV] at h
    cases hc : Seg.toV cs with
    | none => simp [hc] at h
    | some l => simp only [hc, Option.some.injEq] at h; subst h; simp only [AV.conc]; rw [Seg.cells_toV ρ cs l hc]
  | .tup cs, v, h => by
    simp only [AV.toV] at h
    cases hc : AV.toVL cs with
    | none => simp [hc] at h
    | some l => simp only [hc, Option.some.injEq] at h; subst h; simp only [AV.conc]; rw [AV.concL_toV ρ cs l hc]
  | .ifc ty x, v, h => by
    simp only [AV.toV] at h
    cases hc : AV.toV x with
    | none => simp [hc] at h
    | some l => simp only [hc, Option.some.injEq] at h; subst h; simp only [AV.conc]; rw [AV.conc_toV ρ x l hc]
theorem AV.concL_toV (ρ : Env) : ∀ (x : List AV) (v : List Value), AV.toVL x = some v → AV.concL ρ x = v
  | [], v, h => by simpa [AV.toVL, AV.concL] using h
  | x :: r, v, h => by
    simp only [AV.toVL] at h
    cases h1 : AV.toV x with
    | none => simp [h1] at h
    | some y =>
      cases h2 : AV.toVL r with
      | none => simp [h1, h2] at h
      | some l => simp only [h1, h2, Option.some.injEq] at h; subst h; simp only [AV.concL]; rw [AV.conc_toV ρ x y h1, AV.concL_toV ρ r l h2]
theorem Seg.cells_toV (ρ : Env) : ∀ (x : List Seg) (v : List Value), Seg.toV x = some v → Seg.cells ρ x = v
  | [], v, h => by simpa [Seg.toV, Seg.cells] using h
  | x :: r, v, h => by
    simp only [Seg.toV] at h
    cases h1 : Seg.toV1 x with
    | none => simp [h1] at h
    | some y =>
      cases h2 : Seg.toV r with
      | none => simp [h1, h2] at h
      | some l => simp only [h1, h2, Option.some.injEq] at h; subst h; simp only [Seg.cells]; rw [Seg.cell1_toV ρ x y h1, Seg.cells_toV ρ r l h2]
theorem Seg.cell1_toV (ρ : Env) : ∀ (x : Seg) (v : List Value), Seg.toV1 x = some v → Seg.cell1 ρ x = v
  | .cell x, v, h => by
    simp only [Seg.toV1] at h
    cases hc : AV.toV x with
    | none => simp [hc] at h
    | some l => simp only [hc, Option.some.injEq] at h; subst h; simp only [Seg.cell1]; rw [AV.conc_toV ρ x l hc]
  | .ints k n xs, v, h => by simpa [Seg.toV1, Seg.cell1] using h
end

/-! Rows. -/
def Seg.len : List Seg → Nat
  | [] => 0
  | .cell _ :: r => Seg.len r + 1
  | .ints _ n _ :: r => Seg.len r + n
def AV.one : AV → Bool
  | .val x => x.oneCell'
  | .agg _ | .tup _ => false
  | _ => true
mutual
/-- Each segment is as long as it says, each cell is one, each block that is named is there. -/
def Seg.ok (D : Nat → Prop) : List Seg → Prop
  | [] => True
  | .cell x :: r => (x.one = true ∧ AV.ok D x) ∧ Seg.ok D r
  | .ints _ n xs :: r => xs.length = n ∧ Seg.ok D r
def AV.ok (D : Nat → Prop) : AV → Prop
  | .val _ => True
  | .ptr k _ => D k
  | .elt k _ _ => D k
  | .lst k _ _ _ _ => D k
  | .agg cs => Seg.ok D cs
  | .tup cs => AV.okL D cs
  | .ifc _ x => AV.ok D x
def AV.okL (D : Nat → Prop) : List AV → Prop
  | [] => True
  | x :: r => AV.ok D x ∧ AV.okL D r
end
mutual
theorem Seg.ok_mono {D E : Nat → Prop} (h : ∀ k, D k → E k) : ∀ r, Seg.ok D r → Seg.ok E r
  | [], _ => trivial
  | .cell x :: r, hr => by simp only [Seg.ok] at hr ⊢; exact ⟨⟨hr.1.1, AV.ok_mono h x hr.1.2⟩, Seg.ok_mono h r hr.2⟩
  | .ints _ n xs :: r, hr => by simp only [Seg.ok] at hr ⊢; exact ⟨hr.1, Seg.ok_mono h r hr.2⟩
theorem AV.ok_mono {D E : Nat → Prop} (h : ∀ k, D k → E k) : ∀ x, AV.ok D x → AV.ok E x
  | .val _, _ => by simp [AV.ok]
  | .ptr k _, hx => by simp only [AV.ok] at hx ⊢; exact h k hx
  | .elt k _ _, hx => by simp only [AV.ok] at hx ⊢; exact h k hx
  | .lst k _ _ _ _, hx => by simp only [AV.ok] at hx ⊢; exact h k hx
  | .agg cs, hx => by simp only [AV.ok] at hx ⊢; exact Seg.ok_mono h cs hx
  | .tup cs, hx => by simp only [AV.ok] at hx ⊢; exact AV.okL_mono h cs hx
  | .ifc _ x, hx => by simp only [AV.ok] at hx ⊢; exact AV.ok_mono h x hx
theorem AV.okL_mono {D E : Nat → Prop} (h : ∀ k, D k → E k) : ∀ r, AV.okL D r → AV.okL E r
  | [], _ => trivial
  | x :: r, hr => by simp only [AV.okL] at hr ⊢; exact ⟨AV.ok_mono h x hr.1, AV.okL_mono h r hr.2⟩
end
mutual
theorem Seg.cells_agree {D : Nat → Prop} {ρ ρ' : Env} (h : ∀ k, D k → ρ'.b k = ρ.b k) : ∀ r, Seg.ok D r → Seg.cells ρ' r = Seg.cells ρ r
  | [], _ => rfl
  | .cell x :: r, hr => by
    simp only [Seg.ok] at hr
    simp only [Seg.cells, Seg.cell1]
    rw [AV.conc_agree h x hr.1.2, Seg.cells_agree h r hr.2]
  | .ints _ n xs :: r, hr => by
    simp only [Seg.ok] at hr
    simp only [Seg.cells, Seg.cell1]
    rw [Seg.cells_agree h r hr.2]
theorem AV.conc_agree {D : Nat → Prop} {ρ ρ' : Env} (h : ∀ k, D k → ρ'.b k = ρ.b k) : ∀ x, AV.ok D x → AV.conc ρ' x = AV.conc ρ x
  | .val _, _ => by simp [AV.conc]
  | .ptr k _, hx => by simp only [AV.ok] at hx; simp only [AV.conc, h k hx]
  | .elt k _ _, hx => by simp only [AV.ok] at hx; simp only [AV.conc, h k hx]
  | .lst k _ _ _ _, hx => by simp only [AV.ok] at hx; simp only [AV.conc, h k hx]
  | .agg cs, hx => by simp only [AV.ok] at hx; simp only [AV.conc]; rw [Seg.cells_agree h cs hx]
  | .tup cs, hx => by simp only [AV.ok] at hx; simp only [AV.conc]; rw [AV.concL_agree h cs hx]
  | .ifc _ x, hx => by simp only [AV.ok] at hx; simp only [AV.conc]; rw [AV.conc_agree h x hx]
theorem AV.concL_agree {D : Nat → Prop} {ρ ρ' : Env} (h : ∀ k, D k → ρ'.b k = ρ.b k) : ∀ r, AV.okL D r → AV.concL ρ' r = AV.concL ρ r
  | [], _ => rfl
  | x :: r, hr => by
    simp only [AV.okL] at hr
    simp only [AV.concL]
    rw [AV.conc_agree h x hr.1, AV.concL_agree h r hr.2]
end
theorem AV.one_conc (ρ : Env) (x : AV) (h : x.one = true) : (x.conc ρ).oneCell' = true := by
  cases x <;> simp_all [AV.one, AV.conc, Value.oneCell']
section
variable {D : Nat → Prop}
theorem Seg.cells_len (ρ : Env) : ∀ (r : List Seg), Seg.ok D r → (Seg.cells ρ r).length = Seg.len r
  | [], _ => rfl
  | .cell x :: r, h => by simp [Seg.cells, Seg.cell1, Seg.len, Seg.cells_len ρ r h.2]
  | .ints k n xs :: r, h => by simp only [Seg.cells, Seg.cell1, Seg.len, List.length_append, List.length_map, Seg.cells_len ρ r h.2, h.1]; omega
theorem Seg.cells_one (ρ : Env) : ∀ (r : List Seg), Seg.ok D r → ∀ v ∈ Seg.cells ρ r, v.oneCell' = true
  | [], _, v, hv => by simp [Seg.cells] at hv
  | .cell x :: r, h, v, hv => by
    simp only [Seg.cells, Seg.cell1, List.singleton_append, List.mem_cons] at hv
    rcases hv with rfl | hv
    · exact AV.one_conc ρ x h.1.1
    · exact Seg.cells_one ρ r h.2 v hv
  | .ints k n xs :: r, h, v, hv => by
    simp only [Seg.cells, Seg.cell1, List.mem_append, List.mem_map] at hv
    rcases hv with ⟨y, _, rfl⟩ | hv
    · rfl
    · exact Seg.cells_one ρ r h.2 v hv
theorem Seg.cells_append (ρ : Env) : ∀ (r t : List Seg), Seg.cells ρ (r ++ t) = Seg.cells ρ r ++ Seg.cells ρ t
  | [], t => rfl
  | x :: r, t => by simp [Seg.cells, Seg.cells_append ρ r t]
theorem Seg.ok_append : ∀ (r t : List Seg), Seg.ok D r → Seg.ok D t → Seg.ok D (r ++ t)
  | [], t, _, h => h
  | .cell x :: r, t, h, h' => ⟨h.1, Seg.ok_append r t h.2 h'⟩
  | .ints _ n xs :: r, t, h, h' => ⟨h.1, Seg.ok_append r t h.2 h'⟩

/-- The first n cells, and the others. -/
def Seg.cut : Nat → List Seg → Option (List Seg × List Seg)
  | 0, r => some ([], r)
  | n + 1, .cell x :: r => match Seg.cut n r with
    | some (a, b) => some (.cell x :: a, b)
    | none => none
  | n + 1, .ints k m xs :: r => match Nat.ble m (n + 1) with
    | true => match m with
      | 0 => none
      | m' + 1 => match Seg.cut (n - m') r with
        | some (a, b) => some (.ints k (m' + 1) xs :: a, b)
        | none => none
    | false => none
  | _ + 1, [] => none
theorem Seg.cut_spec (ρ : Env) : ∀ (r : List Seg) (n : Nat) (a b : List Seg), Seg.cut n r = some (a, b) → Seg.ok D r → r = a ++ b ∧ Seg.ok D a ∧ Seg.ok D b ∧ Seg.len a = n
  | r, 0, a, b, h, hr => by
    simp [Seg.cut] at h
    obtain ⟨rfl, rfl⟩ := h
    exact ⟨rfl, trivial, hr, rfl⟩
  | [], n + 1, a, b, h, hr => by simp [Seg.cut] at h
  | .cell x :: r, n + 1, a, b, h, hr => by
    simp only [Seg.cut] at h
    split at h
    · rename_i a' b' hc
      simp only [Option.some.injEq, Prod.mk.injEq] at h
      obtain ⟨rfl, rfl⟩ := h
      obtain ⟨h1, h2, h3, h4⟩ := Seg.cut_spec ρ r n a' b' hc hr.2
      exact ⟨by rw [h1]; rfl, ⟨hr.1, h2⟩, h3, by simp [Seg.len, h4]⟩
    · cases h
  | .ints k m xs :: r, n + 1, a, b, h, hr => by
    simp only [Seg.cut] at h
    split at h
    · rename_i hle
      have hle' : m ≤ n + 1 := Nat.le_of_ble_eq_true hle
      split at h
      · cases h
      · rename_i m'
        split at h
        · rename_i a' b' hc
          simp only [Option.some.injEq, Prod.mk.injEq] at h
          obtain ⟨rfl, rfl⟩ := h
          obtain ⟨h1, h2, h3, h4⟩ := Seg.cut_spec ρ r (n - m') a' b' hc hr.2
          exact ⟨by rw [h1]; rfl, ⟨hr.1, h2⟩, h3, by simp [Seg.len, h4]; omega⟩
        · cases h
    · cases h
/-- The cell at a place that is told. -/
def Seg.get : Nat → List Seg → Option AV
  | 0, .cell x :: _ => some x
  | n + 1, .cell _ :: r => Seg.get n r
  | i, .ints k m xs :: r => match Nat.blt i m with
    | true => some (.val (.int k (xs.getD i 0)))
    | false => Seg.get (i - m) r
  | _, [] => none
theorem Seg.get_spec (ρ : Env) : ∀ (r : List Seg) (i : Nat) (x : AV), Seg.get i r = some x → Seg.ok D r → (Seg.cells ρ r)[i]? = some (x.conc ρ) ∧ x.ok D
  | [], i, x, h, _ => by cases i <;> simp [Seg.get] at h
  | .cell y :: r, 0, x, h, hr => by
    simp only [Seg.get, Option.some.injEq] at h
    subst h
    have := hr.1
    exact ⟨by simp [Seg.cells, Seg.cell1], this.2⟩
  | .cell y :: r, n + 1, x, h, hr => by
    simp only [Seg.get] at h
    have := Seg.get_spec ρ r n x h hr.2
    simpa [Seg.cells, Seg.cell1] using this
  | .ints k m xs :: r, i, x, h, hr => by
    have h' : (match Nat.blt i m with
      | true => some (.val (.int k (xs.getD i 0)))
      | false => Seg.get (i - m) r) = some x := by cases i <;> simpa [Seg.get] using h
    have hl := hr.1
    split at h'
    · rename_i hb
      have hlt : i < m := Nat.le_of_ble_eq_true hb
      simp only [Option.some.injEq] at h'
      subst h'
      refine ⟨?_, trivial⟩
      simp only [Seg.cells, Seg.cell1, AV.conc]
      rw [List.getElem?_append_left (by simp; omega), List.getElem?_map]
      simp [List.getD_eq_getElem?_getD, show i < xs.length by omega]
    · rename_i hb
      have hge : m ≤ i := by
        rcases Nat.lt_or_ge i m with h2 | h2
        · have : Nat.blt i m = true := Nat.ble_eq_true_of_le h2
          rw [this] at hb; cases hb
        · exact h2
      have := Seg.get_spec ρ r (i - m) x h' hr.2
      refine ⟨?_, this.2⟩
      simp only [Seg.cells, Seg.cell1]
      rw [List.getElem?_append_right (by simp; omega)]
      simpa [hl] using this.1
end

/-! The state. -/
theorem beq_no {i j : Nat} (h : i ≠ j) : Nat.beq i j = false := by
  cases e : Nat.beq i j with
  | false => rfl
  | true => exact absurd (Nat.eq_of_beq_eq_true e) h
def Env.up (ρ : Env) (k b : Nat) : Env := { ρ with b := fun j => if j = k then b else ρ.b j }
theorem Env.up_same (ρ : Env) (k b : Nat) : (ρ.up k b).b k = b := if_pos rfl
theorem Env.up_ne (ρ : Env) {k j : Nat} (b : Nat) (h : j ≠ k) : (ρ.up k b).b j = ρ.b j := if_neg h
def look {α : Type} (k : Nat) : List (Nat × α) → Option α
  | [] => none
  | (j, x) :: r => match Nat.beq j k with
    | true => some x
    | false => look k r
def lay {α : Type} (k : Nat) (x : α) : List (Nat × α) → List (Nat × α)
  | [] => [(k, x)]
  | (j, y) :: r => match Nat.beq j k with
    | true => (k, x) :: r
    | false => (j, y) :: lay k x r
theorem look_lay_same {α : Type} (k : Nat) (x : α) : ∀ l, look k (lay k x l) = some x
  | [] => by simp [lay, look]
  | (j, y) :: r => by
    simp only [lay]
    split
    · simp [look]
    · rename_i h; simp only [look, h]; exact look_lay_same k x r
theorem look_lay_ne {α : Type} {j k : Nat} (h : j ≠ k) (x : α) : ∀ l, look j (lay k x l) = look j l
  | [] => by simp only [lay, look, beq_no (Ne.symm h)]
  | (i, y) :: r => by
    simp only [lay]
    split
    · rename_i hb
      have : i = k := Nat.eq_of_beq_eq_true hb
      subst this
      simp only [look, beq_no (Ne.symm h)]
    · simp only [look]
      split
      · rfl
      · exact look_lay_ne h x r
theorem look_lay {α : Type} (j k : Nat) (x : α) (l) : look j (lay k x l) = if j = k then some x else look j l := by
  split
  · rename_i h; subst h; exact look_lay_same _ x l
  · rename_i h; exact look_lay_ne h x l

structure Vblk where
  row : List Seg
  ty : TypeId
structure AS where
  tm : List (Nat × AV)
  mem : List (Nat × Vblk)
structure Ctx where
  P : Program
  w0 : World
  F : Nat → Prop
  ρ0 : Env
  n0 : Nat
  size : Nat

/-- Elder memory is as it was, but for the blocks that F names. -/
structure Fr (F : Nat → Prop) (w w' : World) : Prop where
  os : w'.os = w.os
  tape : w'.tape = w.tape
  output : w'.output = w.output
  size : w.heap.size ≤ w'.heap.size
  block : ∀ k, k < w.heap.size → ¬ F k → w'.heap[k]? = w.heap[k]?
theorem Fr.refl (F : Nat → Prop) (w : World) : Fr F w w := ⟨rfl, rfl, rfl, Nat.le_refl _, fun _ _ _ => rfl⟩
theorem Fr.trans {F : Nat → Prop} {a b c : World} (h : Fr F a b) (k : Fr F b c) : Fr F a c :=
  ⟨k.os.trans h.os, k.tape.trans h.tape, k.output.trans h.output, Nat.le_trans h.size k.size, fun i hi hf => (k.block i (Nat.lt_of_lt_of_le hi h.size) hf).trans (h.block i hi hf)⟩
theorem Fr.below {F : Nat → Prop} {a b : World} (h : Below a.heap.size a b) : Fr F a b := ⟨h.os, h.tape, h.output, h.size, fun k hk _ => h.block k hk⟩
theorem Fr.to_below {a b : World} (h : Fr (fun _ => False) a b) : Below a.heap.size a b := ⟨h.os, h.tape, h.output, h.size, fun k hk => h.block k hk (fun f => f)⟩

def AS.dom (m : List (Nat × Vblk)) (k : Nat) : Prop := (look k m).isSome = true
def Sits (ρ : Env) (w : World) (k : Nat) (b : Vblk) : Prop := w.heap[ρ.b k]? = some (.cells (Seg.cells ρ b.row).toArray b.ty (0, 0))
/-- The memory that a state tells of. -/
structure RelM (Γ : Ctx) (ρ : Env) (m : List (Nat × Vblk)) (w : World) : Prop where
  sits : ∀ k b, look k m = some b → Sits ρ w k b ∧ Seg.ok (AS.dom m) b.row
  inj : ∀ j k, AS.dom m j → AS.dom m k → ρ.b j = ρ.b k → j = k
  own : ∀ k, AS.dom m k → (k < Γ.n0 ∧ Γ.F (ρ.b k)) ∨ Γ.w0.heap.size ≤ ρ.b k
  fix : ∀ k, k < Γ.n0 → AS.dom m k ∧ ρ.b k = Γ.ρ0.b k
  fr : Fr Γ.F Γ.w0 w
structure Rel (Γ : Ctx) (ρ : Env) (s : AS) (a : Act) (w : World) : Prop where
  mem : RelM Γ ρ s.mem w
  tm : ∀ t v, look t s.tm = some v → a.tmps[t]? = some (v.conc ρ) ∧ v.ok (AS.dom s.mem)
  df : a.defers = []
  size : a.tmps.size = Γ.size

theorem Sits.lt {ρ : Env} {w : World} {k : Nat} {b : Vblk} (h : Sits ρ w k b) : ρ.b k < w.heap.size := (Array.getElem?_eq_some_iff.1 h).1
theorem RelM.lt {Γ : Ctx} {ρ : Env} {m : List (Nat × Vblk)} {w : World} (h : RelM Γ ρ m w) {k : Nat} (hk : AS.dom m k) : ρ.b k < w.heap.size := by
  obtain ⟨b, hb⟩ := Option.isSome_iff_exists.1 hk
  exact (h.sits k b hb).1.lt
/-- A slot is written. -/
theorem Rel.put {Γ : Ctx} {ρ : Env} {s : AS} {a : Act} {w : World} (h : Rel Γ ρ s a w) (d : Nat) (hd : d < Γ.size) (v : AV) (hv : v.ok (AS.dom s.mem)) :
    Rel Γ ρ ⟨lay d v s.tm, s.mem⟩ (a.put (some d) (v.conc ρ)) w := by
  refine ⟨h.mem, fun t u hu => ?_, h.df, by simp [Act.put, h.size]⟩
  simp only at hu
  rw [look_lay] at hu
  simp only [Act.put, Array.getElem?_setIfInBounds]
  split at hu
  · rename_i e
    subst e
    simp only [Option.some.injEq] at hu
    subst hu
    exact ⟨by simp [h.size, hd], hv⟩
  · rename_i e
    have := h.tm t u hu
    rw [if_neg (Ne.symm e)]
    exact this
/-- A world that differs in nothing that is told. -/
theorem RelM.world {Γ : Ctx} {ρ : Env} {m : List (Nat × Vblk)} {w w' : World} (h : RelM Γ ρ m w) (hb : Below w.heap.size w w') : RelM Γ ρ m w' := by
  refine ⟨fun k b hk => ?_, h.inj, h.own, h.fix, h.fr.trans (Fr.below hb)⟩
  obtain ⟨h1, h2⟩ := h.sits k b hk
  exact ⟨by unfold Sits at *; rw [hb.block _ (Array.getElem?_eq_some_iff.1 h1).1]; exact h1, h2⟩
theorem Rel.world {Γ : Ctx} {ρ : Env} {s : AS} {a : Act} {w w' : World} (h : Rel Γ ρ s a w) (hb : Below w.heap.size w w') : Rel Γ ρ s a w' := ⟨h.mem.world hb, h.tm, h.df, h.size⟩
theorem dom_lay {m : List (Nat × Vblk)} {k : Nat} {b : Vblk} {j : Nat} : AS.dom (lay k b m) j ↔ j = k ∨ AS.dom m j := by
  unfold AS.dom
  rw [look_lay]
  split <;> simp_all
/-- A block is made. -/
theorem RelM.make {Γ : Ctx} {ρ : Env} {m : List (Nat × Vblk)} {w : World} (h : RelM Γ ρ m w) (k : Nat) (hk : look k m = none) (b : Vblk) (hb : Seg.ok (AS.dom m) b.row) :
    RelM Γ (ρ.up k w.heap.size) (lay k b m) (w.alloc (.cells (Seg.cells ρ b.row).toArray b.ty)) ∧ ∀ j, AS.dom m j → (ρ.up k w.heap.size).b j = ρ.b j := by
  have hnk : ∀ j, AS.dom m j → j ≠ k := fun j hj e => by subst e; unfold AS.dom at hj; rw [hk] at hj; simp at hj
  have hag : ∀ j, AS.dom m j → (ρ.up k w.heap.size).b j = ρ.b j := fun j hj => Env.up_ne _ _ (hnk j hj)
  refine ⟨⟨fun j c hj => ?_, fun i j hi hj hij => ?_, fun j hj => ?_, fun j hj => ?_, ?_⟩, hag⟩
  · rw [look_lay] at hj
    split at hj
    · rename_i e
      subst e
      simp only [Option.some.injEq] at hj
      subst hj
      refine ⟨?_, Seg.ok_mono (fun i hi => dom_lay.2 (.inr hi)) _ hb⟩
      unfold Sits
      rw [Env.up_same, Seg.cells_agree (ρ := ρ) (D := AS.dom m) hag _ hb]
      show (w.heap.push _)[w.heap.size]? = _
      simp
    · rename_i e
      obtain ⟨h1, h2⟩ := h.sits j c hj
      refine ⟨?_, Seg.ok_mono (fun i hi => dom_lay.2 (.inr hi)) _ h2⟩
      unfold Sits at *
      rw [Env.up_ne _ _ e, Seg.cells_agree (ρ := ρ) (D := AS.dom m) hag _ h2]
      have hl : ρ.b j < w.heap.size := (Array.getElem?_eq_some_iff.1 h1).1
      show (w.heap.push _)[_]? = _
      rw [Array.getElem?_push_lt hl, ← h1, Array.getElem?_eq_getElem hl]
  · rw [dom_lay] at hi hj
    rcases hi with hi | hi <;> rcases hj with hj | hj
    · rw [hi, hj]
    · have := h.lt hj
      rw [hi, Env.up_same, hag _ hj] at hij
      omega
    · have := h.lt hi
      rw [hj, Env.up_same, hag _ hi] at hij
      omega
    · rw [hag _ hi, hag _ hj] at hij
      exact h.inj i j hi hj hij
  · rw [dom_lay] at hj
    rcases hj with hj | hj
    · subst hj
      rw [Env.up_same]
      exact .inr h.fr.size
    · rw [hag _ hj]
      exact h.own j hj
  · obtain ⟨h1, h2⟩ := h.fix j hj
    refine ⟨dom_lay.2 (.inr h1), ?_⟩
    rw [hag _ h1]
    exact h2
  · exact h.fr.trans (Fr.below ((Below.refl _ _).alloc (Nat.le_refl _) _))
theorem Rel.make {Γ : Ctx} {ρ : Env} {s : AS} {a : Act} {w : World} (h : Rel Γ ρ s a w) (k : Nat) (hk : look k s.mem = none) (b : Vblk) (hb : Seg.ok (AS.dom s.mem) b.row) :
    Rel Γ (ρ.up k w.heap.size) ⟨s.tm, lay k b s.mem⟩ a (w.alloc (.cells (Seg.cells ρ b.row).toArray b.ty)) := by
  obtain ⟨h1, h2⟩ := h.mem.make k hk b hb
  refine ⟨h1, fun t v hv => ?_, h.df, h.size⟩
  obtain ⟨h3, h4⟩ := h.tm t v hv
  exact ⟨by rw [AV.conc_agree (ρ := ρ) (D := AS.dom s.mem) h2 _ h4]; exact h3, AV.ok_mono (fun i hi => dom_lay.2 (.inr hi)) _ h4⟩
/-- A block is written. -/
theorem RelM.write {Γ : Ctx} {ρ : Env} {m : List (Nat × Vblk)} {w w' : World} (h : RelM Γ ρ m w) (k : Nat) (b0 b : Vblk) (hk : look k m = some b0) (hb : Seg.ok (AS.dom m) b.row)
    (hat : Sits ρ w' k b) (hoff : ∀ j, j ≠ ρ.b k → w'.heap[j]? = w.heap[j]?) (hsz : w'.heap.size = w.heap.size) (ho : w'.os = w.os) (ht : w'.tape = w.tape) (hp : w'.output = w.output) : RelM Γ ρ (lay k b m) w' := by
  have hdk : AS.dom m k := by unfold AS.dom; rw [hk]; rfl
  have hdom : ∀ j, AS.dom (lay k b m) j ↔ AS.dom m j := fun j => by
    rw [dom_lay]; exact ⟨fun e => e.elim (fun e => by subst e; exact hdk) id, .inr⟩
  refine ⟨fun j c hj => ?_, fun i j hi hj => h.inj i j ((hdom i).1 hi) ((hdom j).1 hj), fun j hj => h.own j ((hdom j).1 hj), fun j hj => ⟨(hdom j).2 (h.fix j hj).1, (h.fix j hj).2⟩, ?_⟩
  · rw [look_lay] at hj
    split at hj
    · rename_i e
      subst e
      simp only [Option.some.injEq] at hj
      subst hj
      exact ⟨hat, Seg.ok_mono (fun i hi => (hdom i).2 hi) _ hb⟩
    · rename_i e
      obtain ⟨h1, h2⟩ := h.sits j c hj
      refine ⟨?_, Seg.ok_mono (fun i hi => (hdom i).2 hi) _ h2⟩
      unfold Sits at *
      rw [hoff _ (fun e2 => e (h.inj j k (by unfold AS.dom; rw [hj]; rfl) hdk e2))]
      exact h1
  · refine ⟨ho.trans h.fr.os, ht.trans h.fr.tape, hp.trans h.fr.output, by rw [hsz]; exact h.fr.size, fun j hj hF => ?_⟩
    rw [hoff j ?_]
    · exact h.fr.block j hj hF
    · intro e
      rcases h.own k hdk with ⟨_, hf⟩ | hf
      · exact hF (e ▸ hf)
      · omega
theorem Rel.write {Γ : Ctx} {ρ : Env} {s : AS} {a : Act} {w w' : World} (h : Rel Γ ρ s a w) (k : Nat) (b0 b : Vblk) (hk : look k s.mem = some b0) (hb : Seg.ok (AS.dom s.mem) b.row)
    (hat : Sits ρ w' k b) (hoff : ∀ j, j ≠ ρ.b k → w'.heap[j]? = w.heap[j]?) (hsz : w'.heap.size = w.heap.size) (ho : w'.os = w.os) (ht : w'.tape = w.tape) (hp : w'.output = w.output) : Rel Γ ρ ⟨s.tm, lay k b s.mem⟩ a w' := by
  have hdk : AS.dom s.mem k := by unfold AS.dom; rw [hk]; rfl
  exact ⟨h.mem.write k b0 b hk hb hat hoff hsz ho ht hp, fun t v hv => ⟨(h.tm t v hv).1, AV.ok_mono (fun i hi => dom_lay.2 (.inr hi)) _ (h.tm t v hv).2⟩, h.df, h.size⟩

/-! Operations. -/
def ev (tm : List (Nat × AV)) : Operand → Option AV
  | .tmp t => look t tm
  | .const v => some (.val v)
  | .global g => some (.val (.pointer (some ⟨g, 0, none⟩)))
  | .func f => some (.val (.func (.func f) #[] #[]))
def evV (tm : List (Nat × AV)) (x : Operand) : Value := match ev tm x with
  | some v => match v.toV with
    | some y => y
    | none => undef
  | none => undef
def evC (ρ : Env) (tm : List (Nat × AV)) (x : Operand) : Value := match ev tm x with
  | some v => v.conc ρ
  | none => undef
theorem Rel.ev {Γ : Ctx} {ρ : Env} {s : AS} {a : Act} {w : World} (h : Rel Γ ρ s a w) {x : Operand} {v : AV} (hx : ev s.tm x = some v) : a.eval x = v.conc ρ ∧ v.ok (AS.dom s.mem) := by
  cases x with
  | tmp t =>
    obtain ⟨h1, h2⟩ := h.tm t v hx
    refine ⟨?_, h2⟩
    simp only [Act.eval, Array.getD_eq_getD_getElem?, h1, Option.getD_some]
  | const c => simp only [Go.Proofs.Ythgnmpjcbicdhaa.ev, Option.some.injEq] at hx; subst hx; exact ⟨by simp [Act.eval, AV.conc], by simp [AV.ok]⟩
  | global g => simp only [Go.Proofs.Ythgnmpjcbicdhaa.ev, Option.some.injEq] at hx; subst hx; exact ⟨by simp [Act.eval, AV.conc], by simp [AV.ok]⟩
  | func f => simp only [Go.Proofs.Ythgnmpjcbicdhaa.ev, Option.some.injEq] at hx; subst hx; exact ⟨by simp [Act.eval, AV.conc], by simp [AV.ok]⟩

/-- What is told of an operation: its value; its value, spelled otherwise; an index; bounds; how a block is to be seen; what a call answers. -/
inductive Hint where
  | as (v : AV)
  | eq (v : AV)
  | ix (n : Nat)
  | sub (lo hi : Nat)
  | row (r : List Seg)
  | call (r : AV)
  | cmp (b : Bool)
inductive Res where
  | val (v : AV) (rd : List Nat) (vc : List Prop)
  | new (v : AV) (b : Vblk) (vc : List Prop)
  | wr (k : Nat) (b : Vblk) (vc : List Prop)
  | call (f : FuncId) (args : List Value) (r : AV) (vc : List Prop)
def Res.vc : Res → List Prop
  | .val _ _ vc => vc
  | .new _ _ vc => vc
  | .wr _ _ vc => vc
  | .call _ _ _ vc => vc

def isSelect : Op → Bool
  | .select .. => true
  | _ => false
def allIn (tm : List (Nat × AV)) : List Operand → Bool
  | [] => true
  | x :: r => match ev tm x with
    | some _ => allIn tm r
    | none => false
def allV (tm : List (Nat × AV)) : List Operand → Bool
  | [] => true
  | x :: r => match ev tm x with
    | some v => match v.toV with
      | some _ => allV tm r
      | none => false
    | none => false
def No (_ : Nat) : Prop := False
def AV.vc (v : AV) : List Prop := match v with
  | .val _ => []
  | v => [v.ok No]
/-- '==' and '!=' of structs and arrays. -/
def cmpOp (Γ : Ctx) (b : Bool) (op : BinOp) (t : TypeId) (x y : Operand) (u v : Option AV) : Option Res :=
  match u, v with
  | some u, some v => match u.toV, v.toV with
    | some (.agg c), some (.agg d) => match prun Γ.P (eqGuard op t x y (.agg c) (.agg d)) with
      | some _ => match op with
        | .eql => some (.val (.val (.bool b)) [] [∀ w, (Op.equal t (.agg c) (.agg d)).run Γ.P w = .ok b w])
        | .neq => some (.val (.val (.bool (!b))) [] [∀ w, (Op.equal t (.agg c) (.agg d)).run Γ.P w = .ok b w])
        | _ => none
      | none => none
    | _, _ => none
  | _, _ => none
/-- Operations that look at no block of the call's own. -/
def genOp (Γ : Ctx) (h : Option Hint) (o : Oper) (tm : List (Nat × AV)) : Option Res :=
  match isSelect o.op with
  | true => none
  | false => match h with
    | some (.call v) => match allV tm o.op.operands.toList, v.toV with
      | true, some y => match prun Γ.P (execOp (evV tm) o) with
        | some (.enter f args) => some (.call f args.toList v ((∀ w, Fr Γ.F Γ.w0 w → Calls Γ.P f args w fun e w' => e = .returned y ∧ Below w.heap.size w w') :: v.vc))
        | _ => none
      | _, _ => none
    | some (.cmp b) => match o.op with
      | .binOp op t x y _ => cmpOp Γ b op t x y (ev tm x) (ev tm y)
      | _ => none
    | some (.as v) => match allIn tm o.op.operands.toList with
      | true => some (.val v [] ((∀ ρ w, Fr Γ.F Γ.w0 w → (execOp (evC ρ tm) o).run Γ.P w = .ok (.value (v.conc ρ)) w) :: v.vc))
      | false => none
    | some (.eq v) => match allV tm o.op.operands.toList, v.toV with
      | true, some y => match prun Γ.P (execOp (evV tm) o) with
        | some (.value x) => some (.val v [] ((x = y) :: v.vc))
        | _ => none
      | _, _ => none
    | _ => match allV tm o.op.operands.toList with
      | true => match prun Γ.P (execOp (evV tm) o) with
        | some (.value x) => some (.val (.val x) [] [])
        | _ => none
      | false => none

/-- Of what form the variables of a type are: some none: one cell; some (some n): a struct or an array of n cells. -/
def kindOf (Γ : Ctx) (t : TypeId) : Option (Option Nat) :=
  match Γ.P.underlying t, Γ.P.info? t with
  | some d, some i => match d.isRow with
    | true => some (some i.size)
    | false => match Nat.beq i.size 1 with
      | true => some none
      | false => none
  | _, _ => none
def loadOp (Γ : Ctx) (t : TypeId) (p : AV) (mem : List (Nat × Vblk)) : Option Res :=
  match p with
  | .ptr k off => match look k mem, kindOf Γ t with
    | some b, some none => match Seg.get off b.row with
      | some x => some (.val x [k] [])
      | none => none
    | some b, some (some n) => match Seg.cut off b.row with
      | some (_, r1) => match Seg.cut n r1 with
        | some (r2, _) => some (.val (.agg r2) [k] [])
        | none => none
      | none => none
    | _, _ => none
  | .elt k base i => match look k mem with
    | some b => match Seg.cut base b.row with
      | some (_, .ints kd m xs :: _) => match kindOf Γ t with
        | some none => some (.val (.val (.int kd (xs.getD i 0))) [k] [i < m])
        | some (some n) => some (.val (.agg [.ints kd n ((xs.drop i).take n)]) [k] [i + n ≤ m])
        | none => none
      | _ => none
    | none => none
  | _ => none
/-- A value's cells. -/
def AV.segs : AV → Option (List Seg)
  | .agg cs => some cs
  | .tup _ => none
  | .val x => match x with
    | .agg cs => match cs.toList.all (·.oneCell') with
      | true => some (cs.toList.map fun c => .cell (.val c))
      | false => none
    | .tuple _ => none
    | y => match y.oneCell' with
      | true => some [.cell (.val y)]
      | false => none
  | y => some [.cell y]
def Seg.setIn (k : IntKind) (m : Nat) (xs : List Int) (i : Nat) (r : List Seg) : AV → Option (List Seg)
  | .val (.int k' v) => match decide (k = k') with
    | true => some (.ints k m (xs.set i v) :: r)
    | false => none
  | _ => none
/-- A cell is written. -/
def Seg.set : Nat → AV → List Seg → Option (List Seg)
  | 0, x, .cell _ :: r => some (.cell x :: r)
  | n + 1, x, .cell y :: r => match Seg.set n x r with
    | some r' => some (.cell y :: r')
    | none => none
  | i, x, .ints k m xs :: r => match Nat.blt i m with
    | true => Seg.setIn k m xs i r x
    | false => match Seg.set (i - m) x r with
      | some r' => some (.ints k m xs :: r')
      | none => none
  | _, _, [] => none
def storeOp (Γ : Ctx) (t : TypeId) (p x : AV) (mem : List (Nat × Vblk)) : Option Res :=
  match p with
  | .ptr k off => match look k mem, kindOf Γ t with
    | some b, some none => match x.one with
      | true => match Seg.set off x b.row with
        | some r => some (.wr k ⟨r, b.ty⟩ [])
        | none => none
      | false => none
    | some b, some (some n) => match x.segs with
      | some cs => match Nat.beq (Seg.len cs) n with
        | true => match Seg.cut off b.row with
          | some (r0, r1) => match Seg.cut n r1 with
            | some (_, r2) => some (.wr k ⟨r0 ++ (cs ++ r2), b.ty⟩ [])
            | none => none
          | none => none
        | false => none
      | none => none
    | _, _ => none
  | .elt k base i => match look k mem with
    | some b => match Seg.cut base b.row with
      | some (r0, .ints kd m xs :: r2) => match kindOf Γ t with
        | some none => match x with
          | .val (.int kd' v) => match decide (kd = kd') with
            | true => some (.wr k ⟨r0 ++ .ints kd m (xs.set i v) :: r2, b.ty⟩ [i < m])
            | false => none
          | _ => none
        | some (some n) => match x with
          | .agg [.ints kd' n' ys] => match decide (kd = kd'), Nat.beq n' n with
            | true, true => some (.wr k ⟨r0 ++ .ints kd m (xs.take i ++ (ys ++ xs.drop (i + n))) :: r2, b.ty⟩ [i + n ≤ m])
            | _, _ => none
          | _ => none
        | none => none
      | _ => none
    | none => none
  | _ => none
def makeOp (Γ : Ctx) (nm : Nat) (h : Option Hint) (t : TypeId) (v : AV) : Option Res :=
  match h with
  | some (.row r) => match v.toV with
    | some y => some (.new (.ptr nm 0) ⟨r, t⟩ [∀ ρ, Seg.cells ρ r = y.cells.toList, Seg.ok No r])
    | none => none
  | _ => match v.segs with
    | some r => some (.new (.ptr nm 0) ⟨r, t⟩ [])
    | none => none

theorem run_loadVar_one {P : Program} (w : World) (a : Addr) (t : TypeId) (d : TypeDesc) (v : Value) (hu : P.underlying t = some d) (hd : d.isRow = false) (hc : w.cell? a = some v) : (loadVar t a).run P w = .ok v w := by
  have hagg : (isAgg t).run P w = .ok false w := by
    unfold isAgg
    rw [Sem.run_bind, run_underlying hu w]
    cases d <;> simp_all
  simp [loadVar, Sem.run_bind, hagg, hc]
theorem kindOf_none {Γ : Ctx} {t : TypeId} (h : kindOf Γ t = some none) : ∃ d, Γ.P.underlying t = some d ∧ d.isRow = false ∧ (Γ.P.info? t).map (·.size) = some 1 := by
  unfold kindOf at h
  split at h
  · rename_i d i hu hi
    split at h
    · simp at h
    · rename_i hd
      split at h
      · rename_i hb
        exact ⟨d, hu, by simpa using hd, by rw [hi]; simp [Nat.eq_of_beq_eq_true hb]⟩
      · simp at h
  · simp at h
theorem kindOf_some {Γ : Ctx} {t : TypeId} {n : Nat} (h : kindOf Γ t = some (some n)) : ∃ d, Γ.P.underlying t = some d ∧ d.isRow = true ∧ (Γ.P.info? t).map (·.size) = some n := by
  unfold kindOf at h
  split at h
  · rename_i d i hu hi
    split at h
    · rename_i hd
      simp only [Option.some.injEq] at h
      exact ⟨d, hu, by simpa using hd, by rw [hi]; simp [h]⟩
    · split at h <;> simp at h
  · simp at h
theorem Sits.cell {ρ : Env} {w : World} {k : Nat} {b : Vblk} (h : Sits ρ w k b) (o : Nat) : w.cell? ⟨ρ.b k, o, none⟩ = (Seg.cells ρ b.row)[o]? := by
  unfold Sits at h; simp [World.cell?, h]
theorem Sits.froz {ρ : Env} {w : World} {k : Nat} {b : Vblk} (h : Sits ρ w k b) (o : Nat) : w.frozen? ⟨ρ.b k, o, none⟩ = false := by
  unfold Sits at h; simp [World.frozen?, h]
theorem Sits.range {ρ : Env} {w : World} {k : Nat} {b : Vblk} (h : Sits ρ w k b) (o : Nat) (cs l : List Value) (he : ∀ j v, cs[j]? = some v → (Seg.cells ρ b.row)[o + j]? = some v) : w.rangeAt (ρ.b k) o cs := fun j v hv => by
  rw [h.cell]; exact he j v hv

/-! The operations are what they are told to be. -/
def ResOk (Γ : Ctx) (nm : Nat) (o : Oper) (ρ : Env) (s : AS) (a : Act) (w : World) : Res → Prop
  | .val v _ _ => (execOp a.eval o).run Γ.P w = .ok (.value (v.conc ρ)) w ∧ v.ok (AS.dom s.mem)
  | .new v b _ => look nm s.mem = none ∧ Seg.ok (AS.dom s.mem) b.row ∧ v.ok (AS.dom (lay nm b s.mem)) ∧
      (execOp a.eval o).run Γ.P w = .ok (.value (v.conc (ρ.up nm w.heap.size))) (w.alloc (.cells (Seg.cells ρ b.row).toArray b.ty))
  | .wr k b1 _ => ∃ b0 w', look k s.mem = some b0 ∧ (execOp a.eval o).run Γ.P w = .ok .skip w' ∧ Seg.ok (AS.dom s.mem) b1.row ∧ Sits ρ w' k b1 ∧
      (∀ j, j ≠ ρ.b k → w'.heap[j]? = w.heap[j]?) ∧ w'.heap.size = w.heap.size ∧ w'.os = w.os ∧ w'.tape = w.tape ∧ w'.output = w.output
  | .call f args r _ => (execOp a.eval o).run Γ.P w = .ok (.enter f args.toArray) w ∧ r.ok (AS.dom s.mem) ∧
      Calls Γ.P f args.toArray w fun e w' => e = .returned (r.conc ρ) ∧ Below w.heap.size w w'

theorem allIn_spec {tm : List (Nat × AV)} : ∀ (l : List Operand), allIn tm l = true → ∀ x ∈ l, ∃ v, ev tm x = some v
  | [], _, x, hx => by cases hx
  | y :: r, h, x, hx => by
    simp only [allIn] at h
    split at h
    · rename_i v hv
      rcases List.mem_cons.1 hx with rfl | hx
      · exact ⟨v, hv⟩
      · exact allIn_spec r h x hx
    · cases h
theorem allV_spec {tm : List (Nat × AV)} : ∀ (l : List Operand), allV tm l = true → ∀ x ∈ l, ∃ v y, ev tm x = some v ∧ v.toV = some y
  | [], _, x, hx => by cases hx
  | y :: r, h, x, hx => by
    simp only [allV] at h
    split at h
    · rename_i v hv
      split at h
      · rename_i z hz
        rcases List.mem_cons.1 hx with rfl | hx
        · exact ⟨v, z, hv, hz⟩
        · exact allV_spec r h x hx
      · cases h
    · cases h
theorem isSelect_no {o : Oper} (h : isSelect o.op = false) : ∀ cs b, o.op ≠ .select cs b := by
  intro cs b e; rw [e] at h; simp [isSelect] at h
theorem AV.vc_ok {v : AV} {D : Nat → Prop} (h : ∀ p ∈ v.vc, p) : v.ok D := by
  have hm : ∀ k, No k → D k := fun _ h => h.elim
  cases v <;> first | (simp [AV.ok]; done) | exact AV.ok_mono hm _ (h _ (by simp [AV.vc]))
theorem toV_ok (D : Nat → Prop) {v : AV} {y : Value} (hv : ∀ p ∈ v.vc, p) : v.ok D := AV.vc_ok hv
theorem cmpOp_sound {Γ : Ctx} {nm : Nat} {o : Oper} {b : Bool} {op : BinOp} {t yt : TypeId} {x y : Operand} (ho : o.op = .binOp op t x y yt) {ρ : Env} {s : AS} {a : Act} {w : World} {r : Res} (hr : cmpOp Γ b op t x y (ev s.tm x) (ev s.tm y) = some r) (hvc : ∀ p ∈ r.vc, p) (hR : Rel Γ ρ s a w) : ResOk Γ nm o ρ s a w r := by
  unfold cmpOp at hr
  split at hr
  · rename_i u v hu hv
    split at hr
    · rename_i c d hc hd
      have hx : a.eval x = .agg c := by rw [(hR.ev hu).1, AV.conc_toV ρ u _ hc]
      have hy : a.eval y = .agg d := by rw [(hR.ev hv).1, AV.conc_toV ρ v _ hd]
      split at hr
      · rename_i hg
        have hg := prun_run Γ.P _ _ hg w
        split at hr
        · simp only [Option.some.injEq] at hr
          subst hr
          have h1 : ∀ w, (Op.equal t (.agg c) (.agg d)).run Γ.P w = .ok b w := hvc _ (by simp [Res.vc])
          refine ⟨?_, by simp [AV.ok]⟩
          unfold execOp
          simp only [ho, hx, hy, Sem.run_bind, hg, Result.andThen_ok, Sem.run_pure, AV.conc]
          show ((do pure (Value.bool (← Op.equal t (.agg c) (.agg d))) : Sem Value).run Γ.P w).andThen _ = _
          rw [Sem.run_bind, h1 w]
          rfl
        · simp only [Option.some.injEq] at hr
          subst hr
          have h1 : ∀ w, (Op.equal t (.agg c) (.agg d)).run Γ.P w = .ok b w := hvc _ (by simp [Res.vc])
          refine ⟨?_, by simp [AV.ok]⟩
          unfold execOp
          simp only [ho, hx, hy, Sem.run_bind, hg, Result.andThen_ok, Sem.run_pure, AV.conc]
          show ((do pure (Value.bool (!(← Op.equal t (.agg c) (.agg d)))) : Sem Value).run Γ.P w).andThen _ = _
          rw [Sem.run_bind, h1 w]
          rfl
        · cases hr
      · cases hr
    · cases hr
  · cases hr
theorem genOp_sound {Γ : Ctx} {nm : Nat} {h : Option Hint} {o : Oper} {tm : List (Nat × AV)} {ρ : Env} {s : AS} {a : Act} {w : World} {r : Res} (hr : genOp Γ h o tm = some r) (hvc : ∀ p ∈ r.vc, p) (hR : Rel Γ ρ s a w)
    (hag : ∀ x ∈ o.op.operands, ev tm x = ev s.tm x) : ResOk Γ nm o ρ s a w r := by
  have heC : isSelect o.op = false → allIn tm o.op.operands.toList = true → execOp a.eval o = execOp (evC ρ tm) o := fun hsel hall =>
    execOp_congr o (isSelect_no hsel) fun x hx => by
      obtain ⟨u, hu⟩ := allIn_spec _ hall x (by simpa using hx)
      unfold evC
      rw [hu]
      rw [hag x hx] at hu
      rw [(hR.ev hu).1]
  have heV : isSelect o.op = false → allV tm o.op.operands.toList = true → execOp a.eval o = execOp (evV tm) o := fun hsel hall =>
    execOp_congr o (isSelect_no hsel) fun x hx => by
      obtain ⟨u, z, hu, hz⟩ := allV_spec _ hall x (by simpa using hx)
      unfold evV
      rw [hu]
      simp only [hz]
      rw [hag x hx] at hu
      rw [(hR.ev hu).1]
      exact AV.conc_toV ρ u z hz
  unfold genOp at hr
  split at hr
  · cases hr
  · rename_i hsel
    split at hr
    · rename_i v
      split at hr
      · rename_i y hall hy
        have he := heV hsel hall
        split at hr
        · rename_i f args hx
          simp only [Option.some.injEq] at hr
          subst hr
          have hc : ∀ w, Fr Γ.F Γ.w0 w → Calls Γ.P f args w fun e w' => e = .returned y ∧ Below w.heap.size w w' := hvc _ (by simp only [Res.vc]; exact List.mem_cons_self)
          refine ⟨?_, AV.vc_ok fun p hp => hvc p (by simp [Res.vc, hp]), ?_⟩
          · rw [he, prun_run Γ.P _ _ hx w]
          · rw [AV.conc_toV ρ v y hy]
            exact hc w hR.mem.fr
        · cases hr
      · cases hr
    · split at hr
      · rename_i op t x y yt ho
        rw [hag x (by simp [ho, Op.operands]), hag y (by simp [ho, Op.operands])] at hr
        exact cmpOp_sound ho hr hvc hR
      · cases hr
    · rename_i v
      split at hr
      · rename_i hall
        simp only [Option.some.injEq] at hr
        subst hr
        refine ⟨?_, AV.vc_ok fun p hp => hvc p (by simp [Res.vc, hp])⟩
        have hl : ∀ ρ w, Fr Γ.F Γ.w0 w → (execOp (evC ρ tm) o).run Γ.P w = .ok (.value (v.conc ρ)) w := hvc _ (by simp only [Res.vc]; exact List.mem_cons_self)
        rw [heC hsel hall]
        exact hl ρ w hR.mem.fr
      · cases hr
    · rename_i v
      split at hr
      · rename_i y hall hy
        split at hr
        · rename_i x hx
          simp only [Option.some.injEq] at hr
          subst hr
          refine ⟨?_, AV.vc_ok fun p hp => hvc p (by simp [Res.vc, hp])⟩
          have hxy : x = y := hvc _ (by simp [Res.vc])
          rw [heV hsel hall, prun_run Γ.P _ _ hx w, AV.conc_toV ρ v y hy, hxy]
        · cases hr
      · cases hr
    · split at hr
      · rename_i hall
        split at hr
        · rename_i x hx
          simp only [Option.some.injEq] at hr
          subst hr
          refine ⟨?_, by simp [AV.ok]⟩
          rw [heV hsel hall, prun_run Γ.P _ _ hx w]
          simp [AV.conc]
        · cases hr
      · cases hr

theorem RelM.at {Γ : Ctx} {ρ : Env} {m : List (Nat × Vblk)} {w : World} (h : RelM Γ ρ m w) {k : Nat} {b : Vblk} (hk : look k m = some b) : Sits ρ w k b ∧ Seg.ok (AS.dom m) b.row := h.sits k b hk
theorem cut_ints {D : Nat → Prop} {ρ : Env} {row r0 r2 : List Seg} {base m : Nat} {kd : IntKind} {xs : List Int} (h : Seg.cut base row = some (r0, .ints kd m xs :: r2)) (ho : Seg.ok D row) :
    row = r0 ++ .ints kd m xs :: r2 ∧ Seg.ok D r0 ∧ xs.length = m ∧ Seg.ok D r2 ∧ (Seg.cells ρ r0).length = base ∧ Seg.cells ρ row = Seg.cells ρ r0 ++ (xs.map (Value.int kd) ++ Seg.cells ρ r2) := by
  obtain ⟨h1, h2, h3, h4⟩ := Seg.cut_spec ρ _ _ _ _ h ho
  simp only [Seg.ok] at h3
  exact ⟨h1, h2, h3.1, h3.2, by rw [Seg.cells_len ρ r0 h2, h4], by rw [h1, Seg.cells_append]; rfl⟩
theorem loadOp_sound {Γ : Ctx} {nm : Nat} {o : Oper} {t : TypeId} {x : Operand} {p : AV} (ho : o.op = .load t x) {ρ : Env} {s : AS} {a : Act} {w : World} {r : Res} (hx : ev s.tm x = some p) (hr : loadOp Γ t p s.mem = some r) (hvc : ∀ p ∈ r.vc, p) (hR : Rel Γ ρ s a w) : ResOk Γ nm o ρ s a w r := by
  have hx1 := (hR.ev hx).1
  have hexec : ∀ (ad : Addr) (v : Value), a.eval x = .pointer (some ad) → (loadVar t ad).run Γ.P w = .ok v w → (execOp a.eval o).run Γ.P w = .ok (.value v) w := by
    intro ad v h1 h2
    unfold execOp
    simp [ho, h1, Instr.loadAt, Instr.sureAddr, h2]
  unfold loadOp at hr
  split at hr
  · rename_i k off
    simp only [AV.conc] at hx1
    split at hr
    · rename_i b hb hk
      obtain ⟨d, hd1, hd2, _⟩ := kindOf_none hk
      obtain ⟨hs, hok⟩ := hR.mem.at hb
      split at hr
      · rename_i y hy
        simp only [Option.some.injEq] at hr
        subst hr
        obtain ⟨h1, h2⟩ := Seg.get_spec ρ _ _ _ hy hok
        exact ⟨hexec _ _ hx1 (run_loadVar_one w _ t d _ hd1 hd2 (by rw [hs.cell]; exact h1)), h2⟩
      · cases hr
    · rename_i b n hb hk
      obtain ⟨d, hd1, hd2, hd3⟩ := kindOf_some hk
      obtain ⟨hs, hok⟩ := hR.mem.at hb
      split at hr
      · rename_i r0 r1 hc1
        split at hr
        · rename_i r2 r3 hc2
          simp only [Option.some.injEq] at hr
          subst hr
          obtain ⟨e1, e2, e3, e4⟩ := Seg.cut_spec ρ _ _ _ _ hc1 hok
          obtain ⟨f1, f2, f3, f4⟩ := Seg.cut_spec ρ _ _ _ _ hc2 e3
          have l0 : (Seg.cells ρ r0).length = off := by rw [Seg.cells_len ρ r0 e2, e4]
          have l2 : (Seg.cells ρ r2).length = n := by rw [Seg.cells_len ρ r2 f2, f4]
          refine ⟨hexec _ _ hx1 ?_, by simpa [AV.ok] using f2⟩
          simp only [AV.conc]
          refine run_loadVar_mid w _ _ t (Seg.cells ρ r2) d (hs.range _ _ [] fun j v hv => ?_) hd1 hd2 (by rw [hd3, l2])
          have hj : j < (Seg.cells ρ r2).length := (List.getElem?_eq_some_iff.1 hv).1
          rw [e1, f1, Seg.cells_append, Seg.cells_append, List.getElem?_append_right (by omega), l0, show off + j - off = j by omega, List.getElem?_append_left hj]
          exact hv
        · cases hr
      · cases hr
    · cases hr
  · rename_i k base i
    simp only [AV.conc] at hx1
    split at hr
    · rename_i b hb
      obtain ⟨hs, hok⟩ := hR.mem.at hb
      split at hr
      · rename_i r0 kd m xs r2 hc
        obtain ⟨e1, e2, e3, e4, e5, e6⟩ := cut_ints (ρ := ρ) hc hok
        split at hr
        · rename_i hk
          obtain ⟨d, hd1, hd2, _⟩ := kindOf_none hk
          simp only [Option.some.injEq] at hr
          subst hr
          have hlt : i < m := hvc _ (by simp [Res.vc])
          refine ⟨hexec _ _ hx1 (run_loadVar_one w _ t d _ hd1 hd2 ?_), by simp [AV.ok]⟩
          rw [hs.cell, e6, List.getElem?_append_right (by omega), e5, show base + i - base = i by omega, List.getElem?_append_left (by simp; omega), List.getElem?_map]
          simp [AV.conc, List.getD_eq_getElem?_getD, show i < xs.length by omega]
        · rename_i n hk
          obtain ⟨d, hd1, hd2, hd3⟩ := kindOf_some hk
          simp only [Option.some.injEq] at hr
          subst hr
          have hlt : i + n ≤ m := hvc _ (by simp [Res.vc])
          refine ⟨hexec _ _ hx1 ?_, ?_⟩
          · simp only [AV.conc, Seg.cells, Seg.cell1, List.append_nil]
            refine run_loadVar_mid w _ _ t _ d (hs.range _ _ [] fun j v hv => ?_) hd1 hd2 (by rw [hd3]; simp; omega)
            have hj : j < n := by have := (List.getElem?_eq_some_iff.1 hv).1; simp at this; omega
            rw [e6, List.getElem?_append_right (by omega), e5, show base + i + j - base = i + j by omega, List.getElem?_append_left (by simp; omega)]
            rw [List.getElem?_map, List.getElem?_take_of_lt hj, List.getElem?_drop] at hv
            rw [List.getElem?_map]
            exact hv
          · simp [AV.ok, Seg.ok]; omega
        · cases hr
      · cases hr
    · cases hr
  · cases hr

theorem setCells_heap (b : Nat) : ∀ (vs : List Value) (o : Nat) (w : World) (C : Array Value) (T : TypeId), w.heap[b]? = some (.cells C T (0, 0)) → o + vs.length ≤ C.size →
    (w.setCells b o vs).heap[b]? = some (.cells (C.toList.take o ++ (vs ++ C.toList.drop (o + vs.length))).toArray T (0, 0)) ∧ (∀ j, j ≠ b → (w.setCells b o vs).heap[j]? = w.heap[j]?) ∧ (w.setCells b o vs).heap.size = w.heap.size ∧ (w.setCells b o vs).os = w.os ∧ (w.setCells b o vs).tape = w.tape ∧ (w.setCells b o vs).output = w.output
  | [], o, w, C, T, h, hl => by
    have e : C.toList.take o ++ ([] ++ C.toList.drop (o + ([] : List Value).length)) = C.toList := by simp
    rw [e]
    exact ⟨h, fun _ _ => rfl, rfl, rfl, rfl, rfl⟩
  | v :: r, o, w, C, T, h, hl => by
    simp only [List.length_cons] at hl
    have h1 : (w.setCell ⟨b, o, none⟩ v).heap[b]? = some (.cells (C.setIfInBounds o v) T (0, 0)) := by
      simp [World.setCell, Array.getElem?_modify, h]
    obtain ⟨g1, g2, g3, g4, g5, g6⟩ := setCells_heap b r (o + 1) (w.setCell ⟨b, o, none⟩ v) _ T h1 (by simp; omega)
    have hlt : o < C.toList.length := by simp; omega
    have e : (C.setIfInBounds o v).toList.take (o + 1) ++ (r ++ (C.setIfInBounds o v).toList.drop (o + 1 + r.length)) = C.toList.take o ++ (v :: r ++ C.toList.drop (o + (v :: r).length)) := by
      rw [Array.toList_setIfInBounds, List.take_succ_eq_append_getElem (by simpa using hlt), List.take_set_of_le (Nat.le_refl o), List.getElem_set_self, List.drop_set_of_lt (by omega)]
      simp only [List.append_assoc, List.singleton_append, List.length_cons, List.cons_append, List.nil_append]
      rw [show o + 1 + r.length = o + (r.length + 1) by omega]
    rw [e] at g1
    refine ⟨g1, fun j hj => ?_, ?_, g4, g5, g6⟩
    · show ((w.setCell ⟨b, o, none⟩ v).setCells b (o + 1) r).heap[j]? = _
      rw [g2 j hj]
      simp [World.setCell, Array.getElem?_modify, Ne.symm hj]
    · show ((w.setCell ⟨b, o, none⟩ v).setCells b (o + 1) r).heap.size = _
      rw [g3]; simp [World.setCell]

theorem storeCells_sound {Γ : Ctx} {o : Oper} {t : TypeId} {x y : Operand} (ho : o.op = .store t x y) {ρ : Env} {s : AS} {a : Act} {w : World} (hR : Rel Γ ρ s a w) {k off : Nat} {b : Vblk} (hb : look k s.mem = some b)
    {r0 old new r2 : List Seg} (hrow : b.row = r0 ++ (old ++ r2)) (h0 : Seg.ok (AS.dom s.mem) r0) (h1 : Seg.ok (AS.dom s.mem) old) (h2 : Seg.ok (AS.dom s.mem) r2) (hn : Seg.ok (AS.dom s.mem) new) (hoff : Seg.len r0 = off) (hlen : Seg.len new = Seg.len old)
    (hx : a.eval x = .pointer (some ⟨ρ.b k, off, none⟩)) {v : Value} (hy : a.eval y = v) (hv : v.cells.toList = Seg.cells ρ new) (hi : (Γ.P.info? t).map (·.size) = some (Seg.len new)) :
    ∃ w', (execOp a.eval o).run Γ.P w = .ok .skip w' ∧ Sits ρ w' k ⟨r0 ++ (new ++ r2), b.ty⟩ ∧
      (∀ j, j ≠ ρ.b k → w'.heap[j]? = w.heap[j]?) ∧ w'.heap.size = w.heap.size ∧ w'.os = w.os ∧ w'.tape = w.tape ∧ w'.output = w.output := by
  obtain ⟨hs, hok⟩ := hR.mem.at hb
  have l0 : (Seg.cells ρ r0).length = off := by rw [Seg.cells_len ρ r0 h0, hoff]
  have l1 : (Seg.cells ρ old).length = Seg.len old := Seg.cells_len ρ old h1
  have ln : (Seg.cells ρ new).length = Seg.len new := Seg.cells_len ρ new hn
  have hcells : Seg.cells ρ b.row = Seg.cells ρ r0 ++ (Seg.cells ρ old ++ Seg.cells ρ r2) := by rw [hrow, Seg.cells_append, Seg.cells_append]
  have hsize : off + (Seg.cells ρ new).length ≤ (Seg.cells ρ b.row).toArray.size := by rw [hcells]; simp; omega
  obtain ⟨g1, g2, g3, g4, g5, g6⟩ := setCells_heap (ρ.b k) (Seg.cells ρ new) off w (Seg.cells ρ b.row).toArray b.ty hs hsize
  refine ⟨w.setCells (ρ.b k) off (Seg.cells ρ new), ?_, ?_, g2, g3, g4, g5, g6⟩
  · have hrun := run_storeCells_cells (P := Γ.P) (ρ.b k) off (Seg.cells ρ new) 0 w (fun j hj => by
        rw [hs.cell, hcells, List.getElem?_append_right (by omega), List.getElem?_append_left (by omega)]
        rw [List.getElem?_eq_getElem (by omega)]; rfl) (fun j hj => hs.froz _) (fun u hu => Seg.cells_one ρ new hn u hu)
    cases hq : Γ.P.info? t with
    | none => simp [hq] at hi
    | some i =>
      have hsz : i.size = Seg.len new := by simpa [hq] using hi
      have hvs : v.cells.size = i.size := by rw [← Array.length_toList, hv, ln, hsz]
      unfold execOp
      simp only [Nat.add_zero] at hrun
      simp [ho, hx, hy, Instr.storeAt, Instr.sureAddr, storeVar, sizeOf, typeInfo, hq, hvs, hv, hrun]
  · unfold Sits
    rw [g1]
    congr 2
    simp only [hcells, Seg.cells_append]
    rw [List.take_append_of_le_length (by omega), List.take_of_length_le (by omega), List.drop_append, List.drop_of_length_le (by omega), List.nil_append, l0,
      show off + (Seg.cells ρ new).length - off = Seg.len old by omega, List.drop_append, List.drop_of_length_le (by omega), List.nil_append, l1, Nat.sub_self, List.drop_zero]
theorem AV.segs_spec {x : AV} {cs : List Seg} (h : x.segs = some cs) {D : Nat → Prop} (hx : x.ok D) (ρ : Env) : (x.conc ρ).cells.toList = Seg.cells ρ cs ∧ Seg.ok D cs := by
  cases x with
  | agg c => simp only [AV.segs, Option.some.injEq] at h; subst h; exact ⟨by simp [AV.conc, Value.cells], by simpa [AV.ok] using hx⟩
  | tup c => simp [AV.segs] at h
  | ptr k off => simp only [AV.segs, Option.some.injEq] at h; subst h; exact ⟨by simp [AV.conc, Value.cells, Seg.cells, Seg.cell1], by simp only [Seg.ok, AV.one, AV.ok]; exact ⟨⟨trivial, by simpa [AV.ok] using hx⟩, trivial⟩⟩
  | elt k off i => simp only [AV.segs, Option.some.injEq] at h; subst h; exact ⟨by simp [AV.conc, Value.cells, Seg.cells, Seg.cell1], by simp only [Seg.ok, AV.one, AV.ok]; exact ⟨⟨trivial, by simpa [AV.ok] using hx⟩, trivial⟩⟩
  | lst k off i l c => simp only [AV.segs, Option.some.injEq] at h; subst h; exact ⟨by simp [AV.conc, Value.cells, Seg.cells, Seg.cell1], by simp only [Seg.ok, AV.one, AV.ok]; exact ⟨⟨trivial, by simpa [AV.ok] using hx⟩, trivial⟩⟩
  | ifc ty y => simp only [AV.segs, Option.some.injEq] at h; subst h; exact ⟨by simp [AV.conc, Value.cells, Seg.cells, Seg.cell1], by simp only [Seg.ok, AV.one]; exact ⟨⟨trivial, hx⟩, trivial⟩⟩
  | val v =>
    simp only [AV.segs] at h
    split at h
    · rename_i c
      split at h
      · rename_i hall
        simp only [Option.some.injEq] at h
        subst h
        simp only [AV.conc, Value.cells]
        have key : ∀ l : List Value, l.all (·.oneCell') = true → l = Seg.cells ρ (l.map fun c => Seg.cell (.val c)) ∧ Seg.ok D (l.map fun c => Seg.cell (.val c)) := by
          intro l
          induction l with
          | nil => intro _; exact ⟨rfl, trivial⟩
          | cons y r ih =>
            intro hl
            simp only [List.all_cons, Bool.and_eq_true] at hl
            obtain ⟨i1, i2⟩ := ih hl.2
            refine ⟨?_, ?_⟩
            · simp only [List.map_cons, Seg.cells, Seg.cell1, AV.conc, List.singleton_append]
              rw [← i1]
            · simp only [List.map_cons, Seg.ok]
              exact ⟨⟨hl.1, by simp [AV.ok]⟩, i2⟩
        exact key _ hall
      · cases h
    · cases h
    · rename_i hna hnt
      split at h
      · rename_i h1
        simp only [Option.some.injEq] at h
        subst h
        refine ⟨?_, by simp only [Seg.ok, AV.one, AV.ok]; exact ⟨⟨h1, trivial⟩, trivial⟩⟩
        cases v <;> first | (simp [AV.conc, Value.cells, Seg.cells, Seg.cell1]; done) | (exfalso; exact hna _ rfl) 
      · cases h
theorem Seg.set_spec {D : Nat → Prop} (ρ : Env) : ∀ (row : List Seg) (i : Nat) (x : AV) (r : List Seg), Seg.set i x row = some r → Seg.ok D row → x.one = true → x.ok D →
    Seg.ok D r ∧ Seg.cells ρ r = (Seg.cells ρ row).set i (x.conc ρ) ∧ i < (Seg.cells ρ row).length
  | [], i, x, r, h, _, _, _ => by cases i <;> simp [Seg.set] at h
  | .cell y :: row, 0, x, r, h, hr, h1, h2 => by
    simp only [Seg.set, Option.some.injEq] at h
    subst h
    simp only [Seg.ok] at hr ⊢
    exact ⟨⟨⟨h1, h2⟩, hr.2⟩, by simp [Seg.cells, Seg.cell1], by simp [Seg.cells, Seg.cell1]⟩
  | .cell y :: row, n + 1, x, r, h, hr, h1, h2 => by
    simp only [Seg.set] at h
    split at h
    · rename_i r' hs
      simp only [Option.some.injEq] at h
      subst h
      simp only [Seg.ok] at hr ⊢
      obtain ⟨i1, i2, i3⟩ := Seg.set_spec ρ row n x r' hs hr.2 h1 h2
      exact ⟨⟨hr.1, i1⟩, by simp [Seg.cells, Seg.cell1, i2], by simp [Seg.cells, Seg.cell1]; omega⟩
    · cases h
  | .ints k m xs :: row, i, x, r, h, hr, h1, h2 => by
    have h' : (match Nat.blt i m with
      | true => Seg.setIn k m xs i row x
      | false => match Seg.set (i - m) x row with
        | some r' => some (.ints k m xs :: r')
        | none => none) = some r := by cases i <;> (simp only [Seg.set] at h; exact h)
    simp only [Seg.ok] at hr
    split at h'
    · rename_i hb
      have hlt : i < m := Nat.le_of_ble_eq_true hb
      cases x with
      | val y =>
        cases y with
        | int k' v =>
          simp only [Seg.setIn] at h'
          by_cases hk : k = k'
          · subst hk
            simp only [decide_true, Option.some.injEq] at h'
            subst h'
            simp only [Seg.ok]
            refine ⟨⟨by simp [hr.1], hr.2⟩, ?_, by simp [Seg.cells, Seg.cell1, hr.1]; omega⟩
            simp only [Seg.cells, Seg.cell1, AV.conc]
            rw [List.set_append_left _ _ (by simp; omega), List.map_set]
          · simp [hk] at h'
        | _ => simp [Seg.setIn] at h'
      | _ => simp [Seg.setIn] at h'
    · rename_i hb
      have hge : m ≤ i := by
        rcases Nat.lt_or_ge i m with h2 | h2
        · have : Nat.blt i m = true := Nat.ble_eq_true_of_le h2
          rw [this] at hb; cases hb
        · exact h2
      split at h'
      · rename_i r' hs
        simp only [Option.some.injEq] at h'
        subst h'
        obtain ⟨i1, i2, i3⟩ := Seg.set_spec ρ row (i - m) x r' hs hr.2 h1 h2
        simp only [Seg.ok]
        refine ⟨⟨hr.1, i1⟩, ?_, by simp [Seg.cells, Seg.cell1, hr.1]; omega⟩
        simp only [Seg.cells, Seg.cell1]
        rw [List.set_append_right _ _ (by simp; omega), i2]
        simp [hr.1]
      · cases h'

theorem storeOp_sound {Γ : Ctx} {nm : Nat} {o : Oper} {t : TypeId} {x y : Operand} {p u : AV} (ho : o.op = .store t x y) {ρ : Env} {s : AS} {a : Act} {w : World} {r : Res} (hx : ev s.tm x = some p) (hy : ev s.tm y = some u) (hr : storeOp Γ t p u s.mem = some r) (hvc : ∀ p ∈ r.vc, p) (hR : Rel Γ ρ s a w) : ResOk Γ nm o ρ s a w r := by
  have hx1 := (hR.ev hx).1
  obtain ⟨hy1, hy2⟩ := hR.ev hy
  unfold storeOp at hr
  split at hr
  · rename_i k off
    simp only [AV.conc] at hx1
    split at hr
    · rename_i b hb hk
      obtain ⟨d, hd1, hd2, hd3⟩ := kindOf_none hk
      obtain ⟨hs, hok⟩ := hR.mem.at hb
      split at hr
      · rename_i h1
        split at hr
        · rename_i r' hset
          simp only [Option.some.injEq] at hr
          subst hr
          obtain ⟨i1, i2, i3⟩ := Seg.set_spec ρ _ _ _ _ hset hok h1 hy2
          have hst := setCells_heap (ρ.b k) [u.conc ρ] off w (Seg.cells ρ b.row).toArray b.ty hs (by simp; omega)
          obtain ⟨g1, g2, g3, g4, g5, g6⟩ := hst
          refine ⟨b, _, hb, ?_, i1, ?_, g2, g3, g4, g5, g6⟩
          · have hrun := run_storeCells_cells (P := Γ.P) (ρ.b k) off [u.conc ρ] 0 w (fun j hj => by
                simp only [List.length_singleton] at hj
                obtain rfl : j = 0 := by omega
                rw [hs.cell, List.getElem?_eq_getElem (by omega)]; rfl) (fun j hj => hs.froz _) (fun v hv => by
                simp only [List.mem_singleton] at hv; subst hv; exact AV.one_conc ρ u h1)
            cases hq : Γ.P.info? t with
            | none => simp [hq] at hd3
            | some i =>
              have hsz : i.size = 1 := by simpa [hq] using hd3
              have hone := AV.one_conc ρ u h1
              have hvs : (u.conc ρ).cells = #[u.conc ρ] := by
                generalize u.conc ρ = z at hone
                cases z <;> first | rfl | simp [Value.oneCell'] at hone
              unfold execOp
              simp only [Nat.add_zero] at hrun
              simp [ho, hx1, hy1, Instr.storeAt, Instr.sureAddr, storeVar, sizeOf, typeInfo, hq, hvs, hsz, hrun]
          · unfold Sits
            rw [g1]
            congr 2
            simp only [i2]
            rw [List.set_eq_take_append_cons_drop, if_pos i3]
            rfl
        · cases hr
      · cases hr
    · rename_i b n hb hk
      obtain ⟨d, hd1, hd2, hd3⟩ := kindOf_some hk
      obtain ⟨hs, hok⟩ := hR.mem.at hb
      split at hr
      · rename_i cs hsegs
        obtain ⟨c1, c2⟩ := AV.segs_spec hsegs hy2 ρ
        split at hr
        · rename_i hlen
          have hlen : Seg.len cs = n := Nat.eq_of_beq_eq_true hlen
          split at hr
          · rename_i r0 r1 hc1
            split at hr
            · rename_i r2 r3 hc2
              simp only [Option.some.injEq] at hr
              subst hr
              obtain ⟨e1, e2, e3, e4⟩ := Seg.cut_spec ρ _ _ _ _ hc1 hok
              obtain ⟨f1, f2, f3, f4⟩ := Seg.cut_spec ρ _ _ _ _ hc2 e3
              obtain ⟨w', g⟩ := storeCells_sound ho hR hb (by rw [e1, f1]) e2 f2 f3 c2 e4 (by rw [hlen, f4]) hx1 hy1 c1 (by rw [hd3, hlen])
              exact ⟨b, w', hb, g.1, Seg.ok_append _ _ e2 (Seg.ok_append _ _ c2 f3), g.2⟩
            · cases hr
          · cases hr
        · cases hr
      · cases hr
    · cases hr
  · rename_i k base i
    simp only [AV.conc] at hx1
    split at hr
    · rename_i b hb
      obtain ⟨hs, hok⟩ := hR.mem.at hb
      split at hr
      · rename_i r0 kd m xs r2 hc
        obtain ⟨e1, e2, e3, e4, e5, e6⟩ := cut_ints (ρ := ρ) hc hok
        have hm0 : Seg.len r0 = base := by rw [← Seg.cells_len ρ r0 e2, e5]
        have hints : ∀ (a1 a2 a3 : List Int), xs = a1 ++ (a2 ++ a3) → b.row = r0 ++ .ints kd m xs :: r2 := fun _ _ _ _ => e1
        split at hr
        · rename_i hk
          obtain ⟨d, hd1, hd2, hd3⟩ := kindOf_none hk
          split at hr
          · rename_i kd' v
            split at hr
            · rename_i hkd
              have hkd : kd = kd' := of_decide_eq_true hkd
              subst hkd
              simp only [Option.some.injEq] at hr
              subst hr
              have hlt : i < m := hvc _ (by simp [Res.vc])
              have hlt' : base + i < (Seg.cells ρ b.row).length := by rw [e6]; simp; omega
              obtain ⟨g1, g2, g3, g4, g5, g6⟩ := setCells_heap (ρ.b k) [Value.int kd v] (base + i) w (Seg.cells ρ b.row).toArray b.ty hs (by simp; omega)
              refine ⟨b, _, hb, ?_, ?_, ?_, g2, g3, g4, g5, g6⟩
              · have hrun := run_storeCells_cells (P := Γ.P) (ρ.b k) (base + i) [Value.int kd v] 0 w (fun j hj => by
                    simp only [List.length_singleton] at hj
                    obtain rfl : j = 0 := by omega
                    rw [hs.cell, List.getElem?_eq_getElem (by omega)]; rfl) (fun j hj => hs.froz _) (fun v hv => by
                    simp only [List.mem_singleton] at hv; subst hv; rfl)
                cases hq : Γ.P.info? t with
                | none => simp [hq] at hd3
                | some i' =>
                  have hsz : i'.size = 1 := by simpa [hq] using hd3
                  simp only [AV.conc] at hy1
                  unfold execOp
                  simp only [Nat.add_zero] at hrun
                  simp [ho, hx1, hy1, Instr.storeAt, Instr.sureAddr, storeVar, sizeOf, typeInfo, hq, Value.cells, hsz, hrun]
              · refine Seg.ok_append _ _ e2 ?_
                simp only [Seg.ok]
                exact ⟨by simp [e3], e4⟩
              · unfold Sits
                rw [g1]
                congr 2
                have : (Seg.cells ρ b.row).set (base + i) (.int kd v) = Seg.cells ρ (r0 ++ .ints kd m (xs.set i v) :: r2) := by
                  rw [e6, List.set_append_right _ _ (by omega), e5, show base + i - base = i by omega, List.set_append_left _ _ (by simp; omega), ← List.map_set, Seg.cells_append]
                  rfl
                rw [← this, List.set_eq_take_append_cons_drop, if_pos hlt']
                rfl
            · cases hr
          · cases hr
        · rename_i n hk
          obtain ⟨d, hd1, hd2, hd3⟩ := kindOf_some hk
          split at hr
          · rename_i kd' n' ys
            split at hr
            · rename_i hkd hn'
              have hkd : kd = kd' := of_decide_eq_true hkd
              subst hkd
              have hn' : n' = n := Nat.eq_of_beq_eq_true hn'
              subst hn'
              simp only [Option.some.injEq] at hr
              subst hr
              have hlt : i + n' ≤ m := hvc _ (by simp [Res.vc])
              have hys : ys.length = n' := by simp only [AV.ok, Seg.ok] at hy2; exact hy2.1
              obtain ⟨g1, g2, g3, g4, g5, g6⟩ := setCells_heap (ρ.b k) (ys.map (Value.int kd)) (base + i) w (Seg.cells ρ b.row).toArray b.ty hs (by rw [e6]; simp; omega)
              refine ⟨b, _, hb, ?_, ?_, ?_, g2, g3, g4, g5, g6⟩
              · have hrun := run_storeCells_cells (P := Γ.P) (ρ.b k) (base + i) (ys.map (Value.int kd)) 0 w (fun j hj => by
                    simp only [List.length_map] at hj
                    rw [hs.cell, List.getElem?_eq_getElem (by rw [e6]; simp; omega)]; rfl) (fun j hj => hs.froz _) (fun v hv => by
                    simp only [List.mem_map] at hv; obtain ⟨_, _, rfl⟩ := hv; rfl)
                cases hq : Γ.P.info? t with
                | none => simp [hq] at hd3
                | some i' =>
                  have hsz : i'.size = n' := by simpa [hq] using hd3
                  simp only [AV.conc, Seg.cells, Seg.cell1, List.append_nil] at hy1
                  unfold execOp
                  simp only [Nat.add_zero] at hrun
                  simp [ho, hx1, hy1, Instr.storeAt, Instr.sureAddr, storeVar, sizeOf, typeInfo, hq, Value.cells, hsz, hys, hrun]
              · refine Seg.ok_append _ _ e2 ?_
                simp only [Seg.ok]
                exact ⟨by simp [e3, hys]; omega, e4⟩
              · unfold Sits
                rw [g1]
                congr 2
                rw [Seg.cells_append]
                simp only [Seg.cells, Seg.cell1, List.map_append, List.append_assoc, List.map_take, List.map_drop, List.length_map]
                rw [e6, List.take_append, List.take_of_length_le (by omega), e5, show base + i - base = i by omega, List.take_append_of_le_length (by simp; omega), List.drop_append, List.drop_of_length_le (by omega), List.nil_append, e5,
                  show base + i + ys.length - base = i + n' by omega, List.drop_append_of_le_length (by simp; omega)]
                simp
            · cases hr
          · cases hr
        · cases hr
      · cases hr
    · cases hr
  · cases hr

/-! Addresses, parts, wholes. -/
def AV.here : AV → Bool
  | .ptr .. => true
  | .elt .. => true
  | .lst .. => true
  | _ => false
def sizeA (Γ : Ctx) (t : TypeId) : Option Nat := match Γ.P.info? t with
  | some i => some i.size
  | none => none
/-- An index: what it is, what is to be shown, whether it is told. -/
def ixOf (h : Option Hint) (j : Int) (len : Nat) : Option (Nat × List Prop × Bool) := match h with
  | some (.ix n) => some (n, [j = (n : Int), n < len], true)
  | _ => match decide (0 ≤ j ∧ j < (len : Int)) with
    | true => some (j.toNat, [], false)
    | false => none
def times (n sz : Nat) : Nat := match Nat.beq sz 1 with
  | true => n
  | false => n * sz
theorem times_eq (n sz : Nat) : times n sz = n * sz := by
  unfold times
  split
  · rename_i h; rw [Nat.eq_of_beq_eq_true h]; omega
  · rfl
def fieldAddrOp (Γ : Ctx) (st : TypeId) (p : AV) (f : Nat) : Option Res := match p with
  | .ptr k off => match Γ.P.underlying st with
    | some (.struct fs) => match fs[f]? with
      | some fl => match sizeA Γ fl.type with
        | some (_ + 1) => some (.val (.ptr k (off + fl.offset)) [] [])
        | _ => none
      | none => none
    | _ => none
  | _ => none
def indexAddrOp (Γ : Ctx) (h : Option Hint) (t : TypeId) (p i : AV) : Option Res := match i with
  | .val (.int _ j) => match p, Γ.P.underlying t with
    | .ptr k off, some (.array len elem) => match ixOf h j len, sizeA Γ elem with
      | some (n, vc, true), some sz => some (.val (.elt k off (times n sz)) [] vc)
      | some (n, vc, false), some sz => some (.val (.ptr k (off + times n sz)) [] vc)
      | _, _ => none
    | .elt k base i0, some (.array len elem) => match ixOf h j len, sizeA Γ elem with
      | some (n, vc, _), some sz => some (.val (.elt k base (i0 + times n sz)) [] vc)
      | _, _ => none
    | .lst k base st len _, some (.slice elem) => match ixOf h j len, sizeA Γ elem with
      | some (n, vc, true), some sz => some (.val (.elt k base (times n sz + st)) [] vc)
      | some (n, vc, false), some sz => some (.val (.ptr k (base + (times n sz + st))) [] vc)
      | _, _ => none
    | _, _ => none
  | _ => none
theorem add_at (b o n : Nat) : (⟨b, o, none⟩ : Addr).add n = ⟨b, o + n, none⟩ := by unfold Addr.add; split <;> simp_all
theorem sizeA_run {Γ : Ctx} {t : TypeId} {n : Nat} (h : sizeA Γ t = some n) (w : World) : (sizeOf t).run Γ.P w = .ok n w := by
  unfold sizeA at h
  split at h
  · rename_i i hi
    simp only [Option.some.injEq] at h
    simp [sizeOf, typeInfo, hi, h]
  · cases h
theorem ixOf_spec {h : Option Hint} {j : Int} {len n : Nat} {vc : List Prop} {b : Bool} (hi : ixOf h j len = some (n, vc, b)) (hv : ∀ p ∈ vc, p) : j = (n : Int) ∧ n < len := by
  unfold ixOf at hi
  split at hi
  · simp only [Option.some.injEq, Prod.mk.injEq] at hi
    obtain ⟨rfl, rfl, _⟩ := hi
    exact ⟨hv _ (by simp), hv _ (by simp)⟩
  · split at hi
    · rename_i hd
      have hd := of_decide_eq_true hd
      simp only [Option.some.injEq, Prod.mk.injEq] at hi
      obtain ⟨rfl, _, _⟩ := hi
      omega
    · cases hi
theorem fieldAddrOp_sound {Γ : Ctx} {nm : Nat} {o : Oper} {st : TypeId} {x : Operand} {f : Nat} {p : AV} (ho : o.op = .fieldAddr st x f) {ρ : Env} {s : AS} {a : Act} {w : World} {r : Res} (hx : ev s.tm x = some p) (hr : fieldAddrOp Γ st p f = some r) (hvc : ∀ p ∈ r.vc, p) (hR : Rel Γ ρ s a w) : ResOk Γ nm o ρ s a w r := by
  obtain ⟨hx1, hx2⟩ := hR.ev hx
  unfold fieldAddrOp at hr
  split at hr
  · rename_i k off
    split at hr
    · rename_i fs hu
      split at hr
      · rename_i fl hfl
        split at hr
        · rename_i m hsz
          simp only [Option.some.injEq] at hr
          subst hr
          refine ⟨?_, by simpa [AV.ok] using hx2⟩
          simp only [AV.conc] at hx1
          have hsz := sizeA_run hsz w
          unfold execOp
          simp [ho, hx1, Instr.fieldAt, run_underlying hu, hfl, Instr.sureAddr, fieldPlace, hsz, add_at, AV.conc]
        · cases hr
      · cases hr
    · cases hr
  · cases hr
theorem indexAddrOp_sound {Γ : Ctx} {nm : Nat} {o : Oper} {h : Option Hint} {t : TypeId} {x y : Operand} {p i : AV} (ho : o.op = .indexAddr t x y) {ρ : Env} {s : AS} {a : Act} {w : World} {r : Res} (hx : ev s.tm x = some p) (hy : ev s.tm y = some i) (hr : indexAddrOp Γ h t p i = some r) (hvc : ∀ p ∈ r.vc, p) (hR : Rel Γ ρ s a w) : ResOk Γ nm o ρ s a w r := by
  obtain ⟨hx1, hx2⟩ := hR.ev hx
  have hy1 := (hR.ev hy).1
  unfold indexAddrOp at hr
  split at hr
  · rename_i kd j
    simp only [AV.conc] at hy1
    split at hr
    · rename_i k off len elem hu
      simp only [AV.conc] at hx1
      have key : ∀ n : Nat, j = (n : Int) ∧ n < len → ∀ sz, sizeA Γ elem = some sz → (execOp a.eval o).run Γ.P w = .ok (.value (.pointer (some ⟨ρ.b k, off + n * sz, none⟩))) w := by
        rintro n ⟨rfl, hn⟩ sz hs
        have hs := sizeA_run hs w
        have h1 : (0 : Int) ≤ (n : Int) ∧ (n : Int) < (len : Int) := by omega
        unfold execOp
        simp [ho, hx1, hy1, Instr.indexAt, asIntOf, run_underlying hu, Instr.sureAddr, hs, add_at, h1, hn]
      split at hr
      · rename_i n vc sz hix hs
        simp only [Option.some.injEq] at hr
        subst hr
        refine ⟨?_, by simpa [AV.ok] using hx2⟩
        rw [key n (ixOf_spec hix hvc) sz hs]
        simp [AV.conc, times_eq]
      · rename_i n vc sz hix hs
        simp only [Option.some.injEq] at hr
        subst hr
        refine ⟨?_, by simpa [AV.ok] using hx2⟩
        rw [key n (ixOf_spec hix hvc) sz hs]
        simp [AV.conc, times_eq]
      · cases hr
    · rename_i k base i0 len elem hu
      simp only [AV.conc] at hx1
      have key : ∀ n : Nat, j = (n : Int) ∧ n < len → ∀ sz, sizeA Γ elem = some sz → (execOp a.eval o).run Γ.P w = .ok (.value (.pointer (some ⟨ρ.b k, base + i0 + n * sz, none⟩))) w := by
        rintro n ⟨rfl, hn⟩ sz hs
        have hs := sizeA_run hs w
        have h1 : (0 : Int) ≤ (n : Int) ∧ (n : Int) < (len : Int) := by omega
        unfold execOp
        simp [ho, hx1, hy1, Instr.indexAt, asIntOf, run_underlying hu, Instr.sureAddr, hs, add_at, h1, hn]
      split at hr
      · rename_i n vc b sz hix hs
        simp only [Option.some.injEq] at hr
        subst hr
        refine ⟨?_, by simpa [AV.ok] using hx2⟩
        rw [key n (ixOf_spec hix hvc) sz hs]
        simp [AV.conc, times_eq, Nat.add_assoc]
      · cases hr
    · rename_i k base st len cap elem hu
      simp only [AV.conc] at hx1
      have key : ∀ n : Nat, j = (n : Int) ∧ n < len → ∀ sz, sizeA Γ elem = some sz → (execOp a.eval o).run Γ.P w = .ok (.value (.pointer (some ⟨ρ.b k, base + (n * sz + st), none⟩))) w := by
        rintro n ⟨rfl, hn⟩ sz hs
        have hs := sizeA_run hs w
        have h1 : (0 : Int) ≤ (n : Int) ∧ (n : Int) < (len : Int) := by omega
        unfold execOp
        simp [ho, hx1, hy1, Instr.indexAt, asIntOf, run_underlying hu, hs, add_at, h1, hn]
        try omega
      split at hr
      · rename_i n vc sz hix hs
        simp only [Option.some.injEq] at hr
        subst hr
        refine ⟨?_, by simpa [AV.ok] using hx2⟩
        rw [key n (ixOf_spec hix hvc) sz hs]
        simp [AV.conc, times_eq]
      · rename_i n vc sz hix hs
        simp only [Option.some.injEq] at hr
        subst hr
        refine ⟨?_, by simpa [AV.ok] using hx2⟩
        rw [key n (ixOf_spec hix hvc) sz hs]
        simp [AV.conc, times_eq]
      · cases hr
    · cases hr
  · cases hr
theorem makeOp_sound {Γ : Ctx} {nm : Nat} {o : Oper} {h : Option Hint} {t : TypeId} {v : AV} {ρ : Env} {s : AS} {a : Act} {w : World} {r : Res} (hrun : (execOp a.eval o).run Γ.P w = .ok (.value (.pointer (some ⟨w.heap.size, 0, none⟩))) (w.alloc (.cells (v.conc ρ).cells t))) (hv : v.ok (AS.dom s.mem)) (hn : look nm s.mem = none) (hr : makeOp Γ nm h t v = some r) (hvc : ∀ p ∈ r.vc, p) (hR : Rel Γ ρ s a w) : ResOk Γ nm o ρ s a w r := by
  have fin : ∀ row : List Seg, (v.conc ρ).cells.toList = Seg.cells ρ row → Seg.ok (AS.dom s.mem) row → ResOk Γ nm o ρ s a w (.new (.ptr nm 0) ⟨row, t⟩ []) := by
    intro row h1 h2
    refine ⟨hn, h2, by simp only [AV.ok]; exact dom_lay.2 (.inl rfl), ?_⟩
    rw [hrun]
    simp only [AV.conc, Env.up_same]
    rw [← h1]
  unfold makeOp at hr
  split at hr
  · rename_i row
    split at hr
    · rename_i y hy
      simp only [Option.some.injEq] at hr
      subst hr
      have h1 : ∀ ρ, Seg.cells ρ row = y.cells.toList := hvc _ (by simp [Res.vc])
      have h2 : Seg.ok No row := hvc _ (by simp [Res.vc])
      exact fin row (by rw [AV.conc_toV ρ v y hy, h1]) (Seg.ok_mono (fun _ h => h.elim) _ h2)
    · cases hr
  · split at hr
    · rename_i row hs
      simp only [Option.some.injEq] at hr
      subst hr
      obtain ⟨h1, h2⟩ := AV.segs_spec hs hv ρ
      exact fin row h1 h2
    · cases hr

/-- The bounds of a part of a list: what they are, what is to be shown. -/
def boundsOf (h : Option Hint) (lo hi : Option AV) (len cap : Nat) : Option (Nat × Nat × List Prop) :=
  match h with
  | some (.sub l u) =>
    match lo, hi with
    | none, none => some (l, u, [l = 0, u = len, l ≤ u, u ≤ cap, l < cap])
    | some (.val (.int _ x)), none => some (l, u, [x = (l : Int), u = len, l ≤ u, u ≤ cap, l < cap])
    | none, some (.val (.int _ y)) => some (l, u, [l = 0, y = (u : Int), l ≤ u, u ≤ cap, l < cap])
    | some (.val (.int _ x)), some (.val (.int _ y)) => some (l, u, [x = (l : Int), y = (u : Int), l ≤ u, u ≤ cap, l < cap])
    | _, _ => none
  | _ =>
    match lo, hi with
    | none, none => match decide (len ≤ cap ∧ 0 < cap) with
      | true => some (0, len, [])
      | false => none
    | some (.val (.int _ x)), none => match decide (0 ≤ x ∧ x ≤ (len : Int) ∧ len ≤ cap ∧ x < (cap : Int)) with
      | true => some (x.toNat, len, [])
      | false => none
    | none, some (.val (.int _ y)) => match decide (0 ≤ y ∧ y ≤ (cap : Int) ∧ 0 < cap) with
      | true => some (0, y.toNat, [])
      | false => none
    | some (.val (.int _ x)), some (.val (.int _ y)) => match decide (0 ≤ x ∧ x ≤ y ∧ y ≤ (cap : Int) ∧ x < (cap : Int)) with
      | true => some (x.toNat, y.toNat, [])
      | false => none
    | _, _ => none
theorem boundsOf_spec {h : Option Hint} {lo hi : Option AV} {len cap l u : Nat} {vc : List Prop} (hb : boundsOf h lo hi len cap = some (l, u, vc)) (hv : ∀ p ∈ vc, p) :
    l ≤ u ∧ u ≤ cap ∧ l < cap ∧ ((lo = none ∧ l = 0) ∨ ∃ k, lo = some (.val (.int k (l : Int)))) ∧ ((hi = none ∧ u = len) ∨ ∃ k, hi = some (.val (.int k (u : Int)))) := by
  unfold boundsOf at hb
  split at hb
  · split at hb
    all_goals first
      | cases hb; done
      | (simp only [Option.some.injEq, Prod.mk.injEq] at hb
         obtain ⟨rfl, rfl, rfl⟩ := hb
         have h1 := hv _ (List.mem_cons_self)
         have h2 := hv _ (List.mem_cons_of_mem _ List.mem_cons_self)
         have h3 := hv _ (List.mem_cons_of_mem _ (List.mem_cons_of_mem _ List.mem_cons_self))
         have h4 := hv _ (List.mem_cons_of_mem _ (List.mem_cons_of_mem _ (List.mem_cons_of_mem _ List.mem_cons_self)))
         have h5 := hv _ (List.mem_cons_of_mem _ (List.mem_cons_of_mem _ (List.mem_cons_of_mem _ (List.mem_cons_of_mem _ List.mem_cons_self))))
         refine ⟨h3, h4, h5, ?_, ?_⟩
         · first | exact .inl ⟨rfl, h1⟩ | (rw [h1]; exact .inr ⟨_, rfl⟩)
         · first | exact .inl ⟨rfl, h2⟩ | (rw [h2]; exact .inr ⟨_, rfl⟩))
  · split at hb
    all_goals first
      | cases hb; done
      | (split at hb
         · rename_i hd
           have hd := of_decide_eq_true hd
           simp only [Option.some.injEq, Prod.mk.injEq] at hb
           obtain ⟨rfl, rfl, rfl⟩ := hb
           refine ⟨by omega, by omega, by omega, ?_, ?_⟩
           · first | exact .inl ⟨rfl, rfl⟩ | exact .inr ⟨_, congrArg (fun z => some (AV.val (Value.int _ z))) (Int.toNat_of_nonneg (by omega)).symm⟩
           · first | exact .inl ⟨rfl, rfl⟩ | exact .inr ⟨_, congrArg (fun z => some (AV.val (Value.int _ z))) (Int.toNat_of_nonneg (by omega)).symm⟩
         · cases hb)
def evO (tm : List (Nat × AV)) : Option Operand → Option (Option AV)
  | none => some none
  | some x => match ev tm x with
    | some v => some (some v)
    | none => none
def sliceOp (Γ : Ctx) (h : Option Hint) (t : TypeId) (p : AV) (lo hi : Option AV) : Option Res :=
  match p, Γ.P.underlying t with
  | .ptr k off, some (.array n elem) => match boundsOf h lo hi n n, sizeA Γ elem with
    | some (l, u, vc), some sz => some (.val (.lst k off (times l sz) (u - l) (n - l)) [] vc)
    | _, _ => none
  | .lst k base st len cap, some (.slice elem) => match boundsOf h lo hi len cap, sizeA Γ elem with
    | some (l, u, vc), some sz => some (.val (.lst k base (times l sz + st) (u - l) (cap - l)) [] vc)
    | _, _ => none
  | _, _ => none
theorem bounds_run {P : Program} {w : World} {isSlice : Bool} {lo hi : Option Value} {len cap l u : Nat} (h1 : l ≤ u) (h2 : u ≤ cap) (hlo : (lo = none ∧ l = 0) ∨ ∃ k, lo = some (.int k (l : Int))) (hhi : (hi = none ∧ u = len) ∨ ∃ k, hi = some (.int k (u : Int))) :
    (Instr.sliceBounds isSlice len cap lo hi none).run P w = .ok (l, u, cap) w := by
  have g1 : (0 : Int) ≤ (l : Int) ∧ (l : Int) ≤ (u : Int) := by omega
  have g2 : (0 : Int) ≤ (u : Int) ∧ (u : Int) ≤ (cap : Int) := by omega
  rcases hlo with ⟨rfl, rfl⟩ | ⟨k, rfl⟩ <;> rcases hhi with ⟨rfl, rfl⟩ | ⟨k', rfl⟩ <;> simp [Instr.sliceBounds, Instr.sliceBound, asIntOf, g1, g2, h1, h2]
theorem sliceOp_sound {Γ : Ctx} {nm : Nat} {o : Oper} {h : Option Hint} {t : TypeId} {x : Operand} {xlo xhi : Option Operand} {p : AV} {lo hi : Option AV} (ho : o.op = .slice t x xlo xhi none) {ρ : Env} {s : AS} {a : Act} {w : World} {r : Res} (hx : ev s.tm x = some p) (hlo : evO s.tm xlo = some lo) (hhi : evO s.tm xhi = some hi) (hr : sliceOp Γ h t p lo hi = some r) (hvc : ∀ p ∈ r.vc, p) (hR : Rel Γ ρ s a w) : ResOk Γ nm o ρ s a w r := by
  obtain ⟨hx1, hx2⟩ := hR.ev hx
  have hO : ∀ (y : Option Operand) (v : Option AV) (n m : Nat), evO s.tm y = some v → ((v = none ∧ n = m) ∨ ∃ k, v = some (.val (.int k (n : Int)))) → ((y.map a.eval = none ∧ n = m) ∨ ∃ k, y.map a.eval = some (.int k (n : Int))) := by
    intro y v n m hy hv
    cases y with
    | none => simp only [evO, Option.some.injEq] at hy; subst hy; simpa using hv
    | some y =>
      simp only [evO] at hy
      split at hy
      · rename_i v' hv'
        simp only [Option.some.injEq] at hy
        subst hy
        rcases hv with ⟨h1, _⟩ | ⟨k, h1⟩
        · cases h1
        · simp only [Option.some.injEq] at h1
          subst h1
          exact .inr ⟨k, by simp [(hR.ev hv').1, AV.conc]⟩
      · cases hy
  unfold sliceOp at hr
  split at hr
  · rename_i k off n elem hu
    simp only [AV.conc] at hx1
    split at hr
    · rename_i l u vc sz hb hs
      simp only [Option.some.injEq] at hr
      subst hr
      obtain ⟨b1, b2, b3, b4, b5⟩ := boundsOf_spec hb hvc
      refine ⟨?_, by simpa [AV.ok] using hx2⟩
      have hrun := bounds_run (P := Γ.P) (w := w) (isSlice := false) b1 b2 (hO _ _ _ _ hlo b4) (hO _ _ _ _ hhi b5)
      have hs := sizeA_run hs w
      have hne : ¬ n = l := by omega
      unfold execOp
      simp [ho, hx1, Instr.sliceAt, run_underlying hu, Instr.sureAddr, hrun, hs, hne, add_at, AV.conc, times_eq]
    · cases hr
  · rename_i k base st len cap elem hu
    simp only [AV.conc] at hx1
    split at hr
    · rename_i l u vc sz hb hs
      simp only [Option.some.injEq] at hr
      subst hr
      obtain ⟨b1, b2, b3, b4, b5⟩ := boundsOf_spec hb hvc
      refine ⟨?_, by simpa [AV.ok] using hx2⟩
      have hrun := bounds_run (P := Γ.P) (w := w) (isSlice := true) b1 b2 (hO _ _ _ _ hlo b4) (hO _ _ _ _ hhi b5)
      have hs := sizeA_run hs w
      have hne : ¬ cap = l := by omega
      unfold execOp
      simp [ho, hx1, Instr.sliceAt, Instr.slice, run_underlying hu, hrun, hs, hne, add_at, AV.conc, times_eq]
      try omega
    · cases hr
  · cases hr

/-- A field, an element, of a value that is no plain one. -/
def partOp (Γ : Ctx) (t : TypeId) (cs : List Seg) (off : Nat) : Option AV := match kindOf Γ t with
  | some none => Seg.get off cs
  | some (some n) => match Seg.cut off cs with
    | some (_, r1) => match Seg.cut n r1 with
      | some (r2, _) => some (.agg r2)
      | none => none
    | none => none
  | none => none
theorem run_isAgg {P : Program} {t : TypeId} {d : TypeDesc} (hu : P.underlying t = some d) (w : World) : (isAgg t).run P w = .ok d.isRow w := by
  unfold isAgg
  rw [Sem.run_bind, run_underlying hu w]
  cases d <;> simp_all
theorem partOp_run {Γ : Ctx} {t : TypeId} {cs : List Seg} {off : Nat} {v : AV} (h : partOp Γ t cs off = some v) {D : Nat → Prop} (hc : Seg.ok D cs) (ρ : Env) (w : World) :
    (part t (Seg.cells ρ cs).toArray off).run Γ.P w = .ok (v.conc ρ) w ∧ v.ok D := by
  unfold partOp at h
  split at h
  · rename_i hk
    obtain ⟨d, hd1, hd2, _⟩ := kindOf_none hk
    obtain ⟨h1, h2⟩ := Seg.get_spec ρ _ _ _ h hc
    refine ⟨?_, h2⟩
    have hag := run_isAgg hd1 w
    rw [hd2] at hag
    simp [part, hag, h1]
  · rename_i n hk
    obtain ⟨d, hd1, hd2, hd3⟩ := kindOf_some hk
    split at h
    · rename_i r0 r1 hc1
      split at h
      · rename_i r2 r3 hc2
        simp only [Option.some.injEq] at h
        subst h
        obtain ⟨e1, e2, e3, e4⟩ := Seg.cut_spec ρ _ _ _ _ hc1 hc
        obtain ⟨f1, f2, f3, f4⟩ := Seg.cut_spec ρ _ _ _ _ hc2 e3
        have l0 : (Seg.cells ρ r0).length = off := by rw [Seg.cells_len ρ r0 e2, e4]
        have l2 : (Seg.cells ρ r2).length = n := by rw [Seg.cells_len ρ r2 f2, f4]
        refine ⟨?_, by simpa [AV.ok] using f2⟩
        have hag := run_isAgg hd1 w
        rw [hd2] at hag
        cases hq : Γ.P.info? t with
        | none => simp [hq] at hd3
        | some i =>
          have hsz : i.size = n := by simpa [hq] using hd3
          simp [part, hag, sizeOf, typeInfo, hq, hsz, AV.conc]
          rw [e1, f1, Seg.cells_append, Seg.cells_append, List.drop_append, List.drop_of_length_le (by omega), l0, Nat.sub_self, List.nil_append, List.drop_zero, List.take_append_of_le_length (by omega), List.take_of_length_le (by omega)]
      · cases h
    · cases h
  · cases h
def fieldOp (Γ : Ctx) (t : TypeId) (x : AV) (f : Nat) : Option Res := match x, Γ.P.underlying t with
  | .agg cs, some (.struct fs) => match fs[f]? with
    | some fl => match partOp Γ fl.type cs fl.offset with
      | some v => some (.val v [] [])
      | none => none
    | none => none
  | _, _ => none
def indexOp (Γ : Ctx) (h : Option Hint) (t : TypeId) (x i : AV) : Option Res := match x, i, Γ.P.underlying t with
  | .agg cs, .val (.int _ j), some (.array len elem) => match h with
    | some (.ix n) => match cs, kindOf Γ elem with
      | [.ints kd m xs], some none => some (.val (.val (.int kd (xs.getD n 0))) [] [j = (n : Int), n < len, n < m])
      | _, _ => none
    | _ => match decide (0 ≤ j ∧ j < (len : Int)), sizeA Γ elem with
      | true, some sz => match partOp Γ elem cs (times j.toNat sz) with
        | some v => some (.val v [] [])
        | none => none
      | _, _ => none
  | _, _, _ => none
theorem fieldOp_sound {Γ : Ctx} {nm : Nat} {o : Oper} {t : TypeId} {x : Operand} {f : Nat} {p : AV} (ho : o.op = .field t x f) {ρ : Env} {s : AS} {a : Act} {w : World} {r : Res} (hx : ev s.tm x = some p) (hr : fieldOp Γ t p f = some r) (hR : Rel Γ ρ s a w) : ResOk Γ nm o ρ s a w r := by
  obtain ⟨hx1, hx2⟩ := hR.ev hx
  unfold fieldOp at hr
  split at hr
  · rename_i cs fs hu
    split at hr
    · rename_i fl hfl
      split at hr
      · rename_i v hv
        simp only [Option.some.injEq] at hr
        subst hr
        simp only [AV.ok] at hx2
        simp only [AV.conc] at hx1
        obtain ⟨h1, h2⟩ := partOp_run hv hx2 ρ w
        refine ⟨?_, h2⟩
        unfold execOp
        simp [ho, hx1, Instr.field, run_underlying hu, hfl, asAgg, h1]
      · cases hr
    · cases hr
  · cases hr
theorem indexOp_sound {Γ : Ctx} {nm : Nat} {o : Oper} {h : Option Hint} {t : TypeId} {x y : Operand} {p i : AV} (ho : o.op = .index t x y) {ρ : Env} {s : AS} {a : Act} {w : World} {r : Res} (hx : ev s.tm x = some p) (hy : ev s.tm y = some i) (hr : indexOp Γ h t p i = some r) (hvc : ∀ p ∈ r.vc, p) (hR : Rel Γ ρ s a w) : ResOk Γ nm o ρ s a w r := by
  obtain ⟨hx1, hx2⟩ := hR.ev hx
  have hy1 := (hR.ev hy).1
  unfold indexOp at hr
  split at hr
  · rename_i cs kd j len elem hu
    simp only [AV.ok] at hx2
    simp only [AV.conc] at hx1 hy1
    split at hr
    · rename_i n
      split at hr
      · rename_i kd' m xs hk
        obtain ⟨d, hd1, hd2, hd3⟩ := kindOf_none hk
        simp only [Option.some.injEq] at hr
        subst hr
        have e1 : j = (n : Int) := hvc _ (by simp [Res.vc])
        have e2 : n < len := hvc _ (by simp [Res.vc])
        have e3 : n < m := hvc _ (by simp [Res.vc])
        subst e1
        simp only [Seg.ok] at hx2
        refine ⟨?_, by simp [AV.ok]⟩
        have hag := run_isAgg hd1 w
        rw [hd2] at hag
        have h1 : (0 : Int) ≤ (n : Int) ∧ (n : Int) < (len : Int) := by omega
        cases hq : Γ.P.info? elem with
        | none => simp [hq] at hd3
        | some inf =>
          have hsz : inf.size = 1 := by simpa [hq] using hd3
          unfold execOp
          simp [ho, hx1, hy1, Instr.index, asIntOf, run_underlying hu, h1, e2, sizeOf, typeInfo, hq, hsz, part, hag, Seg.cells, Seg.cell1, hx2.1, e3, AV.conc, List.getD_eq_getElem?_getD]
      · cases hr
    · split at hr
      · rename_i sz hd hs
        have hd := of_decide_eq_true hd
        split at hr
        · rename_i v hv
          simp only [Option.some.injEq] at hr
          subst hr
          obtain ⟨h1, h2⟩ := partOp_run hv hx2 ρ w
          rw [times_eq] at h1
          refine ⟨?_, h2⟩
          have hs := sizeA_run hs w
          unfold execOp
          simp [ho, hx1, hy1, Instr.index, asIntOf, run_underlying hu, hd, hs, h1]
        · cases hr
      · cases hr
  · cases hr
end Go.Proofs.Ythgnmpjcbicdhaa

