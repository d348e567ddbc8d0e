/- Blocks of the call's own that are known cell by cell; what a call leaves of them. -/
import Derived.WalkKit
import Derived.KernelRfl
import Derived.Outline
import Derived.Laws.Externs
import Derived.WalkSpells
import Derived.WalkLawsBesides
import Derived.BigRegion
import Derived.LoopN
import Derived.Deep.LoopGhost
import Derived.Deep.QuietTactic
import Derived.BigQuiet
import Derived.Deep.RegionHeld3
import Derived.Deep.RegionWith
import Derived.Deep.DeepCutAuto
import Derived.Lib.Hide
namespace Go.Proofs.YthgnmpjcbicdhaaDoor
open Go Go.RowKit

/-- Old memory is as it was. -/
def Bl (w w' : World) : Prop := Below w.heap.size w w'
theorem Bl.refl (w : World) : Bl w w := Below.refl _ _
theorem Bl.size {w w' : World} (h : Bl w w') : w.heap.size ≤ w'.heap.size := Below.size h
theorem Bl.trans {a b c : World} (h : Bl a b) (k : Bl b c) : Bl a c := Below.trans h (Below.mono k (Below.size h))
theorem Bl.drew {a w : World} (h : Bl a w) : Bl a w.drew := Below.drew h
theorem Bl.alloc {a w : World} (h : Bl a w) (o : Obj) : Bl a (w.alloc o) := Below.alloc h (Below.size h) o
theorem Bl.setCell {a w : World} (h : Bl a w) {p : Addr} (hp : a.heap.size ≤ p.block) (u : Value) : Bl a (w.setCell p u) := Below.setCell h hp u
theorem Bl.drewN {a w : World} (h : Bl a w) (n : Nat) : Bl a (w.drewN n) := ⟨h.os, h.tape, h.output, h.size, h.block⟩
theorem Bl.out {a w : World} (h : Bl a w) : Below a.heap.size a w := h
theorem Bl.grown {a w w' : World} {row : Option Nat} (h : Bl a w) (hg : w.grownBy w' row) (hr : ∀ k, row = some k → a.heap.size ≤ k) : Bl a w' := Below.grown h hg (Below.size h) hr

/-- Block b holds these cells. -/
def Box (w : World) (b : Nat) (cs : Array Value) (t : TypeId) : Prop := w.heap[b]? = some (.cells cs t (0, 0))
theorem Box.lt {w : World} {b : Nat} {cs : Array Value} {t : TypeId} (h : Box w b cs t) : b < w.heap.size := (Array.getElem?_eq_some_iff.1 h).1
theorem Box.cell {w : World} {b : Nat} {cs : Array Value} {t : TypeId} (h : Box w b cs t) : ∀ o, w.cell? ⟨b, o, none⟩ = cs[o]? := fun o => by
  unfold Box at h; simp [World.cell?, h]
theorem Box.froz {w : World} {b : Nat} {cs : Array Value} {t : TypeId} (h : Box w b cs t) : ∀ o, w.frozen? ⟨b, o, none⟩ = false := fun o => by
  unfold Box at h; simp [World.frozen?, h]
theorem Box.drew {w : World} {b : Nat} {cs : Array Value} {t : TypeId} (h : Box w b cs t) : Box w.drew b cs t := h
theorem Box.drewN {w : World} {b : Nat} {cs : Array Value} {t : TypeId} (h : Box w b cs t) (n : Nat) : Box (w.drewN n) b cs t := h
theorem Box.alloc {w : World} {b : Nat} {cs : Array Value} {t : TypeId} (h : Box w b cs t) (o : Obj) : Box (w.alloc o) b cs t := by
  have hl := h.lt
  unfold Box at *
  rw [Below.heap_alloc _ _ _ hl]; exact h
theorem Box.new (w : World) (b : Nat) (cs : Array Value) (t : TypeId) (h : b = w.heap.size) : Box (w.alloc (.cells cs t)) b cs t := by
  subst h
  show (w.heap.push _)[w.heap.size]? = _
  simp
theorem Box.far {w : World} {b : Nat} {cs : Array Value} {t : TypeId} (h : Box w b cs t) (a : Addr) (u : Value) (hne : b ≠ a.block) : Box (w.setCell a u) b cs t := by
  unfold Box at *
  rw [Below.heap_setCell _ _ _ _ hne]; exact h
theorem Box.set {w : World} {b : Nat} {cs : Array Value} {t : TypeId} (h : Box w b cs t) (o : Nat) (u : Value) : Box (w.setCell ⟨b, o, none⟩ u) b (cs.setIfInBounds o u) t := by
  unfold Box at *
  simp [World.setCell, Array.getElem?_modify, h]
theorem Box.call {w w' : World} {b : Nat} {cs : Array Value} {t : TypeId} (h : Box w b cs t) (hb : Bl w w') : Box w' b cs t := by
  have hl := h.lt
  unfold Box at *
  rw [hb.block b hl]; exact h
theorem Box.below {B : Nat} {w w' : World} {b : Nat} {cs : Array Value} {t : TypeId} (h : Box w b cs t) (hb : Below B w w') (hl : b < B) : Box w' b cs t := by
  unfold Box at *
  rw [hb.block b hl]; exact h
theorem Box.cells {w : World} {b : Nat} {cs cs' : Array Value} {t : TypeId} (h : Box w b cs t) (e : cs = cs') : Box w b cs' t := e ▸ h
theorem Box.row {w : World} {b : Nat} {cs : Array Value} {t : TypeId} (h : Box w b cs t) (c : Array Value) : Box (w.setRow b c) b c t := by
  unfold Box at *
  simp [World.setRow, Array.getElem?_modify, h]
theorem Box.rowFar {w : World} {b : Nat} {cs : Array Value} {t : TypeId} (h : Box w b cs t) (g : Nat) (c : Array Value) (hne : b ≠ g) : Box (w.setRow g c) b cs t := by
  unfold Box at *
  simp [World.setRow, Array.getElem?_modify, h, Ne.symm hne]
theorem Bl.setRow {a w : World} (h : Bl a w) {g : Nat} (hg : a.heap.size ≤ g) (c : Array Value) : Bl a (w.setRow g c) :=
  Below.trans h ⟨rfl, rfl, rfl, by simp [World.setRow], fun k hk => by simp only [World.setRow, Array.getElem?_modify]; rw [if_neg (by omega)]⟩
/-- What the walk is told of a block. -/
theorem Box.tell {w : World} {b : Nat} {cs : Array Value} {t : TypeId} (h : Box w b cs t) :
    (∀ o, w.cell? ⟨b, o, none⟩ = cs[o]?) ∧ (∀ o, w.frozen? ⟨b, o, none⟩ = false) ∧ b < w.heap.size := ⟨h.cell, h.froz, h.lt⟩
end Go.Proofs.YthgnmpjcbicdhaaDoor

