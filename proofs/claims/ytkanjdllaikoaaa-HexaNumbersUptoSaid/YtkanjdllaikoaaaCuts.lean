/- What a call leaves of the blocks that were made ahead of it. -/
import Derived.Test.YtkanjdllaikoaaaBase
import Derived.Test.YtkanjdllaikoaaaNum
namespace Go.Proofs.Ytkanjdllaikoaaa
open Go Go.RowKit
theorem Bl.new {w w' : World} {cs : Array Value} {t : TypeId} (hb : Bl (w.alloc (.cells cs t)) w') : Box w' w.heap.size cs t := (Box.new w _ _ _ rfl).call hb
theorem Bl.new2 {w w' : World} {cs : Array Value} {t : TypeId} {o : Obj} (hb : Bl ((w.alloc (.cells cs t)).alloc o) w') : Box w' w.heap.size cs t := ((Box.new w _ _ _ rfl).alloc o).call hb
theorem Bl.newd {w w' : World} {cs : Array Value} {t : TypeId} (hb : Bl (w.alloc (.cells cs t)).drew w') : Box w' w.heap.size cs t := (Box.new w _ _ _ rfl).drew.call hb
theorem Bl.new2d {w w' : World} {cs : Array Value} {t : TypeId} {o : Obj} (hb : Bl ((w.alloc (.cells cs t)).alloc o).drew w') : Box w' w.heap.size cs t := ((Box.new w _ _ _ rfl).alloc o).drew.call hb
theorem Bl.old {w w' : World} {b : Nat} {cs : Array Value} {t : TypeId} (hb : Bl w w') (h : Box w b cs t) : Box w' b cs t := h.call hb
theorem Bl.old1 {w w' : World} {b : Nat} {cs : Array Value} {t : TypeId} {o : Obj} (hb : Bl (w.alloc o) w') (h : Box w b cs t) : Box w' b cs t := (h.alloc o).call hb
theorem Bl.old2 {w w' : World} {b : Nat} {cs : Array Value} {t : TypeId} {o o' : Obj} (hb : Bl ((w.alloc o).alloc o') w') (h : Box w b cs t) : Box w' b cs t := ((h.alloc o).alloc o').call hb
theorem Box.set4z {w : World} {b : Nat} {t : TypeId} (y : Nat) (h : Box w b #[.int .u64 0, .int .u64 0, .int .u64 0, .int .u64 0] t) :
    Box ((((w.setCell ⟨b, 0, none⟩ (.int .u64 (L y 0))).setCell ⟨b, 1, none⟩ (.int .u64 (L y 1))).setCell ⟨b, 2, none⟩ (.int .u64 (L y 2))).setCell ⟨b, 3, none⟩ (.int .u64 (L y 3))) b #[.int .u64 (L y 0), .int .u64 (L y 1), .int .u64 (L y 2), .int .u64 (L y 3)] t :=
  ((((h.set _ _).set _ _).set _ _).set _ _).cells rfl
theorem and_of {A B : Prop} (h : A) (k : A → B) : A ∧ B := ⟨h, k h⟩
end Go.Proofs.Ytkanjdllaikoaaa
