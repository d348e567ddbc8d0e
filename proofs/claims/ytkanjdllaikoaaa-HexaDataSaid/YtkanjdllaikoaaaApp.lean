/- append(v, x) to a row of the call's own: where the row has room it is written there, else all else stays. -/
import Derived.WalkKit
import Derived.KernelRfl
import Derived.ArgAppend
import Derived.Below
import Derived.Laws.OwnMore
import Derived.Maps.AppendAt
import Derived.Deep.AppendLies
namespace Go.Proofs.Ytkanjdllaikoaaa
open Go Go.RowKit

theorem owns_room {w : World} {base g n cap : Nat} {e : TypeId} {cur : Array Value} {xs : List Value} (hb : base ≤ g) (hg : w.heap[g]? = some (.cells cur e (0, 0))) (hc : cap ≤ maxLen) (hs : cur.size = cap * 1)
    (ht : cur.toList.take (n * 1) = xs) (hn : xs.length = n) (hr : n + 1 ≤ cap) (u : Value) :
    (w.setCell ⟨g, n, none⟩ u).ownsRow base e 1 (.slice (some ⟨g, 0, none⟩) (n + 1) cap) (n + 1) (xs ++ [u]) := by
  refine ⟨by simp [hn], .inr ⟨g, cap, cur.setIfInBounds n u, rfl, hb, ?_, hr, hc, by simpa using hs, ?_⟩⟩
  · simp [World.setCell, Array.getElem?_modify, hg]
  · rw [Array.toList_setIfInBounds]
    rw [Nat.mul_one] at ht ⊢
    subst ht
    have hl : n < cur.toList.length := by simp; omega
    rw [List.take_succ_eq_append_getElem (by simpa using hl), List.take_set_of_le (Nat.le_refl n)]
    simp
theorem grownBy_setCell (w : World) (g o : Nat) (u : Value) : w.grownBy (w.setCell ⟨g, o, none⟩ u) (some g) :=
  ⟨rfl, rfl, rfl, by simp [World.setCell], fun k hk hne => Below.heap_setCell w ⟨g, o, none⟩ u k (fun h => hne (by rw [h]))⟩

theorem wpList_append_two {P : Program} {ops : Array Oper} {rest : List Oper} {o : Oper} {a : Act} {Q : Exit → Act → World → Prop} (W : World) (hgd : o.guard = none) (s x : Operand) (t e : TypeId) (z : Value) (bytes : Nat)
    (ho : o.op = .call { callee := .builtin .append, args := #[s, x], argTypes := #[t, t] })
    (ht : P.underlying t = some (.slice e)) (hinfo : (P.info? e).map (fun i => (i.zero, i.size, i.bytes)) = some (some z, 1, bytes)) (hz : z.cells.size = 1) (hb0 : 0 < bytes)
    (v : Value) (n : Nat) (xs : List Value) (u : Value) (hs : a.eval s = v) (hx : a.eval x = .slice (some ⟨W.heap.size, 0, none⟩) 1 1) (h1 : u.oneCell' = true) (base : Nat)
    (HO : W.ownsRow base e 1 v n xs) (hbase : base ≤ W.heap.size) (hl : (n + 1) * bytes ≤ 140737488355328)
    (h : ∀ v' w', w'.ownsRow base e 1 v' (n + 1) (xs ++ [u]) → ((∃ g cap, v = .slice (some ⟨g, 0, none⟩) n cap ∧ v' = .slice (some ⟨g, 0, none⟩) (n + 1) cap ∧ W.grownBy w' (some g)) ∨ (∃ b, v'.ownBlock = some b ∧ W.heap.size ≤ b ∧ W.grownBy w' none)) → wpList P ops Q rest (a.put o.dst v') w') :
    wpList P ops Q (o :: rest) a (W.alloc (.cells #[u] e)) := by
  obtain ⟨i0, hi, hzz⟩ := Option.map_eq_some_iff.1 hinfo
  simp only [Prod.mk.injEq] at hzz
  obtain ⟨hz0, hz1, hz2⟩ := hzz
  have hlen : n + 1 ≤ 140737488355328 := Nat.le_trans (Nat.le_mul_of_pos_right _ hb0) hl
  have hnew : ∀ j w', [u][j]? = some w' → (W.alloc (.cells #[u] e)).cell? ((⟨W.heap.size, 0, none⟩ : Addr).add j) = some w' :=
    World.news_of_block (cs := #[u]) (t := e) (fr := (0, 0)) (heap_alloc_new W _)
  have hxl : xs.length = n := by have := HO.1; omega
  have hgrow : ∀ v' w', w'.ownsRow (W.alloc (.cells #[u] e)).heap.size e 1 v' (n + 1) (xs ++ [u]) → (W.alloc (.cells #[u] e)).grownBy w' none → wpList P ops Q rest (a.put o.dst v') w' := by
    intro v' w' ho' hg'
    refine h v' w' ⟨ho'.1, ?_⟩ (.inr ?_)
    · rcases ho'.2 with ⟨_, h0⟩ | ⟨g, cap, cur, e1, e2, r⟩
      · omega
      · exact .inr ⟨g, cap, cur, e1, by simp at e2; omega, r⟩
    · rcases ho'.2 with ⟨_, h0⟩ | ⟨g, cap, cur, rfl, e2, r⟩
      · omega
      · exact ⟨g, rfl, by simp at e2; omega, World.grownBy.trans (World.grownBy_alloc W _ _) hg'⟩
  rcases HO.2 with ⟨rfl, rfl⟩ | ⟨g, cap, cur, rfl, hb, hh, hnc, hcm, hsz, htk⟩
  · obtain rfl : xs = [] := List.eq_nil_of_length_eq_zero hxl
    exact wpList_append_grows _ hgd s x t ho e i0 z 1 bytes ht hi hz0 hz1 hz2 hz (by omega) none 0 0 [] hs (fun _ => ⟨rfl, rfl⟩) rfl (fun b hb => by cases hb) ⟨W.heap.size, 0, none⟩ 1 1 [u] hx rfl hnew
      (by simpa using h1) (by omega) (by simp only [maxLen]; omega) (by simpa using hl) hgrow
  · have hgl : g < W.heap.size := (Array.getElem?_eq_some_iff.1 hh).1
    have hh' : (W.alloc (.cells #[u] e)).heap[g]? = some (.cells cur e (0, 0)) := by rw [Below.heap_alloc _ _ _ hgl]; exact hh
    refine wpList_append_arg _ hgd s x t ho e i0 z 1 bytes ht hi hz0 hz1 hz2 hz (by omega) g 0 n cap xs hs (by omega) ?_ ⟨W.heap.size, 0, none⟩ 1 1 [u] hx rfl hnew (by simpa using h1) ?_ (by simp only [maxLen]; omega) hl ?_ (fun _ => hgrow)
    · intro j y hj
      have := (HO.alloc (.cells #[u] e)).cells (g := g) rfl j y hj
      rwa [Addr.add_lit] at this
    · intro hr j hj
      obtain rfl : j = 0 := by simp at hj; omega
      have hlt : n < cur.size := by omega
      constructor
      · simp [World.cell?, hh', hlt]
      · simp [World.frozen?, hh']
    · intro hr
      rw [Nat.zero_add, Nat.mul_one]
      refine h _ _ (owns_room hb hh' hcm hsz htk hxl hr u) (.inl ⟨g, cap, rfl, rfl, World.grownBy.trans (World.grownBy_alloc W _ _) (grownBy_setCell _ _ _ _)⟩)
theorem owns_prefix {W : World} {base g n n' cap : Nat} {e : TypeId} {xs ys : List Value} (h : W.ownsRow base e 1 (.slice (some ⟨g, 0, none⟩) n' cap) n' (xs ++ ys)) (hn : xs.length = n) (hle : n ≤ n') :
    W.ownsRow base e 1 (.slice (some ⟨g, 0, none⟩) n cap) n xs := by
  refine ⟨by omega, ?_⟩
  rcases h.2 with ⟨e1, _⟩ | ⟨g', cap', cur, e1, hb, hh, hnc, hcm, hsz, htk⟩
  · simp at e1
  · simp only [Value.slice.injEq, Option.some.injEq, Addr.mk.injEq] at e1
    obtain ⟨⟨rfl, _, _⟩, _, rfl⟩ := e1
    refine .inr ⟨g, cap, cur, rfl, hb, hh, by omega, hcm, hsz, ?_⟩
    have h2 : List.take n (List.take (n' * 1) cur.toList) = List.take n (xs ++ ys) := by rw [htk]
    rw [List.take_take, Nat.mul_one, Nat.min_eq_left hle] at h2
    rw [Nat.mul_one, h2, List.take_append_of_le_length (by omega)]
    exact List.take_of_length_le (by omega)
theorem owns_cap {W : World} {base g n n' cap cap' : Nat} {e : TypeId} {xs ys : List Value} (h : W.ownsRow base e 1 (.slice (some ⟨g, 0, none⟩) n cap) n xs) (h' : W.ownsRow base e 1 (.slice (some ⟨g, 0, none⟩) n' cap') n' ys) : cap = cap' := by
  rcases h.2 with ⟨e1, _⟩ | ⟨g1, c1, cur, e1, hb, hh, hnc, hcm, hsz, htk⟩
  · simp at e1
  · rcases h'.2 with ⟨e2, _⟩ | ⟨g2, c2, cur2, e2, hb2, hh2, hnc2, hcm2, hsz2, htk2⟩
    · simp at e2
    · simp only [Value.slice.injEq, Option.some.injEq, Addr.mk.injEq] at e1 e2
      obtain ⟨⟨rfl, _, _⟩, _, rfl⟩ := e1
      obtain ⟨⟨rfl, _, _⟩, _, rfl⟩ := e2
      rw [hh] at hh2
      simp only [Option.some.injEq, Obj.cells.injEq] at hh2
      obtain ⟨rfl, _⟩ := hh2
      omega
end Go.Proofs.Ytkanjdllaikoaaa
