/- The abstract machine: lists of the call's own; what is built. -/
import Derived.Test.YthgnmpjcbicdhaaDoorVmA
import Derived.Laws.MakeOwn
import Derived.Laws.CopyRow
import Derived.Laws.IdiomCopy
import Derived.Laws.OwnMore
import Derived.Laws.AppendOwn
import Derived.Laws.Append
set_option linter.unusedVariables false
set_option linter.unusedSimpArgs false
namespace Go.Proofs.YthgnmpjcbicdhaaDoor
open Go Go.RowKit

/-! Lists of the call's own: what is appended. -/
def ownVal (B C n : Nat) : Value := match C with
  | 0 => .slice none 0 0
  | c + 1 => .slice (some ⟨B, 0, none⟩) n (c + 1)
def OwnAt (w : World) (B C sz : Nat) (ty : TypeId) (cs : List Value) : Prop :=
  (C = 0 → cs = []) ∧ (0 < C → C ≤ maxLen ∧ ∃ spare : List Value, (cs ++ spare).length = C * sz ∧ w.heap[B]? = some (.cells (cs ++ spare).toArray ty (0, 0)))
/-- What is read of a list that is appended: the cells of n elements. -/
def Src (w : World) (x : Value) (m : Nat) (news : List Value) : Prop :=
  (x = .slice none 0 0 ∧ m = 0 ∧ news = []) ∨ ∃ ad c, x = .slice (some ad) m c ∧ ∀ j v, news[j]? = some v → w.cell? (ad.add j) = some v
theorem append_law {P : Program} (w : World) (t ty e : TypeId) (i : TypeInfo) (z : Value) (sz : Nat) (ht : P.underlying t = some (.slice e)) (hi : P.info? e = some i) (hz : i.zero = some z) (hsz : i.size = sz) (hzs : z.cells.size = sz) (hpos : 0 < sz) (hby : 0 < i.bytes)
    (B C n : Nat) (xs : List Value) (ho : OwnAt w B C sz e xs) (hn : xs.length = n * sz) (x : Value) (m : Nat) (news : List Value) (hs : Src w x m news) (hm : news.length = m * sz) (h1 : ∀ u ∈ news, u.oneCell' = true) (hb : (n + m) * i.bytes ≤ 140737488355328) :
    ∃ B' C' w', (Builtin.append_ #[t, t] ty #[ownVal B C n, x]).run P w = .ok (ownVal B' C' (n + m)) w' ∧ OwnAt w' B' C' sz e (xs ++ news) ∧ ((B' = B ∧ C' = C) ∨ w.heap.size ≤ B') ∧
      (∀ j, j < w.heap.size → j ≠ B ∨ C = 0 → w'.heap[j]? = w.heap[j]?) ∧ w.heap.size ≤ w'.heap.size ∧ w'.os = w.os ∧ w'.tape = w.tape ∧ w'.output = w.output := by
  subst hsz
  have hle : n + m ≤ 140737488355328 := Nat.le_trans (Nat.le_mul_of_pos_right _ hby) hb
  have h63 : n + m ≤ maxLen := by simp only [maxLen]; omega
  have grown : ∀ (old : Nat), old < n + m →
      OwnAt (w.drew.alloc (.cells (xs.toArray ++ news.toArray ++ Builtin.zeroCells z.cells (grownCap w (n + m) old e - (n + m))) e)) w.heap.size (grownCap w (n + m) old e) i.size e (xs ++ news) := by
    intro old ho
    have hge := grownCap_ge w (n + m) old e
    have hcm : grownCap w (n + m) old e ≤ maxLen := grownCap_le_maxLen w (n + m) old e h63
    refine ⟨fun h => by omega, fun _ => ⟨hcm, (Builtin.zeroCells z.cells (grownCap w (n + m) old e - (n + m))).toList, ?_, ?_⟩⟩
    · simp only [List.length_append, Array.length_toList, size_zeroCells, hzs, hn, hm, ← Nat.add_mul]
      congr 1
      omega
    · show (w.heap.push _)[w.heap.size]? = _
      simp
  have grow_val : ∀ (old : Nat), old < n + m → Value.slice (some ⟨w.heap.size, 0, none⟩) (n + m) (grownCap w (n + m) old e) = ownVal w.heap.size (grownCap w (n + m) old e) (n + m) := by
    intro old ho
    have hge := grownCap_ge w (n + m) old e
    unfold ownVal
    split
    · omega
    · rename_i h; rw [h]
  have far : ∀ o : Obj, ∀ j, j < w.heap.size → (w.drew.alloc o).heap[j]? = w.heap[j]? := fun o j hj => by
    show (w.heap.push o)[j]? = _
    rw [Array.getElem?_push_lt hj, Array.getElem?_eq_getElem hj]
  rcases Nat.eq_zero_or_pos C with h0 | h0
  · subst h0
    have hx0 := ho.1 rfl
    subst hx0
    have hn0 : n = 0 := by
      rcases Nat.eq_zero_or_pos n with h | h
      · exact h
      · have := Nat.mul_pos h hpos; simp at hn; omega
    subst hn0
    simp only [Nat.zero_add, List.nil_append] at *
    rcases hs with ⟨rfl, rfl, rfl⟩ | ⟨ad, c, rfl, hc⟩
    · refine ⟨B, 0, w, ?_, ho, .inl ⟨rfl, rfl⟩, fun _ _ _ => rfl, Nat.le_refl _, rfl, rfl, rfl⟩
      simp [ownVal, Builtin.append_, run_underlying ht, sizeOf, typeInfo, hi, Builtin.lenOf, Builtin.firstCells]
    · by_cases hm0 : m = 0
      · subst hm0
        have hn : news = [] := List.eq_nil_of_length_eq_zero (by simpa using hm)
        subst hn
        refine ⟨B, 0, w, ?_, ho, .inl ⟨rfl, rfl⟩, fun _ _ _ => rfl, Nat.le_refl _, rfl, rfl, rfl⟩
        simp [ownVal, Builtin.append_, run_underlying ht, sizeOf, typeInfo, hi, Builtin.lenOf, Builtin.firstCells, loadCells, loadCellsFrom]
      · have hr := run_append_nil (P := P) w t ty e i z ht hi hz ad m c news hm hc (by omega) (by omega) (by omega)
        have hg := grown 0 (by omega)
        have hv := grow_val 0 (by omega)
        simp only [Array.empty_append] at hg
        refine ⟨w.heap.size, grownCap w m 0 e, _, ?_, hg, .inr (Nat.le_refl _), fun j hj _ => far _ j hj, by simp, rfl, rfl, rfl⟩
        rw [← hv]
        exact hr
  · obtain ⟨hcm, spare, hlen, hg⟩ := ho.2 h0
    have hval : ∀ n, ownVal B C n = .slice (some ⟨B, 0, none⟩) n C := by intro n; unfold ownVal; split <;> simp_all
    have hncap : n ≤ C := by
      have : n * i.size ≤ C * i.size := by rw [← hlen, List.length_append, hn]; omega
      exact Nat.le_of_mul_le_mul_right this hpos
    have olds : ∀ j u, xs[j]? = some u → w.cell? ((⟨B, 0, none⟩ : Addr).add j) = some u := by
      intro j u hu
      have hj : j < xs.length := (List.getElem?_eq_some_iff.1 hu).1
      rw [add_at, Nat.zero_add]
      simp only [World.cell?, hg, Option.isSome_none, Bool.false_eq_true, if_false, List.getElem?_toArray]
      rw [List.getElem?_append_left hj]
      exact hu
    rw [hval]
    rcases hs with ⟨rfl, rfl, rfl⟩ | ⟨ad, c, rfl, hc⟩
    · refine ⟨B, C, w, ?_, by simpa using ho, .inl ⟨rfl, rfl⟩, fun _ _ _ => rfl, Nat.le_refl _, rfl, rfl, rfl⟩
      rw [hval]
      simp [Builtin.append_, run_underlying ht, sizeOf, typeInfo, hi, Builtin.lenOf, Builtin.firstCells, hncap, storeCells]
    · by_cases hroom : n + m ≤ C
      · have hfit : n * i.size + news.length ≤ (xs ++ spare).toArray.size := by
          rw [List.size_toArray, hlen, hm, ← Nat.add_mul]; exact Nat.mul_le_mul_right _ hroom
        have hr := run_append_room (P := P) w t ty e i ht hi B n C _ hg ad m c news hm hc h1 hroom hfit
        have e1 : (xs ++ spare).toArray.toList.take (n * i.size) ++ news ++ (xs ++ spare).toArray.toList.drop (n * i.size + news.length) = (xs ++ news) ++ spare.drop news.length := by
          simp only [List.toList_toArray]
          rw [← hn, List.take_append_of_le_length (Nat.le_refl _), List.take_of_length_le (Nat.le_refl _), List.drop_append, List.drop_of_length_le (by omega), List.nil_append, show xs.length + news.length - xs.length = news.length by omega]
        rw [e1] at hr
        refine ⟨B, C, _, by rw [hval]; exact hr, ⟨fun h => by omega, fun _ => ⟨hcm, spare.drop news.length, ?_, setRow_heap w B _ _ e _ hg⟩⟩, .inl ⟨rfl, rfl⟩, fun j _ hj => setRow_other w B j _ (fun e => (hj.resolve_right (by omega)) e), by simp, rfl, rfl, rfl⟩
        have : (xs ++ spare).length = xs.length + spare.length := List.length_append
        simp only [List.length_append, List.length_drop]
        rw [List.size_toArray] at hfit
        omega
      · have hr := run_append_grow (P := P) w t ty e i z ht hi hz ⟨B, 0, none⟩ n C xs hn olds ad m c news hm hc (by omega) (by omega) (growslice_fits (by omega) hb)
        have hg := grown C (by omega)
        have hv := grow_val C (by omega)
        refine ⟨w.heap.size, grownCap w (n + m) C e, _, ?_, hg, .inr (Nat.le_refl _), fun j hj _ => far _ j hj, by simp, rfl, rfl, rfl⟩
        rw [← hv]
        exact hr

def deadBlk : Vblk := ⟨[], 0, .dead⟩
/-- A part of a block: its cells, from a place on. -/
def viewOf (row : List Seg) (base st n : Nat) : Option (List Seg × List Prop) := match Seg.cut base row with
  | some (_, .ints kd m xs :: _) => some ([.ints kd n ((xs.drop st).take n)], [st + n ≤ m])
  | some (_, r1) => match Seg.cut st r1 with
    | some (_, r2) => match Seg.cut n r2 with
      | some (r3, _) => some (r3, [])
      | none => none
    | none => none
  | none => none
theorem viewOf_spec {D : Nat → Prop} {ρ : Env} {row news : List Seg} {base st n : Nat} {vc : List Prop} (h : viewOf row base st n = some (news, vc)) (hvc : ∀ p ∈ vc, p) (ho : Seg.ok D row) :
    Seg.ok D news ∧ (Seg.cells ρ news).length = n ∧ ∀ j v, (Seg.cells ρ news)[j]? = some v → (Seg.cells ρ row)[base + st + j]? = some v := by
  unfold viewOf at h
  split at h
  · rename_i r0 kd m xs r2 hc
    simp only [Option.some.injEq, Prod.mk.injEq] at h
    obtain ⟨rfl, rfl⟩ := h
    obtain ⟨e1, e2, e3, e4, e5, e6⟩ := cut_ints (ρ := ρ) hc ho
    have hle : st + n ≤ m := hvc _ (by simp)
    refine ⟨by simp only [Seg.ok]; exact ⟨by simp; omega, trivial⟩, by simp [Seg.cells, Seg.cell1]; omega, fun j v hv => ?_⟩
    simp only [Seg.cells, Seg.cell1, List.append_nil] at hv
    have hj : j < n := by have := (List.getElem?_eq_some_iff.1 hv).1; simp at this; omega
    rw [e6, List.getElem?_append_right (by omega), e5, show base + st + j - base = st + j by omega, List.getElem?_append_left (by simp; omega)]
    rw [List.getElem?_map, List.getElem?_take_of_lt hj, List.getElem?_drop] at hv
    rw [List.getElem?_map]
    exact hv
  · rename_i r0 r1 hne hc
    split at h
    · rename_i r2 r3 hc2
      split at h
      · rename_i r4 r5 hc3
        simp only [Option.some.injEq, Prod.mk.injEq] at h
        obtain ⟨rfl, _⟩ := h
        obtain ⟨e1, e2, e3, e4⟩ := Seg.cut_spec ρ _ _ _ _ hc ho
        obtain ⟨f1, f2, f3, f4⟩ := Seg.cut_spec ρ _ _ _ _ hc2 e3
        obtain ⟨g1, g2, g3, g4⟩ := Seg.cut_spec ρ _ _ _ _ hc3 f3
        have l0 : (Seg.cells ρ r0).length = base := by rw [Seg.cells_len ρ r0 e2, e4]
        have l2 : (Seg.cells ρ r2).length = st := by rw [Seg.cells_len ρ r2 f2, f4]
        have l4 : (Seg.cells ρ r4).length = n := by rw [Seg.cells_len ρ r4 g2, g4]
        refine ⟨g2, l4, fun j v hv => ?_⟩
        have hj : j < n := by have := (List.getElem?_eq_some_iff.1 hv).1; omega
        rw [e1, f1, g1, Seg.cells_append, Seg.cells_append, Seg.cells_append, List.getElem?_append_right (by omega), l0, List.getElem?_append_right (by omega), l2, show base + st + j - base - st = j by omega, List.getElem?_append_left (by omega)]
        exact hv
      · cases h
    · cases h
  · cases h
/-- What is appended: its cells, how many elements, the blocks that are read, what is to be shown. -/
def srcOf (sz : Nat) (x : AV) (mem : List (Nat × Vblk)) : Option (List Seg × Nat × List Nat × List Prop) := match x with
  | .val (.slice none 0 0) => some ([], 0, [], [])
  | .lst k base st m _ => match live k mem with
    | some b => match viewOf b.row base st (times m sz) with
      | some (news, vc) => some (news, m, [k], vc)
      | none => none
    | none => none
  | .own k sz' st m => match live k mem with
    | some b => match b.held with
      | .own s2 => match Nat.beq sz' sz && Nat.beq s2 sz with
        | true => match viewOf b.row 0 (times st sz) (times m sz) with
          | some (news, vc) => some (news, m, [k], vc)
          | none => none
        | false => none
      | _ => none
    | none => none
  | _ => none
theorem srcOf_spec {Γ : Ctx} {ρ : Env} {mem : List (Nat × Vblk)} {w : World} (hR : RelM Γ ρ mem w) {sz : Nat} (hpos : 0 < sz) {x : AV} {news : List Seg} {m : Nat} {rd : List Nat} {vc : List Prop} (h : srcOf sz x mem = some (news, m, rd, vc)) (hvc : ∀ p ∈ vc, p) :
    Src w (x.conc ρ) m (Seg.cells ρ news) ∧ Seg.ok (AS.dom mem) news ∧ (Seg.cells ρ news).length = m * sz := by
  unfold srcOf at h
  split at h
  · simp only [Option.some.injEq, Prod.mk.injEq] at h
    obtain ⟨rfl, rfl, rfl, rfl⟩ := h
    exact ⟨.inl ⟨by simp [AV.conc], rfl, rfl⟩, trivial, by simp [Seg.cells]⟩
  · rename_i k base st m' cap
    split at h
    · rename_i b hb
      split at h
      · rename_i ns vc' hv
        simp only [Option.some.injEq, Prod.mk.injEq] at h
        obtain ⟨rfl, rfl, rfl, rfl⟩ := h
        obtain ⟨hs, hok, hdd, hlk⟩ := hR.liveAt hb
        obtain ⟨g1, g2, g3⟩ := viewOf_spec (ρ := ρ) hv hvc hok
        rw [times_eq] at g2
        refine ⟨.inr ⟨⟨ρ.b k, base + st, none⟩, cap, by simp [AV.conc], fun j v hj => ?_⟩, g1, g2⟩
        rw [add_at]
        exact (hs.rd hdd (g3 j v hj)).1
      · cases h
    · cases h
  · rename_i k sz' st m'
    split at h
    · rename_i b hb
      split at h
      · rename_i s2 hheld
        split at h
        · rename_i hsz
          rw [Bool.and_eq_true] at hsz
          have e1 := Nat.eq_of_beq_eq_true hsz.1
          have e2 := Nat.eq_of_beq_eq_true hsz.2
          subst e1
          subst e2
          split at h
          · rename_i ns vc' hv
            simp only [Option.some.injEq, Prod.mk.injEq] at h
            obtain ⟨rfl, rfl, rfl, rfl⟩ := h
            obtain ⟨hs, hok, hdd, hlk⟩ := hR.liveAt hb
            obtain ⟨g1, g2, g3⟩ := viewOf_spec (ρ := ρ) hv hvc hok
            rw [times_eq] at g2
            refine ⟨?_, g1, g2⟩
            simp only [AV.conc]
            split
            · rename_i hc
              left
              unfold Sits at hs
              rw [hheld] at hs
              have hn := hs.1 hc
              have hns : Seg.cells ρ ns = [] := by
                cases hq : Seg.cells ρ ns with
                | nil => rfl
                | cons y r =>
                  have := g3 0 y (by rw [hq]; rfl)
                  rw [hn] at this
                  simp at this
              rw [hns] at g2
              have hm : m' = 0 := by
                rcases Nat.eq_zero_or_pos m' with h | h
                · exact h
                · have := Nat.mul_pos h hpos; simp at g2; omega
              exact ⟨rfl, hm, hns⟩
            · refine .inr ⟨_, _, rfl, fun j v hj => ?_⟩
              rw [add_at]
              have := g3 j v hj
              rw [times_eq, Nat.zero_add] at this
              exact (hs.rd hdd this).1
          · cases h
        · cases h
      · cases h
    · cases h
  · cases h
/-- What it is appended to: the cells there, how many elements, the name that goes. -/
def headOf (Γ : Ctx) (sz : Nat) (ty : TypeId) (x : AV) (mem : List (Nat × Vblk)) : Option (List Seg × Nat × List (Nat × Vblk)) := match x with
  | .val (.slice none 0 0) => some ([], 0, [])
  | .own k sz' 0 n => match live k mem with
    | some b => match b.held with
      | .own s2 => match Nat.beq sz' sz && Nat.beq s2 sz && Nat.beq b.ty ty with
        | true => some (b.row, n, [(k, deadBlk)])
        | false => none
      | _ => none
    | none => none
  | _ => none
def appRes (Γ : Ctx) (nm : Nat) (h : Option Hint) (sz by_ : Nat) (ty : TypeId) (s x : AV) (mem : List (Nat × Vblk)) : Option Res := match headOf Γ sz ty s mem with
  | some (old, n, ms) => match h with
    | some (.appx row len ys) => match x with
      | .val (.slice (some A) m _) => some (.gen (.own nm sz 0 len) (ms ++ [(nm, ⟨row, ty, .own sz⟩)]) [] true
          [∀ ρ, Seg.cells ρ row = Seg.cells ρ old ++ ys, Seg.ok No row, len = n + m, Seg.len old = times n sz, times len by_ ≤ 140737488355328, ys.length = times m sz, (∀ u ∈ ys, u.oneCell' = true), (0 < ys.length → A.block < Γ.w0.heap.size ∧ ¬ Γ.F A.block), ∀ j v, ys[j]? = some v → Γ.w0.cell? (A.add j) = some v])
      | _ => none
    | some (.app row len) => match srcOf sz x mem with
      | some (news, m, rd, vc) => some (.gen (.own nm sz 0 len) (ms ++ [(nm, ⟨row, ty, .own sz⟩)]) rd true
          ([∀ ρ, Seg.cells ρ row = Seg.cells ρ old ++ Seg.cells ρ news, Seg.ok No row, len = n + m, Seg.len old = times n sz, times len by_ ≤ 140737488355328] ++ vc))
      | none => none
    | _ => match srcOf sz x mem with
      | some (news, m, rd, vc) => match Nat.beq (Seg.len old) (times n sz) && Nat.ble (times (n + m) by_) 140737488355328 with
        | true => some (.gen (.own nm sz 0 (n + m)) (ms ++ [(nm, ⟨old ++ news, ty, .own sz⟩)]) rd true vc)
        | false => none
      | none => none
  | none => none

theorem headOf_spec {Γ : Ctx} {ρ : Env} {mem : List (Nat × Vblk)} {w : World} (hR : RelM Γ ρ mem w) {sz : Nat} {ty : TypeId} {S : AV} {old : List Seg} {n : Nat} {ms : List (Nat × Vblk)} (h : headOf Γ sz ty S mem = some (old, n, ms)) :
    ∃ B C, S.conc ρ = ownVal B C n ∧ OwnAt w B C sz ty (Seg.cells ρ old) ∧ Seg.ok (AS.dom mem) old ∧ ((ms = [] ∧ C = 0) ∨ ∃ k b, ms = [(k, deadBlk)] ∧ look k mem = some b ∧ ρ.b k = B ∧ ρ.c k = C ∧ (b.alive ρ k ↔ 0 < C)) := by
  unfold headOf at h
  split at h
  · simp only [Option.some.injEq, Prod.mk.injEq] at h
    obtain ⟨rfl, rfl, rfl⟩ := h
    exact ⟨0, 0, by simp [AV.conc, ownVal], ⟨fun _ => rfl, fun h => by omega⟩, trivial, .inl ⟨rfl, rfl⟩⟩
  · rename_i k sz' n'
    split at h
    · rename_i b hb
      split at h
      · rename_i s2 hheld
        split at h
        · rename_i hsz
          simp only [Bool.and_eq_true] at hsz
          obtain ⟨⟨q1, q2⟩, q3⟩ := hsz
          have e1 := Nat.eq_of_beq_eq_true q1
          have e2 := Nat.eq_of_beq_eq_true q2
          have e3 := Nat.eq_of_beq_eq_true q3
          subst e1 e2 e3
          simp only [Option.some.injEq, Prod.mk.injEq] at h
          obtain ⟨rfl, rfl, rfl⟩ := h
          obtain ⟨hs, hok, hdd, hlk⟩ := hR.liveAt hb
          refine ⟨ρ.b k, ρ.c k, ?_, ?_, hok, .inr ⟨k, b, rfl, hlk, rfl, rfl, ?_⟩⟩
          · simp only [AV.conc, ownVal]
            split
            · rename_i hc; rw [hc]
            · rename_i c hc; rw [hc]; simp
          · unfold Sits at hs
            rw [hheld] at hs
            exact hs
          · unfold Vblk.alive
            rw [hheld]
        · cases h
      · cases h
    · cases h
  · cases h
theorem layAll_append : ∀ (a b m : List (Nat × Vblk)), layAll (a ++ b) m = layAll b (layAll a m)
  | [], _, _ => rfl
  | (k, x) :: r, b, m => by simp only [List.cons_append, layAll]; exact layAll_append r b _
/-- The state behind an append. -/
theorem append_rel {Γ : Ctx} {ρ : Env} {s : AS} {a : Act} {w : World} (hR : Rel Γ ρ s a w) {nm sz : Nat} {ty : TypeId} {old row : List Seg} {n : Nat} {ms : List (Nat × Vblk)} (hnm : look nm s.mem = none) {B C B' C' : Nat} {w' : World} (hrow : Seg.ok (AS.dom s.mem) row)
    (hms : (ms = [] ∧ C = 0) ∨ ∃ k b, ms = [(k, deadBlk)] ∧ look k s.mem = some b ∧ ρ.b k = B ∧ ρ.c k = C ∧ (b.alive ρ k ↔ 0 < C))
    (ho : OwnAt w' B' C' sz ty (Seg.cells ρ row)) (hB : (B' = B ∧ C' = C) ∨ w.heap.size ≤ B') (hfar : ∀ j, j < w.heap.size → j ≠ B ∨ C = 0 → w'.heap[j]? = w.heap[j]?) (hsz : w.heap.size ≤ w'.heap.size) (hos : w'.os = w.os) (ht : w'.tape = w.tape) (hp : w'.output = w.output) :
    Rel Γ (ρ.up nm B' C') ⟨s.tm, layAll (ms ++ [(nm, ⟨row, ty, .own sz⟩)]) s.mem⟩ a w' := by
  -- the elder name goes
  have h1 : RelM Γ ρ (layAll ms s.mem) w ∧ (∀ j, AS.dom s.mem j ↔ AS.dom (layAll ms s.mem) j) ∧ look nm (layAll ms s.mem) = none ∧ (∀ j c, look j (layAll ms s.mem) = some c → c.alive ρ j → ρ.b j < w.heap.size ∧ (ρ.b j ≠ B ∨ C = 0)) ∧ (0 < C → Γ.F B ∨ Γ.w0.heap.size ≤ B) := by
    rcases hms with ⟨rfl, hC⟩ | ⟨k, b, rfl, hk, hb, hc, hal⟩
    · exact ⟨hR.mem, fun j => Iff.rfl, hnm, fun j c hj ha => ⟨(hR.mem.sits j c hj).1.lt ha, .inr hC⟩, fun h => by omega⟩
    · have hdk : AS.dom s.mem k := by unfold AS.dom; rw [hk]; rfl
      have hw : RelM Γ ρ (lay k deadBlk s.mem) w := hR.mem.write k b deadBlk hk (fun h => h.elim) trivial trivial (fun _ _ => rfl) rfl rfl rfl rfl
      refine ⟨hw, fun j => ?_, ?_, fun j c hj ha => ?_, fun hC => ?_⟩
      · show _ ↔ AS.dom (lay k deadBlk s.mem) j
        rw [dom_lay]
        exact ⟨.inr, fun e => e.elim (fun e => e ▸ hdk) id⟩
      · show look nm (lay k deadBlk s.mem) = none
        rw [look_lay_ne (fun e => by subst e; rw [hk] at hnm; cases hnm)]
        exact hnm
      · have hj' : look j (lay k deadBlk s.mem) = some c := hj
        rw [look_lay] at hj'
        split at hj'
        · simp only [Option.some.injEq] at hj'
          subst hj'
          exact ha.elim
        · rename_i hne
          refine ⟨(hR.mem.sits j c hj').1.lt ha, ?_⟩
          by_cases hC : C = 0
          · exact .inr hC
          · left
            intro e
            exact hne (hR.mem.inj j k c b hj' hk ha (hal.2 (by omega)) (by rw [e, hb]))
      · have h := hR.mem.home k b hk (hal.2 hC)
        rw [hb] at h
        exact h
  obtain ⟨hM, hdom, hnm', halive, hhome⟩ := h1
  rw [layAll_append]
  have hokr : Seg.ok (AS.dom (layAll ms s.mem)) row := Seg.ok_mono (fun k hk => (hdom k).1 hk) _ hrow
  have hnk : ∀ j, AS.dom (layAll ms s.mem) j → j ≠ nm := fun j hj e => by subst e; unfold AS.dom at hj; rw [hnm'] at hj; simp at hj
  have hag : ∀ j, AS.dom (layAll ms s.mem) j → (ρ.up nm B' C').b j = ρ.b j ∧ (ρ.up nm B' C').c j = ρ.c j := fun j hj => Env.up_ne _ _ _ (hnk j hj)
  obtain ⟨g1, g2⟩ := hM.name (w' := w') nm B' C' hnm' ⟨row, ty, .own sz⟩ hokr (by
      unfold Sits
      simp only
      rw [Env.up_same, Env.up_sameC, Seg.cells_agree hag _ hokr]
      exact ho) (fun j c hj ha => by
      obtain ⟨h2, h3⟩ := halive j c hj ha
      rcases hB with ⟨rfl, rfl⟩ | hB
      · rcases h3 with h3 | h3
        · exact .inl h3
        · right
          unfold Vblk.alive
          simp only
          rw [Env.up_sameC]
          omega
      · left; omega) (fun ha => by
      unfold Vblk.alive at ha
      simp only at ha
      rw [Env.up_sameC] at ha
      rcases hB with ⟨rfl, rfl⟩ | hB
      · exact hhome ha
      · exact .inr (by have := hR.mem.fr.size; omega)) (fun j c hj ha => by
      obtain ⟨h2, h3⟩ := halive j c hj ha
      exact hfar _ h2 h3) ⟨hos.trans hR.mem.fr.os, ht.trans hR.mem.fr.tape, hp.trans hR.mem.fr.output, Nat.le_trans hR.mem.fr.size hsz, fun j hj hF => by
      have h5 : j ≠ B ∨ C = 0 := by
        by_cases hC : C = 0
        · exact .inr hC
        · left
          rcases hhome (by omega) with hF2 | h
          · intro e; exact hF (e ▸ hF2)
          · omega
      rw [hfar j (Nat.lt_of_lt_of_le hj hR.mem.fr.size) h5]
      exact hR.mem.fr.block j hj hF⟩
  have h3 : ∀ j, AS.dom s.mem j → AS.dom (lay nm ⟨row, ty, .own sz⟩ (layAll ms s.mem)) j := fun j hj => dom_lay.2 (.inr ((hdom j).1 hj))
  exact hR.names g1 (fun j hj => g2 j ((hdom j).1 hj)) h3
theorem ownVal_conc (ρ : Env) (nm B C sz n : Nat) : AV.conc (ρ.up nm B C) (.own nm sz 0 n) = ownVal B C n := by
  simp only [AV.conc, Env.up_same, Env.up_sameC, ownVal]
  split
  · rfl
  · simp
/-- append, run. -/
theorem append_wp {Γ : Ctx} {nm : Nat} {o : Oper} {xs xx : Operand} {t : TypeId} (ho : o.op = .call { callee := .builtin .append, args := #[xs, xx], argTypes := #[t, t] }) {sz by_ : Nat} {ty : TypeId} {i : TypeInfo} {z : Value} (ht : Γ.P.underlying t = some (.slice ty)) (hi : Γ.P.info? ty = some i) (hz : i.zero = some z)
    (hsz : i.size = sz) (hzs : z.cells.size = sz) (hpos : 0 < sz) (hby : i.bytes = by_) (hbp : 0 < by_) {ρ : Env} {s : AS} {a : Act} {w : World} (hR : Rel Γ ρ s a w) {S X : AV} (hs : a.eval xs = S.conc ρ) (hx : a.eval xx = X.conc ρ) {old row : List Seg} {n m len : Nat} {ms : List (Nat × Vblk)} {news : List Value}
    (hh : headOf Γ sz ty S s.mem = some (old, n, ms)) (hsrc : Src w (X.conc ρ) m news) (hm : news.length = m * sz) (h1 : ∀ u ∈ news, u.oneCell' = true) (hol : Seg.len old = n * sz) (hlen : len = n + m) (hb : len * by_ ≤ 140737488355328) (hnm : look nm s.mem = none)
    (hrow : Seg.cells ρ row = Seg.cells ρ old ++ news) (hrok : Seg.ok (AS.dom s.mem) row) (rd : List Nat) (vc : List Prop) : ResOk Γ nm o ρ s a w (.gen (.own nm sz 0 len) (ms ++ [(nm, ⟨row, ty, .own sz⟩)]) rd true vc) := by
  subst hlen hby
  obtain ⟨B, C, e1, e2, e3, e4⟩ := headOf_spec hR.mem hh
  obtain ⟨B', C', w', r1, r2, r3, r4, r5, r6, r7, r8⟩ := append_law (P := Γ.P) w t o.type ty i z sz ht hi hz hsz hzs hpos hbp B C n (Seg.cells ρ old) e2 (by rw [Seg.cells_len ρ old e3, hol]) (X.conc ρ) m news hsrc hm h1 hb
  intro K Q hK
  rw [← hrow] at r2
  have hrel := append_rel (sz := sz) (ty := ty) (old := old) (n := n) hR hnm hrok e4 r2 r3 r4 r5 r6 r7 r8
  have hfin := hK _ _ hrel (by
    simp only [AV.ok]
    rw [layAll_append]
    exact dom_lay.2 (.inl rfl))
  rw [ownVal_conc] at hfin
  unfold Oper.wp
  have hrun : (execOp a.eval o).run Γ.P w = .ok (.value (ownVal B' C' (n + m))) w' := by
    obtain ⟨dst, op, type, pos, after, guard⟩ := o
    simp only at ho
    subst ho
    have he : execOp a.eval ⟨dst, .call ⟨.builtin .append, #[xs, xx], #[t, t]⟩, type, pos, after, guard⟩ = (do pure (.value (← Builtin.append_ #[t, t] type (#[xs, xx].map a.eval)))) := rfl
    have hm2 : #[xs, xx].map a.eval = #[ownVal B C n, X.conc ρ] := by simp [hs, hx, e1]
    rw [he, hm2, Sem.run_bind, r1]
    rfl
  rw [hrun]
  exact hfin
theorem appRes_sound {Γ : Ctx} {nm : Nat} {o : Oper} {xs xx : Operand} {t : TypeId} (ho : o.op = .call { callee := .builtin .append, args := #[xs, xx], argTypes := #[t, t] }) {h : Option Hint} {sz by_ : Nat} {ty : TypeId} {i : TypeInfo} {z : Value} (ht : Γ.P.underlying t = some (.slice ty)) (hi : Γ.P.info? ty = some i) (hz : i.zero = some z)
    (hsz : i.size = sz) (hzs : z.cells.size = sz) (hpos : 0 < sz) (hby : i.bytes = by_) (hbp : 0 < by_) {ρ : Env} {s : AS} {a : Act} {w : World} (hR : Rel Γ ρ s a w) {S X : AV} (hS : ev s.tm xs = some S) (hX : ev s.tm xx = some X) (hnm : look nm s.mem = none) {r : Res}
    (hr : appRes Γ nm h sz by_ ty S X s.mem = some r) (hvc : ∀ p ∈ r.vc, p) : ResOk Γ nm o ρ s a w r := by
  have hs := (hR.ev hS).1
  have hx := (hR.ev hX).1
  have no_ok : ∀ row, Seg.ok No row → Seg.ok (AS.dom s.mem) row := fun row h => Seg.ok_mono (fun _ h => h.elim) _ h
  unfold appRes at hr
  split at hr
  · rename_i old n ms hh
    split at hr
    · rename_i row len ys
      split at hr
      · rename_i A m c
        simp only [Option.some.injEq] at hr
        subst hr
        have v1 : ∀ ρ, Seg.cells ρ row = Seg.cells ρ old ++ ys := hvc _ (by simp [Res.vc])
        have v2 : Seg.ok No row := hvc _ (by simp [Res.vc])
        have v3 : len = n + m := hvc _ (by simp [Res.vc])
        have v4 : Seg.len old = times n sz := hvc _ (by simp [Res.vc])
        have v5 : times len by_ ≤ 140737488355328 := hvc _ (by simp [Res.vc])
        have v6 : ys.length = times m sz := hvc _ (by simp [Res.vc])
        have v7 : ∀ u ∈ ys, u.oneCell' = true := hvc _ (by simp [Res.vc])
        have v8 : 0 < ys.length → A.block < Γ.w0.heap.size ∧ ¬ Γ.F A.block := hvc _ (by simp [Res.vc])
        have v9 : ∀ j v, ys[j]? = some v → Γ.w0.cell? (A.add j) = some v := hvc _ (by simp [Res.vc])
        rw [times_eq] at v4 v5 v6
        refine append_wp ho ht hi hz hsz hzs hpos hby hbp hR hs hx hh (m := m) (news := ys) (.inr ⟨A, c, by simp [AV.conc], fun j v hv => ?_⟩) v6 v7 v4 v3 v5 hnm (v1 ρ) (no_ok _ v2) _ _
        have hj := (List.getElem?_eq_some_iff.1 hv).1
        obtain ⟨b1, b2⟩ := v8 (by omega)
        rw [← v9 j v hv]
        have hbl : (A.add j).block = A.block := by unfold Addr.add; split <;> rfl
        exact World.cell?_of_block (by rw [hbl]; exact hR.mem.fr.block _ b1 b2)
      · cases hr
    · rename_i row len
      split at hr
      · rename_i news m rd vc hsrc
        simp only [Option.some.injEq] at hr
        subst hr
        have v1 : ∀ ρ, Seg.cells ρ row = Seg.cells ρ old ++ Seg.cells ρ news := hvc _ (by simp [Res.vc])
        have v2 : Seg.ok No row := hvc _ (by simp [Res.vc])
        have v3 : len = n + m := hvc _ (by simp [Res.vc])
        have v4 : Seg.len old = times n sz := hvc _ (by simp [Res.vc])
        have v5 : times len by_ ≤ 140737488355328 := hvc _ (by simp [Res.vc])
        rw [times_eq] at v4 v5
        obtain ⟨g1, g2, g3⟩ := srcOf_spec hR.mem hpos hsrc (fun p hp => hvc p (by simp [Res.vc, hp]))
        exact append_wp ho ht hi hz hsz hzs hpos hby hbp hR hs hx hh g1 g3 (Seg.cells_one ρ news g2) v4 v3 v5 hnm (v1 ρ) (no_ok _ v2) _ _
      · cases hr
    · split at hr
      · rename_i news m rd vc hsrc
        split at hr
        · rename_i hbb
          rw [Bool.and_eq_true] at hbb
          have v4 := Nat.eq_of_beq_eq_true hbb.1
          have v5 := Nat.le_of_ble_eq_true hbb.2
          rw [times_eq] at v4 v5
          simp only [Option.some.injEq] at hr
          subst hr
          obtain ⟨g1, g2, g3⟩ := srcOf_spec hR.mem hpos hsrc (fun p hp => hvc p (by simp [Res.vc, hp]))
          obtain ⟨_, _, _, _, e3, _⟩ := headOf_spec hR.mem hh
          exact append_wp ho ht hi hz hsz hzs hpos hby hbp hR hs hx hh g1 g3 (Seg.cells_one ρ news g2) v4 rfl v5 hnm (Seg.cells_append ρ old news) (Seg.ok_append _ _ e3 g2) _ _
        · cases hr
      · cases hr
  · cases hr
/-- append, with what the types say. -/
def appOp (Γ : Ctx) (nm : Nat) (h : Option Hint) (t t' : TypeId) (s x : AV) (mem : List (Nat × Vblk)) : Option Res := match Nat.beq t t', Γ.P.underlying t with
  | true, some (.slice ty) => match Γ.P.info? ty with
    | some i => match i.zero with
      | some z => match Nat.beq z.cells.size i.size && Nat.blt 0 i.size && Nat.blt 0 i.bytes with
        | true => appRes Γ nm h i.size i.bytes ty s x mem
        | false => none
      | none => none
    | none => none
  | _, _ => none
theorem appOp_sound {Γ : Ctx} {nm : Nat} {o : Oper} {xs xx : Operand} {t t' : TypeId} (ho : o.op = .call { callee := .builtin .append, args := #[xs, xx], argTypes := #[t, t'] }) {h : Option Hint} {ρ : Env} {s : AS} {a : Act} {w : World} (hR : Rel Γ ρ s a w) {S X : AV} (hS : ev s.tm xs = some S) (hX : ev s.tm xx = some X) (hnm : look nm s.mem = none) {r : Res}
    (hr : appOp Γ nm h t t' S X s.mem = some r) (hvc : ∀ p ∈ r.vc, p) : ResOk Γ nm o ρ s a w r := by
  unfold appOp at hr
  split at hr
  · rename_i ty htt ht
    have htt := Nat.eq_of_beq_eq_true htt
    subst htt
    split at hr
    · rename_i i hi
      split at hr
      · rename_i z hz
        split at hr
        · rename_i hb
          simp only [Bool.and_eq_true] at hb
          exact appRes_sound ho ht hi hz rfl (Nat.eq_of_beq_eq_true hb.1.1) (Nat.le_of_ble_eq_true hb.1.2) rfl (Nat.le_of_ble_eq_true hb.2) hR hS hX hnm hr hvc
        · cases hr
      · cases hr
    · cases hr
  · cases hr

/-! Lists of the call's own: elements, parts, lengths. -/
def Seg.len1 : List Seg → Nat
  | [.ints _ n _] => n
  | [.vals n _] => n
  | r => Seg.len r
theorem Seg.len1_eq (r : List Seg) : Seg.len1 r = Seg.len r := by
  unfold Seg.len1
  split
  · simp [Seg.len]
  · simp [Seg.len]
  · rfl
def ownRow (k sz : Nat) (mem : List (Nat × Vblk)) : Option (List Seg) := match live k mem with
  | some b => match b.held with
    | .own s2 => match Nat.beq s2 sz && Nat.blt 0 sz with
      | true => some b.row
      | false => none
    | _ => none
  | none => none
theorem ownRow_spec {Γ : Ctx} {ρ : Env} {mem : List (Nat × Vblk)} {w : World} (hR : RelM Γ ρ mem w) {k sz : Nat} {row : List Seg} (h : ownRow k sz mem = some row) : 0 < sz ∧ (ρ.c k = 0 → Seg.len1 row = 0) ∧ (0 < ρ.c k → Seg.len1 row ≤ ρ.c k * sz) := by
  unfold ownRow at h
  split at h
  · rename_i b hb
    split at h
    · rename_i s2 hheld
      split at h
      · rename_i hsz
        rw [Bool.and_eq_true] at hsz
        have e1 := Nat.eq_of_beq_eq_true hsz.1
        have e2 := Nat.le_of_ble_eq_true hsz.2
        subst e1
        simp only [Option.some.injEq] at h
        subst h
        obtain ⟨hs, hok, hdd, hlk⟩ := hR.liveAt hb
        unfold Sits at hs
        rw [hheld] at hs
        rw [Seg.len1_eq, ← Seg.cells_len ρ _ hok]
        refine ⟨e2, fun h0 => by rw [hs.1 h0]; rfl, fun h0 => ?_⟩
        obtain ⟨_, spare, h1, _⟩ := hs.2 h0
        rw [← h1]
        simp
      · cases h
    · cases h
  · cases h
def lenVal (Γ : Ctx) (t : TypeId) (x : AV) (mem : List (Nat × Vblk)) : Option Res := match Γ.P.underlying t with
  | some (.slice _) => match x with
    | .lst _ _ _ len _ => some (.val (.val (.int .i64 (len : Int))) [] [])
    | .own k sz st len => match ownRow k sz mem with
      | some row => some (.val (.val (.int .i64 (len : Int))) [k] [times (len + st) sz ≤ Seg.len1 row])
      | none => none
    | _ => none
  | _ => none
def ownIndexOp (Γ : Ctx) (h : Option Hint) (t : TypeId) (p i : AV) (mem : List (Nat × Vblk)) : Option Res := match i, p, Γ.P.underlying t with
  | .val (.int _ j), .own k sz st len, some (.slice elem) => match ownRow k sz mem, sizeA Γ elem with
    | some row, some sz' => match Nat.beq sz' sz, h with
      | true, some (.ix n) => some (.val (.elt k 0 (times (n + st) sz)) [k] [j = (n : Int), n < len, times (n + st) sz < Seg.len1 row])
      | true, _ => match decide (0 ≤ j ∧ j < (len : Int)), Nat.blt (times (j.toNat + st) sz) (Seg.len1 row) with
        | true, true => some (.val (.ptr k (times (j.toNat + st) sz)) [k] [])
        | _, _ => none
      | _, _ => none
    | _, _ => none
  | _, _, _ => none
def ownSliceOp (Γ : Ctx) (h : Option Hint) (t : TypeId) (p : AV) (lo hi : Option AV) (mem : List (Nat × Vblk)) : Option Res := match p, Γ.P.underlying t with
  | .own k sz st len, some (.slice elem) => match ownRow k sz mem, sizeA Γ elem with
    | some row, some sz' => match Nat.beq sz' sz with
      | true => match lo, hi, h with
        | none, none, _ => some (.val (.own k sz st len) [k] [times (len + st) sz ≤ Seg.len1 row])
        | none, some (.val (.int _ y)), some (.sub _ u) => some (.val (.own k sz st u) [k] [y = (u : Int), times (u + st) sz ≤ Seg.len1 row])
        | some (.val (.int _ x)), none, some (.sub l u) => some (.val (.own k sz (l + st) (u - l)) [k] [x = (l : Int), u = len, l < u, times (u + st) sz ≤ Seg.len1 row])
        | some (.val (.int _ x)), some (.val (.int _ y)), some (.sub l u) => some (.val (.own k sz (l + st) (u - l)) [k] [x = (l : Int), y = (u : Int), l < u, times (u + st) sz ≤ Seg.len1 row])
        | _, _, _ => none
      | false => none
    | _, _ => none
  | _, _ => none
theorem lenVal_sound {Γ : Ctx} {nm : Nat} {o : Oper} {x : Operand} {t : TypeId} (ho : o.op = .call { callee := .builtin .len, args := #[x], argTypes := #[t] }) {ρ : Env} {s : AS} {a : Act} {w : World} {r : Res} {p : AV} (hx : ev s.tm x = some p) (hr : lenVal Γ t p s.mem = some r) (hvc : ∀ p ∈ r.vc, p) (hR : Rel Γ ρ s a w) : ResOk Γ nm o ρ s a w r := by
  have hx1 := (hR.ev hx).1
  unfold lenVal at hr
  split at hr
  · rename_i e hu
    have key : ∀ (ad : Option Addr) (n c : Nat), a.eval x = .slice ad n c → (execOp a.eval o).run Γ.P w = .ok (.value (.int .i64 (n : Int))) w := by
      intro ad n c h1
      obtain ⟨dst, op, type, pos, after, guard⟩ := o
      simp only at ho
      subst ho
      have he : execOp a.eval ⟨dst, .call ⟨.builtin .len, #[x], #[t]⟩, type, pos, after, guard⟩ = (do pure (.value (← Builtin.len_ #[t] type (#[x].map a.eval)))) := rfl
      have hm2 : #[x].map a.eval = #[.slice ad n c] := by simp [h1]
      rw [he, hm2]
      simp [Builtin.len_, goInt, run_underlying hu]
    split at hr
    · simp only [Option.some.injEq] at hr
      subst hr
      simp only [AV.conc] at hx1
      exact ⟨by rw [key _ _ _ hx1]; simp [AV.conc], by simp [AV.ok]⟩
    · rename_i k sz st len
      split at hr
      · rename_i row hrow
        simp only [Option.some.injEq] at hr
        subst hr
        have hle : times (len + st) sz ≤ Seg.len1 row := hvc _ (by simp [Res.vc])
        rw [times_eq] at hle
        obtain ⟨h1, h2, h3⟩ := ownRow_spec hR.mem hrow
        refine ⟨?_, by simp [AV.ok]⟩
        simp only [AV.conc] at hx1
        split at hx1
        · rename_i hc
          have h0 := h2 hc
          have : len + st = 0 := by
            rcases Nat.eq_zero_or_pos (len + st) with h | h
            · exact h
            · have := Nat.mul_pos h h1; omega
          rw [key _ _ _ hx1, show len = 0 by omega]
          simp [AV.conc]
        · rw [key _ _ _ hx1]; simp [AV.conc]
      · cases hr
    · cases hr
  · cases hr
theorem ownIndexOp_sound {Γ : Ctx} {nm : Nat} {o : Oper} {h : Option Hint} {t : TypeId} {x y : Operand} {p i : AV} (ho : o.op = .indexAddr t x y) {ρ : Env} {s : AS} {a : Act} {w : World} {r : Res} (hx : ev s.tm x = some p) (hy : ev s.tm y = some i) (hr : ownIndexOp Γ h t p i s.mem = some r) (hvc : ∀ p ∈ r.vc, p) (hR : Rel Γ ρ s a w) : ResOk Γ nm o ρ s a w r := by
  obtain ⟨hx1, hx2⟩ := hR.ev hx
  have hy1 := (hR.ev hy).1
  unfold ownIndexOp at hr
  split at hr
  · rename_i kd j k sz st len elem hu
    simp only [AV.conc] at hy1 hx1
    split at hr
    · rename_i row sz' hrow hsz
      obtain ⟨h1, h2, h3⟩ := ownRow_spec hR.mem hrow
      have key : ∀ n : Nat, j = (n : Int) → n < len → (n + st) * sz < Seg.len1 row → sz' = sz → (execOp a.eval o).run Γ.P w = .ok (.value (.pointer (some ⟨ρ.b k, (n + st) * sz, none⟩))) w := by
        intro n hj hn hlt hsz'
        subst hj hsz'
        split at hx1
        · rename_i hc; have := h2 hc; omega
        · have hs := sizeA_run hsz w
          have hb : (0 : Int) ≤ (n : Int) ∧ (n : Int) < (len : Int) := by omega
          unfold execOp
          simp [ho, hx1, hy1, Instr.indexAt, asIntOf, run_underlying hu, hs, add_at, hb, hn]
          rw [Nat.add_mul]; omega
      split at hr
      · rename_i n hsz'
        have hsz' := Nat.eq_of_beq_eq_true hsz'
        simp only [Option.some.injEq] at hr
        subst hr
        have v1 : j = (n : Int) := hvc _ (by simp [Res.vc])
        have v2 : n < len := hvc _ (by simp [Res.vc])
        have v3 : times (n + st) sz < Seg.len1 row := hvc _ (by simp [Res.vc])
        rw [times_eq] at v3
        refine ⟨?_, by simpa [AV.ok] using hx2⟩
        rw [key n v1 v2 v3 hsz']
        simp [AV.conc, times_eq]
      · rename_i hsz' _
        have hsz' := Nat.eq_of_beq_eq_true hsz'
        split at hr
        · rename_i hd hlt
          have hd := of_decide_eq_true hd
          have hlt := Nat.le_of_ble_eq_true hlt
          rw [times_eq] at hlt
          simp only [Option.some.injEq] at hr
          subst hr
          refine ⟨?_, by simpa [AV.ok] using hx2⟩
          rw [key j.toNat (by omega) (by omega) hlt hsz']
          simp [AV.conc, times_eq]
        · cases hr
      · cases hr
    · cases hr
  · cases hr
theorem ownSliceOp_sound {Γ : Ctx} {nm : Nat} {o : Oper} {h : Option Hint} {t : TypeId} {x : Operand} {xlo xhi : Option Operand} {p : AV} {lo hi : Option AV} (ho : o.op = .slice t x xlo xhi none) {ρ : Env} {s : AS} {a : Act} {w : World} {r : Res} (hx : ev s.tm x = some p) (hlo : evO s.tm xlo = some lo) (hhi : evO s.tm xhi = some hi) (hr : ownSliceOp Γ h t p lo hi s.mem = some r) (hvc : ∀ p ∈ r.vc, p) (hR : Rel Γ ρ s a w) : ResOk Γ nm o ρ s a w r := by
  obtain ⟨hx1, hx2⟩ := hR.ev hx
  have hO : ∀ (y : Option Operand) (v : Option AV) (n m : Nat), evO s.tm y = some v → ((v = none ∧ n = m) ∨ ∃ k, v = some (.val (.int k (n : Int)))) → ((y.map a.eval = none ∧ n = m) ∨ ∃ k, y.map a.eval = some (.int k (n : Int))) := by
    intro y v n m hy hv
    cases y with
    | none => simp only [evO, Option.some.injEq] at hy; subst hy; simpa using hv
    | some y =>
      simp only [evO] at hy
      split at hy
      · rename_i v' hv'
        simp only [Option.some.injEq] at hy
        subst hy
        rcases hv with ⟨h1, _⟩ | ⟨k, h1⟩
        · cases h1
        · simp only [Option.some.injEq] at h1
          subst h1
          exact .inr ⟨k, by simp [(hR.ev hv').1, AV.conc]⟩
      · cases hy
  unfold ownSliceOp at hr
  split at hr
  · rename_i k sz st len elem hu
    simp only [AV.conc] at hx1
    split at hr
    · rename_i row sz' hrow hsz
      obtain ⟨h1, h2, h3⟩ := ownRow_spec hR.mem hrow
      split at hr
      · rename_i hsz'
        have hsz' := Nat.eq_of_beq_eq_true hsz'
        subst hsz'
        have key : ∀ l u : Nat, ((lo = none ∧ l = 0) ∨ ∃ k, lo = some (.val (.int k (l : Int)))) → ((hi = none ∧ u = len) ∨ ∃ k, hi = some (.val (.int k (u : Int)))) → l ≤ u → (l = 0 ∨ l < u) → (u + st) * sz' ≤ Seg.len1 row →
            (execOp a.eval o).run Γ.P w = .ok (.value (AV.conc ρ (.own k sz' (l + st) (u - l)))) w := by
          intro l u hl hu2 hlu h0 hle
          simp only [AV.conc]
          split at hx1
          · rename_i hc
            have hz := h2 hc
            have hu0 : u + st = 0 := by
              rcases Nat.eq_zero_or_pos (u + st) with h | h
              · exact h
              · have := Nat.mul_pos h h1; omega
            have el : l = 0 := by omega
            have eu : u = 0 := by omega
            subst el eu
            have hlo2 := hO _ _ _ _ hlo hl
            have hhi2 : ((xhi.map a.eval = none ∧ 0 = 0) ∨ ∃ k, xhi.map a.eval = some (.int k ((0 : Nat) : Int))) := by
              rcases hO _ _ _ _ hhi hu2 with ⟨e, _⟩ | e
              · exact .inl ⟨e, rfl⟩
              · exact .inr e
            have hrun := bounds_run (P := Γ.P) (w := w) (isSlice := true) (len := 0) (cap := 0) (Nat.le_refl 0) (Nat.le_refl 0) hlo2 hhi2
            have hs := sizeA_run hsz w
            unfold execOp
            simp [ho, hx1, Instr.sliceAt, Instr.slice, run_underlying hu, hrun, hs, hc]
          · rename_i c hc
            have hle2 : Seg.len1 row ≤ (c + 1) * sz' := by have := h3 (by omega); rw [hc] at this; exact this
            have hcap : u + st ≤ c + 1 := Nat.le_of_mul_le_mul_right (Nat.le_trans hle hle2) h1
            have hrun := bounds_run (P := Γ.P) (w := w) (isSlice := true) (len := len) (cap := c + 1 - st) hlu (by omega) (hO _ _ _ _ hlo hl) (hO _ _ _ _ hhi hu2)
            have hs := sizeA_run hsz w
            unfold execOp
            by_cases hcl : c + 1 - st = l
            · have el : l = 0 := by omega
              subst el
              rw [hcl] at hrun hx1
              simp [ho, hx1, Instr.sliceAt, Instr.slice, run_underlying hu, hrun, hs, hcl]
            · simp [ho, hx1, Instr.sliceAt, Instr.slice, run_underlying hu, hrun, hs, hc, hcl, add_at]
              rw [Nat.add_mul]; omega
        split at hr
        · simp only [Option.some.injEq] at hr
          subst hr
          have v1 : times (len + st) sz' ≤ Seg.len1 row := hvc _ (by simp [Res.vc])
          rw [times_eq] at v1
          refine ⟨?_, hx2⟩
          have := key 0 len (.inl ⟨rfl, rfl⟩) (.inl ⟨rfl, rfl⟩) (Nat.zero_le _) (.inl rfl) v1
          rwa [Nat.zero_add, Nat.sub_zero] at this
        · rename_i y l' u
          simp only [Option.some.injEq] at hr
          subst hr
          have v0 : y = (u : Int) := hvc _ (by simp [Res.vc])
          have v1 : times (u + st) sz' ≤ Seg.len1 row := hvc _ (by simp [Res.vc])
          rw [times_eq] at v1
          subst v0
          refine ⟨?_, by simpa [AV.ok] using hx2⟩
          have := key 0 u (.inl ⟨rfl, rfl⟩) (.inr ⟨_, rfl⟩) (Nat.zero_le _) (.inl rfl) v1
          rwa [Nat.zero_add, Nat.sub_zero] at this
        · rename_i xx l u
          simp only [Option.some.injEq] at hr
          subst hr
          have v0 : xx = (l : Int) := hvc _ (by simp [Res.vc])
          have v2 : u = len := hvc _ (by simp [Res.vc])
          have v3 : l < u := hvc _ (by simp [Res.vc])
          have v1 : times (u + st) sz' ≤ Seg.len1 row := hvc _ (by simp [Res.vc])
          rw [times_eq] at v1
          subst v0
          exact ⟨key l u (.inr ⟨_, rfl⟩) (.inl ⟨rfl, v2⟩) (by omega) (.inr v3) v1, by simpa [AV.ok] using hx2⟩
        · rename_i xx _ y l u
          simp only [Option.some.injEq] at hr
          subst hr
          have v0 : xx = (l : Int) := hvc _ (by simp [Res.vc])
          have v2 : y = (u : Int) := hvc _ (by simp [Res.vc])
          have v3 : l < u := hvc _ (by simp [Res.vc])
          have v1 : times (u + st) sz' ≤ Seg.len1 row := hvc _ (by simp [Res.vc])
          rw [times_eq] at v1
          subst v0 v2
          exact ⟨key l u (.inr ⟨_, rfl⟩) (.inr ⟨_, rfl⟩) (by omega) (.inr v3) v1, by simpa [AV.ok] using hx2⟩
        · cases hr
      · cases hr
    · cases hr
  · cases hr

/-! Structs, arrays and lists that are built. -/
def fillRow (place : Nat → Option (Nat × Nat)) : List Seg → List (Nat × AV) → Option (List Seg)
  | row, [] => some row
  | row, (i, v) :: rest => match place i, v.segs with
    | some (off, size), some cs => match Nat.beq (Seg.len cs) size, Seg.cut off row with
      | true, some (r0, r1) => match Seg.cut size r1 with
        | some (_, r2) => fillRow place (r0 ++ (cs ++ r2)) rest
        | none => none
      | _, _ => none
    | _, _ => none
def partsAll (D : Nat → Prop) : List (Nat × AV) → Prop
  | [] => True
  | (_, v) :: r => v.ok D ∧ partsAll D r
theorem foldl_set (vs : List Value) : ∀ (n off : Nat) (cells : Array Value), off + n + vs.length ≤ cells.size →
    ((vs.zipIdx n).foldl (fun cs (x : Value × Nat) => cs.setIfInBounds (off + x.2) x.1) cells) = (cells.toList.take (off + n) ++ (vs ++ cells.toList.drop (off + n + vs.length))).toArray := by
  induction vs with
  | nil => intro n off cells h; simp
  | cons v r ih =>
    intro n off cells h
    simp only [List.length_cons] at h
    simp only [List.zipIdx_cons, List.foldl_cons]
    rw [ih (n + 1) off _ (by simp; omega)]
    congr 1
    have hlt : off + n < cells.toList.length := by simp; omega
    rw [Array.toList_setIfInBounds, show off + (n + 1) = off + n + 1 by omega, List.take_succ_eq_append_getElem (by simpa using hlt), List.take_set_of_le (Nat.le_refl _), List.getElem_set_self, List.drop_set_of_lt (by omega)]
    simp only [List.append_assoc, List.singleton_append, List.length_cons, List.cons_append, List.nil_append]
    rw [show off + n + 1 + r.length = off + n + (r.length + 1) by omega]
theorem fillRow_spec {D : Nat → Prop} {ρ : Env} {place : Nat → Option (Nat × Nat)} : ∀ (parts : List (Nat × AV)) (row row' : List Seg), fillRow place row parts = some row' → Seg.ok D row → partsAll D parts →
    Instr.fill place (Seg.cells ρ row).toArray (parts.map fun x => (x.1, x.2.conc ρ)) = some (Seg.cells ρ row').toArray ∧ Seg.ok D row'
  | [], row, row', h, ho, _ => by
    simp only [fillRow, Option.some.injEq] at h
    subst h
    exact ⟨rfl, ho⟩
  | (i, v) :: rest, row, row', h, ho, hp => by
    simp only [fillRow] at h
    split at h
    · rename_i off size cs hpl hsegs
      split at h
      · rename_i r0 r1 hlen hc
        split at h
        · rename_i r2 r3 hc2
          have hlen := Nat.eq_of_beq_eq_true hlen
          obtain ⟨q1, q2⟩ := AV.segs_spec hsegs hp.1 ρ
          obtain ⟨e1, e2, e3, e4⟩ := Seg.cut_spec ρ _ _ _ _ hc ho
          obtain ⟨f1, f2, f3, f4⟩ := Seg.cut_spec ρ _ _ _ _ hc2 e3
          have l0 : (Seg.cells ρ r0).length = off := by rw [Seg.cells_len ρ r0 e2, e4]
          have l2 : (Seg.cells ρ r2).length = size := by rw [Seg.cells_len ρ r2 f2, f4]
          have lc : (Seg.cells ρ cs).length = size := by rw [Seg.cells_len ρ cs q2, hlen]
          obtain ⟨g1, g2⟩ := fillRow_spec rest _ _ h (Seg.ok_append _ _ e2 (Seg.ok_append _ _ q2 f3)) hp.2
          refine ⟨?_, g2⟩
          have hcells : Seg.cells ρ row = Seg.cells ρ r0 ++ (Seg.cells ρ r2 ++ Seg.cells ρ r3) := by rw [e1, f1, Seg.cells_append, Seg.cells_append]
          have hsz : (v.conc ρ).cells.size = size := by rw [← Array.length_toList, q1, lc]
          simp only [List.map_cons, Instr.fill, hpl]
          rw [if_neg (by simp only [hsz, List.size_toArray, hcells, List.length_append]; simp; omega)]
          have hfold := foldl_set (Seg.cells ρ cs) 0 off (Seg.cells ρ row).toArray (by simp only [List.size_toArray, hcells, List.length_append]; omega)
          have hz : (v.conc ρ).cells.zipIdx.foldl (fun cs (x : Value × Nat) => cs.setIfInBounds (off + x.2) x.1) (Seg.cells ρ row).toArray = (Seg.cells ρ (r0 ++ (cs ++ r3))).toArray := by
            rw [← Array.foldl_toList, Array.toList_zipIdx, q1, hfold]
            congr 1
            simp only [hcells, Seg.cells_append, Nat.add_zero]
            rw [List.take_append_of_le_length (by omega), List.take_of_length_le (by omega), lc, List.drop_append, List.drop_of_length_le (by omega), List.nil_append, l0, show off + size - off = size by omega, List.drop_append, List.drop_of_length_le (by omega), List.nil_append, l2, Nat.sub_self, List.drop_zero]
          rw [← g1]
          congr 1
        · cases h
      · cases h
    · cases h
def partsOf (tm : List (Nat × AV)) : List (Nat × Operand) → Option (List (Nat × AV))
  | [] => some []
  | (i, x) :: r => match ev tm x, partsOf tm r with
    | some v, some l => some ((i, v) :: l)
    | _, _ => none
theorem partsOf_spec {Γ : Ctx} {ρ : Env} {s : AS} {a : Act} {w : World} (hR : Rel Γ ρ s a w) : ∀ (l : List (Nat × Operand)) (ps : List (Nat × AV)), partsOf s.tm l = some ps → partsAll (AS.dom s.mem) ps ∧ (l.map fun x => (x.1, a.eval x.2)) = ps.map fun x => (x.1, x.2.conc ρ)
  | [], ps, h => by simp only [partsOf, Option.some.injEq] at h; subst h; exact ⟨trivial, rfl⟩
  | (i, x) :: r, ps, h => by
    simp only [partsOf] at h
    split at h
    · rename_i v l hv hl
      simp only [Option.some.injEq] at h
      subst h
      obtain ⟨h1, h2⟩ := partsOf_spec hR r l hl
      obtain ⟨h3, h4⟩ := hR.ev hv
      exact ⟨⟨h4, h1⟩, by simp [h2, h3]⟩
    · cases h
def litRow (cs : Array Value) : Option (List Seg) := match cs.toList.all (·.oneCell') with
  | true => some (cs.toList.map fun c => .cell (.val c))
  | false => none
theorem litRow_spec {cs : Array Value} {row : List Seg} (h : litRow cs = some row) (D : Nat → Prop) (ρ : Env) : (Seg.cells ρ row) = cs.toList ∧ Seg.ok D row := by
  unfold litRow at h
  split at h
  · rename_i hall
    simp only [Option.some.injEq] at h
    subst h
    generalize cs.toList = l at *
    induction l with
    | nil => exact ⟨rfl, trivial⟩
    | cons y r ih =>
      simp only [List.all_cons, Bool.and_eq_true] at hall
      obtain ⟨i1, i2⟩ := ih hall.2
      refine ⟨?_, ?_⟩
      · simp only [List.map_cons, Seg.cells, Seg.cell1, AV.conc, List.singleton_append]
        rw [i1]
      · simp only [List.map_cons, Seg.ok]
        exact ⟨⟨hall.1, by simp [AV.ok]⟩, i2⟩
  · cases h
def buildOp (Γ : Ctx) (t : TypeId) (parts : List (Nat × AV)) : Option Res := match prun Γ.P (zeroValue t), Γ.P.underlying t with
  | some z, some (.struct fs) => match prun Γ.P (fs.mapM fun f => do pure (f.offset, ← sizeOf f.type)), litRow z.cells with
    | some places, some row => match fillRow (places[·]?) row parts with
      | some row' => some (.val (.agg row') [] [])
      | none => none
    | _, _ => none
  | some z, some (.array _ elem) => match prun Γ.P (sizeOf elem), litRow z.cells with
    | some size, some row => match fillRow (fun i => some (i * size, size)) row parts with
      | some row' => some (.val (.agg row') [] [])
      | none => none
    | _, _ => none
  | _, _ => none
theorem buildOp_sound {Γ : Ctx} {nm : Nat} {o : Oper} {t : TypeId} {ps : Array (Nat × Operand)} {parts : List (Nat × AV)} (ho : o.op = .build t ps) {ρ : Env} {s : AS} {a : Act} {w : World} {r : Res} (hp : partsOf s.tm ps.toList = some parts) (hr : buildOp Γ t parts = some r) (hR : Rel Γ ρ s a w) : ResOk Γ nm o ρ s a w r := by
  obtain ⟨p1, p2⟩ := partsOf_spec hR _ _ hp
  have hmap : (ps.map fun x => (x.1, a.eval x.2)).toList = parts.map fun x => (x.1, x.2.conc ρ) := by rw [Array.toList_map, p2]
  have hexec : execOp a.eval o = (do pure (.value (← Instr.build t (ps.map fun x => (x.1, a.eval x.2))))) := by
    obtain ⟨dst, op, type, pos, after, guard⟩ := o
    simp only at ho
    subst ho
    rfl
  unfold buildOp at hr
  split at hr
  · rename_i z fs hz hu
    split at hr
    · rename_i places row hpl hlit
      split at hr
      · rename_i row' hf
        simp only [Option.some.injEq] at hr
        subst hr
        obtain ⟨l1, l2⟩ := litRow_spec hlit (AS.dom s.mem) ρ
        obtain ⟨f1, f2⟩ := fillRow_spec (ρ := ρ) parts row row' hf l2 p1
        have hz := prun_run Γ.P _ _ hz w
        have hpl := prun_run Γ.P _ _ hpl w
        refine ⟨?_, by simpa [AV.ok] using f2⟩
        rw [hexec]
        have hcs : z.cells = (Seg.cells ρ row).toArray := by rw [l1]
        simp only [Instr.build, Sem.run_bind, hz, Result.andThen_ok, run_underlying hu, hpl, hmap, hcs, f1, Sem.run_pure, AV.conc]
      · cases hr
    · cases hr
  · rename_i z n elem hz hu
    split at hr
    · rename_i size row hsz hlit
      split at hr
      · rename_i row' hf
        simp only [Option.some.injEq] at hr
        subst hr
        obtain ⟨l1, l2⟩ := litRow_spec hlit (AS.dom s.mem) ρ
        obtain ⟨f1, f2⟩ := fillRow_spec (ρ := ρ) parts row row' hf l2 p1
        have hz := prun_run Γ.P _ _ hz w
        have hsz := prun_run Γ.P _ _ hsz w
        refine ⟨?_, by simpa [AV.ok] using f2⟩
        rw [hexec]
        have hcs : z.cells = (Seg.cells ρ row).toArray := by rw [l1]
        simp only [Instr.build, Sem.run_bind, hz, Result.andThen_ok, run_underlying hu, hsz, hmap, hcs, f1, Sem.run_pure, AV.conc]
      · cases hr
    · cases hr
  · cases hr
def buildSliceOp (Γ : Ctx) (nm : Nat) (t : TypeId) (len : Nat) (parts : List (Nat × AV)) : Option Res := match Γ.P.underlying t with
  | some (.slice elem) => match prun Γ.P (sizeOf elem), prun Γ.P (zeroValue elem) with
    | some size, some z => match Nat.ble (len * size) 16777216, litRow ((Array.range (len * size)).map (z.cells[· % z.cells.size]!)) with
      | true, some row => match Nat.beq (len * size) 0, fillRow (fun i => some (i * size, size)) row parts with
        | false, some row' => some (.new (.lst nm 0 0 len len) ⟨row', elem, .arr⟩ [])
        | _, _ => none
      | _, _ => none
    | _, _ => none
  | _ => none
theorem buildSliceOp_sound {Γ : Ctx} {nm : Nat} {o : Oper} {t : TypeId} {len : Nat} {ps : Array (Nat × Operand)} {parts : List (Nat × AV)} (ho : o.op = .buildSlice t len ps) {ρ : Env} {s : AS} {a : Act} {w : World} {r : Res} (hp : partsOf s.tm ps.toList = some parts) (hn : look nm s.mem = none) (hr : buildSliceOp Γ nm t len parts = some r) (hR : Rel Γ ρ s a w) : ResOk Γ nm o ρ s a w r := by
  obtain ⟨p1, p2⟩ := partsOf_spec hR _ _ hp
  have hmap : (ps.map fun x => (x.1, a.eval x.2)).toList = parts.map fun x => (x.1, x.2.conc ρ) := by rw [Array.toList_map, p2]
  have hexec : execOp a.eval o = (do pure (.value (← Instr.buildSlice t len (ps.map fun x => (x.1, a.eval x.2))))) := by
    obtain ⟨dst, op, type, pos, after, guard⟩ := o
    simp only at ho
    subst ho
    rfl
  unfold buildSliceOp at hr
  split at hr
  · rename_i elem hu
    split at hr
    · rename_i size z hsz hz
      split at hr
      · rename_i row hle hlit
        split at hr
        · rename_i row' hne hf
          simp only [Option.some.injEq] at hr
          subst hr
          have hle := Nat.le_of_ble_eq_true hle
          have hne : ¬ len * size = 0 := by intro e; rw [e] at hne; cases hne
          obtain ⟨l1, l2⟩ := litRow_spec hlit (AS.dom s.mem) ρ
          obtain ⟨f1, f2⟩ := fillRow_spec (ρ := ρ) parts row row' hf l2 p1
          have hz := prun_run Γ.P _ _ hz w
          have hsz := prun_run Γ.P _ _ hsz w
          refine ⟨hn, rfl, f2, by simp only [AV.ok]; exact dom_lay.2 (.inl rfl), ?_⟩
          rw [hexec]
          have hcs : (Array.range (len * size)).map (z.cells[· % z.cells.size]!) = (Seg.cells ρ row).toArray := by rw [l1]
          have hbig : ¬ len * size > 2 ^ 24 := by omega
          simp only [Instr.buildSlice, Sem.run_bind, run_underlying hu, hsz, Result.andThen_ok, if_neg hbig, if_neg hne, hz, Sem.run_pure, hmap, hcs, f1]
          simp [newRow, newObj, AV.conc, Env.up_same]
          rfl
        · cases hr
      · cases hr
    · cases hr
  · cases hr
/-! Calls that look at blocks of the caller's, and may hand over a new one. -/
/-- What a call may lean on: blocks, as they are. -/
def hasAll (Γ : Ctx) (ρ : Env) (w : World) : List (Nat × Vblk) → Prop
  | [] => True
  | (k, b) :: r => (Sits ρ w k b ∧ (b.alive ρ k → Γ.F (ρ.b k) ∨ Γ.w0.heap.size ≤ ρ.b k)) ∧ hasAll Γ ρ w r
def pickM (mem : List (Nat × Vblk)) : List Nat → Option (List (Nat × Vblk))
  | [] => some []
  | k :: r => match live k mem, pickM mem r with
    | some b, some l => some ((k, b) :: l)
    | _, _ => none
def evL (tm : List (Nat × AV)) : List Operand → Option (List AV)
  | [] => some []
  | x :: r => match ev tm x, evL tm r with
    | some v, some l => some (v :: l)
    | _, _ => none
def plainFn (Γ : Ctx) (g : FuncId) : Bool := match Γ.P.funcs[g]? with
  | some fn => match fn.name == "runtime.NumGoroutine", fn.body with
    | false, some _ => true
    | _, _ => false
  | none => false
def funcOf (v : Option AV) : Option FuncId := match v with
  | some (.val (.func (.func g) first captured)) => match first.size, captured.size with
    | 0, 0 => some g
    | _, _ => none
  | _ => none
def callOp (Γ : Ctx) (nm : Nat) (rd : List Nat) (v : AV) (nb : Option Vblk) (f : Operand) (args : List Operand) (tm : List (Nat × AV)) (mem : List (Nat × Vblk)) : Option Res :=
  match funcOf (ev tm f), evL tm args, pickM mem rd with
  | some g, some avs, some bs => match plainFn Γ g with
    | true => match nb with
      | none => some (.gen v [] rd false [∀ ρ w, Fr Γ.F Γ.w0 w → hasAll Γ ρ w bs → Calls Γ.P g (AV.concL ρ avs).toArray w fun e w' => e = .returned (v.conc ρ) ∧ Below w.heap.size w w',
          ∀ D : Nat → Prop, (∀ k ∈ rd, D k) → v.ok D])
      | some b => some (.gen v [(nm, b)] rd true [∀ ρ w, Fr Γ.F Γ.w0 w → hasAll Γ ρ w bs → Calls Γ.P g (AV.concL ρ avs).toArray w fun e w' => Below w.heap.size w w' ∧ ∃ B C, e = .returned (v.conc (ρ.up nm B C)) ∧ Sits (ρ.up nm B C) w' nm b ∧ (b.alive (ρ.up nm B C) nm → w.heap.size ≤ B),
          Seg.ok No b.row, ∀ D : Nat → Prop, D nm → (∀ k ∈ rd, D k) → v.ok D])
    | false => none
  | _, _, _ => none
theorem pickM_spec {Γ : Ctx} {ρ : Env} {mem : List (Nat × Vblk)} {w : World} (hR : RelM Γ ρ mem w) : ∀ (rd : List Nat) (bs : List (Nat × Vblk)), pickM mem rd = some bs → hasAll Γ ρ w bs ∧ ∀ k ∈ rd, AS.dom mem k
  | [], bs, h => by simp only [pickM, Option.some.injEq] at h; subst h; exact ⟨trivial, fun k hk => by cases hk⟩
  | k :: r, bs, h => by
    simp only [pickM] at h
    split at h
    · rename_i b l h1 h2
      simp only [Option.some.injEq] at h
      subst h
      obtain ⟨g1, g2⟩ := pickM_spec hR r l h2
      have hk := (live_spec h1).1
      refine ⟨⟨⟨(hR.sits k b hk).1, hR.home k b hk⟩, g1⟩, fun j hj => ?_⟩
      rcases List.mem_cons.1 hj with rfl | hj
      · unfold AS.dom; rw [hk]; rfl
      · exact g2 j hj
    · cases h
theorem evL_spec {Γ : Ctx} {ρ : Env} {s : AS} {a : Act} {w : World} (hR : Rel Γ ρ s a w) : ∀ (l : List Operand) (avs : List AV), evL s.tm l = some avs → l.map a.eval = AV.concL ρ avs
  | [], avs, h => by simp only [evL, Option.some.injEq] at h; subst h; rfl
  | x :: r, avs, h => by
    simp only [evL] at h
    split at h
    · rename_i v l h1 h2
      simp only [Option.some.injEq] at h
      subst h
      simp only [List.map_cons, AV.concL, (hR.ev h1).1, evL_spec hR r l h2]
    · cases h
theorem callFunc_plain {Γ : Ctx} {g : FuncId} (h : plainFn Γ g = true) (args : Array Value) (w : World) : (callFunc g args).run Γ.P w = .ok (.enter g args) w := by
  unfold plainFn at h
  split at h
  · rename_i fn hf
    split at h
    · rename_i c hn hb
      unfold callFunc
      have hn2 : fn.name ≠ "runtime.NumGoroutine" := by simpa using hn
      simp [hf, hn2, hb]
    · cases h
  · cases h
theorem funcOf_spec {v : Option AV} {g : FuncId} (h : funcOf v = some g) : v = some (.val (.func (.func g) #[] #[])) := by
  unfold funcOf at h
  split at h
  · rename_i g' first captured
    split at h
    · rename_i e1 e2
      simp only [Option.some.injEq] at h
      subst h
      rw [Array.eq_empty_of_size_eq_zero e1, Array.eq_empty_of_size_eq_zero e2]
    · cases h
  · cases h
theorem callOp_sound {Γ : Ctx} {nm : Nat} {o : Oper} {f : Operand} {args : Array Operand} {ats : Array TypeId} (ho : o.op = .call { callee := .value f, args := args, argTypes := ats }) {rd : List Nat} {v : AV} {nb : Option Vblk} {ρ : Env} {s : AS} {a : Act} {w : World} {r : Res} (hn : (∃ v ms rd vc, r = .gen v ms rd true vc) → look nm s.mem = none) (hr : callOp Γ nm rd v nb f args.toList s.tm s.mem = some r) (hvc : ∀ p ∈ r.vc, p) (hR : Rel Γ ρ s a w) : ResOk Γ nm o ρ s a w r := by
  unfold callOp at hr
  split at hr
  · rename_i g avs bs hf hav hbs
    split at hr
    · rename_i hpl
      have hf := (hR.ev (funcOf_spec hf)).1
      simp only [AV.conc] at hf
      have hargs := evL_spec hR _ _ hav
      obtain ⟨hhas, hdom⟩ := pickM_spec hR.mem rd bs hbs
      have hrun : (execOp a.eval o).run Γ.P w = .ok (.enter g (AV.concL ρ avs).toArray) w := by
        obtain ⟨dst, op, type, pos, after, guard⟩ := o
        simp only at ho
        subst ho
        have he : execOp a.eval ⟨dst, .call ⟨.value f, args, ats⟩, type, pos, after, guard⟩ = (do let d ← Deferred.ofValue (a.eval f) (args.map a.eval); invoke d.target d.args) := rfl
        rw [he, hf]
        have h2 : args.map a.eval = (AV.concL ρ avs).toArray := by rw [← hargs, ← List.map_toArray, Array.toArray_toList]
        rw [h2]
        simp only [Deferred.ofValue, pure_bind, invoke]
        rw [Array.empty_append, Array.append_empty]
        exact callFunc_plain hpl _ w
      split at hr
      · simp only [Option.some.injEq] at hr
        subst hr
        have v1 : ∀ ρ w, Fr Γ.F Γ.w0 w → hasAll Γ ρ w bs → Calls Γ.P g (AV.concL ρ avs).toArray w fun e w' => e = .returned (v.conc ρ) ∧ Below w.heap.size w w' := hvc _ (by simp [Res.vc])
        have v2 : ∀ D : Nat → Prop, (∀ k ∈ rd, D k) → v.ok D := hvc _ (by simp [Res.vc])
        intro K Q hK
        unfold Oper.wp
        rw [hrun]
        refine Calls.mono (v1 ρ w hR.mem.fr hhas) ?_
        rintro e w' ⟨rfl, hb⟩
        exact hK ρ w' (hR.world hb) (v2 _ hdom)
      · rename_i b
        simp only [Option.some.injEq] at hr
        subst hr
        have v1 : ∀ ρ w, Fr Γ.F Γ.w0 w → hasAll Γ ρ w bs → Calls Γ.P g (AV.concL ρ avs).toArray w fun e w' => Below w.heap.size w w' ∧ ∃ B C, e = .returned (v.conc (ρ.up nm B C)) ∧ Sits (ρ.up nm B C) w' nm b ∧ (b.alive (ρ.up nm B C) nm → w.heap.size ≤ B) := hvc _ (by simp [Res.vc])
        have v2 : Seg.ok No b.row := hvc _ (by simp [Res.vc])
        have v3 : ∀ D : Nat → Prop, D nm → (∀ k ∈ rd, D k) → v.ok D := hvc _ (by simp [Res.vc])
        have hnm := hn ⟨_, _, _, _, rfl⟩
        intro K Q hK
        unfold Oper.wp
        rw [hrun]
        refine Calls.mono (v1 ρ w hR.mem.fr hhas) ?_
        rintro e w' ⟨hb, B, C, rfl, hs, hB⟩
        have hlt : ∀ j c, look j s.mem = some c → c.alive ρ j → ρ.b j < w.heap.size := fun j c hj ha => (hR.mem.sits j c hj).1.lt ha
        obtain ⟨g1, g2⟩ := hR.mem.name (w' := w') nm B C hnm b (Seg.ok_mono (fun _ h => h.elim) _ v2) hs (fun j c hj ha => by
          by_cases hal : b.alive (ρ.up nm B C) nm
          · left
            have := hlt j c hj ha
            have := hB hal
            omega
          · exact .inr hal) (fun hal => .inr (Nat.le_trans hR.mem.fr.size (hB hal))) (fun j c hj ha => hb.block _ (hlt j c hj ha)) (hR.mem.fr.trans (Fr.below hb))
        have h3 : ∀ j, AS.dom s.mem j → AS.dom (lay nm b s.mem) j := fun j hj => dom_lay.2 (.inr hj)
        exact hK _ w' (hR.names g1 g2 h3) (v3 _ (dom_lay.2 (.inl rfl)) fun k hk => h3 k (hdom k hk))
    · cases hr
  · cases hr
theorem pickM_agree {mem mem' : List (Nat × Vblk)} : ∀ (rd : List Nat), (∀ k ∈ rd, look k mem = look k mem') → pickM mem rd = pickM mem' rd
  | [], _ => rfl
  | k :: r, h => by
    have h1 : live k mem = live k mem' := by unfold live; rw [h k (by simp)]
    simp only [pickM, h1, pickM_agree r (fun j hj => h j (by simp [hj]))]
theorem evL_agree {tm tm' : List (Nat × AV)} : ∀ (l : List Operand), (∀ x ∈ l, ev tm x = ev tm' x) → evL tm l = evL tm' l
  | [], _ => rfl
  | x :: r, h => by simp only [evL, h x (by simp), evL_agree r (fun y hy => h y (by simp [hy]))]
/-! make and copy. -/
def mkOp (Γ : Ctx) (nm : Nat) (h : Option Hint) (t : TypeId) (l c : AV) : Option Res := match h, l, c, Γ.P.underlying t with
  | some (.mk row n m), .val (.int _ a), .val (.int _ b), some (.slice e) => match Γ.P.info? e with
    | some i => match i.zero with
      | some z => some (.new (.lst nm 0 0 n m) ⟨row, e, .arr⟩ [a = (n : Int), b = (m : Int), n ≤ m, i.bytes * m ≤ 281474976710656, m ≤ 9223372036854775807, Seg.ok No row, ∀ ρ, Seg.cells ρ row = (madeCells z.cells (times m i.size)).toList])
      | none => none
    | none => none
  | _, _, _, _ => none
theorem mkOp_new {Γ : Ctx} {nm : Nat} {h : Option Hint} {t : TypeId} {l c : AV} {r : Res} (hr : mkOp Γ nm h t l c = some r) : r = .new (.lst nm 0 0 (match h with | some (.mk _ n _) => n | _ => 0) (match h with | some (.mk _ _ m) => m | _ => 0)) ⟨match h with | some (.mk row _ _) => row | _ => [], match Γ.P.underlying t with | some (.slice e) => e | _ => 0, .arr⟩ r.vc := by
  unfold mkOp at hr
  repeat' split at hr
  all_goals first
    | cases hr; done
    | (simp only [Option.some.injEq] at hr; subst hr; simp_all [Res.vc])
theorem mkOp_sound {Γ : Ctx} {nm : Nat} {o : Oper} {h : Option Hint} {t : TypeId} {x y : Operand} (ho : o.op = .makeSlice t x y) {ρ : Env} {s : AS} {a : Act} {w : World} {l c : AV} (hx : ev s.tm x = some l) (hy : ev s.tm y = some c) (hn : look nm s.mem = none) {r : Res} (hr : mkOp Γ nm h t l c = some r) (hvc : ∀ p ∈ r.vc, p) (hR : Rel Γ ρ s a w) : ResOk Γ nm o ρ s a w r := by
  unfold mkOp at hr
  split at hr
  · rename_i row n m kl av kc bv e hu
    split at hr
    · rename_i i hi
      split at hr
      · rename_i z hz
        simp only [Option.some.injEq] at hr
        subst hr
        have v1 : av = (n : Int) := hvc _ (by unfold Res.vc; repeat (first | exact List.mem_cons_self | apply List.mem_cons_of_mem))
        have v2 : bv = (m : Int) := hvc _ (by unfold Res.vc; repeat (first | exact List.mem_cons_self | apply List.mem_cons_of_mem))
        have v3 : n ≤ m := hvc _ (by unfold Res.vc; repeat (first | exact List.mem_cons_self | apply List.mem_cons_of_mem))
        have v4 : i.bytes * m ≤ 281474976710656 := hvc _ (by unfold Res.vc; repeat (first | exact List.mem_cons_self | apply List.mem_cons_of_mem))
        have v5 : m ≤ 9223372036854775807 := hvc _ (by unfold Res.vc; repeat (first | exact List.mem_cons_self | apply List.mem_cons_of_mem))
        have v6 : Seg.ok No row := hvc _ (by unfold Res.vc; repeat (first | exact List.mem_cons_self | apply List.mem_cons_of_mem))
        have v7 : ∀ ρ, Seg.cells ρ row = (madeCells z.cells (times m i.size)).toList := hvc _ (by unfold Res.vc; repeat (first | exact List.mem_cons_self | apply List.mem_cons_of_mem))
        refine ⟨hn, rfl, Seg.ok_mono (fun _ h => h.elim) _ v6, by simp only [AV.ok]; exact dom_lay.2 (.inl rfl), ?_⟩
        have h1 := (hR.ev hx).1
        have h2 := (hR.ev hy).1
        simp only [AV.conc] at h1 h2
        have hrun := run_make (P := Γ.P) w t e i z hu hi hz kl kc av bv (by omega) (by omega) (by rw [v2, ← Int.natCast_mul]; omega) (by omega)
        obtain ⟨dst, op, type, pos, after, guard⟩ := o
        simp only at ho
        subst ho
        have he : execOp a.eval ⟨dst, .makeSlice t x y, type, pos, after, guard⟩ = (do pure (.value (← Instr.makeSlice t (a.eval x) (a.eval y)))) := rfl
        rw [he, h1, h2, Sem.run_bind, hrun]
        simp only [Result.andThen_ok, Sem.run_pure, AV.conc, Env.up_same, Nat.add_zero, Nat.zero_add]
        rw [v1, v2, Int.toNat_natCast, Int.toNat_natCast, v7 ρ, times_eq, Array.toArray_toList]
      · cases hr
    · cases hr
  · cases hr
theorem mk_ints (k : IntKind) (m : Nat) : ∀ ρ, Seg.cells ρ [.ints k m (List.replicate m 0)] = (madeCells (Value.int k 0).cells (times m 1)).toList := by
  intro ρ
  rw [times_eq, Nat.mul_one]
  have : (Value.int k 0).cells = #[Value.int k 0] := rfl
  rw [this, toList_madeCells_one]
  simp [Seg.cells, Seg.cell1]

/-- What is copied: integers ys; the row that is written is then xs'. -/
def copySrc (Γ : Ctx) (kd : IntKind) (ys : List Int) (s : AV) (mem : List (Nat × Vblk)) : Option (Nat × List Nat × List Prop) := match s with
  | .val (.slice A sl _) => some (sl, [], [∀ w, Fr Γ.F Γ.w0 w → 0 < ys.length → ∃ ad, A = some ad ∧ ∀ j v, (ys.map (Value.int kd))[j]? = some v → w.cell? (ad.add j) = some v])
  | s => match srcOf 1 s mem with
    | some (news, m, rd, vc) => some (m, rd, (∀ ρ, (Seg.cells ρ news).take ys.length = ys.map (Value.int kd)) :: vc)
    | none => none
def copyOp (Γ : Ctx) (h : Option Hint) (t : TypeId) (d s : AV) (mem : List (Nat × Vblk)) : Option Res := match h, d, Γ.P.underlying t with
  | some (.copy ys xs' q), .lst k base st len _, some (.slice e) => match live k mem, sizeA Γ e with
    | some ⟨row, ty, .arr⟩, some 1 => match Seg.cut base row with
      | some (r0, .ints kd m xs :: r2) => match copySrc Γ kd ys s mem with
        | some (sl, rd, vc) => some (.gen (.val (.int .i64 (q : Int))) [(k, ⟨r0 ++ .ints kd m xs' :: r2, ty, .arr⟩)] rd false
            ([q = Nat.min sl len, ys.length = q, st + q ≤ m, xs' = xs.take st ++ (ys ++ xs.drop (st + q))] ++ vc))
        | none => none
      | _ => none
    | _, _ => none
  | _, _, _ => none
theorem copySrc_spec {Γ : Ctx} {ρ : Env} {mem : List (Nat × Vblk)} {w : World} (hR : RelM Γ ρ mem w) {kd : IntKind} {ys : List Int} {s : AV} {sl : Nat} {rd : List Nat} {vc : List Prop} (h : copySrc Γ kd ys s mem = some (sl, rd, vc)) (hvc : ∀ p ∈ vc, p) (hl : ys.length ≤ sl) :
    ∃ A c, s.conc ρ = .slice A sl c ∧ (0 < ys.length → ∃ ad, A = some ad ∧ ∀ j v, (ys.map (Value.int kd))[j]? = some v → w.cell? (ad.add j) = some v) := by
  unfold copySrc at h
  split at h
  · rename_i A n c
    simp only [Option.some.injEq, Prod.mk.injEq] at h
    obtain ⟨rfl, rfl, rfl⟩ := h
    have v1 : ∀ w, Fr Γ.F Γ.w0 w → 0 < ys.length → ∃ ad, A = some ad ∧ ∀ j v, (ys.map (Value.int kd))[j]? = some v → w.cell? (ad.add j) = some v := hvc _ (by simp)
    exact ⟨A, c, rfl, v1 w hR.fr⟩
  · split at h
    · rename_i news m rd' vc' hs
      simp only [Option.some.injEq, Prod.mk.injEq] at h
      obtain ⟨rfl, rfl, rfl⟩ := h
      have v1 : ∀ ρ, (Seg.cells ρ news).take ys.length = ys.map (Value.int kd) := hvc _ (by simp)
      obtain ⟨g1, g2, g3⟩ := srcOf_spec hR (by omega) hs (fun p hp => hvc p (by simp [hp]))
      rcases g1 with ⟨g1, rfl, g4⟩ | ⟨ad, c, g1, g4⟩
      · exact ⟨none, 0, g1, fun h => by omega⟩
      · refine ⟨some ad, c, g1, fun _ => ⟨ad, rfl, fun j v hj => g4 j v ?_⟩⟩
        rw [← v1 ρ, List.getElem?_take] at hj
        split at hj
        · exact hj
        · cases hj
    · cases h
theorem copyOp_sound {Γ : Ctx} {nm : Nat} {o : Oper} {h : Option Hint} {x y : Operand} {t t' : TypeId} (ho : o.op = .call { callee := .builtin .copy, args := #[x, y], argTypes := #[t, t'] }) {ρ : Env} {s : AS} {a : Act} {w : World} (hR : Rel Γ ρ s a w) {D S : AV} (hx : ev s.tm x = some D) (hy : ev s.tm y = some S) {r : Res} (hr : copyOp Γ h t D S s.mem = some r) (hvc : ∀ p ∈ r.vc, p) : ResOk Γ nm o ρ s a w r := by
  unfold copyOp at hr
  split at hr
  · rename_i ys xs' q k base st len cap e hu
    split at hr
    · rename_i row ty hb hs1
      split at hr
      · rename_i r0 kd m xs r2 hcut
        split at hr
        · rename_i sl rd vc hsrc
          simp only [Option.some.injEq] at hr
          subst hr
          have v1 : q = Nat.min sl len := hvc _ (by simp [Res.vc])
          have v2 : ys.length = q := hvc _ (by simp [Res.vc])
          have v3 : st + q ≤ m := hvc _ (by simp [Res.vc])
          have v4 : xs' = xs.take st ++ (ys ++ xs.drop (st + q)) := hvc _ (by simp [Res.vc])
          have hle : ys.length ≤ sl := by rw [v2, v1]; exact Nat.min_le_left _ _
          obtain ⟨A, c, e1, e2⟩ := copySrc_spec hR.mem hsrc (fun p hp => hvc p (by simp [Res.vc, hp])) hle
          obtain ⟨hsit, hok, hnd, hlk⟩ := hR.mem.liveAt hb
          obtain ⟨c1, c2, c3, c4, c5, c6⟩ := cut_ints (ρ := ρ) hcut hok
          have hx1 := (hR.ev hx).1
          have hy1 := (hR.ev hy).1
          simp only [AV.conc] at hx1
          rw [e1] at hy1
          have hsz : (Γ.P.info? e).map (·.size) = some 1 := by
            unfold sizeA at hs1
            cases hq : Γ.P.info? e with
            | none => rw [hq] at hs1; cases hs1
            | some i => rw [hq] at hs1; simpa using hs1
          have hheap : w.heap[ρ.b k]? = some (.cells (Seg.cells ρ row).toArray ty (0, 0)) := hsit
          have hok' : Seg.ok (AS.dom s.mem) (r0 ++ .ints kd m xs' :: r2) := by
            refine Seg.ok_append _ _ c2 ⟨?_, c4⟩
            rw [v4]; simp [v2, c3]; omega
          have hcells' : Seg.cells ρ (r0 ++ .ints kd m xs' :: r2) = (Seg.cells ρ row).take (base + st) ++ ys.map (Value.int kd) ++ (Seg.cells ρ row).drop (base + st + q) := by
            rw [c6, Seg.cells_append]
            have t1 : ∀ (n : Nat) (L M : List Value), L.length = base → (L ++ M).take (base + n) = L ++ M.take n := by
              intro n L M hL; rw [List.take_append, List.take_of_length_le (by omega)]; congr 2; omega
            have t2 : ∀ (n : Nat) (L M : List Value), L.length = base → (L ++ M).drop (base + n) = M.drop n := by
              intro n L M hL; rw [List.drop_append, List.drop_eq_nil_of_le (by omega)]; simp; congr 1; omega
            rw [t1 st _ _ c5, Nat.add_assoc, t2 (st + q) _ _ c5]
            rw [List.take_append_of_le_length (by simp [c3]; omega), List.drop_append_of_le_length (by simp [c3]; omega)]
            simp only [Seg.cells, Seg.cell1, v4, List.map_append, List.map_take, List.map_drop, List.append_assoc]
          -- the run
          have hrun : ∃ w', (execOp a.eval o).run Γ.P w = .ok (.value (.int .i64 (q : Int))) w' ∧ w'.heap[ρ.b k]? = some (.cells (Seg.cells ρ (r0 ++ .ints kd m xs' :: r2)).toArray ty (0, 0)) ∧ (∀ j, j ≠ ρ.b k → w'.heap[j]? = w.heap[j]?) ∧ w'.heap.size = w.heap.size ∧ w'.os = w.os ∧ w'.tape = w.tape ∧ w'.output = w.output := by
            obtain ⟨dst, op, type, pos, after, guard⟩ := o
            simp only at ho
            subst ho
            have he : execOp a.eval ⟨dst, .call ⟨.builtin .copy, #[x, y], #[t, t']⟩, type, pos, after, guard⟩ = (do pure (.value (← Builtin.copy_ #[t, t'] type (#[x, y].map a.eval)))) := rfl
            have hm2 : #[x, y].map a.eval = #[.slice (some ⟨ρ.b k, base + st, none⟩) len cap, .slice A sl c] := by simp [hx1, hy1]
            rw [he, hm2, Sem.run_bind]
            by_cases hq0 : q = 0
            · have hrun := run_copy_none (P := Γ.P) w t t' type e (some ⟨ρ.b k, base + st, none⟩) A len cap sl c hu hsz (by rw [← v1]; exact hq0)
              rw [hrun]
              refine ⟨w, by simp [hq0]; rfl, ?_, fun _ _ => rfl, rfl, rfl, rfl, rfl⟩
              rw [hcells', hheap]
              have : ys = [] := by apply List.eq_nil_of_length_eq_zero; omega
              simp [this, hq0]
            · obtain ⟨ad, rfl, hcell⟩ := e2 (by omega)
              have hrun := run_copy_row (P := Γ.P) w t t' type e (ρ.b k) (base + st) len cap ad sl c (Seg.cells ρ row).toArray ty (ys.map (Value.int kd)) hu hsz hheap (by simp [v2, v1]) hcell (by rw [c6]; simp [c5, c3, v2]; omega) (fun v hv => by obtain ⟨z, _, rfl⟩ := List.mem_map.1 hv; rfl)
              have hgo : goInt ((ys.map (Value.int kd)).length : Nat) = .int .i64 (q : Int) := by rw [List.length_map, v2]; rfl
              rw [hrun, hgo]
              refine ⟨_, rfl, ?_, fun j hj => setRow_other w _ j _ hj, setRow_size _ _ _, rfl, rfl, rfl⟩
              rw [setRow_heap w (ρ.b k) _ _ ty (0, 0) hheap, hcells']
              simp [v2]
          obtain ⟨w', r1, r2', r3, r4, r5, r6, r7⟩ := hrun
          intro K Q hK
          unfold Oper.wp
          rw [r1]
          have hw := hR.write k ⟨row, ty, .arr⟩ ⟨r0 ++ .ints kd m xs' :: r2, ty, .arr⟩ hlk (fun _ => trivial) hok' r2' (fun j hj => by
            rcases hj with hj | hj
            · exact r3 j hj
            · exact absurd trivial hj) r4 r5 r6 r7
          exact hK ρ w' hw trivial
        · cases hr
      · cases hr
    · cases hr
  · cases hr
/-- A block is written by another function, which may make blocks of its own. -/
theorem RelM.writeG {Γ : Ctx} {ρ : Env} {m : List (Nat × Vblk)} {w w' : World} (h : RelM Γ ρ m w) (k : Nat) (b0 b : Vblk) (hk : look k m = some b0) (hal : b.alive ρ k → b0.alive ρ k) (hb : Seg.ok (AS.dom m) b.row)
    (hat : Sits ρ w' k b) (hfr : Fr (fun B => B = ρ.b k ∧ b0.alive ρ k) w w') : RelM Γ ρ (lay k b m) w' := by
  have hdk : AS.dom m k := by unfold AS.dom; rw [hk]; rfl
  have hdom : ∀ j, AS.dom (lay k b m) j ↔ AS.dom m j := fun j => by
    rw [dom_lay]; exact ⟨fun e => e.elim (fun e => by subst e; exact hdk) id, .inr⟩
  have hold : ∀ j c, look j (lay k b m) = some c → c.alive ρ j → ∃ c0, look j m = some c0 ∧ c0.alive ρ j := by
    intro j c hj ha
    rw [look_lay] at hj
    split at hj
    · rename_i e
      subst e
      simp only [Option.some.injEq] at hj
      subst hj
      exact ⟨b0, hk, hal ha⟩
    · exact ⟨c, hj, ha⟩
  refine ⟨fun j c hj => ?_, fun i j b1 c1 hi hj ai aj => ?_, fun j c hj aj => ?_, fun j hj => ⟨(hdom j).2 (h.fix j hj).1, (h.fix j hj).2⟩, ?_⟩
  · rw [look_lay] at hj
    split at hj
    · rename_i e
      subst e
      simp only [Option.some.injEq] at hj
      subst hj
      exact ⟨hat, Seg.ok_mono (fun i hi => (hdom i).2 hi) _ hb⟩
    · rename_i e
      obtain ⟨h1, h2⟩ := h.sits j c hj
      refine ⟨h1.stay rfl ⟨rfl, rfl⟩ (fun ha => hfr.block _ (h1.lt ha) ?_), Seg.ok_mono (fun i hi => (hdom i).2 hi) _ h2⟩
      rintro ⟨e2, hb0⟩
      exact e (h.inj j k c b0 hj hk ha hb0 e2)
  · obtain ⟨b2, hi2, ai2⟩ := hold i b1 hi ai
    obtain ⟨c2, hj2, aj2⟩ := hold j c1 hj aj
    exact h.inj i j b2 c2 hi2 hj2 ai2 aj2
  · obtain ⟨c2, hj2, aj2⟩ := hold j c hj aj
    exact h.home j c2 hj2 aj2
  · refine ⟨hfr.os.trans h.fr.os, hfr.tape.trans h.fr.tape, hfr.output.trans h.fr.output, Nat.le_trans h.fr.size hfr.size, fun j hj hF => ?_⟩
    rw [hfr.block j (Nat.lt_of_lt_of_le hj h.fr.size) ?_]
    · exact h.fr.block j hj hF
    · rintro ⟨e, hb0⟩
      rcases h.home k b0 hk hb0 with hf | hf
      · exact hF (e ▸ hf)
      · omega
/-- The names that a written block may speak of. -/
def kd (k : Nat) (rd : List Nat) (j : Nat) : Prop := j = k ∨ j ∈ rd
theorem okN {k : Nat} {rd : List Nat} {r : List Seg} (h : Seg.ok No r) : Seg.ok (kd k rd) r := Seg.ok_mono (fun _ h => h.elim) _ h
/-- A call that writes a block of the caller's. -/
def callWOp (Γ : Ctx) (rd : List Nat) (k : Nat) (b : Vblk) (v : AV) (f : Operand) (args : List Operand) (tm : List (Nat × AV)) (mem : List (Nat × Vblk)) : Option Res :=
  match funcOf (ev tm f), evL tm args, live k mem, pickM mem rd with
  | some g, some avs, some b0, some bs => match plainFn Γ g with
    | true => some (.gen v [(k, b)] rd false [∀ ρ w, Fr Γ.F Γ.w0 w → hasAll Γ ρ w ((k, b0) :: bs) → Calls Γ.P g (AV.concL ρ avs).toArray w fun e w' => e = .returned (v.conc ρ) ∧ Fr (fun B => B = ρ.b k ∧ b0.alive ρ k) w w' ∧ Sits ρ w' k b ∧ (b.alive ρ k → b0.alive ρ k),
          Seg.ok (kd k rd) b.row, ∀ D : Nat → Prop, D k → (∀ k ∈ rd, D k) → v.ok D])
    | false => none
  | _, _, _, _ => none
theorem callWOp_sound {Γ : Ctx} {nm : Nat} {o : Oper} {f : Operand} {args : Array Operand} {ats : Array TypeId} (ho : o.op = .call { callee := .value f, args := args, argTypes := ats }) {rd : List Nat} {k : Nat} {b : Vblk} {v : AV} {ρ : Env} {s : AS} {a : Act} {w : World} {r : Res} (hr : callWOp Γ rd k b v f args.toList s.tm s.mem = some r) (hvc : ∀ p ∈ r.vc, p) (hR : Rel Γ ρ s a w) : ResOk Γ nm o ρ s a w r := by
  unfold callWOp at hr
  split at hr
  · rename_i g avs b0 bs hf hav hb0 hbs
    split at hr
    · rename_i hpl
      have hf := (hR.ev (funcOf_spec hf)).1
      simp only [AV.conc] at hf
      have hargs := evL_spec hR _ _ hav
      obtain ⟨hhas, hdom⟩ := pickM_spec hR.mem rd bs hbs
      obtain ⟨hsit, hok, hnd, hlk⟩ := hR.mem.liveAt hb0
      have hrun : (execOp a.eval o).run Γ.P w = .ok (.enter g (AV.concL ρ avs).toArray) w := by
        obtain ⟨dst, op, type, pos, after, guard⟩ := o
        simp only at ho
        subst ho
        have he : execOp a.eval ⟨dst, .call ⟨.value f, args, ats⟩, type, pos, after, guard⟩ = (do let d ← Deferred.ofValue (a.eval f) (args.map a.eval); invoke d.target d.args) := rfl
        rw [he, hf]
        have h2 : args.map a.eval = (AV.concL ρ avs).toArray := by rw [← hargs, ← List.map_toArray, Array.toArray_toList]
        rw [h2]
        simp only [Deferred.ofValue, pure_bind, invoke]
        rw [Array.empty_append, Array.append_empty]
        exact callFunc_plain hpl _ w
      simp only [Option.some.injEq] at hr
      subst hr
      have v1 : ∀ ρ w, Fr Γ.F Γ.w0 w → hasAll Γ ρ w ((k, b0) :: bs) → Calls Γ.P g (AV.concL ρ avs).toArray w fun e w' => e = .returned (v.conc ρ) ∧ Fr (fun B => B = ρ.b k ∧ b0.alive ρ k) w w' ∧ Sits ρ w' k b ∧ (b.alive ρ k → b0.alive ρ k) := hvc _ (by simp [Res.vc])
      have v2 : Seg.ok (kd k rd) b.row := hvc _ (by simp [Res.vc])
      have v3 : ∀ D : Nat → Prop, D k → (∀ k ∈ rd, D k) → v.ok D := hvc _ (by simp [Res.vc])
      intro K Q hK
      unfold Oper.wp
      rw [hrun]
      refine Calls.mono (v1 ρ w hR.mem.fr ⟨⟨hsit, hR.mem.home k b0 hlk⟩, hhas⟩) ?_
      rintro e w' ⟨rfl, hfr, hs, hal⟩
      have hM := hR.mem.writeG k b0 b hlk hal (Seg.ok_mono (fun j hj => by rcases hj with rfl | hj; exact (by unfold AS.dom; rw [hlk]; rfl); exact hdom j hj) _ v2) hs hfr
      have h3 : ∀ j, AS.dom s.mem j → AS.dom (lay k b s.mem) j := fun j hj => dom_lay.2 (.inr hj)
      exact hK ρ w' (hR.names hM (fun _ _ => ⟨rfl, rfl⟩) h3) (v3 _ (dom_lay.2 (.inl rfl)) fun j hj => h3 j (hdom j hj))
    · cases hr
  · cases hr
/-- An operation that writes one block, by a law of its own. -/
def asWOp (Γ : Ctx) (rd : List Nat) (k : Nat) (b : Vblk) (v : AV) (o : Oper) (tm : List (Nat × AV)) (mem : List (Nat × Vblk)) : Option Res :=
  match isSelect o.op with
  | true => none
  | false => match allIn tm o.op.operands.toList, live k mem, pickM mem rd with
    | true, some b0, some bs => some (.gen v [(k, b)] rd false [∀ ρ w, Fr Γ.F Γ.w0 w → hasAll Γ ρ w ((k, b0) :: bs) → ∃ w', (execOp (evC ρ tm) o).run Γ.P w = .ok (.value (v.conc ρ)) w' ∧ Fr (fun B => B = ρ.b k ∧ b0.alive ρ k) w w' ∧ Sits ρ w' k b ∧ (b.alive ρ k → b0.alive ρ k),
          Seg.ok (kd k rd) b.row, ∀ D : Nat → Prop, D k → (∀ k ∈ rd, D k) → v.ok D])
    | _, _, _ => none
theorem asWOp_sound {Γ : Ctx} {nm : Nat} {o : Oper} {rd : List Nat} {k : Nat} {b : Vblk} {v : AV} {tm : List (Nat × AV)} {ρ : Env} {s : AS} {a : Act} {w : World} {r : Res} (hr : asWOp Γ rd k b v o tm s.mem = some r) (hvc : ∀ p ∈ r.vc, p) (hR : Rel Γ ρ s a w)
    (hag : ∀ x ∈ o.op.operands, ev tm x = ev s.tm x) : ResOk Γ nm o ρ s a w r := by
  unfold asWOp at hr
  split at hr
  · cases hr
  · rename_i hsel
    split at hr
    · rename_i b0 bs hall hb0 hbs
      have he : execOp a.eval o = execOp (evC ρ tm) o := execOp_congr o (isSelect_no hsel) fun x hx => by
        obtain ⟨u, hu⟩ := allIn_spec _ hall x (by simpa using hx)
        unfold evC
        rw [hu]
        rw [hag x hx] at hu
        rw [(hR.ev hu).1]
      obtain ⟨hhas, hdom⟩ := pickM_spec hR.mem rd bs hbs
      obtain ⟨hsit, hok, hnd, hlk⟩ := hR.mem.liveAt hb0
      simp only [Option.some.injEq] at hr
      subst hr
      have v1 : ∀ ρ w, Fr Γ.F Γ.w0 w → hasAll Γ ρ w ((k, b0) :: bs) → ∃ w', (execOp (evC ρ tm) o).run Γ.P w = .ok (.value (v.conc ρ)) w' ∧ Fr (fun B => B = ρ.b k ∧ b0.alive ρ k) w w' ∧ Sits ρ w' k b ∧ (b.alive ρ k → b0.alive ρ k) := hvc _ (by simp [Res.vc])
      have v2 : Seg.ok (kd k rd) b.row := hvc _ (by simp [Res.vc])
      have v3 : ∀ D : Nat → Prop, D k → (∀ k ∈ rd, D k) → v.ok D := hvc _ (by simp [Res.vc])
      intro K Q hK
      unfold Oper.wp
      obtain ⟨w', hrun, hfr, hs, hal⟩ := v1 ρ w hR.mem.fr ⟨⟨hsit, hR.mem.home k b0 hlk⟩, hhas⟩
      rw [he, hrun]
      have hM := hR.mem.writeG k b0 b hlk hal (Seg.ok_mono (fun j hj => by rcases hj with rfl | hj; exact (by unfold AS.dom; rw [hlk]; rfl); exact hdom j hj) _ v2) hs hfr
      have h3 : ∀ j, AS.dom s.mem j → AS.dom (lay k b s.mem) j := fun j hj => dom_lay.2 (.inr hj)
      exact hK ρ w' (hR.names hM (fun _ _ => ⟨rfl, rfl⟩) h3) (v3 _ (dom_lay.2 (.inl rfl)) fun j hj => h3 j (hdom j hj))
    · cases hr
/-- An operation that makes one block, by a law of its own. -/
def asNOp (Γ : Ctx) (nm : Nat) (rd : List Nat) (v : AV) (b : Vblk) (o : Oper) (tm : List (Nat × AV)) (mem : List (Nat × Vblk)) : Option Res :=
  match isSelect o.op with
  | true => none
  | false => match allIn tm o.op.operands.toList, pickM mem rd with
    | true, some bs => some (.gen v [(nm, b)] rd true [∀ ρ w, Fr Γ.F Γ.w0 w → hasAll Γ ρ w bs → ∃ w' B C, (execOp (evC ρ tm) o).run Γ.P w = .ok (.value (v.conc (ρ.up nm B C))) w' ∧ Below w.heap.size w w' ∧ Sits (ρ.up nm B C) w' nm b ∧ (b.alive (ρ.up nm B C) nm → w.heap.size ≤ B),
          Seg.ok No b.row, ∀ D : Nat → Prop, D nm → (∀ k ∈ rd, D k) → v.ok D])
    | _, _ => none
/-- An operation that reads some blocks, by a law of its own. -/
def asROp (Γ : Ctx) (rd : List Nat) (v : AV) (o : Oper) (tm : List (Nat × AV)) (mem : List (Nat × Vblk)) : Option Res :=
  match isSelect o.op with
  | true => none
  | false => match allIn tm o.op.operands.toList, pickM mem rd with
    | true, some bs => some (.val v rd [∀ ρ w, Fr Γ.F Γ.w0 w → hasAll Γ ρ w bs → (execOp (evC ρ tm) o).run Γ.P w = .ok (.value (v.conc ρ)) w, ∀ D : Nat → Prop, (∀ k ∈ rd, D k) → v.ok D])
    | _, _ => none
theorem exec_evC {Γ : Ctx} {ρ : Env} {s : AS} {a : Act} {w : World} {o : Oper} {tm : List (Nat × AV)} (hR : Rel Γ ρ s a w) (hsel : isSelect o.op = false) (hall : allIn tm o.op.operands.toList = true)
    (hag : ∀ x ∈ o.op.operands, ev tm x = ev s.tm x) : execOp a.eval o = execOp (evC ρ tm) o := execOp_congr o (isSelect_no hsel) fun x hx => by
  obtain ⟨u, hu⟩ := allIn_spec _ hall x (by simpa using hx)
  unfold evC
  rw [hu]
  rw [hag x hx] at hu
  rw [(hR.ev hu).1]
theorem asNOp_sound {Γ : Ctx} {nm : Nat} {o : Oper} {rd : List Nat} {b : Vblk} {v : AV} {tm : List (Nat × AV)} {ρ : Env} {s : AS} {a : Act} {w : World} {r : Res} (hn : look nm s.mem = none) (hr : asNOp Γ nm rd v b o tm s.mem = some r) (hvc : ∀ p ∈ r.vc, p) (hR : Rel Γ ρ s a w)
    (hag : ∀ x ∈ o.op.operands, ev tm x = ev s.tm x) : ResOk Γ nm o ρ s a w r := by
  unfold asNOp at hr
  split at hr
  · cases hr
  · rename_i hsel
    split at hr
    · rename_i bs hall hbs
      have he := exec_evC hR hsel hall hag
      obtain ⟨hhas, hdom⟩ := pickM_spec hR.mem rd bs hbs
      simp only [Option.some.injEq] at hr
      subst hr
      have v1 : ∀ ρ w, Fr Γ.F Γ.w0 w → hasAll Γ ρ w bs → ∃ w' B C, (execOp (evC ρ tm) o).run Γ.P w = .ok (.value (v.conc (ρ.up nm B C))) w' ∧ Below w.heap.size w w' ∧ Sits (ρ.up nm B C) w' nm b ∧ (b.alive (ρ.up nm B C) nm → w.heap.size ≤ B) := hvc _ (by simp [Res.vc])
      have v2 : Seg.ok No b.row := hvc _ (by simp [Res.vc])
      have v3 : ∀ D : Nat → Prop, D nm → (∀ k ∈ rd, D k) → v.ok D := hvc _ (by simp [Res.vc])
      intro K Q hK
      unfold Oper.wp
      obtain ⟨w', B, C, hrun, hb, hs, hB⟩ := v1 ρ w hR.mem.fr hhas
      rw [he, hrun]
      have hlt : ∀ j c, look j s.mem = some c → c.alive ρ j → ρ.b j < w.heap.size := fun j c hj ha => (hR.mem.sits j c hj).1.lt ha
      obtain ⟨g1, g2⟩ := hR.mem.name (w' := w') nm B C hn b (Seg.ok_mono (fun _ h => h.elim) _ v2) hs (fun j c hj ha => by
        by_cases hal : b.alive (ρ.up nm B C) nm
        · left
          have := hlt j c hj ha
          have := hB hal
          omega
        · exact .inr hal) (fun hal => .inr (Nat.le_trans hR.mem.fr.size (hB hal))) (fun j c hj ha => hb.block _ (hlt j c hj ha)) (hR.mem.fr.trans (Fr.below hb))
      have h3 : ∀ j, AS.dom s.mem j → AS.dom (lay nm b s.mem) j := fun j hj => dom_lay.2 (.inr hj)
      exact hK _ w' (hR.names g1 g2 h3) (v3 _ (dom_lay.2 (.inl rfl)) fun k hk => h3 k (hdom k hk))
    · cases hr
theorem asROp_sound {Γ : Ctx} {nm : Nat} {o : Oper} {rd : List Nat} {v : AV} {tm : List (Nat × AV)} {ρ : Env} {s : AS} {a : Act} {w : World} {r : Res} (hr : asROp Γ rd v o tm s.mem = some r) (hvc : ∀ p ∈ r.vc, p) (hR : Rel Γ ρ s a w)
    (hag : ∀ x ∈ o.op.operands, ev tm x = ev s.tm x) : ResOk Γ nm o ρ s a w r := by
  unfold asROp at hr
  split at hr
  · cases hr
  · rename_i hsel
    split at hr
    · rename_i bs hall hbs
      have he := exec_evC hR hsel hall hag
      obtain ⟨hhas, hdom⟩ := pickM_spec hR.mem rd bs hbs
      simp only [Option.some.injEq] at hr
      subst hr
      have v1 : ∀ ρ w, Fr Γ.F Γ.w0 w → hasAll Γ ρ w bs → (execOp (evC ρ tm) o).run Γ.P w = .ok (.value (v.conc ρ)) w := hvc _ (by simp [Res.vc])
      have v2 : ∀ D : Nat → Prop, (∀ k ∈ rd, D k) → v.ok D := hvc _ (by simp [Res.vc])
      exact ⟨by rw [he]; exact v1 ρ w hR.mem.fr hhas, v2 _ hdom⟩
    · cases hr
end Go.Proofs.YthgnmpjcbicdhaaDoor

