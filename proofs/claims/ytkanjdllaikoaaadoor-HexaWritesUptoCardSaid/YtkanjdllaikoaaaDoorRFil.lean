/- A text, filled up to whole blocks. -/
import Derived.Test.YtkanjdllaikoaaaDoorGv
import Derived.Test.YtkanjdllaikoaaaDoorKSay
set_option linter.unusedSimpArgs false
set_option linter.unusedVariables false
namespace Go.Proofs.YtkanjdllaikoaaaDoor
open Go Go.RowKit

/-- A text, the first byte behind it, and zeros. -/
def fillT (t : List Int) (j : Nat) : List Int := t ++ (1 :: List.replicate j 0)
theorem fillT_len (t : List Int) (j : Nat) : (fillT t j).length = t.length + 1 + j := by unfold fillT; simp; omega
theorem fillT_snoc (t : List Int) (j : Nat) : fillT t j ++ [0] = fillT t (j + 1) := by
  unfold fillT
  rw [List.append_assoc, List.cons_append, List.replicate_succ']
theorem fillT_at (t : List Int) (j i : Nat) : (fillT t j).getD i 0 = if i < t.length then t.getD i 0 else if i = t.length then 1 else 0 := by
  unfold fillT
  by_cases h : i < t.length
  · rw [if_pos h, List.getD_eq_getElem?_getD, List.getElem?_append_left h, ← List.getD_eq_getElem?_getD]
  · rw [if_neg h, List.getD_eq_getElem?_getD, List.getElem?_append_right (by omega)]
    by_cases h2 : i = t.length
    · subst h2; simp
    · rw [if_neg h2]
      obtain ⟨k, hk⟩ : ∃ k, i - t.length = k + 1 := ⟨i - t.length - 1, by omega⟩
      rw [hk, List.getElem?_cons_succ, List.getElem?_replicate]
      split <;> rfl
/-- A text, filled up. -/
def padL (t : List Int) : List Int := (List.range (136 * (t.length / 136 + 1))).map (padF t 1)
theorem padL_len (t : List Int) : (padL t).length = 136 * (t.length / 136 + 1) := by simp [padL]
theorem padL_at (t : List Int) (i : Nat) (hi : i < 136 * (t.length / 136 + 1)) : (padL t).getD i 0 = padF t 1 i := by
  unfold padL
  rw [List.getD_eq_getElem?_getD, List.getElem?_map, List.getElem?_range hi]
  rfl
theorem padL_set (t : List Int) (z : Nat) (v : Int) (hz : t.length + 1 + z = 136 * (t.length / 136 + 1)) (hv : v = if t.length = 136 * (t.length / 136) + 135 then 129 else 128) : (fillT t z).set (136 * (t.length / 136) + 135) v = padL t := by
  refine List.ext_getElem (by rw [List.length_set, fillT_len, padL_len, hz]) fun i h1 h2 => ?_
  rw [padL_len] at h2
  have e1 : ∀ (l : List Int) (h : i < l.length), l[i] = l.getD i 0 := fun l h => by rw [List.getD_eq_getElem?_getD, List.getElem?_eq_getElem h]; rfl
  rw [e1 _ h1, e1 _ (by rw [padL_len]; exact h2), padL_at t i h2]
  obtain ⟨p, hp⟩ : ∃ p, p = 136 * (t.length / 136) + 135 := ⟨_, rfl⟩
  have hpl : p < (fillT t z).length := by rw [fillT_len]; omega
  have hpt : ¬ p < t.length := by omega
  unfold padF
  rw [← hp] at hv ⊢
  rw [List.getD_eq_getElem?_getD, List.getElem?_set]
  by_cases h : p = i
  · subst h
    simp only [if_true, hpl, hpt, if_false, Option.getD_some]
    by_cases h3 : t.length = p
    · rw [hv, if_pos h3, if_pos h3.symm]; rfl
    · rw [hv, if_neg h3, if_neg (fun e => h3 e.symm)]
  · have h' : ¬ i = p := fun e => h e.symm
    simp only [h, h', if_false]
    rw [← List.getD_eq_getElem?_getD, fillT_at]
def fiS (m : Nat) (xs : List Int) : AS := ⟨[(4, .val (.slice none 0 0)), (5, .own 1 1 0 m)], [(1, ob m xs)]⟩
set_option maxHeartbeats 4000000 in
theorem filled_round (w : World) (t : List Int) (hn : t.length ≤ 100000000000000) :
    ∀ (q j : Nat), t.length + 1 + j + q = 136 * (t.length / 136 + 1) → ∀ (m : Nat) (xs : List Int), m = t.length + 1 + j → xs = fillT t j → wpK (ctx Tryd.prog w Tryd.f68.ntmps) Tryd.f68 (Gives w (padL t)) (loopAt Tryd.f68 0) (fiS m xs) := by
  intro q
  induction q with
  | zero =>
    intro j hj m xs hm hxs
    have hrem : (!decide (((m : Int).tmod 136) = 0)) = false := by
      rw [Int.tmod_eq_emod_of_nonneg (by omega)]; simp; omega
    have hxl : xs.length = m := by rw [hxs, fillT_len, hm]
    have hw : IntKind.i64.wrap ((m : Int) - 1) = ((m - 1 : Nat) : Int) := by rw [IntKind.wrap_i64]; omega
    have hm1 : m - 1 < m := by omega
    obtain ⟨v, hv⟩ : ∃ v, v = IntKind.u8.wrap ((BitVec.ofInt IntKind.u8.bits (xs.getD (m - 1) 0) ||| BitVec.ofInt IntKind.u8.bits 128).toNat : Int) := ⟨_, rfl⟩
    have hpad : xs.set (m - 1) v = padL t := by
      have e : m - 1 = 136 * (t.length / 136) + 135 := by omega
      rw [hxs, e]
      refine padL_set t j v (by omega) ?_
      rw [hv, e, hxs, fillT_at, if_neg (by omega)]
      by_cases h : t.length = 136 * (t.length / 136) + 135
      · rw [if_pos h, if_pos h.symm]; decide
      · rw [if_neg h, if_neg (fun e => h e.symm)]; decide
    have hsl : (xs.set (m - 1) v).length = m := by rw [List.length_set, hxl]
    rw [← hpad]
    refine wpK_endM (n := 400) (m := 0) (nx := 100) (hs := [(16, .eq (.val (.bool false))), (23, .eq (.val (.int .i64 ((m - 1 : Nat) : Int)))), (27, .eq (.val (.int .i64 ((m - 1 : Nat) : Int)))), (28, .ix (m - 1)), (30, .eq (.val (.int .u8 v))), (31, .ix (m - 1))]) (v := .own 1 1 0 m) (bs := [(1, ob m (xs.set (m - 1) v))]) follows [1] (And.intro (Nat.le_refl m) (And.intro (congrArg Value.bool hrem) (And.intro (Nat.le_refl m) (And.intro (congrArg (Value.int .i64) hw) (And.intro (Nat.le_refl m) (And.intro (congrArg (Value.int .i64) hw) (And.intro (rfl : ((m - 1 : Nat) : Int) = ((m - 1 : Nat) : Int)) (And.intro hm1 (And.intro hm1 (And.intro hm1 (And.intro (congrArg (Value.int .u8) hv.symm) (And.intro (rfl : ((m - 1 : Nat) : Int) = ((m - 1 : Nat) : Int)) (And.intro hm1 (And.intro hm1 hm1)))))))))))))) (by kernel_rfl) ?_
    intro ρ w' hf hh; exact gives_of hsl hf hh
  | succ q ih =>
    intro j hj m xs hm hxs
    have hrem : (!decide (((m : Int).tmod 136) = 0)) = true := by
      rw [Int.tmod_eq_emod_of_nonneg (by omega)]; simp; omega
    have hxl : xs.length = m := by rw [hxs, fillT_len, hm]
    have hcat : ∀ ρ, Seg.cells ρ [.ints .u8 (m + 1) (xs ++ [0])] = Seg.cells ρ [.ints .u8 m xs] ++ Seg.cells ρ [.cell (.val (.int .u8 0))] := by
      intro ρ
      simp [Seg.cells, Seg.cell1, AV.conc]
    have hlen : (xs ++ [(0 : Int)]).length = m + 1 := by simp [hxl]
    have hmb : m + 1 ≤ 140737488355328 := by omega
    refine wpK_loop (n := 400) (m := 0) (nx := 100) (hs := [(16, .eq (.val (.bool true))), (19, .app [.ints .u8 (m + 1) (xs ++ [0])] (m + 1))]) (st' := loopAt Tryd.f68 0) (s' := fiS (m + 1) (xs ++ [0])) follows [] [4, 5] [(1, 106)] (And.intro (Nat.le_refl m) (And.intro (congrArg Value.bool hrem) (And.intro hcat (And.intro (show Seg.ok No [.ints .u8 (m + 1) (xs ++ [0])] from ⟨hlen, trivial⟩) (And.intro (rfl : m + 1 = m + 1) (And.intro (Nat.zero_add m) hmb)))))) (by kernel_rfl) ?_
    exact ih (j + 1) (by omega) (m + 1) _ (by omega) (by rw [hxs, fillT_snoc])
theorem filled_c (w : World) (A : Option Addr) (n c : Nat) (t : List Int) (hS : Sl .u8 w A n t) (hpos : 0 < n) (hn : n ≤ 100000000000000) :
    Calls Tryd.prog 68 #[.slice A n c, .int .u8 1] w (Gives w (padL t)) := by
  obtain ⟨ad, rfl⟩ := hS.has hpos
  have hl := hS.1
  have hcat0 : ∀ ρ, Seg.cells ρ [.ints .u8 n t] = Seg.cells ρ [] ++ t.map (Value.int .u8) := by
    intro ρ
    simp [Seg.cells, Seg.cell1]
  have hcat : ∀ ρ, Seg.cells ρ [.ints .u8 (n + 1) (t ++ [1])] = Seg.cells ρ [.ints .u8 n t] ++ Seg.cells ρ [.cell (.val (.int .u8 1))] := by
    intro ρ
    simp [Seg.cells, Seg.cell1, AV.conc]
  have hlen : (t ++ [(1 : Int)]).length = n + 1 := by simp [hl]
  have hone : ∀ u ∈ t.map (Value.int .u8), u.oneCell' = true := fun u hu => by obtain ⟨z, _, rfl⟩ := List.mem_map.1 hu; rfl
  have hlt : 0 < (t.map (Value.int .u8)).length → ad.block < w.heap.size ∧ ¬ No ad.block := fun _ => ⟨hS.lt hpos, fun h => h⟩
  have hcell : ∀ j v, (t.map (Value.int .u8))[j]? = some v → w.cell? (ad.add j) = some v := by
    intro j v hj
    have hjl : j < t.length := by have := (List.getElem?_eq_some_iff.1 hj).1; simpa using this
    rw [vals_get .u8 t j hjl] at hj
    rw [hS.at j (by omega)]
    exact hj
  refine calls_vm [.val (.slice (some ad) n c), .val (.int .u8 1)] (fn := Tryd.f68) Tryd.func68 (by kernel_rfl) (by kernel_rfl) (by kernel_rfl) (by simp [AV.okL, AV.ok]) ?_
  refine wpK_loop (n := 400) (m := 0) (nx := 0) (hs := [(8, .appx [.ints .u8 n t] n (t.map (Value.int .u8))), (12, .app [.ints .u8 (n + 1) (t ++ [1])] (n + 1))]) (st' := loopAt Tryd.f68 0) (s' := fiS (n + 1) (t ++ [1])) follows [] [4, 5] [(1, 9)] (And.intro hcat0 (And.intro (show Seg.ok No [.ints .u8 n t] from ⟨hl, trivial⟩) (And.intro (show n = 0 + n by omega) (And.intro (rfl : Seg.len [] = 0) (And.intro (show n ≤ 140737488355328 by omega) (And.intro (show (t.map (Value.int .u8)).length = n by rw [List.length_map, hl]) (And.intro hone (And.intro hlt (And.intro hcell (And.intro hcat (And.intro (show Seg.ok No [.ints .u8 (n + 1) (t ++ [1])] from ⟨hlen, trivial⟩) (And.intro (rfl : n + 1 = n + 1) (And.intro (Nat.zero_add n) (show n + 1 ≤ 140737488355328 by omega)))))))))))))) (by kernel_rfl) ?_
  have hfin : t.length + 1 + 0 + (135 - t.length % 136) = 136 * (t.length / 136 + 1) := by omega
  exact filled_round w t (by omega) (135 - t.length % 136) 0 hfin (n + 1) _ (by omega) rfl
end Go.Proofs.YtkanjdllaikoaaaDoor

