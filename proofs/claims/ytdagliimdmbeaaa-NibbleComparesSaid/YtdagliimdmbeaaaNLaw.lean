/- What the laws of the nibbles share: lists that were made one after the other are apart; the lent bytes are read. -/
import Derived.Test.YtdagliimdmbeaaaNRow
import Derived.Test.YtdagliimdmbeaaaNStill
import Derived.Test.YtdagliimdmbeaaaNApart
set_option linter.unusedSimpArgs false
set_option linter.unusedVariables false
namespace Go.Proofs.Ytdagliimdmbeaaa
open Go Go.RowKit Go.Proofs.YtdagliimdmbeaaaW.PrintWords Go.Proofs.YtdagliimdmbeaaaW.PrintLast Go.Proofs.YtdagliimdmbeaaaW.PrintMore

theorem lent_C {w : World} {b : Nat} {l : List Int} (h : Box w b (marks l 70).toArray 5) (hl : l.length ≤ 140737488351232) : Kd.C (Kd.int .u8) w (some ⟨b, 0, none⟩) l.length l := by
  refine Kd.C_of_reads (d := (0 : Int)) (h1 := fun _ => rfl) ⟨rfl, by omega, fun _ => ⟨_, rfl, fun j hj => ?_⟩⟩
  rw [Addr.add_lit, h.cell]
  simpa using marks_data l j hj

inductive Chain (W : World) : Nat → Nat → List Value → List (List Int) → Prop
  | nil {lo hi : Nat} : lo ≤ hi → Chain W lo hi [] []
  | cons {lo mid hi : Nat} {v : Value} {r : List Int} {vs : List Value} {xs : List (List Int)} : lo ≤ mid → W.ownsRow lo 5 1 v r.length (nums .u8 r) → (∀ k, v.ownBlock = some k → k < mid) → Chain W mid hi vs xs → Chain W lo hi (v :: vs) (r :: xs)
theorem Chain.le {W : World} {lo hi : Nat} {vs : List Value} {xs : List (List Int)} (h : Chain W lo hi vs xs) : lo ≤ hi := by
  induction h with
  | nil h => exact h
  | cons h _ _ _ ih => omega
theorem Chain.len {W : World} {lo hi : Nat} {vs : List Value} {xs : List (List Int)} (h : Chain W lo hi vs xs) : xs.length = vs.length := by
  induction h with
  | nil h => rfl
  | cons _ _ _ _ ih => simp [ih]
theorem Chain.own {W : World} {lo hi : Nat} {vs : List Value} {xs : List (List Int)} (h : Chain W lo hi vs xs) : ∀ j, j < vs.length → W.ownsRow lo 5 1 (at_ vs j) (row_ xs j).length (nums .u8 (row_ xs j)) ∧ ∀ k, (at_ vs j).ownBlock = some k → lo ≤ k ∧ k < hi := by
  induction h with
  | nil h => intro j hj; simp at hj
  | cons h ho hk hc ih =>
    intro j hj
    cases j with
    | zero => exact ⟨ho, fun k e => ⟨own_base ho k e, Nat.lt_of_lt_of_le (hk k e) hc.le⟩⟩
    | succ j =>
      obtain ⟨h1, h2⟩ := ih j (by simpa using hj)
      exact ⟨own_weaken h1 h, fun k e => ⟨Nat.le_trans h (h2 k e).1, (h2 k e).2⟩⟩
theorem Chain.dif {W : World} {lo hi : Nat} {vs : List Value} {xs : List (List Int)} (h : Chain W lo hi vs xs) : ∀ i j, i < vs.length → j < vs.length → i ≠ j → (at_ vs i).ownBlock = none ∨ (at_ vs i).ownBlock ≠ (at_ vs j).ownBlock := by
  induction h with
  | nil h => intro i j hi; simp at hi
  | cons h ho hk hc ih =>
    rename_i lo mid hi v r vs xs
    intro i j hi hj hne
    cases i with
    | zero =>
      cases j with
      | zero => exact absurd rfl hne
      | succ j =>
        cases e : (at_ (v :: vs) 0).ownBlock with
        | none => exact .inl rfl
        | some b =>
          refine .inr fun e2 => ?_
          have h1 := hk b e
          have h2 := (hc.own j (by simpa using hj)).2 b e2.symm
          omega
    | succ i =>
      cases j with
      | zero =>
        cases e : (at_ (v :: vs) (i + 1)).ownBlock with
        | none => exact .inl rfl
        | some b =>
          refine .inr fun e2 => ?_
          have h1 := hk b e2.symm
          have h2 := (hc.own i (by simpa using hi)).2 b e
          omega
      | succ j => exact ih i j (by simpa using hi) (by simpa using hj) (by omega)
theorem Chain.rows {W : World} {lo hi base g : Nat} {vs : List Value} {xs : List (List Int)} (h : Chain W lo hi vs xs) (hb : base ≤ lo) (hg : hi ≤ g) (ht : Box W g vs.toArray 22) : Rows W base g vs xs :=
  ⟨ht, by have := h.le; omega, fun j hj => own_weaken (h.own j hj).1 hb, h.dif, fun j hj e => by have := (h.own j hj).2 g e; omega⟩
/-- A made row, later on. -/
theorem made {W0 W : World} {base : Nat} {v : Value} {r : List Int} (h : Kd.R (Kd.int .u8) 5 W0 base (fun _ => True) v r) (hb : Below W0.heap.size W0 W) : W.ownsRow base 5 1 v r.length (nums .u8 r) ∧ ∀ k, v.ownBlock = some k → k < W0.heap.size := by
  have h1 : W0.ownsRow base 5 1 v r.length (nums .u8 r) := Kd.own_of_R h
  exact ⟨pw_own_below h1 hb, fun k e => own_lt h1 k e⟩
end Go.Proofs.Ytdagliimdmbeaaa
