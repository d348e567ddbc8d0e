/- What the laws of the nibbles share: lists that were made one after the other are apart; the lent bytes are read. -/
import Derived.Test.YtdagliimdmbeaaaNRow
import Derived.Test.YtdagliimdmbeaaaNStill
import Derived.Test.YtdagliimdmbeaaaNApart
import Derived.Laws.CopyOwn
set_option linter.unusedSimpArgs false
set_option linter.unusedVariables false
namespace Go.Proofs.Ytdagliimdmbeaaa
open Go Go.RowKit Go.Proofs.YtdagliimdmbeaaaW.PrintWords Go.Proofs.YtdagliimdmbeaaaW.PrintLast Go.Proofs.YtdagliimdmbeaaaW.PrintMore

theorem lent_C {w : World} {b : Nat} {l : List Int} (h : Box w b (marks l 70).toArray 5) (hl : l.length ≤ 140737488351232) : Kd.C (Kd.int .u8) w (some ⟨b, 0, none⟩) l.length l := by
  refine Kd.C_of_reads (d := (0 : Int)) (h1 := fun _ => rfl) ⟨rfl, by omega, fun _ => ⟨_, rfl, fun j hj => ?_⟩⟩
  rw [Addr.add_lit, h.cell]
  simpa using marks_data l j hj

inductive Chain (W : World) : Nat → Nat → List Value → List (List Int) → Prop
  | nil {lo hi : Nat} : lo ≤ hi → Chain W lo hi [] []
  | cons {lo mid hi : Nat} {v : Value} {r : List Int} {vs : List Value} {xs : List (List Int)} : lo ≤ mid → W.ownsRow lo 5 1 v r.length (nums .u8 r) → (∀ k, v.ownBlock = some k → k < mid) → Chain W mid hi vs xs → Chain W lo hi (v :: vs) (r :: xs)
theorem Chain.le {W : World} {lo hi : Nat} {vs : List Value} {xs : List (List Int)} (h : Chain W lo hi vs xs) : lo ≤ hi := by
  induction h with
  | nil h => exact h
  | cons h _ _ _ ih => omega
theorem Chain.len {W : World} {lo hi : Nat} {vs : List Value} {xs : List (List Int)} (h : Chain W lo hi vs xs) : xs.length = vs.length := by
  induction h with
  | nil h => rfl
  | cons _ _ _ _ ih => simp [ih]
theorem Chain.own {W : World} {lo hi : Nat} {vs : List Value} {xs : List (List Int)} (h : Chain W lo hi vs xs) : ∀ j, j < vs.length → W.ownsRow lo 5 1 (at_ vs j) (row_ xs j).length (nums .u8 (row_ xs j)) ∧ ∀ k, (at_ vs j).ownBlock = some k → lo ≤ k ∧ k < hi := by
  induction h with
  | nil h => intro j hj; simp at hj
  | cons h ho hk hc ih =>
    intro j hj
    cases j with
    | zero => exact ⟨ho, fun k e => ⟨own_base ho k e, Nat.lt_of_lt_of_le (hk k e) hc.le⟩⟩
    | succ j =>
      obtain ⟨h1, h2⟩ := ih j (by simpa using hj)
      exact ⟨own_weaken h1 h, fun k e => ⟨Nat.le_trans h (h2 k e).1, (h2 k e).2⟩⟩
theorem Chain.dif {W : World} {lo hi : Nat} {vs : List Value} {xs : List (List Int)} (h : Chain W lo hi vs xs) : ∀ i j, i < vs.length → j < vs.length → i ≠ j → (at_ vs i).ownBlock = none ∨ (at_ vs i).ownBlock ≠ (at_ vs j).ownBlock := by
  induction h with
  | nil h => intro i j hi; simp at hi
  | cons h ho hk hc ih =>
    rename_i lo mid hi v r vs xs
    intro i j hi hj hne
    cases i with
    | zero =>
      cases j with
      | zero => exact absurd rfl hne
      | succ j =>
        cases e : (at_ (v :: vs) 0).ownBlock with
        | none => exact .inl rfl
        | some b =>
          refine .inr fun e2 => ?_
          have h1 := hk b e
          have h2 := (hc.own j (by simpa using hj)).2 b e2.symm
          omega
    | succ i =>
      cases j with
      | zero =>
        cases e : (at_ (v :: vs) (i + 1)).ownBlock with
        | none => exact .inl rfl
        | some b =>
          refine .inr fun e2 => ?_
          have h1 := hk b e2.symm
          have h2 := (hc.own i (by simpa using hi)).2 b e
          omega
      | succ j => exact ih i j (by simpa using hi) (by simpa using hj) (by omega)
theorem Chain.rows {W : World} {lo hi base g : Nat} {vs : List Value} {xs : List (List Int)} (h : Chain W lo hi vs xs) (hb : base ≤ lo) (hg : hi ≤ g) (ht : Box W g vs.toArray 22) : Rows W base g vs xs :=
  ⟨ht, by have := h.le; omega, fun j hj => own_weaken (h.own j hj).1 hb, h.dif, fun j hj e => by have := (h.own j hj).2 g e; omega⟩
/-- A made row, later on. -/
theorem made {W0 W : World} {base : Nat} {v : Value} {r : List Int} (h : Kd.R (Kd.int .u8) 5 W0 base (fun _ => True) v r) (hb : Below W0.heap.size W0 W) : W.ownsRow base 5 1 v r.length (nums .u8 r) ∧ ∀ k, v.ownBlock = some k → k < W0.heap.size := by
  have h1 : W0.ownsRow base 5 1 v r.length (nums .u8 r) := Kd.own_of_R h
  exact ⟨pw_own_below h1 hb, fun k e => own_lt h1 k e⟩
theorem made_own {W0 W : World} {base : Nat} {v : Value} {r : List Int} (h : Kd.R (Kd.int .u8) 5 W0 base (fun _ => True) v r) (hb : Bl W0 W) : W.ownsRow base 5 1 v r.length (nums .u8 r) := (made h hb).1
theorem made_lt {W0 : World} {base : Nat} {v : Value} {r : List Int} (h : Kd.R (Kd.int .u8) 5 W0 base (fun _ => True) v r) : ∀ k, v.ownBlock = some k → k < W0.heap.size := (made h (Below.refl _ _)).2
/-- A made row, past a write into an elder block. -/
theorem R_past {W W' : World} {base g : Nat} {v : Value} {r : List Int} (h : Kd.R (Kd.int .u8) 5 W base (fun _ => True) v r) (hg : W.grownBy W' (some g)) (hlt : g < base) : Kd.R (Kd.int .u8) 5 W' base (fun _ => True) v r :=
  Kd.R_mono (Kd.R_grown (Kd.R_bound h) hg (fun k hk e => by cases e; omega)) (fun _ _ => trivial)
theorem own_news {W : World} {base n c : Nat} {A : Option Addr} {r : List Int} (h : W.ownsRow base 5 1 (.slice A n c) n (nums .u8 r)) : 0 < r.length → ∃ ad, A = some ad ∧ ∀ j v, (nums .u8 r)[j]? = some v → W.cell? (ad.add j) = some v := by
  intro h0
  rcases h.2 with ⟨e1, e2⟩ | ⟨g, cap, cur, e1, _⟩
  · have := h.1; simp [nums, e2] at this; simp [this] at h0
  · simp only [Value.slice.injEq] at e1
    obtain ⟨rfl, _, rfl⟩ := e1
    exact ⟨_, rfl, fun j v hv => h.cells (g := g) rfl j v hv⟩
theorem marks_splice (l m : List Int) (h : m.length = l.length) : splice (marks l 70) 0 (nums .u8 m) = marks m 70 := by
  unfold splice marks
  simp [nums, h]
theorem setRow_grown (w : World) (g : Nat) (cs : Array Value) : w.grownBy (w.setRow g cs) (some g) :=
  ⟨rfl, rfl, rfl, by simp [World.setRow], fun k hk hne => by simp only [World.setRow, Array.getElem?_modify]; rw [if_neg (fun e => hne (by rw [e]))]⟩
theorem wpList_copy_marks {ops : Array Oper} {rest : List Oper} {o : Oper} {a : Act} {Q : Exit → Act → World → Prop} (W : World) (hgd : o.guard = none) (d s : Operand)
    (ho : o.op = .call { callee := .builtin .copy, args := #[d, s], argTypes := #[22, 22] }) (g : Nat) (l m : List Int) (A : Option Addr) (c : Nat)
    (hbox : Box W g (marks l 70).toArray 5) (hsrc : 0 < m.length → ∃ ad, A = some ad ∧ ∀ j v, (nums .u8 m)[j]? = some v → W.cell? (ad.add j) = some v) (hlen : m.length = l.length)
    (hd : a.eval d = .slice (some ⟨g, 0, none⟩) l.length (l.length + 70)) (hs : a.eval s = .slice A m.length c)
    (h : ∀ w', Box w' g (marks m 70).toArray 5 → W.grownBy w' (some g) → wpList Try.prog ops Q rest (a.put o.dst (goInt m.length)) w') : wpList Try.prog ops Q (o :: rest) a W := by
  obtain ⟨i8, hi8, hz8, hs8, hb8⟩ := info_parts info8
  have hsz : (Try.prog.info? 5).map (·.size) = some 1 := by rw [hi8]; simp [hs8]
  have hl : (nums .u8 m).length = m.length := by simp [nums]
  by_cases h0 : m.length = 0
  · have em : m = [] := List.eq_nil_of_length_eq_zero h0
    have el : l = [] := List.eq_nil_of_length_eq_zero (by omega)
    have e : (0 : Int) = (m.length : Int) := by omega
    refine wpList_copy_nothing hgd d s _ _ ho 5 Try.underlying22 hsz _ A l.length _ m.length c hd hs (by rw [h0]; simp) ?_
    have := h W (by rw [em, ← el]; exact hbox) ⟨rfl, rfl, rfl, Nat.le_refl _, fun _ _ _ => rfl⟩
    rw [h0] at this
    exact this
  · obtain ⟨ad, rfl, hcell⟩ := hsrc (by omega)
    have := wpList_copy_own (ops := ops) (rest := rest) (Q := Q) hgd d s _ _ ho 5 Try.underlying22 hsz g 0 l.length (l.length + 70) ad m.length c hd hs (marks l 70).toArray 5 hbox (nums .u8 m) (by rw [hl, hlen]; simp) hcell (by simp [marks_length l 70 (by omega), hl]; omega)
      (by simp [nums]; intro x _; rfl)
    rw [hl] at this
    refine this (h _ ?_ (setRow_grown _ _ _))
    have e2 := marks_splice l m hlen
    unfold splice at e2
    have e3 : (marks l 70).toArray.toList.take 0 ++ (nums .u8 m ++ (marks l 70).toArray.toList.drop (0 + m.length)) = marks m 70 := by rw [← hl]; exact e2
    rw [e3]
    exact hbox.row _
end Go.Proofs.Ytdagliimdmbeaaa
