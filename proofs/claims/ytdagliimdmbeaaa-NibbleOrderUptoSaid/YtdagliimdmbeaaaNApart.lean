/- apart: lists that are alive at one time share no memory. -/
import Derived.Test.YtdagliimdmbeaaaNLent
import Derived.Test.YtdagliimdmbeaaaApp
set_option linter.unusedSimpArgs false
set_option linter.unusedVariables false
namespace Go.Proofs.Ytdagliimdmbeaaa
open Go Go.RowKit Go.Proofs.YtdagliimdmbeaaaW.PrintWords Go.Proofs.YtdagliimdmbeaaaW.PrintLast Go.Proofs.YtdagliimdmbeaaaW.PrintMore

def at_ (vs : List Value) (j : Nat) : Value := vs.getD j (.bool false)
def row_ (xss : List (List Int)) (j : Nat) : List Int := xss.getD j []
/-- Lists, each in a row of its own; the list of them in block g. -/
structure Rows (W : World) (base g : Nat) (vs : List Value) (xss : List (List Int)) : Prop where
  tab : Box W g vs.toArray 22
  low : base ≤ g
  own : ∀ j, j < vs.length → W.ownsRow base 5 1 (at_ vs j) (row_ xss j).length (nums .u8 (row_ xss j))
  dif : ∀ i j, i < vs.length → j < vs.length → i ≠ j → (at_ vs i).ownBlock = none ∨ (at_ vs i).ownBlock ≠ (at_ vs j).ownBlock
  nog : ∀ j, j < vs.length → (at_ vs j).ownBlock ≠ some g
theorem row_set (xss : List (List Int)) (i j : Nat) (ys : List Int) (hi : i < xss.length) : row_ (xss.set i ys) j = if j = i then ys else row_ xss j := by
  unfold row_
  simp only [List.getD_eq_getElem?_getD, List.getElem?_set]
  by_cases h : i = j
  · subst h; simp [hi]
  · rw [if_neg h, if_neg (fun e => h e.symm)]
theorem Rows.grown {W W' : World} {base g : Nat} {vs : List Value} {xss : List (List Int)} (h : Rows W base g vs xss) (hg : W.grownBy W' none) : Rows W' base g vs xss :=
  ⟨by have := h.tab; unfold Box at *; rw [hg.block g h.tab.lt (by simp)]; exact this, h.low, fun j hj => (h.own j hj).kept hg (by cases (at_ vs j).ownBlock <;> simp), h.dif, h.nog⟩
/-- One of them has been written. -/
theorem Rows.write {W W' : World} {base g : Nat} {vs : List Value} {xss : List (List Int)} (h : Rows W base g vs xss) (i : Nat) (hi : i < vs.length) (hx : i < xss.length) (hg : W.grownBy W' (at_ vs i).ownBlock) (ys : List Int)
    (hy : W'.ownsRow base 5 1 (at_ vs i) ys.length (nums .u8 ys)) : Rows W' base g vs (xss.set i ys) := by
  refine ⟨?_, h.low, fun j hj => ?_, h.dif, h.nog⟩
  · have := h.tab; unfold Box at *
    rw [hg.block g h.tab.lt (fun e => h.nog i hi e.symm)]; exact this
  · rw [row_set _ _ _ _ hx]
    by_cases hj2 : j = i
    · subst hj2; rw [if_pos rfl]; exact hy
    · rw [if_neg hj2]
      exact (h.own j hj).kept hg (h.dif j i hj hi hj2)
theorem Rows.same {W W' : World} {base g : Nat} {vs : List Value} {xss : List (List Int)} (h : Rows W base g vs xss) (i : Nat) (hi : i < vs.length) (hx : xss.length = vs.length) (hg : W.grownBy W' (at_ vs i).ownBlock)
    (hy : W'.ownsRow base 5 1 (at_ vs i) (row_ xss i).length (nums .u8 (row_ xss i))) : Rows W' base g vs xss := by
  have := h.write i hi (by omega) hg _ hy
  have e : xss.set i (row_ xss i) = xss := by
    unfold row_
    rw [List.getD_eq_getElem?_getD, List.getElem?_eq_getElem (by omega), Option.getD_some]
    exact List.set_getElem_self _
  rwa [e] at this
theorem Rows.below {w W W' : World} {base : Nat} {vs : List Value} {xss : List (List Int)} {g i : Nat} (h : Rows W base g vs xss) (hb : Below base w W) (hi : i < vs.length) (hg : W.grownBy W' (at_ vs i).ownBlock) : Below base w W' := by
  refine hb.grown hg ?_ ?_
  · have := h.tab.lt; have := h.low; omega
  · intro k hk; exact own_base (h.own i hi) k hk
/-- As the walk reads it. -/
theorem Rows.cell {W : World} {base g : Nat} {vs : List Value} {xss : List (List Int)} (h : Rows W base g vs xss) (i : Nat) (hi : i < vs.length) : ∃ A c, at_ vs i = .slice A (row_ xss i).length c ∧ W.cell? ⟨g, i, none⟩ = some (.slice A (row_ xss i).length c) := by
  obtain ⟨A, c, e⟩ := own_slice (h.own i hi)
  refine ⟨A, c, e, ?_⟩
  rw [h.tab.cell, ← e]
  unfold at_
  simp [hi]
theorem Rows.cell' {W : World} {base g : Nat} {vs : List Value} {xss : List (List Int)} (h : Rows W base g vs xss) (i : Nat) (hi : i < vs.length) {v : Value} (e : at_ vs i = v) : W.cell? ⟨g, i, none⟩ = some v := by
  rw [h.tab.cell, ← e]
  unfold at_
  simp [hi]
theorem Rows.elem {W : World} {base g : Nat} {vs : List Value} {xss : List (List Int)} (h : Rows W base g vs xss) (i : Nat) (hi : i < vs.length) (xs : List Int) (hxs : row_ xss i = xs) (n k : Nat) (hn : xs.length = n) (hk : k < n) {A : Option Addr} {c : Nat} (e : at_ vs i = .slice A n c) :
    ∃ b, A = some ⟨b, 0, none⟩ ∧ W.cell? ⟨b, k, none⟩ = some (.int .u8 (xs.getD k 0)) ∧ W.frozen? ⟨b, k, none⟩ = false ∧ b < W.heap.size ∧ base ≤ b ∧
      ∀ x : Int, (W.setCell ⟨b, k, none⟩ (.int .u8 x)).ownsRow base 5 1 (at_ vs i) (xs.set k x).length (nums .u8 (xs.set k x)) := by
  subst hxs hn
  have ho := h.own i hi
  rw [e] at ho
  rcases ho.2 with ⟨e1, h0⟩ | ⟨b, cap, cur, e1, hb, hh, hnc, hcm, hsz, htk⟩
  · omega
  · simp only [Value.slice.injEq] at e1
    obtain ⟨rfl, _, rfl⟩ := e1
    have hlt : b < W.heap.size := (Array.getElem?_eq_some_iff.1 hh).1
    refine ⟨b, rfl, ?_, ?_, hlt, hb, fun x => ?_⟩
    · have := ho.cells (g := b) rfl k (.int .u8 ((row_ xss i).getD k 0)) (by simp [nums, hk])
      rwa [Addr.add_lit, Nat.zero_add] at this
    · simp [World.frozen?, hh]
    · rw [e, List.length_set]
      refine ⟨by simp [nums], .inr ⟨b, c, cur.setIfInBounds k (.int .u8 x), rfl, hb, ?_, hnc, hcm, by simpa using hsz, ?_⟩⟩
      · simp [World.setCell, Array.getElem?_modify, hh]
      · rw [Array.toList_setIfInBounds, List.take_set, htk]
        simp [nums, List.map_set]
theorem Rows.far {W W' : World} {base g : Nat} {vs : List Value} {xss : List (List Int)} (h : Rows W base g vs xss) {b : Nat} (hg : W.grownBy W' (some b)) (hbg : b ≠ g) (hf : ∀ j, j < vs.length → (at_ vs j).ownBlock ≠ some b) : Rows W' base g vs xss :=
  ⟨by have := h.tab; unfold Box at *; rw [hg.block g h.tab.lt (by simpa using fun e => hbg e.symm)]; exact this, h.low, fun j hj => (h.own j hj).kept hg (.inr (hf j hj)), h.dif, h.nog⟩
/-- What m may be while it is appended to. -/
structure Ext (w0 w W : World) (g : Nat) (vs : List Value) (xss : List (List Int)) (i : Nat) (m : Value) (n : Nat) (ext : List Int) : Prop where
  rows : Rows W w0.heap.size g vs xss
  bel : Below w0.heap.size w0 W
  own : W.ownsRow w0.heap.size 5 1 m n (nums .u8 (row_ xss i ++ ext))
  lies : (∃ b n' c n c', at_ vs i = .slice (some ⟨b, 0, none⟩) n' c ∧ m = .slice (some ⟨b, 0, none⟩) n c') ∨ (∃ b, m.ownBlock = some b ∧ w.heap.size ≤ b ∧ b ≠ g ∧ ∀ j, j < vs.length → (at_ vs j).ownBlock ≠ some b) ∨ (m = .slice none 0 0)
  fr : ∀ k, k < w.heap.size → (∀ j, j < vs.length → (at_ vs j).ownBlock ≠ some k) → W.heap[k]? = w.heap[k]?
  sz : w.heap.size ≤ W.heap.size
theorem Ext.start {w0 w W : World} {g : Nat} {vs : List Value} {xss : List (List Int)} {i : Nat} (h : Rows W w0.heap.size g vs xss) (hB : Below w0.heap.size w0 W) (hi : i < vs.length) (hf : ∀ k, k < w.heap.size → (∀ j, j < vs.length → (at_ vs j).ownBlock ≠ some k) → W.heap[k]? = w.heap[k]?) (hs : w.heap.size ≤ W.heap.size) :
    Ext w0 w W g vs xss i (at_ vs i) (row_ xss i).length [] := by
  refine ⟨h, hB, by simpa using h.own i hi, ?_, hf, hs⟩
  rcases (h.own i hi).2 with ⟨e1, h0⟩ | ⟨b, cap, cur, e1, _⟩
  · exact .inr (.inr e1)
  · exact .inl ⟨b, _, cap, _, cap, e1, e1⟩
theorem Ext.next {w0 w W W' : World} {g : Nat} {vs : List Value} {xss : List (List Int)} {i : Nat} {m m' : Value} {n : Nat} {ext : List Int} {u : Int} (h : Ext w0 w W g vs xss i m n ext) (hi : i < vs.length) (hxl : xss.length = vs.length) (hvl : ∀ j, j < vs.length → ∀ b, (at_ vs j).ownBlock = some b → b < W.heap.size)
    (hown : W'.ownsRow w0.heap.size 5 1 m' (n + 1) (nums .u8 (row_ xss i ++ ext) ++ [.int .u8 u]))
    (halt : (∃ b cap, m = .slice (some ⟨b, 0, none⟩) n cap ∧ m' = .slice (some ⟨b, 0, none⟩) (n + 1) cap ∧ W.grownBy W' (some b)) ∨ (∃ b, m'.ownBlock = some b ∧ W.heap.size ≤ b ∧ W.grownBy W' none)) :
    Ext w0 w W' g vs xss i m' (n + 1) (ext ++ [u]) := by
  have e0 : nums .u8 (row_ xss i ++ ext) ++ [.int .u8 u] = nums .u8 (row_ xss i ++ (ext ++ [u])) := by simp [nums]
  rw [e0] at hown
  have hbs : w0.heap.size ≤ W.heap.size := h.bel.size
  have hln : (row_ xss i).length ≤ n := by have := h.own.1; simp [nums] at this; omega
  rcases halt with ⟨b, cap, rfl, rfl, hg⟩ | ⟨b, hb, hbs', hg⟩
  · have hbel : Below w0.heap.size w0 W' := h.bel.grown hg hbs (fun k hk => by cases hk; exact own_base h.own b rfl)
    rcases h.lies with ⟨b', n', c, n2, c', e1, e2⟩ | ⟨b', hb', hws, hbg, hf⟩ | e3
    · simp only [Value.slice.injEq, Option.some.injEq, Addr.mk.injEq] at e2
      obtain ⟨⟨rfl, _, _⟩, rfl, rfl⟩ := e2
      have hvi := h.rows.own i hi
      have hn' : n' = (row_ xss i).length := by
        rw [e1] at hvi
        rcases hvi.2 with ⟨e4, _⟩ | ⟨_, _, _, e4, _⟩
        · simp at e4
        · simp only [Value.slice.injEq] at e4; exact e4.2.1
      subst hn'
      have hob : (at_ vs i).ownBlock = some b := by rw [e1]; rfl
      have hcap : c = cap := by rw [e1] at hvi; exact owns_cap hvi h.own
      subst hcap
      have hnew : W'.ownsRow w0.heap.size 5 1 (at_ vs i) (row_ xss i).length (nums .u8 (row_ xss i)) := by
        rw [e1]
        refine owns_prefix (n' := n + 1) (ys := nums .u8 (ext ++ [u])) ?_ (by simp [nums]) (by omega)
        rw [← nums_append]; exact hown
      refine ⟨h.rows.same i hi hxl (by rw [hob]; exact hg) hnew, hbel, hown, .inl ⟨b, _, c, _, c, e1, rfl⟩, fun k hk hkf => ?_, Nat.le_trans h.sz hg.size⟩
      rw [hg.block k (Nat.lt_of_lt_of_le hk h.sz) (fun e => hkf i hi (by rw [hob, e]))]
      exact h.fr k hk hkf
    · have eb : b' = b := by simpa [Value.ownBlock] using hb'.symm
      subst eb
      refine ⟨h.rows.far hg hbg hf, hbel, hown, .inr (.inl ⟨b', rfl, hws, hbg, hf⟩), fun k hk hkf => ?_, Nat.le_trans h.sz hg.size⟩
      rw [hg.block k (Nat.lt_of_lt_of_le hk h.sz) (fun e => by simp at e; omega)]
      exact h.fr k hk hkf
    · simp at e3
  · refine ⟨h.rows.grown hg, h.bel.grown hg hbs (fun k hk => by cases hk), hown, .inr (.inl ⟨b, hb, Nat.le_trans h.sz hbs', ?_, fun j hj e => ?_⟩), fun k hk hkf => ?_, Nat.le_trans h.sz hg.size⟩
    · have := h.rows.tab.lt; omega
    · have := hvl j hj b e; omega
    · rw [hg.block k (Nat.lt_of_lt_of_le hk h.sz) (by simp)]
      exact h.fr k hk hkf
theorem Rows.blt {W : World} {base g : Nat} {vs : List Value} {xss : List (List Int)} (h : Rows W base g vs xss) : ∀ j, j < vs.length → ∀ b, (at_ vs j).ownBlock = some b → b < W.heap.size := fun j hj b e => own_lt (h.own j hj) b e
theorem Rows.len {W : World} {base g : Nat} {vs : List Value} {xss : List (List Int)} (h : Rows W base g vs xss) (i : Nat) (hi : i < vs.length) : (row_ xss i).length ≤ maxLen := by
  rcases (h.own i hi).2 with ⟨_, h0⟩ | ⟨b, cap, cur, _, _, _, hnc, hcm, _⟩
  · rw [h0]; simp
  · omega

def fill (c : Int) (k : Nat) (xs : List Int) : List Int := List.replicate k c ++ xs.drop k
theorem fill_len (c : Int) (k : Nat) (xs : List Int) (h : k ≤ xs.length) : (fill c k xs).length = xs.length := by simp [fill]; omega
theorem fill_step (c : Int) (k : Nat) (xs : List Int) (h : k < xs.length) : (fill c k xs).set k c = fill c (k + 1) xs := by
  unfold fill
  rw [List.set_append_right _ _ (by simp)]
  simp only [List.length_replicate, Nat.sub_self]
  rw [List.drop_eq_getElem_cons h, List.set_cons_zero, List.replicate_succ']
  simp
theorem fill_full (c : Int) (xs : List Int) : fill c xs.length xs = List.replicate xs.length c := by simp [fill]
theorem fill_zero (c : Int) (xs : List Int) : fill c 0 xs = xs := by simp [fill]
/-- The lists up to i are written full. -/
def Full (xss yss : List (List Int)) (i : Nat) : Prop := yss.length = xss.length ∧ (∀ j, (row_ yss j).length = (row_ xss j).length) ∧ ∀ j, j < i → row_ yss j = List.replicate (row_ xss j).length (20 + (j : Int))
theorem Full.zero (xss : List (List Int)) : Full xss xss 0 := ⟨rfl, fun _ => rfl, fun j h => by omega⟩
theorem Full.next {xss yss : List (List Int)} {i : Nat} (h : Full xss yss i) (hi : i < xss.length) : Full xss (yss.set i (List.replicate (row_ xss i).length (20 + (i : Int)))) (i + 1) := by
  obtain ⟨h1, h2, h3⟩ := h
  refine ⟨by simpa using h1, fun j => ?_, fun j hj => ?_⟩
  · rw [row_set _ _ _ _ (by omega)]
    by_cases hj : j = i
    · subst hj; simp
    · rw [if_neg hj]; exact h2 j
  · rw [row_set _ _ _ _ (by omega)]
    by_cases hj2 : j = i
    · subst hj2; simp
    · rw [if_neg hj2]; exact h3 j (by omega)

theorem set_fill (yss : List (List Int)) (i : Nat) (h : i < yss.length) (c : Int) : yss.set i (fill c 0 (row_ yss i)) = yss := by
  rw [fill_zero]; unfold row_
  rw [List.getD_eq_getElem?_getD, List.getElem?_eq_getElem h, Option.getD_some]
  exact List.set_getElem_self _
/-- What the walk through apart keeps. -/
structure Kept (w0 w W : World) (g : Nat) (vs : List Value) (yss : List (List Int)) : Prop where
  rows : Rows W w0.heap.size g vs yss
  bel : Below w0.heap.size w0 W
  sz : w.heap.size ≤ W.heap.size
  fr : ∀ k, k < w.heap.size → (∀ j, j < vs.length → (at_ vs j).ownBlock ≠ some k) → W.heap[k]? = w.heap[k]?
theorem Kept.put {w0 w W : World} {g : Nat} {vs : List Value} {yss : List (List Int)} (h : Kept w0 w W g vs yss) (i : Nat) (hi : i < vs.length) (hx : i < yss.length) (c : Int) (k : Nat) {b n cc : Nat} (e : at_ vs i = .slice (some ⟨b, 0, none⟩) n cc)
    (ys : List Int) (hy : (W.setCell ⟨b, k, none⟩ (.int .u8 c)).ownsRow w0.heap.size 5 1 (at_ vs i) ys.length (nums .u8 ys)) : Kept w0 w (W.setCell ⟨b, k, none⟩ (.int .u8 c)) g vs (yss.set i ys) := by
  have hob : (at_ vs i).ownBlock = some b := by rw [e]; rfl
  have hg : W.grownBy (W.setCell ⟨b, k, none⟩ (.int .u8 c)) (at_ vs i).ownBlock := by rw [hob]; exact grownBy_setCell _ _ _ _
  refine ⟨h.rows.write i hi hx hg ys hy, h.rows.below h.bel hi hg, by simpa using h.sz, fun k' hk' hf => ?_⟩
  rw [hg.block k' (Nat.lt_of_lt_of_le hk' h.sz) (fun e2 => hf i hi e2.symm)]
  exact h.fr k' hk' hf
theorem Kept.setset {w0 w W : World} {g : Nat} {vs : List Value} {yss : List (List Int)} {i : Nat} {a b : List Int} (h : Kept w0 w W g vs ((yss.set i a).set i b)) : Kept w0 w W g vs (yss.set i b) := by
  rwa [List.set_set] at h

set_option maxHeartbeats 4000000 in
set_option maxRecDepth 100000 in
theorem apart_c (w0 w : World) (g c : Nat) (vs : List Value) (xss : List (List Int)) (hR : Rows w w0.heap.size g vs xss) (hlen : xss.length = vs.length) (h5 : vs.length ≤ 4) (hsm : ∀ j, (row_ xss j).length ≤ 140737488351232) (hB : Below w0.heap.size w0 w) :
    Calls Try.prog 16 #[.slice (some ⟨g, 0, none⟩) vs.length c] w fun e w' => e = .returned (.bool true) ∧ Below w0.heap.size w0 w' ∧ (∀ k, k < w.heap.size → (∀ j, j < vs.length → (at_ vs j).ownBlock ≠ some k) → w'.heap[k]? = w.heap[k]?) := by
  have K0 : Kept w0 w w g vs xss := ⟨hR, hB, Nat.le_refl _, fun _ _ _ => rfl⟩
  have Hsm := Lib.hid hsm; have Hlen := Lib.hid hlen
  clear hsm hlen hR hB
  obtain ⟨N, hN⟩ : ∃ N, N = vs.length := ⟨_, rfl⟩
  rw [← hN] at h5 ⊢
  have HN := Lib.hid hN
  clear hN
  go_enter Try.func16, Try.ntmps16
  go_wp2_with fail
  go_loopw [3] (fun i wr => ∃ (i_ : Nat) (yss : List (List Int)), i_ ≤ N ∧ i = .int .i64 (i_ : Int) ∧ Full xss yss i_ ∧ Kept w0 w wr g vs yss) (fun i _ => (N - intOf i).toNat)
  case atStart => exact ⟨0, xss, by omega, rfl, Full.zero _, K0⟩
  case round =>
    clear K0
    obtain ⟨i, yss, hi, rfl, hF, K⟩ := hrel
    by_cases hlt : i < N
    · have hi2 : i < vs.length := by rw [← HN.out]; exact hlt
      have hyl : i < yss.length := by have := hF.1; have := Hlen.out; omega
      obtain ⟨A, cc, hv, hcx⟩ := K.rows.cell i hi2
      clear hcx
      obtain ⟨n, hn⟩ : ∃ n, n = (row_ yss i).length := ⟨_, rfl⟩
      rw [← hn] at hv
      have hn63 : n ≤ 140737488351232 := by have := hF.2.1 i; have := Hsm.out i; omega
      have hcell := K.rows.cell' i hi2 hv
      have Hv := Lib.hid hv; have Hn := Lib.hid hn
      clear hv hn
      have hnI : (n : Int) ≤ 140737488351232 := by omega
      go_wp2_with fail
      go_loopw [4] (fun k wk => ∃ k_ : Nat, k_ ≤ n ∧ k = .int .i64 (k_ : Int) ∧ Kept w0 w wk g vs (yss.set i (fill (20 + (i : Int)) k_ (row_ yss i)))) (fun k _ => (n - intOf k).toNat)
      case atStart => exact ⟨0, by omega, rfl, by rw [set_fill _ _ hyl]; exact K⟩
      case round =>
        clear K hcell
        obtain ⟨k, hkn, rfl, K⟩ := hrel
        have hcell := K.rows.cell' i hi2 Hv.out
        have htl := K.rows.tab.lt
        by_cases hk2 : k < n
        · obtain ⟨b, hA, hcb, hfb, hbl, hbb, hown⟩ := K.rows.elem i hi2 _ (by rw [row_set _ _ _ _ hyl, if_pos rfl]) n k (by rw [fill_len _ _ _ (by rw [← Hn.out]; omega)]; exact Hn.out.symm) hk2 Hv.out
          subst hA
          have hput := K.put i hi2 (by simpa using hyl) (20 + (i : Int)) k Hv.out _ (hown _)
          rw [fill_step _ _ _ (by rw [← Hn.out]; exact hk2)] at hput
          have HP := Lib.hid hput.setset
          clear hput hown K hbb
          go_wp2_with fail
          go_roundw
          case rel => exact ⟨k + 1, by omega, by go_num, HP.out⟩
          case measure => simp [intOf]; omega
        · obtain rfl : k = n := by omega
          have hfull : fill (20 + (i : Int)) k (row_ yss i) = List.replicate (row_ xss i).length (20 + (i : Int)) := by
            rw [Hn.out, fill_full, hF.2.1 i]
          rw [hfull] at K
          have HK := Lib.hid K
          have HF := Lib.hid hF
          clear K hfull hF
          go_wp2_with fail
          go_roundw
          case rel => exact ⟨i + 1, _, by omega, by go_num, HF.out.next (by have := Hlen.out; omega), HK.out⟩
          case measure => simp [intOf]; omega
    · obtain rfl : N = i := by omega
      have HF := Lib.hid hF
      clear hF
      have HK := Lib.hid K
      clear K
      go_wp2_with fail
      go_loopw [5] (fun i wr => ∃ i_ : Nat, i_ ≤ N ∧ i = .int .i64 (i_ : Int) ∧ Kept w0 w wr g vs yss) (fun i _ => (N - intOf i).toNat)
      case atStart => exact ⟨0, by omega, rfl, HK.out⟩
      case round =>
        clear HK
        obtain ⟨i, hi, rfl, K⟩ := hrel
        by_cases hlt : i < N
        · have hi2 : i < vs.length := by rw [← HN.out]; exact hlt
          have hyl : yss.length = vs.length := by rw [HF.out.1]; exact Hlen.out
          obtain ⟨A, cc, hv, hcx⟩ := K.rows.cell i hi2
          clear hcx
          obtain ⟨n, hn⟩ : ∃ n, n = (row_ yss i).length := ⟨_, rfl⟩
          rw [← hn] at hv
          have hn63 : n ≤ 140737488351232 := by have := HF.out.2.1 i; have := Hsm.out i; omega
          have hcell := K.rows.cell' i hi2 hv
          have hE := Ext.start K.rows K.bel hi2 K.fr K.sz
          rw [hv, ← hn] at hE
          have htl := K.rows.tab.lt
          have Hv := Lib.hid hv; have Hn := Lib.hid hn; have HE := Lib.hid hE; have Hyl := Lib.hid hyl
          have hnI : (n : Int) ≤ 140737488351232 := by omega
          clear hv hn hE K hyl
          go_wp2_with ((with_reducible refine gate_builtin (b := .append) (xs := #[.tmp 43, .tmp 44]) rfl ?_); refine wpList_append_two _ rfl (.tmp 43) (.tmp 44) 22 5 (.int .u8 0) 1 rfl Try.underlying22 info8 rfl (by decide) (.slice A n cc) n _ (.int .u8 241) rfl rfl rfl w0.heap.size HE.out.own HE.out.bel.size (by omega) ?_; intro v1 w1 hown1 halt1; have hE1 := HE.out.next hi2 Hyl.out HE.out.rows.blt hown1 halt1; clear hown1 halt1)
          go_loopw [6, 7] (fun m k wk => ∃ (k_ : Nat) (ext : List Int), k_ ≤ 99 ∧ k = .int .i64 (k_ : Int) ∧ Ext w0 w wk g vs yss i m (n + 1 + k_) ext) (fun m k _ => (99 - intOf k).toNat)
          case atStart => exact ⟨0, _, by omega, rfl, hE1⟩
          case round =>
            clear hE1 HE hcell
            obtain ⟨k, ext, hk, rfl, hE⟩ := hrel
            rename_i mv _ _
            obtain ⟨A2, c2, e2⟩ := own_slice hE.own
            subst e2
            by_cases hk2 : k < 99
            · have HE := Lib.hid hE
              clear hE
              go_wp2_with ((with_reducible refine gate_builtin (b := .append) (xs := #[.tmp 50, .tmp 51]) rfl ?_); refine wpList_append_two _ rfl (.tmp 50) (.tmp 51) 22 5 (.int .u8 0) 1 rfl Try.underlying22 info8 rfl (by decide) (.slice A2 (n + 1 + k) c2) (n + 1 + k) _ (.int .u8 242) rfl rfl rfl w0.heap.size HE.out.own HE.out.bel.size (by omega) ?_; intro v1 w1 hown1 halt1; have hE1 := HE.out.next hi2 Hyl.out HE.out.rows.blt hown1 halt1; clear hown1 halt1)
              go_roundw
              case rel => exact ⟨k + 1, _, by omega, by go_num, hE1⟩
              case measure => simp [intOf]; omega
            · obtain rfl : k = 99 := by omega
              have hcell := hE.rows.cell' i hi2 Hv.out
              have HE := Lib.hid hE
              clear hE
              go_wp2_with fail
              go_roundw
              case rel => exact ⟨i + 1, by omega, by go_num, HE.out.rows, HE.out.bel, HE.out.sz, HE.out.fr⟩
              case measure => simp [intOf]; omega
        · obtain rfl : N = i := by omega
          have HK := Lib.hid K
          clear K
          rename_i wr _ _
          go_wp2_with fail
          go_loop [8] (fun i => ∃ i_ : Nat, i_ ≤ N ∧ i = .int .i64 (i_ : Int)) (fun i => (N - intOf i).toNat)
          case atStart => exact ⟨0, by omega, rfl⟩
          case round =>
            obtain ⟨i, hi, rfl⟩ := hrel
            by_cases hlt : i < N
            · have hi2 : i < vs.length := by rw [← HN.out]; exact hlt
              obtain ⟨A, cc, hv, hcx⟩ := HK.out.rows.cell i hi2
              clear hcx
              obtain ⟨n, hn⟩ : ∃ n, n = (row_ yss i).length := ⟨_, rfl⟩
              rw [← hn] at hv
              have hn63 : n ≤ 140737488351232 := by have := HF.out.2.1 i; have := Hsm.out i; omega
              have hcell := HK.out.rows.cell' i hi2 hv
              have Hv := Lib.hid hv; have Hn := Lib.hid hn
              have hnI : (n : Int) ≤ 140737488351232 := by omega
              clear hv hn
              go_wp2_with fail
              go_loop [9] (fun k => ∃ k_ : Nat, k_ ≤ n ∧ k = .int .i64 (k_ : Int)) (fun k => (n - intOf k).toNat)
              case atStart => exact ⟨0, by omega, rfl⟩
              case round =>
                obtain ⟨k, hk, rfl⟩ := hrel
                by_cases hk2 : k < n
                · obtain ⟨b, hA, hcb, hfb, hbl, hbb, hown⟩ := HK.out.rows.elem i hi2 _ (HF.out.2.2 i hlt) n k (by rw [List.length_replicate, Hn.out, HF.out.2.1 i]) hk2 Hv.out
                  subst hA
                  have hkx : k < (row_ xss i).length := by rw [← HF.out.2.1 i, ← Hn.out]; exact hk2
                  rw [List.getD_eq_getElem?_getD, List.getElem?_replicate, if_pos hkx, Option.getD_some] at hcb
                  clear hown hkx
                  go_wp2_with fail
                  go_round
                  case rel => exact ⟨k + 1, by omega, by go_num⟩
                  case measure => simp [intOf]; omega
                · obtain rfl : k = n := by omega
                  go_wp2_with fail
                  go_round
                  case rel => exact ⟨i + 1, by omega, by go_num⟩
                  case measure => simp [intOf]; omega
            · obtain rfl : N = i := by omega
              go_wp2_with fail
              go_ret
              exact ⟨rfl, HK.out.bel, by rw [HN.out]; exact HK.out.fr⟩
end Go.Proofs.Ytdagliimdmbeaaa
