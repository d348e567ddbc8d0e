/- What a sponge holds, and what a digest is, over Keccak-f: in plain words. -/
import Derived.Test.YtkanjdllaikoaaaDoorKSpec
set_option linter.unusedVariables false
set_option linter.unusedSimpArgs false
namespace Go.Proofs.YtkanjdllaikoaaaDoor
open Go Go.RowKit

/-- A byte as a lane. -/
def bl64 (c : Int) : B64 := BitVec.ofInt 64 c
/-- The lanes, after i bytes of a block have been taken in. -/
def inL (a : Nat → B64) (p : Nat → Int) : Nat → Nat → B64
  | 0 => a
  | i + 1 => fun j => if j = i / 8 then inL a p i j ^^^ (bl64 (p i) <<< (8 * (i % 8))) else inL a p i j
/-- The lanes, after k blocks. -/
def absN (p : Nat → Int) : Nat → Nat → B64
  | 0 => fun _ => 0
  | k + 1 => permN (inL (absN p k) (fun i => p (136 * k + i)) 136) 24
theorem inL_congr (a : Nat → B64) {p q : Nat → Int} : ∀ (n : Nat), (∀ i, i < n → p i = q i) → inL a p n = inL a q n
  | 0, _ => rfl
  | n + 1, h => by
    funext j
    simp only [inL]
    rw [inL_congr a n (fun i hi => h i (by omega)), h n (by omega)]
theorem absN_congr {p q : Nat → Int} : ∀ (k : Nat), (∀ i, i < 136 * k → p i = q i) → absN p k = absN q k
  | 0, _ => rfl
  | k + 1, h => by
    simp only [absN]
    rw [absN_congr k (fun i hi => h i (by omega)), inL_congr _ 136 (fun i hi => h (136 * k + i) (by omega))]
/-- A text, filled up: its byte i. -/
def padF (t : List Int) (f : Int) (i : Nat) : Int :=
  if i < t.length then t.getD i 0
  else if i = t.length then (if i = 136 * (t.length / 136) + 135 then f + 128 else f)
  else if i = 136 * (t.length / 136) + 135 then 128 else 0
/-- The lanes behind a text that is filled up. -/
def digL (t : List Int) (f : Int) : Nat → B64 := absN (padF t f) (t.length / 136 + 1)
/-- The digest's byte i. -/
def hashB (a : Nat → B64) (i : Nat) : Int := IntKind.u8.wrap (bv (a (i / 8) >>> (8 * (i % 8))))
def hashOf (a : Nat → B64) : List Int := [hashB a 0, hashB a 1, hashB a 2, hashB a 3, hashB a 4, hashB a 5, hashB a 6, hashB a 7, hashB a 8, hashB a 9, hashB a 10, hashB a 11, hashB a 12, hashB a 13, hashB a 14, hashB a 15, hashB a 16, hashB a 17, hashB a 18, hashB a 19, hashB a 20, hashB a 21, hashB a 22, hashB a 23, hashB a 24, hashB a 25, hashB a 26, hashB a 27, hashB a 28, hashB a 29, hashB a 30, hashB a 31]
theorem hashOf_len (a : Nat → B64) : (hashOf a).length = 32 := rfl
theorem hashB_byte (a : Nat → B64) (i : Nat) : 0 ≤ hashB a i ∧ hashB a i ≤ 255 := by
  unfold hashB
  rw [IntKind.wrap_u8]
  omega
/-- What a sponge holds that has taken in the text t. -/
structure Spo (t : List Int) (a : Nat → B64) (part : List Int) (held : Nat) : Prop where
  hl : part.length = 136
  hh : held = t.length % 136
  hp : ∀ i, i < held → part.getD i 0 = t.getD (136 * (t.length / 136) + i) 0
  ha : a = absN (fun i => t.getD i 0) (t.length / 136)
theorem Spo.nil (part : List Int) (h : part.length = 136) : Spo [] (fun _ => 0) part 0 := ⟨h, rfl, fun i hi => absurd hi (by omega), rfl⟩
/-- A piece, laid at a place. -/
def putAt (part : List Int) (st : Nat) (ys : List Int) : List Int := part.take st ++ (ys ++ part.drop (st + ys.length))
theorem putAt_len (part : List Int) (st : Nat) (ys : List Int) (h : st + ys.length ≤ part.length) : (putAt part st ys).length = part.length := by
  unfold putAt; simp; omega
theorem putAt_lo (part : List Int) (st : Nat) (ys : List Int) (h : st + ys.length ≤ part.length) (i : Nat) (hi : i < st) : (putAt part st ys).getD i 0 = part.getD i 0 := by
  unfold putAt
  rw [List.getD_eq_getElem?_getD, List.getElem?_append_left (by simp; omega), List.getElem?_take_of_lt hi, ← List.getD_eq_getElem?_getD]
theorem putAt_mid (part : List Int) (st : Nat) (ys : List Int) (h : st + ys.length ≤ part.length) (i : Nat) (hi : i < ys.length) : (putAt part st ys).getD (st + i) 0 = ys.getD i 0 := by
  unfold putAt
  rw [List.getD_eq_getElem?_getD, List.getElem?_append_right (by simp; omega), List.length_take, Nat.min_eq_left (by omega), Nat.add_sub_cancel_left, List.getElem?_append_left hi, ← List.getD_eq_getElem?_getD]
theorem getD_app_lo (t ys : List Int) (i : Nat) (h : i < t.length) : (t ++ ys).getD i 0 = t.getD i 0 := by
  rw [List.getD_eq_getElem?_getD, List.getElem?_append_left h, ← List.getD_eq_getElem?_getD]
theorem getD_app_hi (t ys : List Int) (i : Nat) : (t ++ ys).getD (t.length + i) 0 = ys.getD i 0 := by
  rw [List.getD_eq_getElem?_getD, List.getElem?_append_right (by omega), Nat.add_sub_cancel_left, ← List.getD_eq_getElem?_getD]
/-- The bytes of part behind a piece: those of the text. -/
theorem Spo.at {t : List Int} {a : Nat → B64} {part : List Int} {held : Nat} (h : Spo t a part held) (ys : List Int) (hy : held + ys.length ≤ 136) (i : Nat) (hi : i < held + ys.length) :
    (putAt part held ys).getD i 0 = (t ++ ys).getD (136 * (t.length / 136) + i) 0 := by
  have e := h.hh
  rcases Nat.lt_or_ge i held with h1 | h1
  · rw [putAt_lo part held ys (by rw [h.hl]; exact hy) i h1, h.hp i h1, getD_app_lo _ _ _ (by omega)]
  · obtain ⟨j, rfl⟩ : ∃ j, i = held + j := ⟨i - held, by omega⟩
    rw [putAt_mid part held ys (by rw [h.hl]; exact hy) j (by omega)]
    have : 136 * (t.length / 136) + (held + j) = t.length + j := by omega
    rw [this, getD_app_hi]
/-- A piece that does not fill the block. -/
theorem Spo.more {t : List Int} {a : Nat → B64} {part : List Int} {held : Nat} (h : Spo t a part held) (ys : List Int) (hy : held + ys.length < 136) : Spo (t ++ ys) a (putAt part held ys) (held + ys.length) := by
  have e := h.hh
  have hd : (t ++ ys).length / 136 = t.length / 136 := by rw [List.length_append]; omega
  refine ⟨by rw [putAt_len _ _ _ (by rw [h.hl]; omega), h.hl], by rw [List.length_append]; omega, fun i hi => ?_, ?_⟩
  · rw [hd]; exact h.at ys (by omega) i hi
  · rw [hd, h.ha]
    exact absN_congr _ fun i hi => (getD_app_lo t ys i (by omega)).symm
/-- A piece that fills it. -/
theorem Spo.full {t : List Int} {a : Nat → B64} {part : List Int} {held : Nat} (h : Spo t a part held) (ys : List Int) (hy : held + ys.length = 136) : Spo (t ++ ys) (permN (inL a (fun i => (putAt part held ys).getD i 0) 136) 24) (putAt part held ys) 0 := by
  have e := h.hh
  have hd : (t ++ ys).length / 136 = t.length / 136 + 1 := by rw [List.length_append]; omega
  refine ⟨by rw [putAt_len _ _ _ (by rw [h.hl]; omega), h.hl], by rw [List.length_append]; omega, fun i hi => absurd hi (by omega), ?_⟩
  rw [hd]
  simp only [absN]
  rw [h.ha, inL_congr _ 136 (q := fun i => (t ++ ys).getD (136 * (t.length / 136) + i) 0) (fun i hi => h.at ys (by omega) i (by omega))]
  rw [absN_congr (q := fun i => (t ++ ys).getD i 0) _ fun i hi => (getD_app_lo t ys i (by omega)).symm]
/-- The last block. -/
def lastP (part : List Int) (held : Nat) (f : Int) (i : Nat) : Int :=
  if i < held then part.getD i 0
  else if i = held then (if i = 135 then f + 128 else f)
  else if i = 135 then 128 else 0
theorem Spo.last {t : List Int} {a : Nat → B64} {part : List Int} {held : Nat} (h : Spo t a part held) (f : Int) : permN (inL a (lastP part held f) 136) 24 = digL t f := by
  have e := h.hh
  unfold digL
  simp only [absN]
  rw [h.ha]
  rw [absN_congr (q := padF t f) _ fun i hi => by unfold padF; rw [if_pos (by omega)]]
  rw [inL_congr _ 136 (q := fun i => padF t f (136 * (t.length / 136) + i)) fun i hi => ?_]
  have e1 : (136 * (t.length / 136) + i < t.length) ↔ i < held := by omega
  have e2 : (136 * (t.length / 136) + i = t.length) ↔ i = held := by omega
  have e3 : (136 * (t.length / 136) + i = 136 * (t.length / 136) + 135) ↔ i = 135 := by omega
  unfold lastP padF
  simp only [e1, e2, e3]
  by_cases h1 : i < held
  · simp only [h1, if_true]
    exact h.hp i h1
  · simp only [h1, if_false]
/-- The lanes as a list. -/
def lanesI (a : Nat → B64) : List Int := [bv (a 0), bv (a 1), bv (a 2), bv (a 3), bv (a 4), bv (a 5), bv (a 6), bv (a 7), bv (a 8), bv (a 9), bv (a 10), bv (a 11), bv (a 12), bv (a 13), bv (a 14), bv (a 15), bv (a 16), bv (a 17), bv (a 18), bv (a 19), bv (a 20), bv (a 21), bv (a 22), bv (a 23), bv (a 24)]
theorem lanesI_len (a : Nat → B64) : (lanesI a).length = 25 := rfl
theorem lanesI_ofFn (a : Nat → B64) : lanesI a = List.ofFn (fun i : Fin 25 => bv (a i)) := rfl
theorem lanesI_at (a : Nat → B64) (j : Nat) (hj : j < 25) : (lanesI a).getD j 0 = bv (a j) := by
  rw [lanesI_ofFn, List.getD_eq_getElem?_getD, List.getElem?_ofFn]
  simp [hj]
theorem lanesI_set (a : Nat → B64) (j : Nat) (hj : j < 25) (x : B64) : (lanesI a).set j (bv x) = lanesI (fun k => if k = j then x else a k) := by
  refine List.ext_getElem (by simp [lanesI_len]) fun i h1 h2 => ?_
  have e1 : ∀ (b : Nat → B64) (h : i < (lanesI b).length), (lanesI b)[i] = bv (b i) := by
    intro b h
    have := lanesI_at b i (by simpa [lanesI_len] using h)
    simpa [List.getD_eq_getElem?_getD, h] using this
  rw [List.getElem_set, e1 _ h2]
  by_cases h : j = i
  · simp [h]
  · rw [if_neg h, e1, if_neg (fun e => h e.symm)]
theorem inL_succ (a : Nat → B64) (p : Nat → Int) (i : Nat) (hi : i < 136) : (lanesI (inL a p i)).set (i / 8) (bv (inL a p i (i / 8) ^^^ (bl64 (p i) <<< (8 * (i % 8))))) = lanesI (inL a p (i + 1)) := by
  rw [lanesI_set _ _ (by omega)]
  simp only [inL]
  congr 1
  funext k
  by_cases h : k = i / 8
  · simp [h]
  · simp [h]
theorem wrap_bl (c : Int) : IntKind.u64.wrap c = bv (bl64 c) := by
  unfold bl64 bv
  rw [IntKind.wrap_u64, BitVec.toNat_ofInt]
  omega
end Go.Proofs.YtkanjdllaikoaaaDoor

