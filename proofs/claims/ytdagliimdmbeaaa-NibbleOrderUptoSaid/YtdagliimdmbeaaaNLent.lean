/- lent: the bytes in new memory, with marks in the room behind them. -/
import Derived.Test.YtdagliimdmbeaaaProg
import Derived.Test.YtdagliimdmbeaaaBase
import Derived.Test.YtdagliimdmbeaaaWMore
import Derived.Laws.CopyOwn
set_option linter.unusedSimpArgs false
set_option linter.unusedVariables false
namespace Go.Proofs.Ytdagliimdmbeaaa
open Go Go.RowKit Go.Proofs.YtdagliimdmbeaaaW.PrintWords Go.Proofs.YtdagliimdmbeaaaW.PrintLast Go.Proofs.YtdagliimdmbeaaaW.PrintMore

theorem info8 : (Try.prog.info? 5).map (fun i => (i.zero, i.size, i.bytes)) = some (some (.int .u8 0), 1, 1) := by kernel_rfl

/-- The list with k marks behind it, and zeros behind those. -/
def marks (l : List Int) (k : Nat) : List Value := nums .u8 (l ++ (List.replicate k 195 ++ List.replicate (70 - k) 0))
theorem marks_length (l : List Int) (k : Nat) (h : k ≤ 70) : (marks l k).length = l.length + 70 := by simp [marks, nums]; omega
theorem marks_at (l : List Int) (k : Nat) (h : k < 70) : (marks l k)[l.length + k]? = some (.int .u8 0) := by
  unfold marks nums
  rw [List.getElem?_map, List.getElem?_append_right (by omega), List.getElem?_append_right (by simp)]
  simp [List.getElem?_replicate]; omega
theorem marks_step (l : List Int) (k : Nat) (h : k < 70) : (marks l k).toArray.setIfInBounds (l.length + k) (.int .u8 195) = (marks l (k + 1)).toArray := by
  rw [List.setIfInBounds_toArray]
  congr 1
  unfold marks nums
  rw [← List.map_set (f := fun x => Value.int .u8 x) (a := (195 : Int))]
  congr 1
  rw [List.set_append_right _ _ (by omega)]
  congr 1
  rw [show l.length + k - l.length = k by omega, List.set_append_right _ _ (by simp)]
  simp only [List.length_replicate, Nat.sub_self]
  obtain ⟨m, hm⟩ : ∃ m, 70 - k = m + 1 := ⟨69 - k, by omega⟩
  rw [hm, show 70 - (k + 1) = m by omega, List.replicate_succ, List.set_cons_zero, List.replicate_succ']
  simp
theorem marks_zero (l : List Int) : nums .u8 l ++ nums .u8 (List.replicate 70 0) = marks l 0 := by simp [marks, nums]

theorem C_cell {w : World} {A0 : Option Addr} {l : List Int} (h : Kd.C (Kd.int .u8) w A0 l.length l) (hl : 0 < l.length) : ∃ ad, A0 = some ad ∧ ∀ j, j < l.length → w.cell? (ad.add j) = some (.int .u8 (l.getD j 0)) := by
  obtain ⟨ad, e, _⟩ := Kd.at_int h 0 (by omega) (by omega)
  refine ⟨ad, e, fun j hj => ?_⟩
  obtain ⟨ad', e', hc⟩ := Kd.at_int h j (by omega) (by omega)
  obtain rfl : ad = ad' := by rw [e] at e'; injection e'
  simpa [rd] using hc

set_option maxHeartbeats 1000000 in
set_option maxRecDepth 100000 in
theorem lent_c (A0 : Option Addr) (c0 : Nat) (l : List Int) (w : World) (hr : Kd.C (Kd.int .u8) w A0 l.length l) (hl : l.length ≤ 140737488351232) :
    Calls Try.prog 10 #[.slice A0 l.length c0] w fun e w' => e = .returned (.slice (some ⟨w.heap.size, 0, none⟩) l.length (l.length + 70)) ∧ Box w' w.heap.size (marks l 70).toArray 5 ∧ Below w.heap.size w w' := by
  obtain ⟨i8, hi8, hz8, hs8, hb8⟩ := info_parts info8
  have hm : ∀ W : World, (Instr.makeSlice 22 (.int .i64 (l.length : Int)) (.int .i64 ((l.length : Int) + 70))).run Try.prog W = .ok (.slice (some ⟨W.heap.size, 0, none⟩) l.length (l.length + 70)) (W.alloc (.cells (nums .u8 (List.replicate (l.length + 70) 0)).toArray 5)) := by
    intro W
    have h := run_make (P := Try.prog) W 22 5 i8 _ Try.underlying22 hi8 hz8 .i64 .i64 (l.length : Int) ((l.length : Int) + 70) (by omega) (by omega) (by rw [hb8]; omega) (by omega)
    rw [h, hs8]
    have e1 : ((l.length : Int) + 70).toNat = l.length + 70 := by omega
    rw [e1, Int.toNat_natCast, Nat.mul_one]
    have e2 : madeCells (Value.int .u8 0).cells (l.length + 70) = (nums .u8 (List.replicate (l.length + 70) 0)).toArray := by
      have := toList_madeCells_one (Value.int .u8 0) (l.length + 70)
      have h3 : (madeCells #[Value.int .u8 0] (l.length + 70)).toList.toArray = (nums .u8 (List.replicate (l.length + 70) 0)).toArray := by rw [this]; simp [nums]
      rw [Array.toArray_toList] at h3
      exact h3
    rw [e2]
  have hsz : (Try.prog.info? 5).map (·.size) = some 1 := by rw [hi8]; simp [hs8]
  obtain ⟨Z, hZ⟩ : ∃ Z, Z = nums .u8 (List.replicate (l.length + 70) 0) := ⟨_, rfl⟩
  obtain ⟨X, hX⟩ : ∃ X, X = nums .u8 l := ⟨_, rfl⟩
  have hXl : X.length = l.length := by rw [hX]; simp [nums]
  have hZl : Z.length = l.length + 70 := by rw [hZ]; simp [nums]
  have hpos : ∀ W : World, Below w.heap.size w W → 0 < X.length → ∃ ad, A0 = some ad ∧ ∀ j v, X[j]? = some v → W.cell? (ad.add j) = some v := by
    intro W hW h0
    obtain ⟨ad, e, hc⟩ := C_cell hr (by omega)
    refine ⟨ad, e, fun j v hv => ?_⟩
    have hj : j < l.length := by rw [← hXl]; exact (List.getElem?_eq_some_iff.1 hv).1
    have h2 := hc j hj
    rw [hX] at hv
    simp [nums, hj] at hv
    subst hv
    rw [hW.cell (World.block_lt_of_cell? w _ h2), h2]
    simp [List.getD_eq_getElem?_getD, hj]
  have hsp : splice Z 0 X = marks l 0 := by
    unfold splice
    rw [hZ, hX, ← marks_zero]
    simp [nums]
  have h1 : ∀ v ∈ X, v.oneCell' = true := by rw [hX]; simp [nums]; intro a _; rfl
  rw [← hZ] at hm
  have HZ := Lib.hid hZ; have HX := Lib.hid hX; have HXl := Lib.hid hXl; have HZl := Lib.hid hZl; have Hpos := Lib.hid hpos; have Hsp := Lib.hid hsp; have H1 := Lib.hid h1; have Hsz := Lib.hid hsz; have Hl := Lib.hid hl
  clear hZ hX hXl hZl hpos hsp h1 hi8 hz8 hs8 hb8 hsz hr
  have hl63 : (l.length : Int) ≤ 9000000000000000000 := by omega
  clear hl
  go_enter Try.func10, Try.ntmps10
  go_wp2_with ((with_reducible refine gate_builtin (b := .copy) (xs := #[.tmp 12, .tmp 13]) rfl ?_); refine wpList_copy_splice rfl (.tmp 12) (.tmp 13) 22 22 rfl 5 Try.underlying22 Hsz.out (some ⟨w.heap.size, 0, none⟩) A0 l.length (l.length + 70) l.length c0 rfl rfl w.heap.size 0 Z 5 (Box.new w _ _ _ rfl) X ?c1 ?c2 ?c3 H1.out w.heap.size w ((Below.refl _ _).alloc (Nat.le_refl _) _) (Nat.le_refl _) ?_; (case c1 => rw [HXl.out]; simp); (case c2 => exact fun h0 => ⟨rfl, Hpos.out _ ((Below.refl _ _).alloc (Nat.le_refl _) _) h0⟩); (case c3 => rw [HXl.out, HZl.out]; omega); intro w2 HG2 hB2; have HG2 := HG2)
  have HG := HG2.out
  rw [Hsp.out] at HG
  have HG3 : Box w2 w.heap.size (marks l 0).toArray 5 := HG
  have HB3 := hB2
  clear HG2 HG hB2 hm
  go_wp2_with fail
  go_loopw [5] (fun i wr => ∃ k : Nat, k ≤ 70 ∧ i = .int .i64 ((l.length + k : Nat) : Int) ∧ Box wr w.heap.size (marks l k).toArray 5 ∧ Below w.heap.size w wr) (fun i _ => (l.length + 70 - intOf i).toNat)
  case atStart => exact ⟨0, by omega, rfl, HG3, HB3⟩
  case round =>
    obtain ⟨k, hk, rfl, hbox, hbel⟩ := hrel
    by_cases hlt : k < 70
    · have hat := marks_at l k hlt
      have hst := marks_step l k hlt
      have hc : wr.cell? ⟨w.heap.size, l.length + k, none⟩ = some (.int .u8 0) := by rw [hbox.cell]; simpa using hat
      have hf := hbox.froz (l.length + k)
      have hz := hbox.lt
      have HS := Lib.hid hst
      clear hat hst
      go_wp2_with fail
      go_roundw
      case rel => exact ⟨k + 1, by omega, by go_num, HS.out ▸ hbox.set _ _, hbel.setCell (Nat.le_refl _) _⟩
      case measure => simp [intOf]; omega
    · obtain rfl : k = 70 := by omega
      go_wp2_with fail
      go_ret
      exact ⟨rfl, hbox, hbel⟩
end Go.Proofs.Ytdagliimdmbeaaa
