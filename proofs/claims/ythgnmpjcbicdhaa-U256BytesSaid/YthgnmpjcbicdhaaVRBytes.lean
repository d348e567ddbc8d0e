/- Bytes of the document. -/
import Derived.Test.YthgnmpjcbicdhaaVBytes
set_option linter.unusedSimpArgs false
set_option linter.unusedVariables false
namespace Go.Proofs.Ythgnmpjcbicdhaa
open Go Go.RowKit Go.Proofs.YthgnmpjcbicdhaaW.PrintWords

def rbS (zs : List Int) (m : Nat) (ys : List Int) (i : Int) : AS := ⟨[(2, .val (.slice none 0 0)), (3, .ptr 1 0), (4, .own 2 1 0 m), (5, .val (.int .i64 i))], [(1, ⟨[.ints .u8 32 zs], 27, .arr⟩), (2, ⟨[.ints .u8 m ys], 5, .own 1⟩)]⟩
theorem take_snoc (zs : List Int) (i : Nat) (hi : i < zs.length) : zs.take (i + 1) = zs.take i ++ [zs.getD i 0] := by
  rw [List.take_add_one, List.getElem?_eq_getElem hi]
  simp [hi]
set_option maxHeartbeats 1000000 in
theorem rb_round (w : World) (zs : List Int) (hz : zs.length = 32) :
    ∀ (q i : Nat), i + q = 32 → ∀ (m : Nat) (ys : List Int), ys = strip (zs.take i) → ys.length = m → wpK (ctx Try.prog w Try.f13.ntmps) Try.f13 (Gives w (strip zs)) (loopAt Try.f13 0) (rbS zs m ys (i : Int)) := by
  intro q
  induction q with
  | zero =>
    intro i hi m ys hys hm
    obtain rfl : i = 32 := by omega
    rw [List.take_of_length_le (by omega)] at hys
    have hlt : decide (((32 : Nat) : Int) < 32) = false := by simp
    rw [← hys]
    refine wpK_endM (n := 400) (m := 0) (nx := 0) (hs := [(9, .eq (.val (.bool false)))]) (v := .own 2 1 0 m) (bs := [(2, ⟨[.ints .u8 m ys], 5, .own 1⟩)]) follows [2] (congrArg Value.bool hlt) (by kernel_rfl) ?_
    intro ρ w' hf hh; exact gives_of (P := Try.prog) hm hf hh
  | succ q ih =>
    intro i hi m ys hys hm
    have hlt : decide ((i : Int) < 32) = true := by simp; omega
    have hi32 : i < 32 := by omega
    have hw : IntKind.i64.wrap ((i : Int) + 1) = ((i + 1 : Nat) : Int) := by rw [IntKind.wrap_i64]; omega
    have hle := strip_len (zs.take i)
    rw [← hys, hm] at hle
    simp only [List.length_take] at hle
    have hsn := strip_snoc (zs.take i) (zs.getD i 0)
    rw [← take_snoc zs i (by omega), ← hys] at hsn
    obtain ⟨v, hv⟩ : ∃ v, v = zs.getD i 0 := ⟨_, rfl⟩
    rw [← hv] at hsn
    have hcat : ∀ ρ, Seg.cells ρ [.ints .u8 (m + 1) (ys ++ [zs.getD i 0])] = Seg.cells ρ [.ints .u8 m ys] ++ Seg.cells ρ [.cell (.val (.int .u8 (zs.getD i 0)))] := by
      intro ρ
      simp [Seg.cells, Seg.cell1, AV.conc]
    have hlen : (ys ++ [zs.getD i 0]).length = m + 1 := by simp [hm]
    have hmb : m + 1 ≤ 140737488355328 := by omega
    by_cases hm0 : 0 < m
    · have hg : decide (0 < (m : Int)) = true := by simp; omega
      have hne : ¬ (ys = [] ∧ v = 0) := by rintro ⟨h, _⟩; rw [h] at hm; simp at hm; omega
      rw [if_neg hne] at hsn
      refine wpK_loop (n := 400) (m := 0) (nx := 100) (hs := [(9, .eq (.val (.bool true))), (14, .eq (.val (.bool true))), (23, .ix (i)), (26, .app [.ints .u8 (m + 1) (ys ++ [zs.getD i 0])] (m + 1)), (11, .eq (.val (.int .i64 ((i + 1 : Nat) : Int))))]) (st' := loopAt Try.f13 0) (s' := rbS zs (m + 1) (ys ++ [zs.getD i 0]) ((i + 1 : Nat) : Int)) follows [] [2, 3, 4, 5] [(1, 1), (2, 116)] (And.intro (congrArg Value.bool hlt) (And.intro (Nat.le_refl m) (And.intro (congrArg Value.bool hg) (And.intro (rfl : ((i : Nat) : Int) = ((i : Nat) : Int)) (And.intro hi32 (And.intro hi32 (And.intro hcat (And.intro (show Seg.ok No [.ints .u8 (m + 1) (ys ++ [zs.getD i 0])] from ⟨hlen, trivial⟩) (And.intro (rfl : m + 1 = m + 1) (And.intro (Nat.zero_add m) (And.intro hmb (congrArg (Value.int .i64) hw)))))))))))) (by kernel_rfl) ?_
      exact ih (i + 1) (by omega) _ _ (by rw [hsn, hv]) hlen
    · have hg : decide (0 < (m : Int)) = false := by simp; omega
      by_cases hv0 : v = 0
      · have hd : (!decide (zs.getD i 0 = 0)) = false := by rw [← hv, hv0]; rfl
        have hnil : ys = [] := List.eq_nil_of_length_eq_zero (by omega)
        rw [if_pos ⟨hnil, hv0⟩] at hsn
        refine wpK_loop (n := 400) (m := 0) (nx := 100) (hs := [(9, .eq (.val (.bool true))), (14, .eq (.val (.bool false))), (17, .ix (i)), (19, .eq (.val (.bool false))), (11, .eq (.val (.int .i64 ((i + 1 : Nat) : Int))))]) (st' := loopAt Try.f13 0) (s' := rbS zs m ys ((i + 1 : Nat) : Int)) follows [] [2, 3, 4, 5] [(1, 1), (2, 2)] (And.intro (congrArg Value.bool hlt) (And.intro (Nat.le_refl m) (And.intro (congrArg Value.bool hg) (And.intro (rfl : ((i : Nat) : Int) = ((i : Nat) : Int)) (And.intro hi32 (And.intro hi32 (And.intro (congrArg Value.bool hd) (congrArg (Value.int .i64) hw)))))))) (by kernel_rfl) ?_
        exact ih (i + 1) (by omega) _ _ (by rw [hsn, hnil]) hm
      · have hd : (!decide (zs.getD i 0 = 0)) = true := by rw [← hv]; simp [hv0]
        rw [if_neg (fun h => hv0 h.2)] at hsn
        refine wpK_loop (n := 400) (m := 0) (nx := 100) (hs := [(9, .eq (.val (.bool true))), (14, .eq (.val (.bool false))), (17, .ix (i)), (19, .eq (.val (.bool true))), (23, .ix (i)), (26, .app [.ints .u8 (m + 1) (ys ++ [zs.getD i 0])] (m + 1)), (11, .eq (.val (.int .i64 ((i + 1 : Nat) : Int))))]) (st' := loopAt Try.f13 0) (s' := rbS zs (m + 1) (ys ++ [zs.getD i 0]) ((i + 1 : Nat) : Int)) follows [] [2, 3, 4, 5] [(1, 1), (2, 116)] (And.intro (congrArg Value.bool hlt) (And.intro (Nat.le_refl m) (And.intro (congrArg Value.bool hg) (And.intro (rfl : ((i : Nat) : Int) = ((i : Nat) : Int)) (And.intro hi32 (And.intro hi32 (And.intro (congrArg Value.bool hd) (And.intro (rfl : ((i : Nat) : Int) = ((i : Nat) : Int)) (And.intro hi32 (And.intro hi32 (And.intro hcat (And.intro (show Seg.ok No [.ints .u8 (m + 1) (ys ++ [zs.getD i 0])] from ⟨hlen, trivial⟩) (And.intro (rfl : m + 1 = m + 1) (And.intro (Nat.zero_add m) (And.intro hmb (congrArg (Value.int .i64) hw)))))))))))))))) (by kernel_rfl) ?_
        exact ih (i + 1) (by omega) _ _ (by rw [hsn, hv]) hlen
theorem rbytes_c (x : Nat) (w : World) : Calls Try.prog 13 #[U x] w (Gives w (bytesOf x)) := by
  have pc := fun w => rput_v x w
  unfold bytesOf
  obtain ⟨zs, hZ⟩ : ∃ zs, zs = putA x 32 := ⟨_, rfl⟩
  have hzl : zs.length = 32 := by rw [hZ]; exact putA_len x 32
  rw [← hZ] at pc ⊢
  refine calls_vm [.val (U x)] (fn := Try.f13) Try.func13 (by kernel_rfl) (by kernel_rfl) (by kernel_rfl) (by simp [AV.okL, AV.ok]) ?_
  refine wpK_loop (n := 400) (m := 0) (nx := 0) (hs := [(7, .call (bytesA zs))]) (st' := loopAt Try.f13 0) (s' := rbS zs 0 [] ((0 : Nat) : Int)) follows [(4, 99, 1, [.ints .u8 0 []], 5)] [2, 3, 4, 5] [(1, 4), (2, 99)] (And.intro (vcall w pc) (show (bytesA zs).ok No from ⟨hzl, trivial⟩)) (by kernel_rfl) ?_
  exact rb_round w zs hzl 32 0 (by omega) 0 [] rfl rfl
end Go.Proofs.Ythgnmpjcbicdhaa

