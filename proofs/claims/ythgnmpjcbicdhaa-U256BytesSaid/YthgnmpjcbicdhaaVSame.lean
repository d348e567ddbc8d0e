/- same: are two texts one? -/
import Derived.Test.YthgnmpjcbicdhaaVmX
set_option linter.unusedSimpArgs false
set_option linter.unusedVariables false
namespace Go.Proofs.Ythgnmpjcbicdhaa
open Go Go.RowKit Go.Proofs.YthgnmpjcbicdhaaW.PrintWords

theorem info1 : (Try.prog.info? 5).map (·.size) = some 1 := by kernel_rfl
def sameS (A B : Option Addr) (n m c d : Nat) (i : Int) : AS := ⟨[(0, .val (.slice A n c)), (1, .val (.slice B m d)), (4, .val (.bool false)), (5, .val (.int .i64 i))], []⟩
theorem same_round (w : World) (A B : Option Addr) (n c d : Nat) (l k : List Int) (h1 : Kd.C (Kd.int .u8) w A n l) (h2 : Kd.C (Kd.int .u8) w B n k) (hn : n ≤ 140737488351232) (e1 : l.length = n) (e2 : k.length = n) (r : Bool) (hr : r = decide (l = k)) :
    ∀ (q i : Nat), i + q = n → (∀ j, j < i → l.getD j 0 = k.getD j 0) → wpK (ctx Try.prog w Try.f16.ntmps) Try.f16 (fun e w' => e = .returned (.bool r) ∧ Below w.heap.size w w') (loopAt Try.f16 0) (sameS A B n n c d (i : Int)) := by
  intro q
  induction q with
  | zero =>
    intro i hi hj
    have hlt : decide ((i : Int) < (n : Int)) = false := by simp; omega
    have hr2 : r = true := by
      rw [hr]
      simp only [decide_eq_true_eq]
      refine List.ext_getElem (by omega) fun j h1 h2 => ?_
      have := hj j (by omega)
      simpa [h1, h2] using this
    subst hr2
    refine wpK_end (n := 400) (m := 0) (nx := 0) (hs := [(14, .eq (.val (.bool false)))]) (v := .val (.bool true)) follows (congrArg Value.bool hlt) (by kernel_rfl) ?_
    intro ρ w' hf; exact ⟨rfl, hf.to_below⟩
  | succ q ih =>
    intro i hi hj
    have hlt : decide ((i : Int) < (n : Int)) = true := by simp; omega
    have hin : i < n := by omega
    by_cases hne : l.getD i 0 = k.getD i 0
    · have hd : (!decide (l.getD i 0 = k.getD i 0)) = false := by simpa using hne
      have hw : IntKind.i64.wrap ((i : Int) + 1) = ((i + 1 : Nat) : Int) := by rw [IntKind.wrap_i64]; omega
      refine wpK_loop (n := 400) (m := 0) (nx := 0) (hs := [(14, .eq (.val (.bool true))), (19, .as (.val (.pointer (some (adr A i))))), (20, .as (.val (.int .u8 (l.getD i 0)))), (23, .as (.val (.pointer (some (adr B i))))), (24, .as (.val (.int .u8 (k.getD i 0)))), (25, .eq (.val (.bool false))), (16, .eq (.val (.int .i64 ((i + 1 : Nat) : Int))))]) (st' := loopAt Try.f16 0) (s' := sameS A B n n c d ((i + 1 : Nat) : Int)) follows [] [0, 1, 4, 5] [] (And.intro (congrArg Value.bool hlt) (And.intro (ext_index (c := c) (k' := .i64) Try.underlying25 info1 h1 hin) (And.intro (ext_load Try.underlying5 rfl h1 hin) (And.intro (ext_index (c := d) (k' := .i64) Try.underlying25 info1 h2 hin) (And.intro (ext_load Try.underlying5 rfl h2 hin) (And.intro (congrArg Value.bool hd) (congrArg (Value.int .i64) hw))))))) (by kernel_rfl) ?_
      refine ih (i + 1) (by omega) fun j hj2 => ?_
      rcases Nat.lt_succ_iff_lt_or_eq.1 hj2 with h | rfl
      · exact hj j h
      · exact hne
    · have hd : (!decide (l.getD i 0 = k.getD i 0)) = true := by simpa using hne
      have hr2 : r = false := by
        rw [hr]
        simp only [decide_eq_false_iff_not]
        rintro rfl
        exact hne rfl
      subst hr2
      refine wpK_end (n := 400) (m := 0) (nx := 0) (hs := [(14, .eq (.val (.bool true))), (19, .as (.val (.pointer (some (adr A i))))), (20, .as (.val (.int .u8 (l.getD i 0)))), (23, .as (.val (.pointer (some (adr B i))))), (24, .as (.val (.int .u8 (k.getD i 0)))), (25, .eq (.val (.bool true)))]) (v := .val (.bool false)) follows (And.intro (congrArg Value.bool hlt) (And.intro (ext_index (c := c) (k' := .i64) Try.underlying25 info1 h1 hin) (And.intro (ext_load Try.underlying5 rfl h1 hin) (And.intro (ext_index (c := d) (k' := .i64) Try.underlying25 info1 h2 hin) (And.intro (ext_load Try.underlying5 rfl h2 hin) (congrArg Value.bool hd)))))) (by kernel_rfl) ?_
      intro ρ w' hf; exact ⟨rfl, hf.to_below⟩
theorem same_c (w : World) (A B : Option Addr) (n m c d : Nat) (l k : List Int) (h1 : Kd.C (Kd.int .u8) w A n l) (h2 : Kd.C (Kd.int .u8) w B m k) (hn : n ≤ 140737488351232) (hm : m ≤ 140737488351232) :
    Calls Try.prog 16 #[.slice A n c, .slice B m d] w fun e w' => e = .returned (.bool (decide (l = k))) ∧ Below w.heap.size w w' := by
  have e1 : l.length = n := h1.1
  have e2 : k.length = m := h2.1
  refine calls_vm [.val (.slice A n c), .val (.slice B m d)] (fn := Try.f16) Try.func16 (by kernel_rfl) (by kernel_rfl) (by kernel_rfl) (by simp [AV.okL, AV.ok]) ?_
  by_cases hnm : n = m
  · subst hnm
    have hd : (!decide ((n : Int) = (n : Int))) = false := by simp
    obtain ⟨r, hr⟩ : ∃ r, r = decide (l = k) := ⟨_, rfl⟩
    rw [← hr]
    refine wpK_loop (n := 400) (m := 0) (nx := 0) (hs := [(10, .eq (.val (.bool false)))]) (st' := loopAt Try.f16 0) (s' := sameS A B n n c d ((0 : Nat) : Int)) follows [] [0, 1, 4, 5] [] (congrArg Value.bool hd) (by kernel_rfl) ?_
    exact same_round w A B n c d l k h1 h2 hn e1 e2 r hr n 0 (by omega) fun j hj => absurd hj (by omega)
  · have hd : (!decide ((n : Int) = (m : Int))) = true := by simp; omega
    have hr : decide (l = k) = false := by
      simp only [decide_eq_false_iff_not]
      rintro rfl
      exact hnm (e1.symm.trans e2)
    rw [hr]
    refine wpK_end (n := 400) (m := 0) (nx := 0) (hs := [(10, .eq (.val (.bool true)))]) (v := .val (.bool false)) follows (congrArg Value.bool hd) (by kernel_rfl) ?_
    intro ρ w' hf; exact ⟨rfl, hf.to_below⟩
end Go.Proofs.Ythgnmpjcbicdhaa

