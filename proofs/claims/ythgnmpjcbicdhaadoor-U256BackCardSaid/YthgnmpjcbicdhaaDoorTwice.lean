/- The document's twice; a number's four cells written over. -/
import Derived.Test.YthgnmpjcbicdhaaDoorRDig
import Derived.Test.YthgnmpjcbicdhaaDoorNumQ
set_option linter.unusedSimpArgs false
set_option linter.unusedVariables false
namespace Go.Proofs.YthgnmpjcbicdhaaDoor
open Go Go.RowKit

/-- The four cells of block b written over. -/
def put4 (w : World) (b y : Nat) : World := (((w.setCell ⟨b, 0, none⟩ (.int .u64 (L y 0))).setCell ⟨b, 1, none⟩ (.int .u64 (L y 1))).setCell ⟨b, 2, none⟩ (.int .u64 (L y 2))).setCell ⟨b, 3, none⟩ (.int .u64 (L y 3))
theorem Box.put4 {w : World} {b x : Nat} {t : TypeId} (h : Box w b (UC x) t) (y : Nat) : Box (put4 w b y) b (UC y) t := ((((h.set _ _).set _ _).set _ _).set _ _).cells rfl
theorem Box.put4_far {w : World} {b : Nat} {cs : Array Value} {t : TypeId} (h : Box w b cs t) (c y : Nat) (hne : b ≠ c) : Box (Proofs.YthgnmpjcbicdhaaDoor.put4 w c y) b cs t :=
  (((h.far _ _ hne).far _ _ hne).far _ _ hne).far _ _ hne
theorem Bl.put4 {a w : World} (h : Bl a w) {b : Nat} (hb : a.heap.size ≤ b) (y : Nat) : Bl a (Proofs.YthgnmpjcbicdhaaDoor.put4 w b y) :=
  (((h.setCell hb _).setCell hb _).setCell hb _).setCell hb _

theorem UC_one (x : Nat) (h : x % 2 = 0) : L x 0 + 1 ≤ 18446744073709551615 ∧ L (x + 1) 0 = L x 0 + 1 ∧ L (x + 1) 1 = L x 1 ∧ L (x + 1) 2 = L x 2 ∧ L (x + 1) 3 = L x 3 := by
  refine ⟨?_, ?_, ?_, ?_, ?_⟩
  · rw [L0]; omega
  · rw [L0, L0]; omega
  · rw [L1, L1]; omega
  · rw [L2, L2]; omega
  · rw [L3, L3]; omega

theorem twice_c (a b : Nat) (ha : a < T256) (hb : b < 2) (w : World) :
    Calls Tryd.prog 59 #[U a, .int .i64 b] w fun e w' => e = .returned (.tuple #[U (2 * a % T256 + b), .int .u64 (2 * a / T256 : Nat)]) ∧ Bl w w' := by
  have hs := fun w => radd_c a a ha ha w
  have h2 : 2 * a % T256 % 2 = 0 := by rw [T256_eq]; omega
  rw [show a + a = 2 * a by omega] at hs
  obtain ⟨o, ho⟩ : ∃ o, o = 2 * a / T256 := ⟨_, rfl⟩
  obtain ⟨X, hX⟩ : ∃ X, X = 2 * a % T256 := ⟨_, rfl⟩
  rw [← ho, ← hX] at hs ⊢
  rw [← hX] at h2
  clear ho hX
  obtain ⟨g0, g1, g2, g3, g4⟩ := UC_one X h2
  have x0 := L_nonneg X 0
  rcases (show b = 0 ∨ b = 1 by omega) with rfl | rfl
  · clear g0 g1 g2 g3 g4
    go_enter Tryd.func59, Tryd.ntmps59
    go_wp2_with fail
    refine (hs _).mono ?_
    rintro e w1 ⟨rfl, hb1⟩
    have r1 := (Box.new (w.alloc _) (w.heap.size + 1) #[.int .u64 0, .int .u64 0, .int .u64 0, .int .u64 0] 24 (by simp)).call hb1
    have b1 : Bl w w1 := Bl.trans (by repeat (first | apply Bl.alloc | exact Bl.refl _)) hb1
    clear hb1
    obtain ⟨x1, x2, x3⟩ := r1.tell
    go_wp2_with fail
    refine bodyPost_ret (v := .tuple #[U X, .int .u64 (o : Nat)]) (by simp [results, Tryd.results59, go_sem, x1, x3]) rfl ⟨rfl, ?_⟩
    refine Bl.alloc ?_ _
    iterate 4 refine Bl.setCell ?_ (by simp only []; omega) _
    exact b1
  · have eU : U (X + 1) = .agg #[.int .u64 (L X 0 + 1), .int .u64 (L X 1), .int .u64 (L X 2), .int .u64 (L X 3)] := by unfold U; rw [g1, g2, g3, g4]
    rw [eU]
    clear g1 g2 g3 g4 eU
    go_enter Tryd.func59, Tryd.ntmps59
    go_wp2_with fail
    refine (hs _).mono ?_
    rintro e w1 ⟨rfl, hb1⟩
    have r1 := (Box.new (w.alloc _) (w.heap.size + 1) #[.int .u64 0, .int .u64 0, .int .u64 0, .int .u64 0] 24 (by simp)).call hb1
    have b1 : Bl w w1 := Bl.trans (by repeat (first | apply Bl.alloc | exact Bl.refl _)) hb1
    clear hb1
    obtain ⟨x1, x2, x3⟩ := r1.tell
    go_wp2_with fail
    refine bodyPost_ret (v := .tuple #[.agg #[.int .u64 (L X 0 + 1), .int .u64 (L X 1), .int .u64 (L X 2), .int .u64 (L X 3)], .int .u64 (o : Nat)]) (by simp [results, Tryd.results59, go_sem, x1, x3]) rfl ⟨rfl, ?_⟩
    refine Bl.alloc ?_ _
    iterate 4 refine Bl.setCell ?_ (by simp only []; omega) _
    exact b1
end Go.Proofs.YthgnmpjcbicdhaaDoor

