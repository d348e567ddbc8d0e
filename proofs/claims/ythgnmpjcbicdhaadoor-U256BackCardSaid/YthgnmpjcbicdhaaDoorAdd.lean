/- u256.Add, u256.Sub: sum and carry, difference and borrow. -/
import Derived.Test.YthgnmpjcbicdhaaDoorProg
import Derived.Test.YthgnmpjcbicdhaaDoorNum
import Derived.Test.YthgnmpjcbicdhaaDoorBase
namespace Go.Proofs.YthgnmpjcbicdhaaDoor
open Go Go.RowKit

theorem call_add64 (x y c : Int) (hx : 0 ≤ x) (hy : 0 ≤ y) (hc0 : 0 ≤ c) (hc : c ≤ 1) (w : World) :
   (callFunc 32 #[.int .u64 x, .int .u64 y, .int .u64 c]).run Tryd.prog w = .ok (.value (.tuple #[.int .u64 (sm x y c), .int .u64 (cr x y c)])) w := by
  rw [run_callFunc_extern (fn := Tryd.f32) (by kernel_rfl) (by kernel_rfl) (by kernel_rfl) (by kernel_rfl) (e := add64Entry) (by kernel_rfl), run_add64 x y c hx hy hc0 hc]
  rfl

def sub64Entry : Array Value → Sem Value := fun args => do
  let (x, y, b) ← Extern.MathBitsCarry.three "Sub64" args
  pure (Extern.MathBitsCarry.pair ((x + Extern.MathBitsCarry.m64 - y - b) % Extern.MathBitsCarry.m64) (if x < y + b then 1 else 0))
theorem run_sub64 (x y b : Nat) (hb : b ≤ 1) (w : World) :
    (sub64Entry #[.int .u64 x, .int .u64 y, .int .u64 b]).run Tryd.prog w =
      .ok (.tuple #[.int .u64 (((x + 18446744073709551616 - y - b) % 18446744073709551616 : Nat) : Int), .int .u64 ((if x < y + b then 1 else 0 : Nat) : Int)]) w := by
  have : b = 0 ∨ b = 1 := by omega
  rcases this with rfl | rfl <;> rfl
set_option maxHeartbeats 1000000 in
theorem add_c (a b : Nat) (ha : a < T256) (hb : b < T256) (w : World) :
    Calls Tryd.prog 18 #[U a, U b] w fun e w' => e = .returned (.tuple #[U ((a + b) % T256), .int .u64 ((a + b) / T256 : Nat)]) ∧ Bl w w' := by
  rw [← add_limbs a b ha hb]
  clear ha hb
  have h0 := L_nonneg a 0; have h2 := L_nonneg a 1; have h4 := L_nonneg a 2; have h6 := L_nonneg a 3
  have h1 := L_nonneg b 0; have h3 := L_nonneg b 1; have h5 := L_nonneg b 2; have h7 := L_nonneg b 3
  obtain ⟨c0, d0⟩ := cr_01 (L a 0) (L b 0) 0 h0 h1 (L_lt _ _) (L_lt _ _) (by omega) (by omega)
  obtain ⟨c1, d1⟩ := cr_01 (L a 1) (L b 1) _ h2 h3 (L_lt _ _) (L_lt _ _) c0 d0
  obtain ⟨c2, d2⟩ := cr_01 (L a 2) (L b 2) _ h4 h5 (L_lt _ _) (L_lt _ _) c1 d1
  have hc := call_add64
  go_enter Tryd.func18, Tryd.ntmps18
  go_wp2_with fail
  refine wp_loop_rounds 5 ?_
  iterate 4 (rw [rounds_succ]; go_wp2_with fail; go_region; go_wp2_with fail)
  rw [rounds_succ]
  go_wp2_with fail
  exact bodyPost_ret (v := .tuple #[.agg #[.int .u64 (sm (L a 0) (L b 0) 0), .int .u64 (sm (L a 1) (L b 1) (cr (L a 0) (L b 0) 0)), .int .u64 (sm (L a 2) (L b 2) (cr (L a 1) (L b 1) (cr (L a 0) (L b 0) 0))),
      .int .u64 (sm (L a 3) (L b 3) (cr (L a 2) (L b 2) (cr (L a 1) (L b 1) (cr (L a 0) (L b 0) 0))))], .int .u64 (cr (L a 3) (L b 3) (cr (L a 2) (L b 2) (cr (L a 1) (L b 1) (cr (L a 0) (L b 0) 0))))])
    (by simp [results, Tryd.results18, go_sem]) rfl ⟨rfl, by repeat (first | exact Bl.refl _ | apply Bl.drew | apply Bl.alloc)⟩

end Go.Proofs.YthgnmpjcbicdhaaDoor

