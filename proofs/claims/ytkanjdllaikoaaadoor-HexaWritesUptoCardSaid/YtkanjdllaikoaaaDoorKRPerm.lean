/- Keccak-f[1600]: the document. -/
import Derived.Test.YtkanjdllaikoaaaDoorKMix
import Derived.Test.YtkanjdllaikoaaaDoorKMov
set_option linter.unusedSimpArgs false
set_option linter.unusedVariables false
namespace Go.Proofs.YtkanjdllaikoaaaDoor
open Go Go.RowKit

theorem lanes_ok (f : Nat → B64) : (AV.agg (lanesRow f)).ok No := by simp [AV.ok, Seg.ok, AV.one, Value.oneCell']
theorem columns_t (a : Nat → B64) (w : World) : Calls Tryd.prog 80 #[lanesV a] w fun e w' => e = .returned (lanesV (theta a)) ∧ Below w.heap.size w w' := by
  rw [← thetaR_eq]; exact columns_c a w
/-- The table of the rounds' numbers is what the text lays. -/
def RoundsIn (w : World) : Prop := ∀ j, j < 24 → w.cell? ⟨1, j, none⟩ = some (.int .u64 (rcI.getD j 0))
theorem TurnsIn.stay {w w' : World} (h : TurnsIn w) (hf : Fr No w w') : TurnsIn w' := fun j hj => fr_cell hf (h j hj)
abbrev ixG (t : TypeId) (A : Addr) (i : Int) : Sem Next := do pure (.value (← Instr.indexAt t (.pointer (some A)) (.int .i64 i)))
theorem glob_index {P : Program} {w : World} {t e : TypeId} {n g : Nat} (hu : P.underlying t = some (.array n e)) (hs : (P.info? e).map (·.size) = some 1) {i : Nat} (hi : i < n) :
    ∀ (ρ : Env) (w' : World), Fr No w w' → (ixG t ⟨g, 0, none⟩ (i : Int)).run P w' = .ok (.value (.pointer (some ⟨g, i, none⟩))) w' := by
  intro ρ w' hf
  have hsz : (sizeOf e).run P w' = .ok 1 w' := by
    cases hq : P.info? e with
    | none => rw [hq] at hs; cases hs
    | some inf =>
      rw [hq] at hs
      have hs : inf.size = 1 := by simpa using hs
      exact sizeA_run (Γ := ctx P w 0) (by unfold sizeA; show (match P.info? e with | some i => _ | none => _) = _; rw [hq, ← hs]) w'
  have h1 : (0 : Int) ≤ (i : Int) ∧ (i : Int) < (n : Int) := by omega
  unfold ixG
  simp [Instr.indexAt, asIntOf, run_underlying hu, Instr.sureAddr, hsz, h1, hi, add_at]
theorem info64 : (Tryd.prog.info? 23).map (·.size) = some 1 := by kernel_rfl
def rpS (a : Nat → B64) (i : Int) : AS := ⟨[(2, .ptr 2 0), (3, .ptr 3 0), (4, .val (.int .i64 i))], [(2, ⟨[.cell (.val (.int .u64 0)), .cell (.val (.int .u64 0)), .cell (.val (.int .u64 0)), .cell (.val (.int .u64 0)), .cell (.val (.int .u64 0)), .cell (.val (.int .u64 0)), .cell (.val (.int .u64 0)), .cell (.val (.int .u64 0)), .cell (.val (.int .u64 0)), .cell (.val (.int .u64 0)), .cell (.val (.int .u64 0)), .cell (.val (.int .u64 0)), .cell (.val (.int .u64 0)), .cell (.val (.int .u64 0)), .cell (.val (.int .u64 0)), .cell (.val (.int .u64 0)), .cell (.val (.int .u64 0)), .cell (.val (.int .u64 0)), .cell (.val (.int .u64 0)), .cell (.val (.int .u64 0)), .cell (.val (.int .u64 0)), .cell (.val (.int .u64 0)), .cell (.val (.int .u64 0)), .cell (.val (.int .u64 0)), .cell (.val (.int .u64 0))], 105, .arr⟩), (3, ⟨lanesRow a, 105, .arr⟩)]⟩
set_option maxHeartbeats 4000000 in
set_option maxRecDepth 100000 in
theorem rperm_round (w : World) (a0 : Nat → B64) (hT : TurnsIn w) (hR : RoundsIn w) :
    ∀ (q i : Nat), i + q = 24 → wpK (ctx Tryd.prog w Tryd.f69.ntmps) Tryd.f69 (fun e w' => e = .returned (lanesV (permN a0 24)) ∧ Below w.heap.size w w') (loopAt Tryd.f69 0) (rpS (permN a0 i) (i : Int)) := by
  intro q
  induction q with
  | zero =>
    intro i hi
    obtain rfl : i = 24 := by omega
    have hlt : decide (((24 : Nat) : Int) < 24) = false := by simp
    generalize permN a0 24 = a
    refine wpK_end (n := 400) (m := 0) (nx := 0) (hs := [(7, .eq (.val (.bool false)))]) (v := .agg (lanesRow a)) follows (congrArg Value.bool hlt) (by kernel_rfl) ?_
    intro ρ w' hf; exact ⟨rfl, hf.to_below⟩
  | succ q ih =>
    intro i hi
    have hlt : decide ((i : Int) < 24) = true := by simp; omega
    have hin : i < 24 := by omega
    have hw : IntKind.i64.wrap ((i : Int) + 1) = ((i + 1 : Nat) : Int) := by rw [IntKind.wrap_i64]; omega
    have hrc := rc_at i hin
    have ih := ih (i + 1) (by omega)
    rw [show permN a0 (i + 1) = roundK (permN a0 i) (rcL.getD i 0) from rfl] at ih
    generalize permN a0 i = a at ih ⊢
    generalize hr : rcL.getD i 0 = r at hrc ih
    have mc : ∀ w', Fr No w w' → Calls Tryd.prog 81 #[lanesV (theta a)] w' fun e w'' => e = .returned (lanesV (fun j => rot (theta a (srcL.getD j 0)) (turnsL.getD (srcL.getD j 0) 0))) ∧ Below w'.heap.size w' w'' := fun w' hf => moved_c (theta a) w' (hT.stay hf)
    refine wpK_loop (n := 400) (m := 0) (nx := 100) (hs := [(7, .eq (.val (.bool true))), (11, .call (.agg (lanesRow (theta a)))), (13, .call (.agg (lanesRow (fun j => rot (theta a (srcL.getD j 0)) (turnsL.getD (srcL.getD j 0) 0))))), (15, .call (.agg (lanesRow (mixR (fun j => rot (theta a (srcL.getD j 0)) (turnsL.getD (srcL.getD j 0) 0)))))), (19, .as (.val (.pointer (some ⟨1, i, none⟩)))), (20, .as (.val (.int .u64 (rcI.getD i 0)))), (21, .eq (.val (.int .u64 (bv (chi a 0 ^^^ r))))), (9, .eq (.val (.int .i64 ((i + 1 : Nat) : Int))))]) (st' := loopAt Tryd.f69 0) (s' := rpS (roundK a r) ((i + 1 : Nat) : Int)) follows [] [2, 3, 4] [(2, 2), (3, 3)] (And.intro (congrArg Value.bool hlt) (And.intro (vcall w (fun w => columns_t a w)) (And.intro (lanes_ok (theta a)) (And.intro mc (And.intro (lanes_ok (fun j => rot (theta a (srcL.getD j 0)) (turnsL.getD (srcL.getD j 0) 0))) (And.intro (vcall w (fun w => mixed_c (fun j => rot (theta a (srcL.getD j 0)) (turnsL.getD (srcL.getD j 0) 0)) w)) (And.intro (lanes_ok (mixR (fun j => rot (theta a (srcL.getD j 0)) (turnsL.getD (srcL.getD j 0) 0)))) (And.intro (glob_index (w := w) (g := 1) Tryd.underlying122 info64 hin) (And.intro (glob_load Tryd.underlying23 rfl (hR i hin)) (And.intro (congrArg (Value.int .u64) (k_xor' (chi a 0) r (rcI.getD i 0) hrc)) (congrArg (Value.int .i64) hw))))))))))) (by kernel_rfl) ?_
    exact ih
theorem rpermute_c (a : Nat → B64) (w : World) (hT : TurnsIn w) (hR : RoundsIn w) : Calls Tryd.prog 69 #[lanesV a] w fun e w' => e = .returned (lanesV (permN a 24)) ∧ Below w.heap.size w w' := by
  refine calls_vm [.agg (lanesRow a)] (fn := Tryd.f69) Tryd.func69 (by kernel_rfl) (by kernel_rfl) (by kernel_rfl) (by simp [AV.okL, AV.ok, Seg.ok, AV.one, Value.oneCell']) ?_
  refine wpK_loop (n := 400) (m := 0) (nx := 0) (hs := []) (st' := loopAt Tryd.f69 0) (s' := rpS a ((0 : Nat) : Int)) follows [] [2, 3, 4] [(2, 1), (3, 3)] trivial (by kernel_rfl) ?_
  exact rperm_round w a hT hR 24 0 (by omega)
end Go.Proofs.YtkanjdllaikoaaaDoor

