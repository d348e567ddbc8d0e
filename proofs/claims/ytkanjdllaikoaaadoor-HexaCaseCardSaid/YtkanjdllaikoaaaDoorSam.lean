/- same; a row of integers is itself. -/
import Derived.Test.YtkanjdllaikoaaaDoorGv
import Derived.Test.YtkanjdllaikoaaaDoorGeP
import Derived.Test.YtkanjdllaikoaaaDoorArrEq
set_option linter.unusedSimpArgs false
set_option linter.unusedVariables false
namespace Go.Proofs.YtkanjdllaikoaaaDoor
open Go Go.RowKit

theorem infBs : (Tryd.prog.info? 5).map (·.size) = some 1 := by kernel_rfl
def saS (A B : Option Addr) (n c d i : Nat) : AS := ⟨[(0, .val (.slice A n c)), (1, .val (.slice B n d)), (5, .val (.int .i64 (i : Int)))], []⟩
set_option maxHeartbeats 2000000 in
theorem sa_round (w : World) (A B : Option Addr) (n c d : Nat) (l : List Int) (hA : Sl .u8 w A n l) (hB : Sl .u8 w B n l) (hn : n ≤ 9000000000000) :
    ∀ (q i : Nat), i + q = n → wpK (ctx Tryd.prog w Tryd.f30.ntmps) Tryd.f30 (fun e w' => e = .returned (.bool true) ∧ Below w.heap.size w w') (loopAt Tryd.f30 0) (saS A B n c d i) := by
  intro q
  induction q with
  | zero =>
    intro i hi
    obtain rfl : i = n := by omega
    have hlt : decide ((i : Int) < (i : Int)) = false := by simp
    refine wpK_end (n := 400) (m := 0) (nx := 100) (hs := [(14, .eq (.val (.bool false)))]) (v := .val (.bool true)) follows (congrArg Value.bool hlt) (by kernel_rfl) ?_
    intro ρ w' hf; exact ⟨rfl, hf.to_below⟩
  | succ q ih =>
    intro i hi
    have hlt : decide ((i : Int) < (n : Int)) = true := by simp; omega
    have hin : i < n := by omega
    have hw : IntKind.i64.wrap ((i : Int) + 1) = ((i + 1 : Nat) : Int) := by rw [IntKind.wrap_i64]; omega
    obtain ⟨ad, rfl⟩ := hA.has (by omega)
    obtain ⟨bd, rfl⟩ := hB.has (by omega)
    obtain ⟨x, hx⟩ : ∃ x, x = l.getD i 0 := ⟨_, rfl⟩
    have hcA : ∀ w', Fr No w w' → w'.cell? (ad.add i) = some (.int .u8 x) := fun w' hf => hx ▸ (hA.frN hf).at i hin
    have hcB : ∀ w', Fr No w w' → w'.cell? (bd.add i) = some (.int .u8 x) := fun w' hf => hx ▸ (hB.frN hf).at i hin
    have hd : (!decide (x = x)) = false := by simp
    refine wpK_loop (n := 400) (m := 0) (nx := 100) (hs := [(14, .eq (.val (.bool true))), (19, .as (.val (.pointer (some (ad.add i))))), (20, .as (.val (.int .u8 x))), (23, .as (.val (.pointer (some (bd.add i))))), (24, .as (.val (.int .u8 x))), (25, .eq (.val (.bool false))), (16, .eq (.val (.int .i64 ((i + 1 : Nat) : Int))))]) (st' := loopAt Tryd.f30 0) (s' := saS (some ad) (some bd) n c d (i + 1)) follows [] [0, 1, 5] [] (And.intro (congrArg Value.bool hlt) (And.intro (sl_index (F := No) (w := w) (A := ad) (n := n) (c := c) (k' := .i64) Tryd.underlying22 infBs hin) (And.intro (sl_load (F := No) (w := w) Tryd.underlying5 rfl hcA) (And.intro (sl_index (F := No) (w := w) (A := bd) (n := n) (c := d) (k' := .i64) Tryd.underlying22 infBs hin) (And.intro (sl_load (F := No) (w := w) Tryd.underlying5 rfl hcB) (And.intro (congrArg Value.bool hd) (congrArg (Value.int .i64) hw))))))) (by kernel_rfl) ?_
    exact ih (i + 1) (by omega)
theorem same_c (w : World) (A B : Option Addr) (n c d : Nat) (l : List Int) (hA : Sl .u8 w A n l) (hB : Sl .u8 w B n l) (hn : n ≤ 9000000000000) :
    Calls Tryd.prog 30 #[.slice A n c, .slice B n d] w fun e w' => e = .returned (.bool true) ∧ Below w.heap.size w w' := by
  have hd : (!decide ((n : Int) = (n : Int))) = false := by simp
  refine calls_vm [.val (.slice A n c), .val (.slice B n d)] (fn := Tryd.f30) Tryd.func30 (by kernel_rfl) (by kernel_rfl) (by kernel_rfl) (by simp [AV.okL, AV.ok]) ?_
  refine wpK_loop (n := 400) (m := 0) (nx := 0) (hs := [(10, .eq (.val (.bool false)))]) (st' := loopAt Tryd.f30 0) (s' := saS A B n c d 0) follows [] [0, 1, 5] [] (congrArg Value.bool hd) (by kernel_rfl) ?_
  exact sa_round w A B n c d l hA hB hn n 0 (by omega)
/-- A row of integers is itself. -/
theorem run_eq_row {t e : TypeId} {n : Nat} {k : IntKind} (hu : Tryd.prog.underlying t = some (.array n e)) (he : Tryd.prog.underlying e = some (.int k)) (hs : (Tryd.prog.info? e).map (·.size) = some 1) (zs : List Int) (hz : zs.length = n) (w : World) : (Op.equal t (.agg (ints k zs)) (.agg (ints k zs))).run Tryd.prog w = .ok true w := by
  obtain ⟨i, hi, hs⟩ : ∃ i, Tryd.prog.info? e = some i ∧ i.size = 1 := by
    cases hq : Tryd.prog.info? e with
    | none => rw [hq] at hs; cases hs
    | some i => rw [hq] at hs; exact ⟨i, rfl, by simpa using hs⟩
  have h := run_equalIn_arr (P := Tryd.prog) 9998 t e n k k i hu he hi hs zs zs hz hz w
  rw [decide_eq_true rfl] at h
  exact h
theorem ints_app (k : IntKind) (zs : List Int) : (zs.map (Value.int k) ++ []).toArray = ints k zs := by unfold ints; rw [List.append_nil]
theorem run_eq_adr (a : List Int) (ha : a.length = 20) (w : World) : (Op.equal 27 (adrV a) (adrV a)).run Tryd.prog w = .ok true w := by
  unfold adrV
  rw [ints_app]
  exact run_eq_row Tryd.underlying27 Tryd.underlying5 (by kernel_rfl) a ha w
theorem run_eq_hash (a : List Int) (ha : a.length = 32) (w : World) : (Op.equal 29 (adrV a) (adrV a)).run Tryd.prog w = .ok true w := by
  unfold adrV
  rw [ints_app]
  exact run_eq_row Tryd.underlying29 Tryd.underlying5 (by kernel_rfl) a ha w
theorem run_eq_U (x : Nat) (w : World) : (Op.equal 25 (U x) (U x)).run Tryd.prog w = .ok true w :=
  run_eq_row Tryd.underlying25 Tryd.underlying23 (by kernel_rfl) (limbs x) rfl w
end Go.Proofs.YtkanjdllaikoaaaDoor

