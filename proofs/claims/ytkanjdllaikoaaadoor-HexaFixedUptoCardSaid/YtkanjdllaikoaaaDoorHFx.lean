/- HexaFixed, walked. -/
import Derived.Test.YtkanjdllaikoaaaDoorRPA
set_option linter.unusedSimpArgs false
set_option linter.unusedVariables false
namespace Go.Proofs.YtkanjdllaikoaaaDoor
open Go Go.RowKit

theorem num_c (v : Int) (w : World) : Calls Tryd.prog 11 #[.int .i64 v] w fun e w' => e = .returned (.int .i64 v) ∧ Below w.heap.size w w' := by
  refine calls_vm [.val (.int .i64 v)] (fn := Tryd.f11) Tryd.func11 (by kernel_rfl) (by kernel_rfl) (by kernel_rfl) (by simp [AV.okL, AV.ok]) ?_
  refine wpK_end (n := 400) (m := 0) (nx := 0) (hs := []) (v := .val (.int .i64 v)) follows trivial (by kernel_rfl) ?_
  intro ρ w' hf; exact ⟨rfl, hf.to_below⟩
theorem run_eq_bytes {t : TypeId} {n : Nat} (hu : Tryd.prog.underlying t = some (.array n 5)) (zs : List Int) (hz : zs.length = n) (w : World) : (Op.equal t (bytesVal zs) (bytesVal zs)).run Tryd.prog w = .ok true w := by
  have e : bytesVal zs = .agg (ints .u8 zs) := by unfold bytesVal ints; rw [List.append_nil]
  rw [e]
  obtain ⟨i, hi, hs⟩ : ∃ i, Tryd.prog.info? 5 = some i ∧ i.size = 1 := by
    have := infB
    cases hq : Tryd.prog.info? 5 with
    | none => rw [hq] at this; cases this
    | some i => rw [hq] at this; exact ⟨i, rfl, by simpa using this⟩
  have h := run_equalIn_arr (P := Tryd.prog) 9998 t 5 n .u8 .u8 i hu Tryd.underlying5 hi hs zs zs hz hz w
  rw [decide_eq_true rfl] at h
  exact h
theorem addrP_len (s : ByteArray) : (addrP s).1.length = 20 := by
  unfold addrP
  split
  · simp
  · split
    · split
      · simp
      · rw [prL_len]
    · simp
theorem hashP_len (s : ByteArray) : (hashP s).1.length = 32 := by
  unfold hashP
  split
  · simp
  · split
    · rw [prL_len]
    · simp
set_option maxHeartbeats 2000000 in
theorem walkHexaFixed (w : World) (s : ByteArray) (hs : s.size ≤ 9000000000000) (hG : w.cell? ⟨0, 0, none⟩ = some (.int .u8 1)) (hT : TurnsIn w) (hR : RoundsIn w) :
    Calls Tryd.prog 5 #[.string s] w fun e w' => e = .returned (.bool true) ∧ Below w.heap.size w w' := by
  have ac : ∀ w', Fr No w w' → Calls Tryd.prog 22 #[.string s] w' (pairR w' (addrP s).1 (addrP s).2) := fun w' hf => paddr_c w' s hs (frN_cell hf hG)
  have bc : ∀ w', Fr No w w' → Calls Tryd.prog 24 #[.string s] w' (pairR w' (addrP s).1 (addrP s).2) := fun w' hf => rpaddr_c w' s hs (hT.stay hf) (hR.stay hf)
  have hc : ∀ w', Fr No w w' → Calls Tryd.prog 25 #[.string s] w' (pairR w' (hashP s).1 (hashP s).2) := fun w' hf => phash_c w' s hs
  have kc : ∀ w', Fr No w w' → Calls Tryd.prog 26 #[.string s] w' (pairR w' (hashP s).1 (hashP s).2) := fun w' hf => rphash_c w' s hs
  have hla := addrP_len s
  have hlh := hashP_len s
  generalize (addrP s).1 = a at *
  generalize (addrP s).2 = e at *
  generalize (hashP s).1 = h at *
  generalize (hashP s).2 = g at *
  have qa := run_eq_bytes Tryd.underlying27 a hla
  have qh := run_eq_bytes Tryd.underlying29 h hlh
  have he : decide (e = e) = true := by simp
  have hg : decide (g = g) = true := by simp
  have nc := fun v w => num_c v w
  refine calls_vm [.val (.string s)] (fn := Tryd.f5) Tryd.func5 (by kernel_rfl) (by kernel_rfl) (by kernel_rfl) (by simp [AV.okL, AV.ok]) ?_
  refine wpK_end (n := 400) (m := 0) (nx := 0) (hs := [(13, .call (.tup [.agg [.ints .u8 20 a], .val (.int .i64 e)])), (18, .call (.tup [.agg [.ints .u8 20 a], .val (.int .i64 e)])), (23, .call (.tup [.agg [.ints .u8 32 h], .val (.int .i64 g)])), (28, .call (.tup [.agg [.ints .u8 32 h], .val (.int .i64 g)])), (33, .cmp true), (36, .call (.val (.int .i64 e))), (38, .eq (.val (.bool true))), (43, .cmp true), (47, .call (.val (.int .i64 g))), (49, .eq (.val (.bool true)))]) (v := .val (.bool true)) follows (And.intro ac (And.intro (show (AV.tup [.agg [.ints .u8 20 a], .val (.int .i64 e)]).ok No from ⟨⟨hla, trivial⟩, trivial, trivial⟩) (And.intro bc (And.intro (show (AV.tup [.agg [.ints .u8 20 a], .val (.int .i64 e)]).ok No from ⟨⟨hla, trivial⟩, trivial, trivial⟩) (And.intro hc (And.intro (show (AV.tup [.agg [.ints .u8 32 h], .val (.int .i64 g)]).ok No from ⟨⟨hlh, trivial⟩, trivial, trivial⟩) (And.intro kc (And.intro (show (AV.tup [.agg [.ints .u8 32 h], .val (.int .i64 g)]).ok No from ⟨⟨hlh, trivial⟩, trivial, trivial⟩) (And.intro (fun w => qa w) (And.intro (vcall w (fun w => nc e w)) (And.intro (congrArg Value.bool he) (And.intro (fun w => qh w) (And.intro (vcall w (fun w => nc g w)) (congrArg Value.bool hg)))))))))))))) (by kernel_rfl) ?_
  intro ρ w' hf; exact ⟨rfl, hf.to_below⟩
end Go.Proofs.YtkanjdllaikoaaaDoor

