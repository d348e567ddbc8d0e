/- clear, of the rest of a sponge. -/
import Derived.Test.YtkanjdllaikoaaaDoorSpW
set_option linter.unusedSimpArgs false
set_option linter.unusedVariables false
namespace Go.Proofs.YtkanjdllaikoaaaDoor
open Go Go.RowKit

abbrev clG (t r : TypeId) (A : Addr) (n c : Nat) : Sem Next := do pure (.value (← Builtin.clear_ #[t] r #[.slice (some A) n c]))
theorem zero8 (w : World) : (zeroValue 5).run Tryd.prog w = .ok (.int .u8 0) w := by
  have h : prun Tryd.prog (zeroValue 5) = some (.int .u8 0) := by kernel_rfl
  exact prun_run _ _ _ h w
theorem zero_cells (n : Nat) : (Builtin.zeroCells (Value.int .u8 0).cells n).toList = List.replicate n (Value.int .u8 0) := by
  have : (Value.int .u8 0).cells = #[Value.int .u8 0] := rfl
  rw [this]
  unfold Builtin.zeroCells
  refine List.ext_getElem (by simp) fun i h1 h2 => ?_
  simp [Nat.mod_one]
theorem run_clear_row (w : World) (r : TypeId) (g o n cap : Nat) (cur : Array Value) (t : TypeId) (hn : 0 < n) (hg : w.heap[g]? = some (.cells cur t (0, 0))) (hfit : o + n ≤ cur.size) :
    (clG 22 r ⟨g, o, none⟩ n cap).run Tryd.prog w = .ok (.value (.tuple #[])) (w.setRow g (cur.toList.take o ++ List.replicate n (Value.int .u8 0) ++ cur.toList.drop (o + n)).toArray) := by
  have hst := run_storeCells_at Tryd.prog g o t (List.replicate n (Value.int .u8 0)) 0 cur w hg (by simpa using hfit) (fun v hv => by rw [List.eq_of_mem_replicate hv]; rfl)
  obtain ⟨m, rfl⟩ : ∃ m, n = m + 1 := ⟨n - 1, by omega⟩
  simp only [List.length_replicate, Nat.add_zero] at hst
  unfold clG
  simp [Builtin.clear_, run_underlying Tryd.underlying22, zero8]
  rw [zero_cells, hst]
  simp [Result.andThen]
theorem clear_sp (F : Nat → Prop) (w : World) (r : TypeId) (k : Nat) (kind : Int) (a : Nat → B64) (part : List Int) (held : Nat) (hi long : Int) (hlt : held < 136) (hp : part.length = 136) (Γ : Ctx) (bs : List (Nat × Vblk)) :
    ∀ (ρ : Env) w', Fr F w w' → hasAll Γ ρ w' ((k, spB kind a part hi long) :: bs) → ∃ w'', (clG 22 r ⟨ρ.b k, 26 + held, none⟩ (136 - held) (136 - held)).run Tryd.prog w' = .ok (.value (AV.conc ρ (.tup []))) w'' ∧ Fr (fun B => B = ρ.b k ∧ (spB kind a part hi long).alive ρ k) w' w'' ∧ Sits ρ w'' k (spB kind a (part.take held ++ List.replicate (136 - held) 0) hi long) ∧ ((spB kind a (part.take held ++ List.replicate (136 - held) 0) hi long).alive ρ k → (spB kind a part hi long).alive ρ k) := by
  intro ρ w' hf hh
  have hs : w'.heap[ρ.b k]? = some (.cells (Seg.cells ρ (spRow kind a part hi long)).toArray 108 (0, 0)) := hh.1.1
  have hc : Seg.cells ρ (spRow kind a part hi long) = (Value.int .i64 kind :: (lanesI a).map (Value.int .u64)) ++ (part.map (Value.int .u8) ++ [Value.int .i64 hi, Value.int .i64 long]) := by
    simp [Seg.cells, Seg.cell1, AV.conc]
  have hl : (Value.int .i64 kind :: (lanesI a).map (Value.int .u64)).length = 26 := rfl
  obtain ⟨L, hL⟩ : ∃ L, L = Value.int .i64 kind :: (lanesI a).map (Value.int .u64) := ⟨_, rfl⟩
  rw [← hL] at hc hl
  have hrun := run_clear_row w' r (ρ.b k) (26 + held) (136 - held) (136 - held) _ _ (by omega) hs (by rw [hc]; simp [hl, hp]; omega)
  refine ⟨_, hrun, ⟨rfl, rfl, rfl, by rw [setRow_size]; exact Nat.le_refl _, fun j hj hF => setRow_other _ _ _ _ fun e => hF ⟨e, trivial⟩⟩, ?_, fun _ => trivial⟩
  have hc2 : Seg.cells ρ (spRow kind a (part.take held ++ List.replicate (136 - held) 0) hi long) = L ++ ((part.take held ++ List.replicate (136 - held) 0).map (Value.int .u8) ++ [Value.int .i64 hi, Value.int .i64 long]) := by
    rw [hL]; simp [Seg.cells, Seg.cell1, AV.conc]
  unfold Sits
  simp only
  rw [setRow_heap _ _ _ _ _ _ hs]
  have e : (Seg.cells ρ (spRow kind a part hi long)).toArray.toList.take (26 + held) ++ List.replicate (136 - held) (Value.int .u8 0) ++ (Seg.cells ρ (spRow kind a part hi long)).toArray.toList.drop (26 + held + (136 - held)) = Seg.cells ρ (spRow kind a (part.take held ++ List.replicate (136 - held) 0) hi long) := by
    rw [hc, hc2]
    simp only [List.toList_toArray]
    rw [List.take_append, List.take_of_length_le (by omega), List.drop_append, List.drop_eq_nil_of_le (by omega)]
    rw [hl, show 26 + held - 26 = held by omega, show 26 + held + (136 - held) - 26 = 136 by omega]
    rw [List.take_append_of_le_length (by simp; omega), List.drop_append, List.drop_eq_nil_of_le (by simp; omega)]
    simp [hp]
  rw [e]
theorem k_shr2 (a : B64) (m : Nat) (h : m < 64) : (bv a).fdiv (2 ^ min (Int.toNat (m : Int)) IntKind.u64.bits) = bv (a >>> m) := by
  have e : min (Int.toNat (m : Int)) IntKind.u64.bits = m := by
    show min (Int.toNat (m : Int)) 64 = m
    rw [Int.toNat_natCast]; omega
  rw [e, ← k_shr a m]
  congr 1
end Go.Proofs.YtkanjdllaikoaaaDoor

