/- Quantity, Uint: the document. -/
import Derived.Test.YtkanjdllaikoaaaDoorUqC
set_option linter.unusedSimpArgs false
set_option linter.unusedVariables false
namespace Go.Proofs.YtkanjdllaikoaaaDoor
open Go Go.RowKit

def rqS (x m : Nat) (xs : List Int) (z : Int) : AS := ⟨[(1, .ptr 1 0), (3, .own 2 1 0 m), (4, .val (.int .i64 z))], [(1, ⟨[.ints .u64 4 (limL x)], 25, .arr⟩), (2, ob m xs)]⟩
abbrev ixU (n : Nat) : Sem Next := do pure (.value (← Instr.index 9 (.string ⟨#[48, 49, 50, 51, 52, 53, 54, 55, 56, 57, 97, 98, 99, 100, 101, 102]⟩) (.int .u64 (n : Int))))
theorem ixU_run (n : Nat) (h : n < 16) (w : World) : (ixU n).run Tryd.prog w = .ok (.value (.int .u8 ((dgt n).toNat : Int))) w := by
  have : n = 0 ∨ n = 1 ∨ n = 2 ∨ n = 3 ∨ n = 4 ∨ n = 5 ∨ n = 6 ∨ n = 7 ∨ n = 8 ∨ n = 9 ∨ n = 10 ∨ n = 11 ∨ n = 12 ∨ n = 13 ∨ n = 14 ∨ n = 15 := by omega
  rcases this with rfl | rfl | rfl | rfl | rfl | rfl | rfl | rfl | rfl | rfl | rfl | rfl | rfl | rfl | rfl | rfl <;> exact prun_run _ _ _ (by kernel_rfl) w
set_option maxHeartbeats 4000000 in
theorem rq_round (w : World) (x : Nat) : ∀ (r : Nat), r ≤ 64 → ∀ (m : Nat) (xs : List Int) (z : Int), xs = nums (stL x r) → xs.length = m → z = (r : Int) - 1 → wpK (ctx Tryd.prog w Tryd.f15.ntmps) Tryd.f15 (strR w (qtyS x)) (loopAt Tryd.f15 0) (rqS x m xs z) := by
  intro r
  induction r with
  | zero =>
    intro _ m xs z hxs hm hz
    have hge : decide (z ≥ 0) = false := by simp; omega
    have hbx : ByteL xs := hxs ▸ nums_byte _
    have hst : (strI xs) = ⟨(qtyL x).toArray⟩ := by rw [hxs]; exact strI_nums _
    have hxl : xs.length ≤ 64 := by rw [hxs, nums_len]; exact stL_len x 0
    unfold strR qtyS
    rw [← hst]
    refine wpK_end (n := 400) (m := 0) (nx := 100) (hs := [(7, .eq (.val (.bool false))), (37, .asR [2] (.val (.string (strI xs)))), (38, .as (.val (.string (withX (strI xs)))))]) (v := .val (.string (withX (strI xs)))) follows (And.intro (congrArg Value.bool hge) (And.intro (show ∀ (ρ : Env) (w' : World), Fr No w w' → hasAll (ctx Tryd.prog w Tryd.f15.ntmps) ρ w' [(2, ob m xs)] → ((do pure (.value (← convert 22 9 (AV.conc ρ (.own 2 1 0 m)))) : Sem Next)).run Tryd.prog w' = .ok (.value (.string (strI xs))) w' from fun ρ w' _ hh => own_str hh.1.1 hm hbx) (And.intro (show ∀ D : Nat → Prop, (∀ k, k ∈ [2] → D k) → AV.ok D (.val (.string (strI xs))) from fun _ _ => trivial) (cat_x (F := No) (w := w) (strI xs) (by rw [strI_size]; omega))))) (by kernel_rfl) ?_
    intro ρ w' hf; exact ⟨rfl, hf.to_below⟩
  | succ q ih =>
    intro hq m xs z hxs hm hz
    obtain rfl : z = (q : Int) := by omega
    have hge : decide ((q : Int) ≥ 0) = true := by simp
    have hq16 : IntKind.i64.wrap ((q : Int).tdiv 16) = ((q / 16 : Nat) : Int) := by rw [Int.tdiv_eq_ediv_of_nonneg (by omega), IntKind.wrap_i64]; omega
    have hr16 : (q : Int).tmod 16 = ((q % 16 : Nat) : Int) := by rw [Int.tmod_eq_emod_of_nonneg (by omega)]; omega
    have hm4 : IntKind.i64.wrap (4 * ((q % 16 : Nat) : Int)) = ((4 * (q % 16) : Nat) : Int) := by rw [IntKind.wrap_i64]; omega
    have hi4 : q / 16 < 4 := by omega
    have hw : IntKind.i64.wrap ((q : Int) - 1) = (q : Int) - 1 := by rw [IntKind.wrap_i64]; omega
    have hnib := ref_nib x q (by omega)
    have hst := stL_step x q (by omega)
    have hd16 := nibN_lt x q
    obtain ⟨d, hd⟩ : ∃ d, d = nibN x q := ⟨_, rfl⟩
    rw [← hd] at hnib hst hd16
    have hml : m ≤ 64 := by rw [← hm, hxs, nums_len]; exact stL_len x (q + 1)
    have hmz : stL x (q + 1) = [] ↔ m = 0 := by rw [← hm, hxs, nums_len, List.length_eq_zero_iff]
    have hle : m ≤ m := Nat.le_refl m
    obtain ⟨g, hg⟩ : ∃ g : Int, g = ((dgt d).toNat : Int) := ⟨_, rfl⟩
    have hixU : ∀ (ρ : Env) (w' : World), Fr No w w' → (ixU d).run Tryd.prog w' = .ok (.value (.int .u8 g)) w' := fun ρ w' _ => hg ▸ ixU_run d hd16 w'
    have hcat : ∀ ρ, Seg.cells ρ [.ints .u8 (m + 1) (xs ++ [g])] = Seg.cells ρ [.ints .u8 m xs] ++ Seg.cells ρ [.cell (.val (.int .u8 g))] := by
      intro ρ
      simp [Seg.cells, Seg.cell1, AV.conc]
    have hlen : (xs ++ [g]).length = m + 1 := by simp [hm]
    have hmb : m + 1 ≤ 140737488355328 := by omega
    have hnew : stL x q = stL x (q + 1) ++ [dgt d] → xs ++ [g] = nums (stL x q) := by
      intro h
      rw [h, nums_append, hxs, hg]
      rfl
    by_cases hd0 : d = 0
    · have hne : (!decide ((d : Int) = 0)) = false := by simp; omega
      by_cases hm0 : m = 0
      · have hgt : decide ((m : Int) > 0) = false := by simp; omega
        by_cases hq0 : q = 0
        · have he0 : decide ((q : Int) = 0) = true := by simp; omega
          refine wpK_loop (n := 400) (m := 0) (nx := 100) (hs := [(7, .eq (.val (.bool true))), (11, .eq (.val (.int .i64 ((q / 16 : Nat) : Int)))), (12, .ix (q / 16)), (15, .eq (.val (.int .i64 ((q % 16 : Nat) : Int)))), (16, .eq (.val (.int .i64 ((4 * (q % 16) : Nat) : Int)))), (19, .eq (.val (.int .u64 (d : Int)))), (21, .eq (.val (.bool false))), (25, .eq (.val (.bool false))), (29, .eq (.val (.bool true))), (33, .as (.val (.int .u8 g))), (35, .app [.ints .u8 (m + 1) (xs ++ [g])] (m + 1)), (9, .eq (.val (.int .i64 ((q : Int) - 1))))]) (st' := loopAt Tryd.f15 0) (s' := rqS x (m + 1) (xs ++ [g]) ((q : Int) - 1)) follows [] [1, 3, 4] [(1, 1), (2, 128)] (And.intro (congrArg Value.bool hge) (And.intro (congrArg (Value.int .i64) hq16) (And.intro (rfl : ((q / 16 : Nat) : Int) = ((q / 16 : Nat) : Int)) (And.intro hi4 (And.intro hi4 (And.intro (congrArg (Value.int .i64) hr16) (And.intro (congrArg (Value.int .i64) hm4) (And.intro (congrArg (Value.int .u64) hnib) (And.intro (congrArg Value.bool hne) (And.intro hle (And.intro (congrArg Value.bool hgt) (And.intro (congrArg Value.bool he0) (And.intro hixU (And.intro hcat (And.intro (show Seg.ok No [.ints .u8 (m + 1) (xs ++ [g])] from ⟨hlen, trivial⟩) (And.intro (rfl : m + 1 = m + 1) (And.intro (Nat.zero_add m) (And.intro hmb (congrArg (Value.int .i64) hw))))))))))))))))))) (by kernel_rfl) ?_
          exact ih (by omega) (m + 1) _ _ (hnew (by rw [hst, if_pos (.inr (.inr hq0))])) hlen rfl
        · have he0 : decide ((q : Int) = 0) = false := by simp; omega
          refine wpK_loop (n := 400) (m := 0) (nx := 100) (hs := [(7, .eq (.val (.bool true))), (11, .eq (.val (.int .i64 ((q / 16 : Nat) : Int)))), (12, .ix (q / 16)), (15, .eq (.val (.int .i64 ((q % 16 : Nat) : Int)))), (16, .eq (.val (.int .i64 ((4 * (q % 16) : Nat) : Int)))), (19, .eq (.val (.int .u64 (d : Int)))), (21, .eq (.val (.bool false))), (25, .eq (.val (.bool false))), (29, .eq (.val (.bool false))), (9, .eq (.val (.int .i64 ((q : Int) - 1))))]) (st' := loopAt Tryd.f15 0) (s' := rqS x m xs ((q : Int) - 1)) follows [] [1, 3, 4] [(1, 1), (2, 2)] (And.intro (congrArg Value.bool hge) (And.intro (congrArg (Value.int .i64) hq16) (And.intro (rfl : ((q / 16 : Nat) : Int) = ((q / 16 : Nat) : Int)) (And.intro hi4 (And.intro hi4 (And.intro (congrArg (Value.int .i64) hr16) (And.intro (congrArg (Value.int .i64) hm4) (And.intro (congrArg (Value.int .u64) hnib) (And.intro (congrArg Value.bool hne) (And.intro hle (And.intro (congrArg Value.bool hgt) (And.intro (congrArg Value.bool he0) (congrArg (Value.int .i64) hw))))))))))))) (by kernel_rfl) ?_
          exact ih (by omega) m _ _ (by rw [hst, if_neg (by rintro (h | h | h); exact h hd0; exact h (hmz.2 hm0); exact hq0 h), hxs]) hm rfl
      · have hgt : decide ((m : Int) > 0) = true := by simp; omega
        refine wpK_loop (n := 400) (m := 0) (nx := 100) (hs := [(7, .eq (.val (.bool true))), (11, .eq (.val (.int .i64 ((q / 16 : Nat) : Int)))), (12, .ix (q / 16)), (15, .eq (.val (.int .i64 ((q % 16 : Nat) : Int)))), (16, .eq (.val (.int .i64 ((4 * (q % 16) : Nat) : Int)))), (19, .eq (.val (.int .u64 (d : Int)))), (21, .eq (.val (.bool false))), (25, .eq (.val (.bool true))), (33, .as (.val (.int .u8 g))), (35, .app [.ints .u8 (m + 1) (xs ++ [g])] (m + 1)), (9, .eq (.val (.int .i64 ((q : Int) - 1))))]) (st' := loopAt Tryd.f15 0) (s' := rqS x (m + 1) (xs ++ [g]) ((q : Int) - 1)) follows [] [1, 3, 4] [(1, 1), (2, 128)] (And.intro (congrArg Value.bool hge) (And.intro (congrArg (Value.int .i64) hq16) (And.intro (rfl : ((q / 16 : Nat) : Int) = ((q / 16 : Nat) : Int)) (And.intro hi4 (And.intro hi4 (And.intro (congrArg (Value.int .i64) hr16) (And.intro (congrArg (Value.int .i64) hm4) (And.intro (congrArg (Value.int .u64) hnib) (And.intro (congrArg Value.bool hne) (And.intro hle (And.intro (congrArg Value.bool hgt) (And.intro hixU (And.intro hcat (And.intro (show Seg.ok No [.ints .u8 (m + 1) (xs ++ [g])] from ⟨hlen, trivial⟩) (And.intro (rfl : m + 1 = m + 1) (And.intro (Nat.zero_add m) (And.intro hmb (congrArg (Value.int .i64) hw)))))))))))))))))) (by kernel_rfl) ?_
        exact ih (by omega) (m + 1) _ _ (hnew (by rw [hst, if_pos (.inr (.inl fun h => hm0 (hmz.1 h)))])) hlen rfl
    · have hne : (!decide ((d : Int) = 0)) = true := by simp; omega
      refine wpK_loop (n := 400) (m := 0) (nx := 100) (hs := [(7, .eq (.val (.bool true))), (11, .eq (.val (.int .i64 ((q / 16 : Nat) : Int)))), (12, .ix (q / 16)), (15, .eq (.val (.int .i64 ((q % 16 : Nat) : Int)))), (16, .eq (.val (.int .i64 ((4 * (q % 16) : Nat) : Int)))), (19, .eq (.val (.int .u64 (d : Int)))), (21, .eq (.val (.bool true))), (33, .as (.val (.int .u8 g))), (35, .app [.ints .u8 (m + 1) (xs ++ [g])] (m + 1)), (9, .eq (.val (.int .i64 ((q : Int) - 1))))]) (st' := loopAt Tryd.f15 0) (s' := rqS x (m + 1) (xs ++ [g]) ((q : Int) - 1)) follows [] [1, 3, 4] [(1, 1), (2, 128)] (And.intro (congrArg Value.bool hge) (And.intro (congrArg (Value.int .i64) hq16) (And.intro (rfl : ((q / 16 : Nat) : Int) = ((q / 16 : Nat) : Int)) (And.intro hi4 (And.intro hi4 (And.intro (congrArg (Value.int .i64) hr16) (And.intro (congrArg (Value.int .i64) hm4) (And.intro (congrArg (Value.int .u64) hnib) (And.intro (congrArg Value.bool hne) (And.intro hixU (And.intro hcat (And.intro (show Seg.ok No [.ints .u8 (m + 1) (xs ++ [g])] from ⟨hlen, trivial⟩) (And.intro (rfl : m + 1 = m + 1) (And.intro (Nat.zero_add m) (And.intro hmb (congrArg (Value.int .i64) hw)))))))))))))))) (by kernel_rfl) ?_
      exact ih (by omega) (m + 1) _ _ (hnew (by rw [hst, if_pos (.inl hd0)])) hlen rfl
theorem rqty_c (w : World) (x : Nat) : Calls Tryd.prog 15 #[U x] w (strR w (qtyS x)) := by
  refine calls_vm [.val (U x)] (fn := Tryd.f15) Tryd.func15 (by kernel_rfl) (by kernel_rfl) (by kernel_rfl) (by simp [AV.okL, AV.ok]) ?_
  refine wpK_loop (n := 400) (m := 0) (nx := 0) (hs := [(1, .row [.ints .u64 4 (limL x)])]) (st' := loopAt Tryd.f15 0) (s' := rqS x 0 [] 63) follows [(3, 99, 1, [.ints .u8 0 []], 5)] [1, 3, 4] [(1, 0), (2, 99)] (And.intro (fun ρ => (rfl : Seg.cells ρ [.ints .u64 4 (limL x)] = (U x).cells.toList)) (show Seg.ok No [.ints .u64 4 (limL x)] from ⟨rfl, trivial⟩)) (by kernel_rfl) ?_
  exact rq_round w x 64 (Nat.le_refl _) 0 [] 63 rfl rfl rfl
theorem ruint_c (w : World) (v : Int) (h0 : 0 ≤ v) (h1 : v ≤ 18446744073709551615) : Calls Tryd.prog 17 #[.int .u64 v] w (strR w (qtyS v.toNat)) := by
  obtain ⟨S, hS⟩ : ∃ S, S = qtyS v.toNat := ⟨_, rfl⟩
  have qc : ∀ w', Fr No w w' → Calls Tryd.prog 15 #[.agg #[.int .u64 v, .int .u64 0, .int .u64 0, .int .u64 0]] w' fun e w'' => e = .returned (.string S) ∧ Below w'.heap.size w' w'' := fun w' _ => by
    rw [U_u64 v h0 h1, hS]; exact rqty_c w' _
  unfold strR
  rw [← hS]
  refine calls_vm [.val (.int .u64 v)] (fn := Tryd.f17) Tryd.func17 (by kernel_rfl) (by kernel_rfl) (by kernel_rfl) (by simp [AV.okL, AV.ok]) ?_
  refine wpK_end (n := 400) (m := 0) (nx := 0) (hs := [(5, .call (.val (.string S)))]) (v := .val (.string S)) follows qc (by kernel_rfl) ?_
  intro ρ w' hf; exact ⟨rfl, hf.to_below⟩
end Go.Proofs.YtkanjdllaikoaaaDoor

