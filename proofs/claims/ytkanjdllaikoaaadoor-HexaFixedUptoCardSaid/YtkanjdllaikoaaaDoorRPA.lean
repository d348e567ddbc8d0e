/- A text as an address: the document. -/
import Derived.Test.YtkanjdllaikoaaaDoorPAd
set_option linter.unusedSimpArgs false
set_option linter.unusedVariables false
namespace Go.Proofs.YtkanjdllaikoaaaDoor
open Go Go.RowKit

def raS (s : ByteArray) (ys : List Int) (sm gr : Bool) (k : Nat) : AS := ⟨[(0, .val (.string s)), (2, .ptr 1 0), (4, .ptr 2 0), (8, .val (.bool sm)), (9, .val (.bool gr)), (10, .val (.int .i64 ((k + 2 : Nat) : Int)))], [(1, ⟨[.ints .u8 20 (List.replicate 20 0)], 27, .arr⟩), (2, ⟨[.ints .u8 20 ys], 27, .arr⟩)]⟩
theorem small_succ (r : List Int) (k : Nat) (hk : k < r.length) : hasSmall (r.take (k + 1)) = (hasSmall (r.take k) || decide (97 ≤ r.getD k 0)) := by
  unfold hasSmall; rw [take_snocD r k hk]; simp
theorem great_succ (r : List Int) (k : Nat) (hk : k < r.length) : hasGreat (r.take (k + 1)) = (hasGreat (r.take k) || decide (65 ≤ r.getD k 0 ∧ r.getD k 0 ≤ 70)) := by
  unfold hasGreat; rw [take_snocD r k hk]; simp
set_option maxHeartbeats 8000000 in
theorem ra_round (w : World) (s : ByteArray) (r ys : List Int) (hr : bytesI s = 48 :: 120 :: r) (hrl : r.length = 40) (K : ByteArray) (hyl : ys.length = 20)
    (kc : ∀ w', Fr No w w' → Calls Tryd.prog 19 #[adrV ys] w' fun e w'' => e = .returned (.string K) ∧ Below w'.heap.size w' w'') :
    ∀ (q k : Nat), k + q = 40 → ∀ (sm gr : Bool), sm = hasSmall (r.take k) → gr = hasGreat (r.take k) → wpK (ctx Tryd.prog w Tryd.f24.ntmps) Tryd.f24 (fun e w' => e = .returned (.tuple #[bytesVal (if (hasSmall r && hasGreat r && strNe s K) = true then List.replicate 20 0 else ys), .int .i64 (if (hasSmall r && hasGreat r && strNe s K) = true then 84 else 0)]) ∧ Below w.heap.size w w') (loopAt Tryd.f24 0) (raS s ys sm gr k) := by
  have hsz : s.size = 42 := by rw [← bytesI_len s, hr]; simp [hrl]
  have hszI : (s.size : Int) = 42 := by rw [hsz]; rfl
  intro q
  induction q with
  | zero =>
    intro k hk sm gr hsm hgr
    obtain rfl : k = 40 := by omega
    have hlt : decide (((40 + 2 : Nat) : Int) < 42) = false := by simp
    rw [List.take_of_length_le (by omega)] at hsm hgr
    rw [← hsm, ← hgr]
    cases sm with
    | false =>
      simp only [Bool.false_and, if_false, Bool.false_eq_true]
      refine wpK_end (n := 400) (m := 0) (nx := 100) (hs := [(31, .eq (.val (.int .i64 42))), (32, .eq (.val (.bool false)))]) (v := .tup [.agg [.ints .u8 20 ys], .val (.int .i64 0)]) follows (And.intro (congrArg (Value.int .i64) hszI) (congrArg Value.bool hlt)) (by kernel_rfl) ?_
      intro ρ w' hf; exact ⟨rfl, hf.to_below⟩
    | true =>
      cases gr with
      | false =>
        simp only [Bool.and_false, Bool.false_and, if_false, Bool.false_eq_true]
        refine wpK_end (n := 400) (m := 0) (nx := 100) (hs := [(31, .eq (.val (.int .i64 42))), (32, .eq (.val (.bool false)))]) (v := .tup [.agg [.ints .u8 20 ys], .val (.int .i64 0)]) follows (And.intro (congrArg (Value.int .i64) hszI) (congrArg Value.bool hlt)) (by kernel_rfl) ?_
        intro ρ w' hf; exact ⟨rfl, hf.to_below⟩
      | true =>
        cases hne : strNe s K with
        | false =>
          simp only [Bool.and_false, if_false, Bool.false_eq_true]
          refine wpK_end (n := 400) (m := 0) (nx := 100) (hs := [(31, .eq (.val (.int .i64 42))), (32, .eq (.val (.bool false))), (62, .call (.val (.string K))), (63, .eq (.val (.bool false)))]) (v := .tup [.agg [.ints .u8 20 ys], .val (.int .i64 0)]) follows (And.intro (congrArg (Value.int .i64) hszI) (And.intro (congrArg Value.bool hlt) (And.intro kc (show Value.bool (strNe s K) = Value.bool false from congrArg Value.bool hne)))) (by kernel_rfl) ?_
          intro ρ w' hf; exact ⟨rfl, hf.to_below⟩
        | true =>
          simp only [Bool.and_true, if_true]
          refine wpK_end (n := 400) (m := 0) (nx := 100) (hs := [(31, .eq (.val (.int .i64 42))), (32, .eq (.val (.bool false))), (62, .call (.val (.string K))), (63, .eq (.val (.bool true)))]) (v := .tup [.agg [.cell (.val (.int .u8 0)), .cell (.val (.int .u8 0)), .cell (.val (.int .u8 0)), .cell (.val (.int .u8 0)), .cell (.val (.int .u8 0)), .cell (.val (.int .u8 0)), .cell (.val (.int .u8 0)), .cell (.val (.int .u8 0)), .cell (.val (.int .u8 0)), .cell (.val (.int .u8 0)), .cell (.val (.int .u8 0)), .cell (.val (.int .u8 0)), .cell (.val (.int .u8 0)), .cell (.val (.int .u8 0)), .cell (.val (.int .u8 0)), .cell (.val (.int .u8 0)), .cell (.val (.int .u8 0)), .cell (.val (.int .u8 0)), .cell (.val (.int .u8 0)), .cell (.val (.int .u8 0))], .val (.int .i64 84)]) follows (And.intro (congrArg (Value.int .i64) hszI) (And.intro (congrArg Value.bool hlt) (And.intro kc (show Value.bool (strNe s K) = Value.bool true from congrArg Value.bool hne)))) (by kernel_rfl) ?_
          intro ρ w' hf; exact ⟨rfl, hf.to_below⟩
  | succ q ih =>
    intro k hk sm gr hsm hgr
    have hlt : decide (((k + 2 : Nat) : Int) < 42) = true := by simp; omega
    have hw : IntKind.i64.wrap (((k + 2 : Nat) : Int) + 1) = ((k + 1 + 2 : Nat) : Int) := by rw [IntKind.wrap_i64]; omega
    obtain ⟨c, hc⟩ : ∃ c, c = r.getD k 0 := ⟨_, rfl⟩
    have hcc : (bytesI s).getD (k + 2) 0 = c := by rw [hr, hc]; rfl
    have hix : ∀ (ρ : Env) (w' : World), Fr No w w' → (siG 9 s ((k + 2 : Nat) : Int)).run Tryd.prog w' = .ok (.value (.int .u8 c)) w' := fun ρ w' _ => hcc ▸ si_run w' s (k + 2) (by omega)
    have ih := ih (k + 1) (by omega)
    rw [small_succ r k (by omega), great_succ r k (by omega), ← hsm, ← hgr, ← hc] at ih
    cases sm with
    | true =>
      cases gr with
      | true =>
        refine wpK_loop (n := 400) (m := 0) (nx := 100) (hs := [(31, .eq (.val (.int .i64 42))), (32, .eq (.val (.bool true))), (34, .eq (.val (.int .i64 ((k + 1 + 2 : Nat) : Int))))]) (st' := loopAt Tryd.f24 0) (s' := raS s ys true true (k + 1)) follows [] [0, 2, 4, 8, 9, 10] [(1, 1), (2, 2)] (And.intro (congrArg (Value.int .i64) hszI) (And.intro (congrArg Value.bool hlt) (congrArg (Value.int .i64) hw))) (by kernel_rfl) ?_
        exact ih true true (by simp) (by simp)
      | false =>
        by_cases h65 : 65 ≤ c
        · have g65 : decide (c ≥ 65) = true := by simp; omega
          by_cases h70 : c ≤ 70
          · have g70 : decide (c ≤ 70) = true := by simp; omega
            refine wpK_loop (n := 400) (m := 0) (nx := 100) (hs := [(31, .eq (.val (.int .i64 42))), (32, .eq (.val (.bool true))), (46, .as (.val (.int .u8 c))), (47, .eq (.val (.bool true))), (51, .as (.val (.int .u8 c))), (52, .eq (.val (.bool true))), (34, .eq (.val (.int .i64 ((k + 1 + 2 : Nat) : Int))))]) (st' := loopAt Tryd.f24 0) (s' := raS s ys true true (k + 1)) follows [] [0, 2, 4, 8, 9, 10] [(1, 1), (2, 2)] (And.intro (congrArg (Value.int .i64) hszI) (And.intro (congrArg Value.bool hlt) (And.intro hix (And.intro (congrArg Value.bool g65) (And.intro hix (And.intro (congrArg Value.bool g70) (congrArg (Value.int .i64) hw))))))) (by kernel_rfl) ?_
            exact ih true true (by simp) (by simp; omega)
          · have g70 : decide (c ≤ 70) = false := by simp; omega
            refine wpK_loop (n := 400) (m := 0) (nx := 100) (hs := [(31, .eq (.val (.int .i64 42))), (32, .eq (.val (.bool true))), (46, .as (.val (.int .u8 c))), (47, .eq (.val (.bool true))), (51, .as (.val (.int .u8 c))), (52, .eq (.val (.bool false))), (34, .eq (.val (.int .i64 ((k + 1 + 2 : Nat) : Int))))]) (st' := loopAt Tryd.f24 0) (s' := raS s ys true false (k + 1)) follows [] [0, 2, 4, 8, 9, 10] [(1, 1), (2, 2)] (And.intro (congrArg (Value.int .i64) hszI) (And.intro (congrArg Value.bool hlt) (And.intro hix (And.intro (congrArg Value.bool g65) (And.intro hix (And.intro (congrArg Value.bool g70) (congrArg (Value.int .i64) hw))))))) (by kernel_rfl) ?_
            exact ih true false (by simp) (by simp; omega)
        · have g65 : decide (c ≥ 65) = false := by simp; omega
          refine wpK_loop (n := 400) (m := 0) (nx := 100) (hs := [(31, .eq (.val (.int .i64 42))), (32, .eq (.val (.bool true))), (46, .as (.val (.int .u8 c))), (47, .eq (.val (.bool false))), (34, .eq (.val (.int .i64 ((k + 1 + 2 : Nat) : Int))))]) (st' := loopAt Tryd.f24 0) (s' := raS s ys true false (k + 1)) follows [] [0, 2, 4, 8, 9, 10] [(1, 1), (2, 2)] (And.intro (congrArg (Value.int .i64) hszI) (And.intro (congrArg Value.bool hlt) (And.intro hix (And.intro (congrArg Value.bool g65) (congrArg (Value.int .i64) hw))))) (by kernel_rfl) ?_
          exact ih true false (by simp) (by simp; omega)
    | false =>
      by_cases h97 : 97 ≤ c
      · have g97 : decide (c ≥ 97) = true := by simp; omega
        cases gr with
        | true =>
          refine wpK_loop (n := 400) (m := 0) (nx := 100) (hs := [(31, .eq (.val (.int .i64 42))), (32, .eq (.val (.bool true))), (39, .as (.val (.int .u8 c))), (40, .eq (.val (.bool true))), (34, .eq (.val (.int .i64 ((k + 1 + 2 : Nat) : Int))))]) (st' := loopAt Tryd.f24 0) (s' := raS s ys true true (k + 1)) follows [] [0, 2, 4, 8, 9, 10] [(1, 1), (2, 2)] (And.intro (congrArg (Value.int .i64) hszI) (And.intro (congrArg Value.bool hlt) (And.intro hix (And.intro (congrArg Value.bool g97) (congrArg (Value.int .i64) hw))))) (by kernel_rfl) ?_
          exact ih true true (by simp; omega) (by simp)
        | false =>
          by_cases h65 : 65 ≤ c
          · have g65 : decide (c ≥ 65) = true := by simp; omega
            by_cases h70 : c ≤ 70
            · have g70 : decide (c ≤ 70) = true := by simp; omega
              refine wpK_loop (n := 400) (m := 0) (nx := 100) (hs := [(31, .eq (.val (.int .i64 42))), (32, .eq (.val (.bool true))), (39, .as (.val (.int .u8 c))), (40, .eq (.val (.bool true))), (46, .as (.val (.int .u8 c))), (47, .eq (.val (.bool true))), (51, .as (.val (.int .u8 c))), (52, .eq (.val (.bool true))), (34, .eq (.val (.int .i64 ((k + 1 + 2 : Nat) : Int))))]) (st' := loopAt Tryd.f24 0) (s' := raS s ys true true (k + 1)) follows [] [0, 2, 4, 8, 9, 10] [(1, 1), (2, 2)] (And.intro (congrArg (Value.int .i64) hszI) (And.intro (congrArg Value.bool hlt) (And.intro hix (And.intro (congrArg Value.bool g97) (And.intro hix (And.intro (congrArg Value.bool g65) (And.intro hix (And.intro (congrArg Value.bool g70) (congrArg (Value.int .i64) hw))))))))) (by kernel_rfl) ?_
              exact ih true true (by simp; omega) (by simp; omega)
            · have g70 : decide (c ≤ 70) = false := by simp; omega
              refine wpK_loop (n := 400) (m := 0) (nx := 100) (hs := [(31, .eq (.val (.int .i64 42))), (32, .eq (.val (.bool true))), (39, .as (.val (.int .u8 c))), (40, .eq (.val (.bool true))), (46, .as (.val (.int .u8 c))), (47, .eq (.val (.bool true))), (51, .as (.val (.int .u8 c))), (52, .eq (.val (.bool false))), (34, .eq (.val (.int .i64 ((k + 1 + 2 : Nat) : Int))))]) (st' := loopAt Tryd.f24 0) (s' := raS s ys true false (k + 1)) follows [] [0, 2, 4, 8, 9, 10] [(1, 1), (2, 2)] (And.intro (congrArg (Value.int .i64) hszI) (And.intro (congrArg Value.bool hlt) (And.intro hix (And.intro (congrArg Value.bool g97) (And.intro hix (And.intro (congrArg Value.bool g65) (And.intro hix (And.intro (congrArg Value.bool g70) (congrArg (Value.int .i64) hw))))))))) (by kernel_rfl) ?_
              exact ih true false (by simp; omega) (by simp; omega)
          · have g65 : decide (c ≥ 65) = false := by simp; omega
            refine wpK_loop (n := 400) (m := 0) (nx := 100) (hs := [(31, .eq (.val (.int .i64 42))), (32, .eq (.val (.bool true))), (39, .as (.val (.int .u8 c))), (40, .eq (.val (.bool true))), (46, .as (.val (.int .u8 c))), (47, .eq (.val (.bool false))), (34, .eq (.val (.int .i64 ((k + 1 + 2 : Nat) : Int))))]) (st' := loopAt Tryd.f24 0) (s' := raS s ys true false (k + 1)) follows [] [0, 2, 4, 8, 9, 10] [(1, 1), (2, 2)] (And.intro (congrArg (Value.int .i64) hszI) (And.intro (congrArg Value.bool hlt) (And.intro hix (And.intro (congrArg Value.bool g97) (And.intro hix (And.intro (congrArg Value.bool g65) (congrArg (Value.int .i64) hw))))))) (by kernel_rfl) ?_
            exact ih true false (by simp; omega) (by simp; omega)
      · have g97 : decide (c ≥ 97) = false := by simp; omega
        cases gr with
        | true =>
          refine wpK_loop (n := 400) (m := 0) (nx := 100) (hs := [(31, .eq (.val (.int .i64 42))), (32, .eq (.val (.bool true))), (39, .as (.val (.int .u8 c))), (40, .eq (.val (.bool false))), (34, .eq (.val (.int .i64 ((k + 1 + 2 : Nat) : Int))))]) (st' := loopAt Tryd.f24 0) (s' := raS s ys false true (k + 1)) follows [] [0, 2, 4, 8, 9, 10] [(1, 1), (2, 2)] (And.intro (congrArg (Value.int .i64) hszI) (And.intro (congrArg Value.bool hlt) (And.intro hix (And.intro (congrArg Value.bool g97) (congrArg (Value.int .i64) hw))))) (by kernel_rfl) ?_
          exact ih false true (by simp; omega) (by simp)
        | false =>
          by_cases h65 : 65 ≤ c
          · have g65 : decide (c ≥ 65) = true := by simp; omega
            by_cases h70 : c ≤ 70
            · have g70 : decide (c ≤ 70) = true := by simp; omega
              refine wpK_loop (n := 400) (m := 0) (nx := 100) (hs := [(31, .eq (.val (.int .i64 42))), (32, .eq (.val (.bool true))), (39, .as (.val (.int .u8 c))), (40, .eq (.val (.bool false))), (46, .as (.val (.int .u8 c))), (47, .eq (.val (.bool true))), (51, .as (.val (.int .u8 c))), (52, .eq (.val (.bool true))), (34, .eq (.val (.int .i64 ((k + 1 + 2 : Nat) : Int))))]) (st' := loopAt Tryd.f24 0) (s' := raS s ys false true (k + 1)) follows [] [0, 2, 4, 8, 9, 10] [(1, 1), (2, 2)] (And.intro (congrArg (Value.int .i64) hszI) (And.intro (congrArg Value.bool hlt) (And.intro hix (And.intro (congrArg Value.bool g97) (And.intro hix (And.intro (congrArg Value.bool g65) (And.intro hix (And.intro (congrArg Value.bool g70) (congrArg (Value.int .i64) hw))))))))) (by kernel_rfl) ?_
              exact ih false true (by simp; omega) (by simp; omega)
            · have g70 : decide (c ≤ 70) = false := by simp; omega
              refine wpK_loop (n := 400) (m := 0) (nx := 100) (hs := [(31, .eq (.val (.int .i64 42))), (32, .eq (.val (.bool true))), (39, .as (.val (.int .u8 c))), (40, .eq (.val (.bool false))), (46, .as (.val (.int .u8 c))), (47, .eq (.val (.bool true))), (51, .as (.val (.int .u8 c))), (52, .eq (.val (.bool false))), (34, .eq (.val (.int .i64 ((k + 1 + 2 : Nat) : Int))))]) (st' := loopAt Tryd.f24 0) (s' := raS s ys false false (k + 1)) follows [] [0, 2, 4, 8, 9, 10] [(1, 1), (2, 2)] (And.intro (congrArg (Value.int .i64) hszI) (And.intro (congrArg Value.bool hlt) (And.intro hix (And.intro (congrArg Value.bool g97) (And.intro hix (And.intro (congrArg Value.bool g65) (And.intro hix (And.intro (congrArg Value.bool g70) (congrArg (Value.int .i64) hw))))))))) (by kernel_rfl) ?_
              exact ih false false (by simp; omega) (by simp; omega)
          · have g65 : decide (c ≥ 65) = false := by simp; omega
            refine wpK_loop (n := 400) (m := 0) (nx := 100) (hs := [(31, .eq (.val (.int .i64 42))), (32, .eq (.val (.bool true))), (39, .as (.val (.int .u8 c))), (40, .eq (.val (.bool false))), (46, .as (.val (.int .u8 c))), (47, .eq (.val (.bool false))), (34, .eq (.val (.int .i64 ((k + 1 + 2 : Nat) : Int))))]) (st' := loopAt Tryd.f24 0) (s' := raS s ys false false (k + 1)) follows [] [0, 2, 4, 8, 9, 10] [(1, 1), (2, 2)] (And.intro (congrArg (Value.int .i64) hszI) (And.intro (congrArg Value.bool hlt) (And.intro hix (And.intro (congrArg Value.bool g97) (And.intro hix (And.intro (congrArg Value.bool g65) (congrArg (Value.int .i64) hw))))))) (by kernel_rfl) ?_
            exact ih false false (by simp; omega) (by simp; omega)
set_option maxHeartbeats 4000000 in
theorem rpaddr_c (w : World) (s : ByteArray) (hs : s.size ≤ 9000000000000) (hT : TurnsIn w) (hR : RoundsIn w) : Calls Tryd.prog 24 #[.string s] w (pairR w (addrP s).1 (addrP s).2) := by
  have vc : ∀ w', Fr No w w' → Calls Tryd.prog 42 #[.string s] w' (ParR 3 .i64 w' (textV s)) := fun w' _ => tail_c w' s hs
  unfold addrP
  cases hv : textV s with
  | none =>
    rw [hv] at vc
    have vc := parN vc
    refine calls_vm [.val (.string s)] (fn := Tryd.f24) Tryd.func24 (by kernel_rfl) (by kernel_rfl) (by kernel_rfl) (by simp [AV.okL, AV.ok]) ?_
    refine wpK_end (n := 400) (m := 0) (nx := 0) (hs := [(2, .row [.ints .u8 20 (List.replicate 20 0)]), (4, .row [.ints .u8 20 (List.replicate 20 0)]), (13, .call (.val (.tuple #[.slice none 0 0, .bool false])))]) (v := .tup [.agg [.ints .u8 20 (List.replicate 20 0)], .val (.int .i64 80)]) follows (And.intro (fun ρ => (rfl : Seg.cells ρ [.ints .u8 20 (List.replicate 20 0)] = (Value.agg (ints .u8 (List.replicate 20 0))).cells.toList)) (And.intro (show Seg.ok No [.ints .u8 20 (List.replicate 20 0)] from ⟨rfl, trivial⟩) (And.intro (fun ρ => (rfl : Seg.cells ρ [.ints .u8 20 (List.replicate 20 0)] = (Value.agg (ints .u8 (List.replicate 20 0))).cells.toList)) (And.intro (show Seg.ok No [.ints .u8 20 (List.replicate 20 0)] from ⟨rfl, trivial⟩) vc)))) (by kernel_rfl) ?_
    intro ρ w' hf; exact ⟨rfl, hf.to_below⟩
  | some v =>
    rw [hv] at vc
    obtain ⟨r, hr1, hr2⟩ := textV_some hv
    have hdg := digs_of hr2
    have hrl : v.length = r.length := by rw [(valsL_some hr2).1, List.length_map]
    have hvl : v.length ≤ 9000000000000 ∧ v.length + 2 = s.size := by
      have h2 := bytesI_len s
      rw [hr1] at h2
      simp at h2
      omega
    by_cases h64 : v.length = 40
    · simp only [h64, if_true]
      have hn : v.length = 40 := h64
      obtain ⟨ys, hys⟩ : ∃ ys, ys = prL v 20 := ⟨_, rfl⟩
      have hyl : ys.length = 20 := by rw [hys, prL_len]
      have hyb : ByteL ys := hys ▸ prL_byte v 20 (by omega) hdg
      have hyB : Bytes ys := fun i hi => by have := hyb.at i hi; omega
      rw [← hys]
      obtain ⟨K, hK⟩ : ∃ K, K = withX (strI (sumL ys)) := ⟨_, rfl⟩
      rw [← hK]
      have hrd : (bytesI s).drop 2 = r := by rw [hr1]; rfl
      have has : asks s = (hasSmall r && hasGreat r) := by unfold asks; rw [hrd]
      rw [has]
      have kc : ∀ w', Fr No w w' → Calls Tryd.prog 19 #[adrV ys] w' fun e w'' => e = .returned (.string K) ∧ Below w'.heap.size w' w'' := fun w' hf => hK ▸ rck_c w' ys hyl hyB (hT.stay hf) (hR.stay hf)
      have hcp : ∀ ρ, (Seg.cells ρ [.ints .u8 20 ((ys.drop 0).take 20)]).take ys.length = ys.map (Value.int .u8) := by
        intro ρ
        simp only [Seg.cells, Seg.cell1, List.append_nil, List.drop_zero]
        rw [List.take_of_length_le (by rw [List.length_map, List.length_take]; omega), List.take_of_length_le (by omega)]
      have hxs : ys = (List.replicate 20 (0 : Int)).take 0 ++ (ys ++ (List.replicate 20 (0 : Int)).drop (0 + 20)) := by simp
      have hjn : ∀ (ρ : Env) w', Fr No w w' → hasAll (ctx Tryd.prog w Tryd.f24.ntmps) ρ w' [(4, oi 40 v)] → Calls Tryd.prog 43 #[AV.conc ρ (.own 4 1 0 40)] w' fun e w'' => Below w'.heap.size w' w'' ∧ ∃ B C, e = .returned (AV.conc (ρ.up 18 B C) (.own 18 1 0 20)) ∧ Sits (ρ.up 18 B C) w'' 18 (ob 20 ys) ∧ (Vblk.alive (ρ.up 18 B C) 18 (ob 20 ys) → w'.heap.size ≤ B) := by
        intro ρ w' hf hh
        obtain ⟨A, c, e1, hS, _⟩ := own_Sl hh.1.1 hn
        obtain ⟨ad, rfl⟩ := hS.has (by omega)
        rw [e1]
        have hc := packedE_c w' ad 40 c 20 v hS rfl hdg (by omega)
        rw [← hys] at hc
        exact callG (w := w') Tryd.f24.ntmps 18 20 (fun w1 hf1 => by
          have h1 := packedE_c w1 ad 40 c 20 v (hS.frN hf1) rfl hdg (by omega)
          rw [← hys] at h1
          exact h1) hyl ρ w' (Fr.refl _ _) trivial
      refine calls_vm [.val (.string s)] (fn := Tryd.f24) Tryd.func24 (by kernel_rfl) (by kernel_rfl) (by kernel_rfl) (by simp [AV.okL, AV.ok]) ?_
      refine wpK_loop (n := 400) (m := 0) (nx := 0) (hs := [(2, .row [.ints .u8 20 (List.replicate 20 0)]), (4, .row [.ints .u8 20 (List.replicate 20 0)]), (13, .callM [] (.tup [.own 4 1 0 40, .val (.bool true)]) (some (oi 40 v))), (25, .callM [4] (.own 18 1 0 20) (some (ob 20 ys))), (26, .sub 0 20), (28, .copy ys ys 20)]) (st' := loopAt Tryd.f24 0) (s' := raS s ys false false 0) follows [] [0, 2, 4, 8, 9, 10] [(1, 0), (2, 2)] (And.intro (fun ρ => (rfl : Seg.cells ρ [.ints .u8 20 (List.replicate 20 0)] = (Value.agg (ints .u8 (List.replicate 20 0))).cells.toList)) (And.intro (show Seg.ok No [.ints .u8 20 (List.replicate 20 0)] from ⟨rfl, trivial⟩) (And.intro (fun ρ => (rfl : Seg.cells ρ [.ints .u8 20 (List.replicate 20 0)] = (Value.agg (ints .u8 (List.replicate 20 0))).cells.toList)) (And.intro (show Seg.ok No [.ints .u8 20 (List.replicate 20 0)] from ⟨rfl, trivial⟩) (And.intro (callPar (w := w) Tryd.f24.ntmps 4 40 vc hn) (And.intro (show Seg.ok No (oi 40 v).row from ⟨hn, trivial⟩) (And.intro (show ∀ D : Nat → Prop, D 4 → (∀ k, k ∈ ([] : List Nat) → D k) → AV.ok D (.tup [.own 4 1 0 40, .val (.bool true)]) from fun _ h _ => ⟨h, trivial, trivial⟩) (And.intro (Nat.le_refl 40) (And.intro hjn (And.intro (show Seg.ok No (ob 20 ys).row from ⟨hyl, trivial⟩) (And.intro (show ∀ D : Nat → Prop, D 18 → (∀ k, k ∈ [4] → D k) → AV.ok D (.own 18 1 0 20) from fun _ h _ => h) (And.intro (rfl : (0 : Nat) = 0) (And.intro (rfl : (20 : Nat) = 20) (And.intro (Nat.zero_le 20) (And.intro (Nat.le_refl 20) (And.intro (Nat.succ_pos 19) (And.intro (rfl : 20 = Nat.min 20 20) (And.intro hyl (And.intro (show 0 + 20 ≤ 20 by omega) (And.intro hxs (And.intro hcp (show 0 + 20 ≤ 20 by omega)))))))))))))))))))))) (by kernel_rfl) ?_
      have := ra_round w s r ys hr1 (by omega) K hyl kc 40 0 (by omega) false false (by simp [hasSmall]) (by simp [hasGreat])
      unfold pairR
      cases hcond : (hasSmall r && hasGreat r && strNe s K) with
      | true => rw [hcond] at this; simpa using this
      | false => rw [hcond] at this; simpa using this
    · simp only [h64, if_false]
      obtain ⟨n, hN⟩ : ∃ n, v.length = n := ⟨_, rfl⟩
      have hn := hN
      have hd : (!decide ((n : Int) = 40)) = true := by simp; omega
      refine calls_vm [.val (.string s)] (fn := Tryd.f24) Tryd.func24 (by kernel_rfl) (by kernel_rfl) (by kernel_rfl) (by simp [AV.okL, AV.ok]) ?_
      refine wpK_end (n := 400) (m := 0) (nx := 0) (hs := [(2, .row [.ints .u8 20 (List.replicate 20 0)]), (4, .row [.ints .u8 20 (List.replicate 20 0)]), (13, .callM [] (.tup [.own 4 1 0 n, .val (.bool true)]) (some (oi n v))), (21, .eq (.val (.bool true)))]) (v := .tup [.agg [.ints .u8 20 (List.replicate 20 0)], .val (.int .i64 80)]) follows (And.intro (fun ρ => (rfl : Seg.cells ρ [.ints .u8 20 (List.replicate 20 0)] = (Value.agg (ints .u8 (List.replicate 20 0))).cells.toList)) (And.intro (show Seg.ok No [.ints .u8 20 (List.replicate 20 0)] from ⟨rfl, trivial⟩) (And.intro (fun ρ => (rfl : Seg.cells ρ [.ints .u8 20 (List.replicate 20 0)] = (Value.agg (ints .u8 (List.replicate 20 0))).cells.toList)) (And.intro (show Seg.ok No [.ints .u8 20 (List.replicate 20 0)] from ⟨rfl, trivial⟩) (And.intro (callPar (w := w) Tryd.f24.ntmps 4 n vc hn) (And.intro (show Seg.ok No (oi n v).row from ⟨hn, trivial⟩) (And.intro (show ∀ D : Nat → Prop, D 4 → (∀ k, k ∈ ([] : List Nat) → D k) → AV.ok D (.tup [.own 4 1 0 n, .val (.bool true)]) from fun _ h _ => ⟨h, trivial, trivial⟩) (And.intro (Nat.le_refl n) (congrArg Value.bool hd))))))))) (by kernel_rfl) ?_
      intro ρ w' hf; exact ⟨rfl, hf.to_below⟩
end Go.Proofs.YtkanjdllaikoaaaDoor

