/- Digest of the document. -/
import Derived.Test.YtkanjdllaikoaaaDoorRFil
import Derived.Test.YtkanjdllaikoaaaDoorKRPerm
set_option linter.unusedSimpArgs false
set_option linter.unusedVariables false
namespace Go.Proofs.YtkanjdllaikoaaaDoor
open Go Go.RowKit

def dG0 (L : Nat) (xs : List Int) (a : Nat → B64) (b : Nat) : AS := ⟨[(4, .ptr 1 0), (5, .own 2 1 0 L), (6, .ptr 3 0), (7, .val (.int .i64 ((136 * b : Nat) : Int)))], [(1, ⟨[.ints .u8 32 (List.replicate 32 0)], 29, .arr⟩), (2, ob L xs), (3, ⟨[.ints .u64 25 (lanesI a)], 105, .arr⟩)]⟩
def dG1 (L : Nat) (xs : List Int) (a : Nat → B64) (b : Nat) (k : Int) : AS := ⟨[(4, .ptr 1 0), (5, .own 2 1 0 L), (6, .ptr 3 0), (7, .val (.int .i64 ((136 * b : Nat) : Int))), (8, .val (.int .i64 k))], [(1, ⟨[.ints .u8 32 (List.replicate 32 0)], 29, .arr⟩), (2, ob L xs), (3, ⟨[.ints .u64 25 (lanesI a)], 105, .arr⟩)]⟩
theorem k_shr3 (a : B64) (m : Nat) (h : m < 64) : (bv a).fdiv (2 ^ min (Int.toNat (m : Int)) IntKind.u64.bits) = bv (a >>> m) := by
  have e : min (Int.toNat (m : Int)) IntKind.u64.bits = m := by
    show min (Int.toNat (m : Int)) 64 = m
    rw [Int.toNat_natCast]; omega
  rw [e, ← k_shr a m]
  congr 1
theorem k_xor3 {x y : Int} (a b : B64) (hx : x = bv a) (hy : y = bv b) : IntKind.u64.wrap ((BitVec.ofInt IntKind.u64.bits x ^^^ BitVec.ofInt IntKind.u64.bits y).toNat : Int) = bv (a ^^^ b) := by
  subst hx hy; exact k_xor a b
theorem rpermuteI_c (a : Nat → B64) (w : World) (hT : TurnsIn w) (hR : RoundsIn w) : Calls Tryd.prog 69 #[.agg ((lanesI a).map (Value.int .u64) ++ []).toArray] w fun e w' => e = .returned (.agg ((lanesI (permN a 24)).map (Value.int .u64) ++ []).toArray) ∧ Below w.heap.size w w' := rpermute_c a w hT hR
theorem RoundsIn.stay {w w' : World} (h : RoundsIn w) (hf : Fr No w w') : RoundsIn w' := fun j hj => fr_cell hf (h j hj)
theorem lanesI_okR (a : Nat → B64) : (AV.agg [.ints .u64 25 (lanesI a)]).ok No := ⟨rfl, trivial⟩
/-- What is told of the digest. -/
def dgR (w : World) (X : Nat → B64) (e : Ending) (w' : World) : Prop := e = .returned (.agg ((hashOf X).map (Value.int .u8) ++ []).toArray) ∧ Below w.heap.size w w'
set_option maxHeartbeats 4000000 in
theorem dg_inner (w : World) (L : Nat) (xs : List Int) (a : Nat → B64) (b : Nat) (hxl : xs.length = L) (hL : 136 * b + 136 ≤ L) (hLb : L ≤ 140737488355328) (X : Nat → B64) (hT : TurnsIn w) (hR : RoundsIn w)
    (hnext : wpK (ctx Tryd.prog w Tryd.f52.ntmps) Tryd.f52 (dgR w X) (loopAt Tryd.f52 0) (dG0 L xs (permN (inL a (fun i => xs.getD (136 * b + i) 0) 136) 24) (b + 1))) :
    ∀ (q i : Nat), i + q = 136 → wpK (ctx Tryd.prog w Tryd.f52.ntmps) Tryd.f52 (dgR w X) (loopAt Tryd.f52 1) (dG1 L xs (inL a (fun i => xs.getD (136 * b + i) 0) i) b (i : Int)) := by
  intro q
  induction q with
  | zero =>
    intro i hi
    obtain rfl : i = 136 := by omega
    have hlt : decide (((136 : Nat) : Int) < 136) = false := by simp
    have hw : IntKind.i64.wrap (((136 * b : Nat) : Int) + 136) = ((136 * (b + 1) : Nat) : Int) := by rw [IntKind.wrap_i64]; omega
    generalize inL a (fun i => xs.getD (136 * b + i) 0) 136 = a' at hnext ⊢
    have pc : ∀ w', Fr No w w' → Calls Tryd.prog 69 #[.agg ((lanesI a').map (Value.int .u64) ++ []).toArray] w' fun e w'' => e = .returned (.agg ((lanesI (permN a' 24)).map (Value.int .u64) ++ []).toArray) ∧ Below w'.heap.size w' w'' := fun w' hf => rpermuteI_c a' w' (hT.stay hf) (hR.stay hf)
    refine wpK_loop (n := 400) (m := 0) (nx := 300) (hs := [(21, .eq (.val (.bool false))), (45, .call (.agg [.ints .u64 25 (lanesI (permN a' 24))])), (19, .eq (.val (.int .i64 ((136 * (b + 1) : Nat) : Int))))]) (st' := loopAt Tryd.f52 0) (s' := dG0 L xs (permN a' 24) (b + 1)) follows [] [4, 5, 6, 7] [(1, 1), (2, 2), (3, 3)] (And.intro (congrArg Value.bool hlt) (And.intro pc (And.intro (lanesI_okR (permN a' 24)) (congrArg (Value.int .i64) hw)))) (by kernel_rfl) ?_
    exact hnext
  | succ q ih =>
    intro i hi
    have hlt : decide ((i : Int) < 136) = true := by simp; omega
    have hin : i < 136 := by omega
    have hi8 : i / 8 < 25 := by omega
    have hbi : 136 * b + i < L := by omega
    have hw : IntKind.i64.wrap ((i : Int) + 1) = ((i + 1 : Nat) : Int) := by rw [IntKind.wrap_i64]; omega
    have h1 : IntKind.i64.wrap ((i : Int).tdiv 8) = ((i / 8 : Nat) : Int) := by rw [Int.tdiv_eq_ediv_of_nonneg (by omega), IntKind.wrap_i64]; omega
    have h2 : (i : Int).tmod 8 = ((i % 8 : Nat) : Int) := by rw [Int.tmod_eq_emod_of_nonneg (by omega)]; omega
    have h3 : IntKind.i64.wrap (8 * ((i % 8 : Nat) : Int)) = ((8 * (i % 8) : Nat) : Int) := by rw [IntKind.wrap_i64]; omega
    have h4 : IntKind.u64.wrap ((8 * (i % 8) : Nat) : Int) = ((8 * (i % 8) : Nat) : Int) := by rw [IntKind.wrap_u64]; omega
    have h5 : IntKind.i64.wrap (((136 * b : Nat) : Int) + (i : Int)) = ((136 * b + i : Nat) : Int) := by rw [IntKind.wrap_i64]; omega
    generalize hb : inL a (fun i => xs.getD (136 * b + i) 0) i = c
    have hl := lanesI_at c (i / 8) hi8
    refine wpK_loop (n := 400) (m := 0) (nx := 300) (hs := [(21, .eq (.val (.bool true))), (25, .eq (.val (.int .i64 ((i / 8 : Nat) : Int)))), (27, .eq (.val (.int .i64 ((i / 8 : Nat) : Int)))), (28, .ix (i / 8)), (33, .eq (.val (.int .i64 ((136 * b + i : Nat) : Int)))), (34, .ix (136 * b + i)), (36, .eq (.val (.int .u64 (bv (bl64 (xs.getD (136 * b + i) 0)))))), (38, .eq (.val (.int .i64 ((i % 8 : Nat) : Int)))), (39, .eq (.val (.int .i64 ((8 * (i % 8) : Nat) : Int)))), (40, .eq (.val (.int .u64 ((8 * (i % 8) : Nat) : Int)))), (41, .eq (.val (.int .u64 (bv (bl64 (xs.getD (136 * b + i) 0) <<< (8 * (i % 8))))))), (42, .eq (.val (.int .u64 (bv (c (i / 8) ^^^ (bl64 (xs.getD (136 * b + i) 0) <<< (8 * (i % 8)))))))), (43, .ix (i / 8)), (23, .eq (.val (.int .i64 ((i + 1 : Nat) : Int))))]) (st' := loopAt Tryd.f52 1) (s' := ⟨[(4, .ptr 1 0), (5, .own 2 1 0 L), (6, .ptr 3 0), (7, .val (.int .i64 ((136 * b : Nat) : Int))), (8, .val (.int .i64 ((i + 1 : Nat) : Int)))], [(1, ⟨[.ints .u8 32 (List.replicate 32 0)], 29, .arr⟩), (2, ob L xs), (3, ⟨[.ints .u64 25 ((lanesI c).set (i / 8) (bv (c (i / 8) ^^^ (bl64 (xs.getD (136 * b + i) 0) <<< (8 * (i % 8))))))], 105, .arr⟩)]⟩) follows [] [4, 5, 6, 7, 8] [(1, 1), (2, 2), (3, 3)] (And.intro (congrArg Value.bool hlt) (And.intro (congrArg (Value.int .i64) h1) (And.intro (congrArg (Value.int .i64) h1) (And.intro (rfl : ((i / 8 : Nat) : Int) = ((i / 8 : Nat) : Int)) (And.intro hi8 (And.intro hi8 (And.intro (congrArg (Value.int .i64) h5) (And.intro (rfl : ((136 * b + i : Nat) : Int) = ((136 * b + i : Nat) : Int)) (And.intro hbi (And.intro hbi (And.intro hbi (And.intro (congrArg (Value.int .u64) (wrap_bl (xs.getD (136 * b + i) 0))) (And.intro (congrArg (Value.int .i64) h2) (And.intro (congrArg (Value.int .i64) h3) (And.intro (congrArg (Value.int .u64) h4) (And.intro (congrArg (Value.int .u64) (k_shl' (bl64 (xs.getD (136 * b + i) 0)) (8 * (i % 8)) (by omega))) (And.intro (congrArg (Value.int .u64) (k_xor3 (c (i / 8)) (bl64 (xs.getD (136 * b + i) 0) <<< (8 * (i % 8))) hl rfl)) (And.intro (rfl : ((i / 8 : Nat) : Int) = ((i / 8 : Nat) : Int)) (And.intro hi8 (And.intro hi8 (congrArg (Value.int .i64) hw))))))))))))))))))))) (by kernel_rfl) ?_
    rw [← hb]
    have e := inL_succ a (fun i => xs.getD (136 * b + i) 0) i hin
    rw [e]
    exact ih (i + 1) (by omega)
set_option maxHeartbeats 8000000 in
set_option maxRecDepth 100000 in
theorem dg_outer (w : World) (xs : List Int) (nb L : Nat) (hL : L = 136 * nb) (hxl : xs.length = L) (hLb : L ≤ 140737488355328) (hT : TurnsIn w) (hR : RoundsIn w) :
    ∀ (q b : Nat), b + q = nb → wpK (ctx Tryd.prog w Tryd.f52.ntmps) Tryd.f52 (dgR w (absN (fun i => xs.getD i 0) nb)) (loopAt Tryd.f52 0) (dG0 L xs (absN (fun i => xs.getD i 0) b) b) := by
  intro q
  induction q with
  | zero =>
    intro b hb
    obtain rfl : b = nb := by omega
    have hlt : decide (((136 * b : Nat) : Int) < (L : Int)) = false := by simp; omega
    generalize absN (fun i => xs.getD i 0) b = X
    refine wpK_end (n := 2000) (m := 33) (nx := 300) (hs := [(17, .eq (.val (.bool false))), (9, .row [.ints .u8 32 (List.replicate 32 0)]), (59, .eq (.val (.int .u64 (bv (X 0 >>> 0))))), (59, .eq (.val (.int .u64 (bv (X 0 >>> 8))))), (59, .eq (.val (.int .u64 (bv (X 0 >>> 16))))), (59, .eq (.val (.int .u64 (bv (X 0 >>> 24))))), (59, .eq (.val (.int .u64 (bv (X 0 >>> 32))))), (59, .eq (.val (.int .u64 (bv (X 0 >>> 40))))), (59, .eq (.val (.int .u64 (bv (X 0 >>> 48))))), (59, .eq (.val (.int .u64 (bv (X 0 >>> 56))))), (59, .eq (.val (.int .u64 (bv (X 1 >>> 0))))), (59, .eq (.val (.int .u64 (bv (X 1 >>> 8))))), (59, .eq (.val (.int .u64 (bv (X 1 >>> 16))))), (59, .eq (.val (.int .u64 (bv (X 1 >>> 24))))), (59, .eq (.val (.int .u64 (bv (X 1 >>> 32))))), (59, .eq (.val (.int .u64 (bv (X 1 >>> 40))))), (59, .eq (.val (.int .u64 (bv (X 1 >>> 48))))), (59, .eq (.val (.int .u64 (bv (X 1 >>> 56))))), (59, .eq (.val (.int .u64 (bv (X 2 >>> 0))))), (59, .eq (.val (.int .u64 (bv (X 2 >>> 8))))), (59, .eq (.val (.int .u64 (bv (X 2 >>> 16))))), (59, .eq (.val (.int .u64 (bv (X 2 >>> 24))))), (59, .eq (.val (.int .u64 (bv (X 2 >>> 32))))), (59, .eq (.val (.int .u64 (bv (X 2 >>> 40))))), (59, .eq (.val (.int .u64 (bv (X 2 >>> 48))))), (59, .eq (.val (.int .u64 (bv (X 2 >>> 56))))), (59, .eq (.val (.int .u64 (bv (X 3 >>> 0))))), (59, .eq (.val (.int .u64 (bv (X 3 >>> 8))))), (59, .eq (.val (.int .u64 (bv (X 3 >>> 16))))), (59, .eq (.val (.int .u64 (bv (X 3 >>> 24))))), (59, .eq (.val (.int .u64 (bv (X 3 >>> 32))))), (59, .eq (.val (.int .u64 (bv (X 3 >>> 40))))), (59, .eq (.val (.int .u64 (bv (X 3 >>> 48))))), (59, .eq (.val (.int .u64 (bv (X 3 >>> 56)))))]) (v := .agg [.ints .u8 32 (hashOf X)]) follows (And.intro (Nat.le_refl L) (And.intro (congrArg Value.bool hlt) (And.intro (fun ρ => (rfl : Seg.cells ρ [.ints .u8 32 (List.replicate 32 0)] = (Value.agg (ints .u8 (List.replicate 32 0))).cells.toList)) (And.intro (show Seg.ok No [.ints .u8 32 (List.replicate 32 0)] from ⟨rfl, trivial⟩) (And.intro (congrArg (Value.int .u64) (k_shr3 (X 0) 0 (by omega))) (And.intro (congrArg (Value.int .u64) (k_shr3 (X 0) 8 (by omega))) (And.intro (congrArg (Value.int .u64) (k_shr3 (X 0) 16 (by omega))) (And.intro (congrArg (Value.int .u64) (k_shr3 (X 0) 24 (by omega))) (And.intro (congrArg (Value.int .u64) (k_shr3 (X 0) 32 (by omega))) (And.intro (congrArg (Value.int .u64) (k_shr3 (X 0) 40 (by omega))) (And.intro (congrArg (Value.int .u64) (k_shr3 (X 0) 48 (by omega))) (And.intro (congrArg (Value.int .u64) (k_shr3 (X 0) 56 (by omega))) (And.intro (congrArg (Value.int .u64) (k_shr3 (X 1) 0 (by omega))) (And.intro (congrArg (Value.int .u64) (k_shr3 (X 1) 8 (by omega))) (And.intro (congrArg (Value.int .u64) (k_shr3 (X 1) 16 (by omega))) (And.intro (congrArg (Value.int .u64) (k_shr3 (X 1) 24 (by omega))) (And.intro (congrArg (Value.int .u64) (k_shr3 (X 1) 32 (by omega))) (And.intro (congrArg (Value.int .u64) (k_shr3 (X 1) 40 (by omega))) (And.intro (congrArg (Value.int .u64) (k_shr3 (X 1) 48 (by omega))) (And.intro (congrArg (Value.int .u64) (k_shr3 (X 1) 56 (by omega))) (And.intro (congrArg (Value.int .u64) (k_shr3 (X 2) 0 (by omega))) (And.intro (congrArg (Value.int .u64) (k_shr3 (X 2) 8 (by omega))) (And.intro (congrArg (Value.int .u64) (k_shr3 (X 2) 16 (by omega))) (And.intro (congrArg (Value.int .u64) (k_shr3 (X 2) 24 (by omega))) (And.intro (congrArg (Value.int .u64) (k_shr3 (X 2) 32 (by omega))) (And.intro (congrArg (Value.int .u64) (k_shr3 (X 2) 40 (by omega))) (And.intro (congrArg (Value.int .u64) (k_shr3 (X 2) 48 (by omega))) (And.intro (congrArg (Value.int .u64) (k_shr3 (X 2) 56 (by omega))) (And.intro (congrArg (Value.int .u64) (k_shr3 (X 3) 0 (by omega))) (And.intro (congrArg (Value.int .u64) (k_shr3 (X 3) 8 (by omega))) (And.intro (congrArg (Value.int .u64) (k_shr3 (X 3) 16 (by omega))) (And.intro (congrArg (Value.int .u64) (k_shr3 (X 3) 24 (by omega))) (And.intro (congrArg (Value.int .u64) (k_shr3 (X 3) 32 (by omega))) (And.intro (congrArg (Value.int .u64) (k_shr3 (X 3) 40 (by omega))) (And.intro (congrArg (Value.int .u64) (k_shr3 (X 3) 48 (by omega))) (congrArg (Value.int .u64) (k_shr3 (X 3) 56 (by omega)))))))))))))))))))))))))))))))))))))) (by kernel_rfl) ?_
    intro ρ w' hf; exact ⟨rfl, hf.to_below⟩
  | succ q ih =>
    intro b hb
    have hlt : decide (((136 * b : Nat) : Int) < (L : Int)) = true := by simp; omega
    refine wpK_loop (n := 400) (m := 0) (nx := 300) (hs := [(17, .eq (.val (.bool true)))]) (st' := loopAt Tryd.f52 1) (s' := dG1 L xs (inL (absN (fun i => xs.getD i 0) b) (fun i => xs.getD (136 * b + i) 0) 0) b ((0 : Nat) : Int)) follows [] [4, 5, 6, 7, 8] [(1, 1), (2, 2), (3, 3)] (And.intro (Nat.le_refl L) (congrArg Value.bool hlt)) (by kernel_rfl) ?_
    exact dg_inner w L xs _ b hxl (by omega) hLb _ hT hR (ih (b + 1) (by omega)) 136 0 (by omega)
theorem rdigest_c (w : World) (A : Option Addr) (n c : Nat) (t : List Int) (hS : Sl .u8 w A n t) (hpos : 0 < n) (hn : n ≤ 100000000000000) (hT : TurnsIn w) (hR : RoundsIn w) :
    Calls Tryd.prog 52 #[.slice A n c, .int .u8 1] w (dgR w (digL t 1)) := by
  have hl := hS.1
  have hpl := padL_len t
  obtain ⟨xs, hxs⟩ : ∃ xs, xs = padL t := ⟨_, rfl⟩
  obtain ⟨L, hLL⟩ : ∃ L, L = 136 * (t.length / 136 + 1) := ⟨_, rfl⟩
  have fc : ∀ w', Fr No w w' → Calls Tryd.prog 68 #[.slice A n c, .int .u8 1] w' (Gives w' xs) := fun w' hf => hxs ▸ filled_c w' A n c t (hS.frN hf) hpos hn
  rw [← hxs, ← hLL] at hpl
  have hdig : digL t 1 = absN (fun i => xs.getD i 0) (t.length / 136 + 1) := by
    unfold digL
    exact absN_congr _ fun i hi => by rw [hxs]; exact (padL_at t i hi).symm
  rw [hdig]
  refine calls_vm [.val (.slice A n c), .val (.int .u8 1)] (fn := Tryd.f52) Tryd.func52 (by kernel_rfl) (by kernel_rfl) (by kernel_rfl) (by simp [AV.okL, AV.ok]) ?_
  refine wpK_loop (n := 400) (m := 0) (nx := 0) (hs := [(4, .row [.ints .u8 32 (List.replicate 32 0)]), (13, .callM [] (.own 3 1 0 L) (some (ob L xs))), (6, .row [.ints .u64 25 (lanesI (fun _ => 0))])]) (st' := loopAt Tryd.f52 0) (s' := dG0 L xs (absN (fun i => xs.getD i 0) 0) 0) follows [] [4, 5, 6, 7] [(1, 0), (2, 3), (3, 5)] (And.intro (fun ρ => (rfl : Seg.cells ρ [.ints .u8 32 (List.replicate 32 0)] = (Value.agg (ints .u8 (List.replicate 32 0))).cells.toList)) (And.intro (show Seg.ok No [.ints .u8 32 (List.replicate 32 0)] from ⟨rfl, trivial⟩) (And.intro (callG (w := w) Tryd.f52.ntmps 3 L fc hpl) (And.intro (show Seg.ok No [.ints .u8 L xs] from ⟨hpl, trivial⟩) (And.intro (show ∀ D : Nat → Prop, D 3 → (∀ k, k ∈ ([] : List Nat) → D k) → AV.ok D (.own 3 1 0 L) from fun _ h _ => h) (And.intro (fun ρ => (rfl : Seg.cells ρ [.ints .u64 25 (lanesI (fun _ => 0))] = (Value.agg (ints .u64 (List.replicate 25 0))).cells.toList)) (show Seg.ok No [.ints .u64 25 (lanesI (fun _ => 0))] from ⟨rfl, trivial⟩))))))) (by kernel_rfl) ?_
  exact dg_outer w xs (t.length / 136 + 1) L hLL hpl (by omega) hT hR (t.length / 136 + 1) 0 (by omega)
theorem rof_c (w : World) (A : Option Addr) (n c : Nat) (t : List Int) (hS : Sl .u8 w A n t) (hpos : 0 < n) (hn : n ≤ 100000000000000) (hT : TurnsIn w) (hR : RoundsIn w) :
    Calls Tryd.prog 37 #[.slice A n c] w (dgR w (digL t 1)) := by
  have dc : ∀ w', Fr No w w' → Calls Tryd.prog 52 #[.slice A n c, .int .u8 1] w' (dgR w' (digL t 1)) := fun w' hf => rdigest_c w' A n c t (hS.frN hf) hpos hn (hT.stay hf) (hR.stay hf)
  unfold dgR at dc
  generalize digL t 1 = X at dc ⊢
  refine calls_vm [.val (.slice A n c)] (fn := Tryd.f37) Tryd.func37 (by kernel_rfl) (by kernel_rfl) (by kernel_rfl) (by simp [AV.okL, AV.ok]) ?_
  refine wpK_end (n := 400) (m := 0) (nx := 0) (hs := [(2, .row [.ints .u8 32 (List.replicate 32 0)]), (4, .call (.agg [.ints .u8 32 (hashOf X)]))]) (v := .agg [.ints .u8 32 (hashOf X)]) follows (And.intro (fun ρ => (rfl : Seg.cells ρ [.ints .u8 32 (List.replicate 32 0)] = (Value.agg (ints .u8 (List.replicate 32 0))).cells.toList)) (And.intro (show Seg.ok No [.ints .u8 32 (List.replicate 32 0)] from ⟨rfl, trivial⟩) (And.intro dc (show (AV.agg [.ints .u8 32 (hashOf X)]).ok No from ⟨rfl, trivial⟩)))) (by kernel_rfl) ?_
  intro ρ w' hf; exact ⟨rfl, hf.to_below⟩
end Go.Proofs.YtkanjdllaikoaaaDoor

