/- u256.Text: the rounds. -/
import Derived.Test.YthgnmpjcbicdhaaDoorTxm
import Derived.Test.YthgnmpjcbicdhaaDoorBlO
import Derived.Test.YthgnmpjcbicdhaaDoorLay
import Derived.Test.YthgnmpjcbicdhaaDoorCmp
import Derived.Test.YthgnmpjcbicdhaaDoorFmU
set_option linter.unusedSimpArgs false
set_option linter.unusedVariables false
namespace Go.Proofs.YthgnmpjcbicdhaaDoor
open Go Go.RowKit

def strV (l : List UInt8) : Value := .string ⟨l.toArray⟩
abbrev pb (k : Nat) (ps : List (List UInt8)) : Vblk := ⟨[.vals k (ps.map strV)], 9, .own 1⟩
abbrev xb (v : Nat) : Vblk := ⟨[.ints .u64 4 (limbs v)], 24, .arr⟩
/-- The table of powers, at the place that is read. -/
def TensIn (w : World) : Prop := ∀ j, j < 20 → w.cell? ⟨0, j, none⟩ = some (.int .u64 ((10 ^ j : Nat) : Int))
abbrev ldaT (t : TypeId) (A : Addr) : Sem Next := do pure (.value (← Instr.loadAt t (.pointer (some A))))
theorem tab_load {P : Program} {w : World} {t : TypeId} {d : TypeDesc} (hu : P.underlying t = some d) (hd : d.isRow = false) {A : Addr} {v : Value} (h : w.cell? A = some v) :
    ∀ (ρ : Env) (w' : World), Fr No w w' → (ldaT t A).run P w' = .ok (.value v) w' := by
  intro ρ w' hf
  have := run_loadVar_one (P := P) w' A t d _ hu hd (fr_cellX hf h)
  unfold ldaT
  simp [Instr.loadAt, Instr.sureAddr, this]
abbrev ixT (t : TypeId) (A : Addr) (i : Int) : Sem Next := do pure (.value (← Instr.indexAt t (.pointer (some A)) (.int .i64 i)))
theorem tab_index {P : Program} {w : World} {t e : TypeId} {n g : Nat} (hu : P.underlying t = some (.array n e)) (hs : (P.info? e).map (·.size) = some 1) {i : Nat} (hi : i < n) :
    ∀ (ρ : Env) (w' : World), Fr No w w' → (ixT t ⟨g, 0, none⟩ (i : Int)).run P w' = .ok (.value (.pointer (some ⟨g, i, none⟩))) w' := by
  intro ρ w' hf
  have hsz : (sizeOf e).run P w' = .ok 1 w' := by
    cases hq : P.info? e with
    | none => rw [hq] at hs; cases hs
    | some inf =>
      rw [hq] at hs
      have hs : inf.size = 1 := by simpa using hs
      exact sizeA_run (Γ := ctx P w 0) (by unfold sizeA; show (match P.info? e with | some i => _ | none => _) = _; rw [hq, ← hs]) w'
  have h1 : (0 : Int) ≤ (i : Int) ∧ (i : Int) < (n : Int) := by omega
  unfold ixT
  simp [Instr.indexAt, asIntOf, run_underlying hu, Instr.sureAddr, hsz, h1, hi, add_at]
theorem infU64 : (Tryd.prog.info? 22).map (·.size) = some 1 := by kernel_rfl
theorem TensIn.fr {w w' : World} (h : TensIn w) (hf : Fr No w w') : TensIn w' := fun j hj => fr_cellX hf (h j hj)
abbrev catG (a b : ByteArray) : Sem Next := do pure (.value (← binOp .add 9 (.string a) (.string b)))
theorem cat_run (w : World) (a b : ByteArray) (h : a.size + b.size ≤ 9000000000000000000) : (catG a b).run Tryd.prog w = .ok (.value (.string (a ++ b))) w := by
  have h1 : ¬ ((a.size + b.size : Nat) : Int) > IntKind.i64.max := by
    have : IntKind.i64.max = 9223372036854775807 := rfl
    omega
  unfold catG
  simp only [binOp, Op.stringOp]
  rw [if_neg h1]
  rfl
theorem ba_app (l m : List UInt8) : (⟨l.toArray⟩ ++ ⟨m.toArray⟩ : ByteArray) = ⟨(l ++ m).toArray⟩ := by
  apply ByteArray.ext
  simp
theorem eqU_ne (x : Nat) (hx : x < T256) (h : x ≠ 0) (w : World) : (Op.equal 24 (U x) (.agg #[.int .u64 0, .int .u64 0, .int .u64 0, .int .u64 0])).run Tryd.prog w = .ok false w := by
  have e := run_eq_U hx T256_pos w
  rw [decide_eq_false h] at e
  rw [← U_zero] at e
  exact e
theorem eqU_zz (w : World) : (Op.equal 24 (U 0) (.agg #[.int .u64 0, .int .u64 0, .int .u64 0, .int .u64 0])).run Tryd.prog w = .ok true w := by
  have e := run_eq_U T256_pos T256_pos w
  rw [← U_zero] at e
  exact e
def tS (x k : Nat) : List (List UInt8) → AS := fun ps => ⟨[(1, .ptr 1 0), (3, .own 2 1 0 k)], [(1, xb x), (2, pb k ps)]⟩
def tI (cs : List Int) (r i : Int) (k : Nat) (ps : List (List UInt8)) : AS := ⟨[(1, .ptr 1 0), (3, .own 2 1 0 k), (4, .val (.int .u64 r)), (5, .val (.int .i64 i))], [(1, ⟨[.ints .u64 4 cs], 24, .arr⟩), (2, pb k ps)]⟩
theorem strV_one (ps : List (List UInt8)) : ∀ v ∈ ps.map strV, v.oneCell' = true := by
  intro v hv
  obtain ⟨p, _, rfl⟩ := List.mem_map.1 hv
  rfl
theorem dd_size (n : Nat) : (⟨(Lib.decDigits n).toArray⟩ : ByteArray).size = Lib.nDigits n := by
  show (Lib.decDigits n).toArray.size = _
  rw [List.size_toArray, Lib.decDigits_length]
theorem partT_len (x : Nat) : (partT x).length ≤ 19 := by
  have hr : x % 10000000000000000000 < 10 ^ (18 + 1) := Nat.mod_lt _ (by decide)
  have := nd_le hr
  unfold partT
  split
  · rw [Lib.decDigits_length]; omega
  · rw [List.length_append, List.length_replicate, Lib.decDigits_length]; omega
set_option maxHeartbeats 4000000 in
theorem tx_round (w : World) (hT : TensIn w) (htab : Lib.TabIs Tryd.prog w "internal/strconv.uint64pow10" .u64 Lib.pow10Tab) (x0 : Nat) (R : Ending → World → Prop)
    (hk : ∀ (k : Nat) (ps : List (List UInt8)), k ≤ 5 → ps.length = k → flatR ps = Lib.decDigits x0 → (∀ p ∈ ps, p.length ≤ 19) → wpK (ctx Tryd.prog w Tryd.f8.ntmps) Tryd.f8 R (regAt Tryd.f8 12) (tS 0 k ps)) :
    ∀ (q k x : Nat) (ps : List (List UInt8)), k + q = 5 → x < 10000000000000000000 ^ q → x < T256 → ps.length = k → TInv x0 x ps → (∀ p ∈ ps, p.length ≤ 19) → wpK (ctx Tryd.prog w Tryd.f8.ntmps) Tryd.f8 R (loopAt Tryd.f8 0) (tS x k ps) := by
  intro q
  induction q with
  | zero =>
    intro k x ps hk5 hx hx2 hl hi hp
    have h0 : x = 0 := by simpa using hx
    subst h0
    have hfl : flatR ps = Lib.decDigits x0 := by
      rcases hi with ⟨h, _⟩ | ⟨_, h⟩
      · exact absurd rfl h
      · exact h
    refine wpK_loop (n := 400) (m := 0) (nx := 0) (hs := [(11, .cmp true), (88888, .subE)]) (st' := regAt Tryd.f8 12) (s' := tS 0 k ps) follows [] [1, 3] [(1, 1), (2, 2)] (fun w => eqU_zz w) (by kernel_rfl) ?_
    exact hk k ps (by omega) hl hfl hp
  | succ q ih =>
    intro k x ps hk5 hx hx2 hl hi hp
    by_cases h0 : x = 0
    · subst h0
      have hfl : flatR ps = Lib.decDigits x0 := by
        rcases hi with ⟨h, _⟩ | ⟨_, h⟩
        · exact absurd rfl h
        · exact h
      refine wpK_loop (n := 400) (m := 0) (nx := 0) (hs := [(11, .cmp true), (88888, .subE)]) (st' := regAt Tryd.f8 12) (s' := tS 0 k ps) follows [] [1, 3] [(1, 1), (2, 2)] (fun w => eqU_zz w) (by kernel_rfl) ?_
      exact hk k ps (by omega) hl hfl hp
    · obtain ⟨y, hy⟩ : ∃ y, y = x / 10000000000000000000 := ⟨_, rfl⟩
      have hy2 : y < T256 := hy ▸ Nat.lt_of_le_of_lt (Nat.div_le_self _ _) hx2
      have hyq : y < 10000000000000000000 ^ q := by
        rw [hy]
        apply Nat.div_lt_of_lt_mul
        rw [Nat.mul_comm, ← Nat.pow_succ]
        exact hx
      have d3 : ∀ w' : World, Calls Tryd.prog 22 #[.int .u64 0, .int .u64 (L x 3), .int .u64 10000000000000000000] w' fun e w'' => e = .returned (.tuple #[.int .u64 (L y 3), .int .u64 ((Rk x 3 : Nat) : Int)]) ∧ Below w'.heap.size w' w'' := by
        intro w'
        have h := dvk_c x 3 w'
        rw [rk_top x hx2, ← hy] at h
        exact h
      have dk : ∀ (i : Nat) (w' : World), Calls Tryd.prog 22 #[.int .u64 ((Rk x (i + 1) : Nat) : Int), .int .u64 (L x i), .int .u64 10000000000000000000] w' fun e w'' => e = .returned (.tuple #[.int .u64 (L y i), .int .u64 ((Rk x i : Nat) : Int)]) ∧ Below w'.heap.size w' w'' := by
        intro i w'
        have h := dvk_c x i w'
        rw [← hy] at h
        exact h
      have hix : ∀ (ρ : Env) (w' : World), Fr No w w' → (ixT 47 ⟨0, 0, none⟩ 19).run Tryd.prog w' = .ok (.value (.pointer (some ⟨0, 19, none⟩))) w' := tab_index (w := w) (g := 0) (i := 19) Tryd.underlying47 infU64 (by decide)
      have hld : ∀ (ρ : Env) (w' : World), Fr No w w' → (ldaT 22 ⟨0, 19, none⟩).run Tryd.prog w' = .ok (.value (.int .u64 10000000000000000000)) w' := tab_load Tryd.underlying22 rfl (hT 19 (by decide))
      obtain ⟨r, hr⟩ : ∃ r, r = Rk x 0 := ⟨_, rfl⟩
      have hrm : r = x % 10000000000000000000 := by rw [hr, rk_bot]
      have hr64 : r < 18446744073709551616 := Nat.lt_trans (hr ▸ rk_lt x 0) (by decide)
      have hfm : ∀ w' : World, Fr No w w' → Calls Tryd.prog 23 #[.int .u64 (r : Int), .int .i64 10] w' fun e w'' => e = .returned (.string ⟨(Lib.decDigits r).toArray⟩) ∧ Below w'.heap.size w' w'' := fun w' hf => fmt_c r hr64 w' (tabIs_fr htab hf)
      have hnd : Lib.nDigits r ≤ 19 := nd_le (k := 18) (Nat.lt_of_lt_of_le (hr ▸ rk_lt x 0) (Nat.le_refl _))
      refine wpK_loop (n := 400) (m := 0) (nx := 0) (hs := [(11, .cmp false)]) (st' := loopAt Tryd.f8 1) (s' := tI [L x 0, L x 1, L x 2, L x 3] 0 3 k ps) follows [] [1, 3, 4, 5] [(1, 1), (2, 2)] (fun w => eqU_ne x hx2 h0 w) (by kernel_rfl) ?_
      refine wpK_loop (n := 400) (m := 0) (nx := 0) (hs := [(22, .as (.val (.pointer (some ⟨0, 19, none⟩)))), (23, .as (.val (.int .u64 10000000000000000000))), (24, .call (.tup [.val (.int .u64 (L y 3)), .val (.int .u64 ((Rk x 3 : Nat) : Int))])), (15, .eq (.val (.int .i64 2)))]) (st' := loopAt Tryd.f8 1) (s' := tI [L x 0, L x 1, L x 2, L y 3] ((Rk x 3 : Nat) : Int) 2 k ps) follows [] [1, 3, 4, 5] [(1, 1), (2, 2)] (And.intro hix (And.intro hld (And.intro (vcall w (fun w => d3 w)) (And.intro (show AV.ok No (.tup [.val (.int .u64 (L y 3)), .val (.int .u64 ((Rk x 3 : Nat) : Int))]) from ⟨trivial, trivial, trivial⟩) (congrArg (Value.int .i64) (show IntKind.i64.wrap (3 - 1) = 2 by decide)))))) (by kernel_rfl) ?_
      refine wpK_loop (n := 400) (m := 0) (nx := 0) (hs := [(22, .as (.val (.pointer (some ⟨0, 19, none⟩)))), (23, .as (.val (.int .u64 10000000000000000000))), (24, .call (.tup [.val (.int .u64 (L y 2)), .val (.int .u64 ((Rk x 2 : Nat) : Int))])), (15, .eq (.val (.int .i64 1)))]) (st' := loopAt Tryd.f8 1) (s' := tI [L x 0, L x 1, L y 2, L y 3] ((Rk x 2 : Nat) : Int) 1 k ps) follows [] [1, 3, 4, 5] [(1, 1), (2, 2)] (And.intro hix (And.intro hld (And.intro (vcall w (fun w => dk 2 w)) (And.intro (show AV.ok No (.tup [.val (.int .u64 (L y 2)), .val (.int .u64 ((Rk x 2 : Nat) : Int))]) from ⟨trivial, trivial, trivial⟩) (congrArg (Value.int .i64) (show IntKind.i64.wrap (2 - 1) = 1 by decide)))))) (by kernel_rfl) ?_
      refine wpK_loop (n := 400) (m := 0) (nx := 0) (hs := [(22, .as (.val (.pointer (some ⟨0, 19, none⟩)))), (23, .as (.val (.int .u64 10000000000000000000))), (24, .call (.tup [.val (.int .u64 (L y 1)), .val (.int .u64 ((Rk x 1 : Nat) : Int))])), (15, .eq (.val (.int .i64 0)))]) (st' := loopAt Tryd.f8 1) (s' := tI [L x 0, L y 1, L y 2, L y 3] ((Rk x 1 : Nat) : Int) 0 k ps) follows [] [1, 3, 4, 5] [(1, 1), (2, 2)] (And.intro hix (And.intro hld (And.intro (vcall w (fun w => dk 1 w)) (And.intro (show AV.ok No (.tup [.val (.int .u64 (L y 1)), .val (.int .u64 ((Rk x 1 : Nat) : Int))]) from ⟨trivial, trivial, trivial⟩) (congrArg (Value.int .i64) (show IntKind.i64.wrap (1 - 1) = 0 by decide)))))) (by kernel_rfl) ?_
      refine wpK_loop (n := 400) (m := 0) (nx := 0) (hs := [(22, .as (.val (.pointer (some ⟨0, 19, none⟩)))), (23, .as (.val (.int .u64 10000000000000000000))), (24, .call (.tup [.val (.int .u64 (L y 0)), .val (.int .u64 ((Rk x 0 : Nat) : Int))])), (15, .eq (.val (.int .i64 (-1))))]) (st' := loopAt Tryd.f8 1) (s' := tI [L y 0, L y 1, L y 2, L y 3] ((Rk x 0 : Nat) : Int) (-1) k ps) follows [] [1, 3, 4, 5] [(1, 1), (2, 2)] (And.intro hix (And.intro hld (And.intro (vcall w (fun w => dk 0 w)) (And.intro (show AV.ok No (.tup [.val (.int .u64 (L y 0)), .val (.int .u64 ((Rk x 0 : Nat) : Int))]) from ⟨trivial, trivial, trivial⟩) (congrArg (Value.int .i64) (show IntKind.i64.wrap (0 - 1) = (-1) by decide)))))) (by kernel_rfl) ?_
      rw [← hr]
      by_cases hy0 : y = 0
      · subst hy0
        have hpt : partT x = Lib.decDigits r := by unfold partT; rw [if_pos hy.symm, hrm]
        have hvs : ∀ ρ, Seg.cells ρ [.vals (k + 1) ((ps ++ [Lib.decDigits r]).map strV)] = Seg.cells ρ [.vals k (ps.map strV)] ++ Seg.cells ρ [.cell (.val (.string ⟨(Lib.decDigits r).toArray⟩))] := by
          intro ρ; simp [Seg.cells, Seg.cell1, AV.conc, strV]
        have hok : Seg.ok No [.vals (k + 1) ((ps ++ [Lib.decDigits r]).map strV)] := ⟨⟨by simp [hl], strV_one _⟩, trivial⟩
        have hby : times (k + 1) 16 ≤ 140737488355328 := by simp only [times_eq]; omega
        refine wpK_loop (n := 400) (m := 0) (nx := 100) (hs := [(29, .call (.val (.string ⟨(Lib.decDigits r).toArray⟩))), (32, .cmp true), (42, .app [.vals (k + 1) ((ps ++ [Lib.decDigits r]).map strV)] (k + 1))]) (st' := loopAt Tryd.f8 0) (s' := tS 0 (k + 1) (ps ++ [Lib.decDigits r])) follows [] [1, 3] [(1, 1), (2, 111)] (And.intro hfm (And.intro (fun w => eqU_zz w) (And.intro hvs (And.intro hok (And.intro (rfl : k + 1 = k + 1) (And.intro (Nat.zero_add k) hby)))))) (by kernel_rfl) ?_
        have ht := tinv_step h0 hi
        rw [hpt, ← hy] at ht
        exact ih (k + 1) 0 _ (by omega) hyq hy2 (by simp [hl]) ht (by
          intro p hp2
          rcases List.mem_append.1 hp2 with h | h
          · exact hp p h
          · rw [List.mem_singleton.1 h, ← hpt]; exact partT_len x)
      · obtain ⟨n, hn⟩ : ∃ n, n = 19 - Lib.nDigits r := ⟨_, rfl⟩
        have hpt : partT x = List.replicate n 48 ++ Lib.decDigits r := by unfold partT; rw [if_neg (hy ▸ hy0), hrm, hn, hrm]
        have hsz : (⟨(Lib.decDigits r).toArray⟩ : ByteArray).size = Lib.nDigits r := dd_size r
        have h35 : IntKind.i64.wrap (19 - ((⟨(Lib.decDigits r).toArray⟩ : ByteArray).size : Int)) = ((n : Nat) : Int) := by rw [hsz, IntKind.wrap_i64, hn]; omega
        have hrep : ∀ w' : World, Calls Tryd.prog 24 #[.string ⟨#[48]⟩, .int .i64 (n : Int)] w' fun e w'' => e = .returned (.string ⟨(List.replicate n 48).toArray⟩) ∧ Below w'.heap.size w' w'' := by
          intro w'
          have h := Tryd.strings_Repeat ⟨#[48]⟩ n w' (by omega) (by show 1 * n ≤ _; omega)
          rw [show (⟨#[48]⟩ : ByteArray).data.toList = [48] from rfl, rep48] at h
          exact h
        have hcat : ∀ (ρ : Env) (w' : World), Fr No w w' → (catG ⟨(List.replicate n 48).toArray⟩ ⟨(Lib.decDigits r).toArray⟩).run Tryd.prog w' = .ok (.value (.string ⟨(List.replicate n 48 ++ Lib.decDigits r).toArray⟩)) w' := by
          intro ρ w' _
          rw [cat_run w' _ _ (by rw [hsz]; show (List.replicate n 48).toArray.size + _ ≤ _; simp; omega), ba_app]
        obtain ⟨p, hpe⟩ : ∃ p, p = List.replicate n 48 ++ Lib.decDigits r := ⟨_, rfl⟩
        rw [← hpe] at hcat hpt
        have hvs : ∀ ρ, Seg.cells ρ [.vals (k + 1) ((ps ++ [p]).map strV)] = Seg.cells ρ [.vals k (ps.map strV)] ++ Seg.cells ρ [.cell (.val (.string ⟨p.toArray⟩))] := by
          intro ρ; simp [Seg.cells, Seg.cell1, AV.conc, strV]
        have hok : Seg.ok No [.vals (k + 1) ((ps ++ [p]).map strV)] := ⟨⟨by simp [hl], strV_one _⟩, trivial⟩
        have hby : times (k + 1) 16 ≤ 140737488355328 := by simp only [times_eq]; omega
        refine wpK_loop (n := 400) (m := 0) (nx := 100) (hs := [(29, .call (.val (.string ⟨(Lib.decDigits r).toArray⟩))), (32, .cmp false), (35, .eq (.val (.int .i64 ((n : Nat) : Int)))), (36, .call (.val (.string ⟨(List.replicate n 48).toArray⟩))), (38, .as (.val (.string ⟨p.toArray⟩))), (42, .app [.vals (k + 1) ((ps ++ [p]).map strV)] (k + 1))]) (st' := loopAt Tryd.f8 0) (s' := tS y (k + 1) (ps ++ [p])) follows [] [1, 3] [(1, 1), (2, 118)] (And.intro hfm (And.intro (fun w => eqU_ne y hy2 hy0 w) (And.intro (congrArg (Value.int .i64) h35) (And.intro (vcall w (fun w => hrep w)) (And.intro hcat (And.intro hvs (And.intro hok (And.intro (rfl : k + 1 = k + 1) (And.intro (Nat.zero_add k) hby))))))))) (by kernel_rfl) ?_
        have ht := tinv_step h0 hi
        rw [hpt, ← hy] at ht
        exact ih (k + 1) y _ (by omega) hyq hy2 (by simp [hl]) ht (by
          intro p' hp2
          rcases List.mem_append.1 hp2 with h | h
          · exact hp p' h
          · rw [List.mem_singleton.1 h, ← hpt]; exact partT_len x)
end Go.Proofs.YthgnmpjcbicdhaaDoor

