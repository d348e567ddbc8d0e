/- Bytes: the bytes without zeros ahead. -/
import Derived.Test.YthgnmpjcbicdhaaVPut
import Derived.Test.YthgnmpjcbicdhaaLen
set_option linter.unusedSimpArgs false
set_option linter.unusedVariables false
namespace Go.Proofs.Ythgnmpjcbicdhaa
open Go Go.RowKit Go.Proofs.YthgnmpjcbicdhaaW.PrintWords

/-- Without zeros ahead. -/
def strip : List Int → List Int
  | [] => []
  | x :: r => if x = 0 then strip r else x :: r
theorem strip_drop : ∀ (l : List Int) (k : Nat), k ≤ l.length → (∀ j, j < k → l.getD j 0 = 0) → (k < l.length → l.getD k 0 ≠ 0) → strip l = l.drop k
  | [], k, h, _, _ => by simp [strip]
  | x :: r, 0, _, _, h => by
    have := h (by simp)
    simp only [List.getD_cons_zero] at this
    simp [strip, this]
  | x :: r, k + 1, h0, h1, h2 => by
    have h3 := h1 0 (by omega)
    simp only [List.getD_cons_zero] at h3
    subst h3
    simp only [strip, if_true, List.drop_succ_cons]
    exact strip_drop r k (by simpa using h0) (fun j hj => by simpa using h1 (j + 1) (by omega)) (fun hk => by simpa using h2 (by simpa using hk))
theorem strip_snoc : ∀ (l : List Int) (v : Int), strip (l ++ [v]) = if strip l = [] ∧ v = 0 then [] else strip l ++ [v]
  | [], v => by by_cases h : v = 0 <;> simp [strip, h]
  | x :: r, v => by
    by_cases h : x = 0
    · simp only [List.cons_append, strip, h, if_true]
      exact strip_snoc r v
    · simp [strip, h]
theorem strip_len : ∀ (l : List Int), (strip l).length ≤ l.length
  | [] => by simp [strip]
  | x :: r => by
    by_cases h : x = 0
    · have := strip_len r
      simp [strip, h]; omega
    · simp [strip, h]
theorem putA_getD (x j : Nat) (h : j < 32) : (putA x 32).getD j 0 = byteN x (31 - j) := by
  unfold putA
  rw [List.getD_eq_getElem?_getD, List.getElem?_map, List.getElem?_range h]
  simp only [Option.map_some, Option.getD_some]
  rw [if_pos (by omega)]
/-- How many bytes. -/
def nbytes (x : Nat) : Nat := (lenN x + 7) / 8
theorem nbytes_le (x : Nat) (hx : x < T256) : nbytes x ≤ 32 := by
  have := lenN_le x 256 (by rw [← T256_pow]; exact hx)
  unfold nbytes; omega
theorem putA_strip (x : Nat) (hx : x < T256) : (putA x 32).drop (32 - nbytes x) = strip (putA x 32) := by
  have hn := nbytes_le x hx
  have hlt := lenN_lt x
  refine (strip_drop _ _ (by rw [putA_len]; omega) (fun j hj => ?_) (fun hk => ?_)).symm
  · rw [putA_getD x j (by omega)]
    unfold byteN
    have h1 : x < 2 ^ (8 * (31 - j)) := Nat.lt_of_lt_of_le hlt (Nat.pow_le_pow_right (by omega) (by unfold nbytes at hj; omega))
    rw [Nat.div_eq_of_lt h1]
    rfl
  · rw [putA_len] at hk
    rw [putA_getD x _ hk]
    have hpos : 0 < lenN x := by
      by_cases h0 : lenN x = 0
      · exfalso; unfold nbytes at hk; rw [h0] at hk; omega
      · omega
    have htop := lenN_top x hpos
    have hm : 31 - (32 - nbytes x) = nbytes x - 1 := by omega
    rw [hm]
    unfold byteN
    have h1 : 1 ≤ x / 2 ^ (8 * (nbytes x - 1)) := by
      rw [Nat.le_div_iff_mul_le (Nat.pow_pos (by omega)), Nat.one_mul]
      exact Nat.le_trans (Nat.pow_le_pow_right (by omega) (by unfold nbytes; omega)) htop
    have h2 : x / 2 ^ (8 * (nbytes x - 1)) < 256 := by
      rw [Nat.div_lt_iff_lt_mul (Nat.pow_pos (by omega)), show (256 : Nat) = 2 ^ 8 from rfl, ← Nat.pow_add]
      exact Nat.lt_of_lt_of_le hlt (Nat.pow_le_pow_right (by omega) (by unfold nbytes; omega))
    rw [Nat.mod_eq_of_lt h2]
    omega
def bytesOf (x : Nat) : List Int := strip (putA x 32)
theorem bytesOf_len (x : Nat) (hx : x < T256) : (bytesOf x).length = nbytes x := by
  have := nbytes_le x hx
  unfold bytesOf
  rw [← putA_strip x hx]
  simp [putA_len]; omega
/-- A list that is handed over: new. -/
def Gives (w : World) (l : List Int) (e : Ending) (w' : World) : Prop :=
  Below w.heap.size w w' ∧ ∃ B C, e = .returned (ownVal B C l.length) ∧ OwnAt w' B C 1 5 (l.map (Value.int .u8)) ∧ (0 < C → w.heap.size ≤ B)
theorem gives_of {P : Program} {w : World} {n : Nat} {l : List Int} {k : Nat} {ρ : Env} {w' : World} (hl : l.length = n) (hf : Fr No w w') (hh : hasAll (ctx P w n) ρ w' [(k, ⟨[.ints .u8 n l], 5, .own 1⟩)]) : Gives w l (.returned ((AV.own k 1 0 n).conc ρ)) w' := by
  subst hl
  have hs := hh.1.1
  refine ⟨hf.to_below, ρ.b k, ρ.c k, ?_, ?_, ?_⟩
  · unfold ownVal
    cases hc : ρ.c k with
    | zero => simp [AV.conc, hc]
    | succ c => simp [AV.conc, hc]
  · unfold Sits at hs
    simp only [Seg.cells, Seg.cell1, List.append_nil] at hs
    exact hs
  · intro hc
    rcases hh.1.2 hc with h | h
    · exact h.2.elim
    · exact h
set_option maxHeartbeats 1000000 in
theorem bytes_c (x : Nat) (hx : x < T256) (w : World) : Calls Try.prog 12 #[U x] w (Gives w (bytesOf x)) := by
  have hn := nbytes_le x hx
  have hl := bytesOf_len x hx
  have pc := fun w => put_v x w
  have lc := fun w => len_c x hx w
  obtain ⟨n, hN⟩ : ∃ n, n = nbytes x := ⟨_, rfl⟩
  have hb : (putA x 32).drop (32 - n) = bytesOf x := by rw [hN]; exact putA_strip x hx
  rw [← hN] at hn hl
  obtain ⟨ys, hY⟩ : ∃ ys, ys = bytesOf x := ⟨_, rfl⟩
  obtain ⟨zs, hZ⟩ : ∃ zs, zs = putA x 32 := ⟨_, rfl⟩
  have hzl : zs.length = 32 := by rw [hZ]; exact putA_len x 32
  rw [← hZ] at pc hb
  rw [← hY] at hb hl ⊢
  have w1 : IntKind.i64.wrap (IntKind.i64.wrap ((lenN x : Nat) : Int) + 7) = IntKind.i64.wrap ((lenN x : Nat) : Int) + 7 := by
    have := lenN_le x 256 (by rw [← T256_pow]; exact hx)
    rw [IntKind.wrap_i64, IntKind.wrap_i64]; omega
  have wl : ((lenN x : Nat) : Int) ≤ 256 := by
    have := lenN_le x 256 (by rw [← T256_pow]; exact hx); omega
  have w2 : IntKind.i64.wrap (Int.tdiv (IntKind.i64.wrap (((lenN x : Nat) : Int) + 7)) 8) = (n : Int) := by
    rw [hN]; unfold nbytes
    have e : IntKind.i64.wrap (((lenN x : Nat) : Int) + 7) = (((lenN x : Nat) : Int) + 7) := by rw [IntKind.wrap_i64]; omega
    rw [e, Int.tdiv_eq_ediv_of_nonneg (by omega), IntKind.wrap_i64]; omega
  have w3 : IntKind.i64.wrap (32 - (n : Int)) = ((32 - n : Nat) : Int) := by rw [IntKind.wrap_i64]; omega
  refine calls_vm [.val (U x)] (fn := Try.f12) Try.func12 (by kernel_rfl) (by kernel_rfl) (by kernel_rfl) (by simp [AV.okL, AV.ok]) ?_
  by_cases h0 : n = 0
  · subst h0
    have hys : ys = [] := by apply List.eq_nil_of_length_eq_zero; omega
    subst hys
    have e32 : ((32 - 0 : Nat) : Int) = ((32 : Nat) : Int) := by omega
    refine wpK_endM (n := 400) (m := 0) (nx := 0) (hs := [(6, .call (bytesA zs)), (8, .call (.val (.int .i64 (lenN x : Int)))), (10, .eq (.val (.int .i64 ((0 : Nat) : Int)))), (12, .eq (.val (.int .i64 ((32 - 0 : Nat) : Int)))), (13, .subE)]) (v := .own 14 1 0 0) (bs := [(14, ⟨[.ints .u8 0 []], 5, .own 1⟩)]) follows [14] (And.intro (vcall w pc) (And.intro (show (bytesA zs).ok No from ⟨hzl, trivial⟩) (And.intro (vcall w lc) (And.intro (congrArg (Value.int .i64) w2) (And.intro (congrArg (Value.int .i64) w3) (And.intro e32 (Nat.zero_le 32))))))) (by kernel_rfl) ?_
    intro ρ w' hf hh; exact gives_of (P := Try.prog) hl hf hh
  · have e32 : 32 - n < 32 := by omega
    have hcat : ∀ ρ, Seg.cells ρ [.ints .u8 n ys] = Seg.cells ρ [] ++ Seg.cells ρ [.ints .u8 (32 - (32 - n)) ((zs.drop (32 - n)).take (32 - (32 - n)))] := by
      intro ρ
      simp only [Seg.cells, Seg.cell1, List.nil_append, List.append_nil]
      rw [hb, List.take_of_length_le (by omega)]
    refine wpK_endM (n := 400) (m := 0) (nx := 0) (hs := [(6, .call (bytesA zs)), (8, .call (.val (.int .i64 (lenN x : Int)))), (10, .eq (.val (.int .i64 (n : Int)))), (12, .eq (.val (.int .i64 ((32 - n : Nat) : Int)))), (13, .sub (32 - n) 32), (14, .app [.ints .u8 n ys] n)]) (v := .own 14 1 0 n) (bs := [(14, ⟨[.ints .u8 n ys], 5, .own 1⟩)]) follows [14] (And.intro (vcall w pc) (And.intro (show (bytesA zs).ok No from ⟨hzl, trivial⟩) (And.intro (vcall w lc) (And.intro (congrArg (Value.int .i64) w2) (And.intro (congrArg (Value.int .i64) w3) (And.intro (rfl : ((32 - n : Nat) : Int) = ((32 - n : Nat) : Int)) (And.intro (rfl : (32 : Nat) = 32) (And.intro (show 32 - n ≤ 32 by omega) (And.intro (Nat.le_refl 32) (And.intro e32 (And.intro hcat (And.intro (show Seg.ok No [.ints .u8 n ys] from ⟨hl, trivial⟩) (And.intro (show n = 0 + (32 - (32 - n)) by omega) (And.intro (rfl : Seg.len [] = 0) (And.intro (show n ≤ 140737488355328 by omega) (show (32 - n) + (32 - (32 - n)) ≤ 32 by omega)))))))))))))))) (by kernel_rfl) ?_
    intro ρ w' hf hh; exact gives_of (P := Try.prog) hl hf hh
end Go.Proofs.Ythgnmpjcbicdhaa

