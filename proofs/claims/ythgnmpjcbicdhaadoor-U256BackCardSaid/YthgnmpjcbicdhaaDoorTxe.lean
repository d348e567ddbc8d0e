/- u256.Text: the decimal digits. -/
import Derived.Test.YthgnmpjcbicdhaaDoorTxt
set_option linter.unusedSimpArgs false
set_option linter.unusedVariables false
namespace Go.Proofs.YthgnmpjcbicdhaaDoor
open Go Go.RowKit

/-- Blocks that hold rows of texts. -/
def StrF (F : Nat → Prop) (w : World) : Prop := ∀ b, F b → ∃ cs m, w.heap[b]? = some (.cells cs 9 m)
theorem BldO.frT {F : Nat → Prop} {W0 : Nat} {w w' : World} {B : Nat} {l : List UInt8} (h : BldO W0 w B l) (hf : Fr F w w') (hF : StrF F w) : BldO W0 w' B l := by
  obtain ⟨hW, self, v, h1, h2, h3, h4⟩ := h
  have hB : ¬ F B := fun e => by
    obtain ⟨cs, m, e2⟩ := hF B e
    rw [h1] at e2
    simp only [Option.some.injEq, Obj.cells.injEq] at e2
    exact absurd e2.2.1 (by decide)
  refine ⟨hW, self, v, by rw [hf.block B (Array.getElem?_eq_some_iff.1 h1).1 hB]; exact h1, h2, ownsRow_fr h3 hf (fun g hg hFg => ?_), h4⟩
  obtain ⟨_, ⟨rfl, _⟩ | ⟨g', cap, cur, rfl, h5, h6, _⟩⟩ := h3
  · cases hg
  · simp only [Value.ownBlock, Option.some.injEq] at hg
    subst hg
    obtain ⟨cs, m, e2⟩ := hF _ hFg
    rw [h6] at e2
    simp only [Option.some.injEq, Obj.cells.injEq] at e2
    exact absurd e2.2.1 (by decide)
theorem own_strF {Γ : Ctx} {ρ : Env} {mem : List (Nat × Vblk)} {w : World} {k : Nat} {ps : List (List UInt8)} (hM : RelM Γ ρ mem w) (hl : look 2 mem = some (pb k ps)) : StrF (Own ρ [(2, pb k ps)]) w := by
  intro b hb
  obtain ⟨ha, rfl⟩ := own_one hb
  have hs := (hM.sits 2 _ hl).1
  unfold Sits at hs
  unfold Vblk.alive at ha
  simp only at hs ha
  obtain ⟨_, spare, _, h⟩ := hs.2 ha
  exact ⟨_, _, h⟩
theorem Fr.then2 {F : Nat → Prop} {w0 w w' : World} (h : Fr No w0 w) (hf : Fr F w w') (hF : ∀ b, F b → w0.heap.size ≤ b) : Fr No w0 w' :=
  ⟨hf.os.trans h.os, hf.tape.trans h.tape, hf.output.trans h.output, Nat.le_trans h.size hf.size, fun b hb _ => (hf.block b (Nat.lt_of_lt_of_le hb h.size) (fun hfb => by have := hF b hfb; omega)).trans (h.block b hb (fun h => h))⟩
def tR (w : World) (l : List UInt8) (e : Ending) (w' : World) : Prop := e = .returned (.string ⟨l.toArray⟩) ∧ Below w.heap.size w w'
def tB (B k : Nat) (ps : List (List UInt8)) (i : Int) : AS := ⟨[(3, .own 2 1 0 k), (7, .val (.pointer (some ⟨B, 0, none⟩))), (8, .val (.int .i64 i))], [(2, pb k ps)]⟩
theorem flat_drop (ps : List (List UInt8)) (j : Nat) (hj : j < ps.length) : flatR (ps.drop j) = flatR (ps.drop (j + 1)) ++ ps.getD j [] := by
  unfold flatR
  rw [List.drop_eq_getElem_cons hj, List.reverse_cons, List.flatten_append, List.getD_eq_getElem?_getD, List.getElem?_eq_getElem hj]
  simp
theorem flat_len (ps : List (List UInt8)) (h : ∀ p ∈ ps, p.length ≤ 19) : (flatR ps).length ≤ 19 * ps.length := by
  induction ps with
  | nil => simp [flatR]
  | cons p r ih =>
    have h1 := ih (fun q hq => h q (by simp [hq]))
    have h2 := h p (by simp)
    have : flatR (p :: r) = flatR r ++ p := by simp [flatR]
    rw [this, List.length_append, List.length_cons]
    omega
set_option maxHeartbeats 4000000 in
theorem tx_back (w0 : World) (k : Nat) (ps : List (List UInt8)) (hl : ps.length = k) (hk : k ≤ 5) (hp : ∀ p ∈ ps, p.length ≤ 19) :
    ∀ (j : Nat), j ≤ k → ∀ (w : World) (F : Nat → Prop) (ρ0 : Env) (B : Nat), Fr No w0 w → StrF F w → (∀ b, F b → w0.heap.size ≤ b) → BldO w0.heap.size w B (flatR (ps.drop j)) →
      wpK (ctxF Tryd.prog w F ρ0 0 Tryd.f8.ntmps) Tryd.f8 (tR w0 (flatR ps)) (loopAt Tryd.f8 2) (tB B k ps ((j : Int) - 1)) := by
  intro j
  induction j with
  | zero =>
    intro _ w F ρ0 B hf0 hF hFw hB
    have hge : decide (((0 : Nat) : Int) - 1 ≥ 0) = false := by decide
    rw [List.drop_zero] at hB
    refine wpK_loop (n := 400) (m := 0) (nx := 0) (hs := [(50, .eq (.val (.bool false))), (88888, .subE)]) (st' := regAt Tryd.f8 19) (s' := tB B k ps (((0 : Nat) : Int) - 1)) follows [] [3, 7, 8] [(2, 2)] (congrArg Value.bool hge) (by kernel_rfl) ?_
    refine wpK_part [] [7] [] (t1 := []) (t2 := [(7, .val (.pointer (some ⟨B, 0, none⟩)))]) (m := []) (by kernel_rfl) ?_
    intro ρ w1 hf1 hM1
    have hB1 := hB.frT hf1 hF
    have hsz : w0.heap.size ≤ w1.heap.size := Nat.le_trans hf0.size hf1.size
    have hf01 : Fr No w0 w1 := hf0.then2 hf1 hFw
    refine wpL_region (by kernel_rfl) ?_
    refine wpL_call 0 (nx := 500) (hs := []) (tm := [(7, .val (.pointer (some ⟨B, 0, none⟩)))]) (f := 26) (args := [.pointer (some ⟨B, 0, none⟩)]) trivial (by kernel_rfl) ?_
    intro w2 hf2
    have hB2 := hB1.frT hf2 (fun b hb => (own_nil hb).elim)
    have hf02 : Fr No w0 w2 := hf01.then2 hf2 (fun b hb => (own_nil hb).elim)
    refine (Tryd.Builder_String_any_k w0.heap.size B _ w2 hB2.isF hf02.size).mono ?_
    rintro e w3 ⟨rfl, _, hbel, _⟩
    refine ⟨_, rfl, ?_⟩
    have hf03 : Fr No w0 w3 := ⟨hbel.os.trans hf02.os, hbel.tape.trans hf02.tape, hbel.output.trans hf02.output, Nat.le_trans hf02.size hbel.size, fun k hk _ => (hbel.block k hk).trans (hf02.block k hk (fun h => h))⟩
    refine wpL_end (n := 400) (m := 0) (nx := 700) (hs := []) (v := .val (.string ⟨(flatR ps).toArray⟩)) follows trivial (by kernel_rfl) ?_
    intro ρ w4 hf4
    exact ⟨rfl, (hf03.trans hf4).to_below⟩
  | succ j ih =>
    intro hj w F ρ0 B hf0 hF hFw hB
    have hge : decide (((j + 1 : Nat) : Int) - 1 ≥ 0) = true := decide_eq_true (by omega)
    have hjk : j < k := by omega
    have hjl : j < ps.length := by omega
    have hje : ((j + 1 : Nat) : Int) - 1 = (j : Int) := by omega
    have hwr : IntKind.i64.wrap (((j + 1 : Nat) : Int) - 1 - 1) = (j : Int) - 1 := by rw [IntKind.wrap_i64]; omega
    have hjk2 : j < k := hjk
    obtain ⟨p, hpe⟩ : ∃ p, p = ps.getD j [] := ⟨_, rfl⟩
    have hpl : p.length ≤ 19 := by
      rw [hpe, List.getD_eq_getElem?_getD, List.getElem?_eq_getElem hjl]
      exact hp _ (List.getElem_mem hjl)
    have hsv : (ps.map strV).getD j .nilIface = strV p := by
      rw [hpe, List.getD_eq_getElem?_getD, List.getElem?_map, List.getElem?_eq_getElem hjl, List.getD_eq_getElem?_getD, List.getElem?_eq_getElem hjl]
      rfl
    refine wpK_loop (n := 400) (m := 0) (nx := 0) (hs := [(50, .eq (.val (.bool true))), (88888, .subE)]) (st' := regAt Tryd.f8 18) (s' := tB B k ps (((j + 1 : Nat) : Int) - 1)) follows [] [3, 7, 8] [(2, 2)] (congrArg Value.bool hge) (by kernel_rfl) ?_
    refine wpL_region (by kernel_rfl) ?_
    refine wpL_callX 4 (nx := 500) (hs := [(55, .ix (j))]) [3, 7, 8] (tm := [(3, .own 2 1 0 k), (7, .val (.pointer (some ⟨B, 0, none⟩))), (8, .val (.int .i64 (((j + 1 : Nat) : Int) - 1)))]) (mem := [(2, pb k ps)]) (f := 25) (args := [.pointer (some ⟨B, 0, none⟩), (ps.map strV).getD j .nilIface]) (And.intro hje (And.intro hjk2 (And.intro hjk2 hjk2))) (by kernel_rfl) ?_
    rw [hsv]
    intro ρ w1 hf1 hM1
    have hB1 := hB.frT hf1 hF
    have hf01 : Fr No w0 w1 := hf0.then2 hf1 hFw
    have hS1 := own_strF hM1 rfl
    have hdl := flat_len (ps.drop (j + 1)) (fun p hp2 => hp p (List.mem_of_mem_drop hp2))
    rw [List.length_drop] at hdl
    refine (ws_c w0.heap.size w1 B _ ⟨p.toArray⟩ hB1 (by show _ + p.toArray.size ≤ _; simp; omega) hf01.size).mono ?_
    rintro e w2 ⟨rfl, hB2, hf2⟩
    have hkeep : ∀ b, Own ρ [(2, pb k ps)] b → ¬ WrB w0.heap.size B w1 b := by
      intro b hb hw
      obtain ⟨cs, m, e2⟩ := hS1 b hb
      rcases hw with rfl | ⟨_, cs', m', e3⟩
      · obtain ⟨_, self, v, h1, _⟩ := hB1
        rw [h1] at e2
        simp only [Option.some.injEq, Obj.cells.injEq] at e2
        exact absurd e2.2.1 (by decide)
      · rw [e3] at e2
        simp only [Option.some.injEq, Obj.cells.injEq] at e2
        exact absurd e2.2.1 (by decide)
    have hsame : ∀ b, Own ρ [(2, pb k ps)] b → w2.heap[b]? = w1.heap[b]? := fun b hb => hf2.block b (hM1.own hb).2 (hkeep b hb)
    refine ⟨_, rfl, hsame, ?_⟩
    have hf02 : Fr No w0 w2 := ⟨hf2.os.trans hf01.os, hf2.tape.trans hf01.tape, hf2.output.trans hf01.output, Nat.le_trans hf01.size hf2.size, fun b hb _ => (hf2.block b (Nat.lt_of_lt_of_le hb hf01.size) (fun hw => by
      rcases hw with rfl | ⟨h, _⟩
      · have := hB1.1; omega
      · omega)).trans (hf01.block b hb (fun h => h))⟩
    have hdr := flat_drop ps j hjl
    rw [← hpe] at hdr
    have hB3 : BldO w0.heap.size w2 B (flatR (ps.drop j)) := by rw [hdr]; exact hB2
    refine wpL_loop (n := 400) (m := 0) (nx := 700) (hs := [(52, .eq (.val (.int .i64 ((j : Int) - 1))))]) (st' := loopAt Tryd.f8 2) (s' := tB B k ps ((j : Int) - 1)) follows [] [3, 7, 8] [(2, 2)] (congrArg (Value.int .i64) hwr) (by kernel_rfl) ?_
    refine ih (by omega) w2 _ ρ B hf02 (fun b hb => ?_) (fun b hb => ?_) hB3
    · obtain ⟨cs, m, e2⟩ := hS1 b hb
      exact ⟨cs, m, by rw [hsame b hb]; exact e2⟩
    · rcases (hM1.own hb).1 with h | h
      · exact hFw b h
      · exact Nat.le_trans hf0.size h
theorem text0_c (w : World) : Calls Tryd.prog 8 #[U 0] w (tR w (Lib.decDigits 0)) := by
  refine calls_vm [.val (U 0)] (fn := Tryd.f8) Tryd.func8 (by kernel_rfl) (by kernel_rfl) (by kernel_rfl) (by simp [AV.okL, AV.ok]) ?_
  refine wpK_end (n := 400) (m := 2) (nx := 100) (hs := [(1, .row [.ints .u64 4 (limbs 0)]), (11, .cmp true)]) (v := .val (.string ⟨#[48]⟩)) follows (And.intro (fun ρ => (rfl : Seg.cells ρ [.ints .u64 4 (limbs 0)] = (U 0).cells.toList)) (And.intro (show Seg.ok No [.ints .u64 4 (limbs 0)] from ⟨rfl, trivial⟩) (fun w => eqU_zz w))) (by kernel_rfl) ?_
  intro ρ w' hf
  refine ⟨?_, hf.to_below⟩
  rw [Lib.decDigits_one (by decide)]
  rfl
theorem text_c (x : Nat) (hx : x < T256) (w : World) (hT : TensIn w) (htab : Lib.TabIs Tryd.prog w "internal/strconv.uint64pow10" .u64 Lib.pow10Tab) : Calls Tryd.prog 8 #[U x] w (tR w (Lib.decDigits x)) := by
  by_cases h0 : x = 0
  · subst h0
    exact text0_c w
  refine calls_vm [.val (U x)] (fn := Tryd.f8) Tryd.func8 (by kernel_rfl) (by kernel_rfl) (by kernel_rfl) (by simp [AV.okL, AV.ok]) ?_
  refine wpK_loop (n := 400) (m := 0) (nx := 100) (hs := [(1, .row [.ints .u64 4 (limbs x)])]) (st' := loopAt Tryd.f8 0) (s' := tS x 0 []) follows [(3, 2, 1, [.vals 0 []], 9)] [1, 3] [(1, 100), (2, 2)] (And.intro (fun ρ => (rfl : Seg.cells ρ [.ints .u64 4 (limbs x)] = (U x).cells.toList)) (show Seg.ok No [.ints .u64 4 (limbs x)] from ⟨rfl, trivial⟩)) (by kernel_rfl) ?_
  refine tx_round w hT htab x _ (fun k ps hk hl hfl hp => ?_) 5 0 x [] rfl (Nat.lt_of_lt_of_le hx (by decide)) hx rfl (.inl ⟨h0, by simp [flatR]⟩) (fun p hp => by simp at hp)
  have hk0 : 0 < k := by
    rcases Nat.eq_zero_or_pos k with h | h
    · subst h
      have := List.eq_nil_of_length_eq_zero hl
      subst this
      have h2 := Lib.decDigits_length x
      rw [← hfl] at h2
      have := Lib.nDigits_pos x
      simp [flatR] at h2
      omega
    · exact h
  have h45 : ((k : Int) == 0) = false := by simp; omega
  have h48 : IntKind.i64.wrap ((k : Int) - 1) = (k : Int) - 1 := by rw [IntKind.wrap_i64]; omega
  refine wpK_loop (n := 400) (m := 0) (nx := 100) (hs := [(45, .eq (.val (.bool false))), (48, .eq (.val (.int .i64 ((k : Int) - 1))))]) (st' := loopAt Tryd.f8 2) (s' := ⟨[(3, .own 2 1 0 k), (7, .ptr 50 0), (8, .val (.int .i64 ((k : Int) - 1)))], [(2, pb k ps), (50, bf)]⟩) follows [] [3, 7, 8] [(2, 2), (50, 103)] (And.intro (Nat.le_refl k) (And.intro (congrArg Value.bool h45) (And.intro (Nat.le_refl k) (congrArg (Value.int .i64) h48)))) (by kernel_rfl) ?_
  refine wpK_part [3] [7, 8] [2] (t1 := [(3, .own 2 1 0 k)]) (t2 := [(7, .ptr 50 0), (8, .val (.int .i64 ((k : Int) - 1)))]) (m := [(2, pb k ps)]) (by kernel_rfl) ?_
  intro ρ w1 hf1 hM1
  have hs := (hM1.sits 50 bf rfl).1
  have hh := hM1.home 50 bf rfl trivial
  rw [← hfl]
  refine tx_back w k ps hl hk hp k (Nat.le_refl k) w1 _ ρ (ρ.b 50) hf1 (own_strF hM1 rfl) (fun b hb => ?_) ?_
  · obtain ⟨ha, rfl⟩ := own_one hb
    exact (hM1.home 2 (pb k ps) rfl ha).elim (fun h => h.elim) id
  · rw [List.drop_of_length_le (by omega)]
    exact ⟨hh.elim (fun h => h.elim) id, .pointer none, .slice none 0 0, hs, .inl ⟨rfl, rfl⟩, World.ownsRow_nil _ _ _ _, by simp [Value.ownBlock]⟩
end Go.Proofs.YthgnmpjcbicdhaaDoor

