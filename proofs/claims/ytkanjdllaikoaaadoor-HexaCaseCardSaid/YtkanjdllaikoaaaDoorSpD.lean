/- keccak.Sum: the digest of the parts, one behind the other. -/
import Derived.Test.YtkanjdllaikoaaaDoorSpS
set_option linter.unusedSimpArgs false
set_option linter.unusedVariables false
namespace Go.Proofs.YtkanjdllaikoaaaDoor
open Go Go.RowKit

/-- A part of a text: where it lies, and what it is. -/
abbrev PartT := Option Addr × Nat × Nat × List Int
def PartOk (w : World) (q : PartT) : Prop := Sl .u8 w q.1 q.2.1 q.2.2.2 ∧ q.2.1 ≤ q.2.2.1
/-- The parts, as they lie. -/
def Parts (w : World) (P : Option Addr) (m : Nat) (ls : List PartT) : Prop := ls.length = m ∧ ∀ i, i < m → ∃ ad q, P = some ad ∧ ls[i]? = some q ∧ w.cell? (ad.add i) = some (.slice q.1 q.2.1 q.2.2.1) ∧ PartOk w q
def joinT (ls : List PartT) : List Int := (ls.map (·.2.2.2)).flatten
theorem joinT_take (ls : List PartT) (i : Nat) (q : PartT) (h : ls[i]? = some q) : joinT (ls.take (i + 1)) = joinT (ls.take i) ++ q.2.2.2 := by
  unfold joinT
  rw [List.take_add_one, h]
  simp
theorem frN_cell {w w' : World} {p : Addr} {v : Value} (hf : Fr No w w') (h : w.cell? p = some v) : w'.cell? p = some v := by
  have hlt : p.block < w.heap.size := by
    unfold World.cell? at h
    rcases Nat.lt_or_ge p.block w.heap.size with hl | hl
    · exact hl
    · rw [Array.getElem?_eq_none hl] at h
      cases h
  unfold World.cell? at h ⊢
  rw [hf.block p.block hlt (fun h => h)]
  exact h
theorem cell_lt {w : World} {p : Addr} {v : Value} (h : w.cell? p = some v) : p.block < w.heap.size := by
  unfold World.cell? at h
  rcases Nat.lt_or_ge p.block w.heap.size with hl | hl
  · exact hl
  · rw [Array.getElem?_eq_none hl] at h
    cases h
theorem Parts.frN {w w' : World} {P : Option Addr} {m : Nat} {ls : List PartT} (h : Parts w P m ls) (hf : Fr No w w') : Parts w' P m ls := by
  refine ⟨h.1, fun i hi => ?_⟩
  obtain ⟨ad, q, h1, h2, h3, h4⟩ := h.2 i hi
  exact ⟨ad, q, h1, h2, frN_cell hf h3, h4.1.frN hf, h4.2⟩
/-- A step that writes one newer block lets what is elder be. -/
theorem fr_new {w0 w w' : World} {B : Nat} (hf : Fr No w0 w) (hB : w0.heap.size ≤ B) (h : Fr (fun k => k = B) w w') : Fr No w0 w' :=
  ⟨h.os.trans hf.os, h.tape.trans hf.tape, h.output.trans hf.output, Nat.le_trans hf.size h.size, fun k hk _ => (h.block k (Nat.lt_of_lt_of_le hk hf.size) (by omega)).trans (hf.block k hk (fun h => h))⟩
abbrev hashA (a : Nat → B64) : AV := .agg [.ints .u8 32 (hashOf a)]
abbrev hashV (a : Nat → B64) : Value := .agg ((hashOf a).map (Value.int .u8) ++ []).toArray
theorem hashA_ok (a : Nat → B64) (D : Nat → Prop) : (hashA a).ok D := ⟨rfl, trivial⟩
def dgS (P : Option Addr) (m c : Nat) (s : SpT) (long : Int) (i : Nat) : AS := ⟨[(4, .ptr 1 0), (5, .ptr 2 0), (10, .val (.slice P m c)), (11, .val (.int .i64 (m : Int))), (12, .val (.int .i64 (i : Int)))], [(1, ⟨[.ints .u8 32 (List.replicate 32 0)], 29, .arr⟩), (2, spS 0 s long)]⟩
set_option maxHeartbeats 4000000 in
theorem digest_round (w : World) (P : Option Addr) (m c : Nat) (ls : List PartT) (hP : Parts w P m ls) (hm : m ≤ 9000000000000000000) (hG : w.cell? ⟨0, 0, none⟩ = some (.int .u8 1)) :
    ∀ (q i : Nat), i + q = m → ∀ (s : SpT) (long : Int), Spo (joinT (ls.take i)) s.1 s.2.1 s.2.2 → wpK (ctx Tryd.prog w Tryd.f51.ntmps) Tryd.f51 (fun e w' => e = .returned (hashV (digL (joinT ls) 1)) ∧ Below w.heap.size w w') (loopAt Tryd.f51 0) (dgS P m c s long i) := by
  intro q
  induction q with
  | zero =>
    intro i hi s long hS
    obtain rfl : i = m := by omega
    have hlt : decide ((i : Int) < (i : Int)) = false := by simp
    rw [List.take_of_length_le (by rw [hP.1]; exact Nat.le_refl _)] at hS
    obtain ⟨X, hX⟩ : ∃ X, X = digL (joinT ls) 1 := ⟨_, rfl⟩
    rw [← hX]
    have hsu : ∀ (ρ : Env) w', Fr No w w' → hasAll (ctx Tryd.prog w Tryd.f51.ntmps) ρ w' [(2, spS 0 s long)] → Calls Tryd.prog 67 #[.pointer (some ⟨ρ.b 2, 0, none⟩)] w' fun e w'' => e = .returned (AV.conc ρ (hashA X)) ∧ Fr (fun b => b = ρ.b 2 ∧ (spS 0 s long).alive ρ 2) w' w'' ∧ Sits ρ w'' 2 (spS 0 s long) ∧ ((spS 0 s long).alive ρ 2 → (spS 0 s long).alive ρ 2) := by
      intro ρ w' hf hh
      have hB : w.heap.size ≤ ρ.b 2 := (hh.1.2 trivial).elim (fun h => h.elim) id
      refine (sum_c w' (ρ.b 2) (joinT ls) long s.1 s.2.1 s.2.2 hS (fun w'' hf' => frN_cell (fr_new hf hB hf') hG) (spSits rfl hh.1.1)).mono ?_
      rintro e w'' ⟨rfl, h2, h3⟩
      rw [← hX]
      exact ⟨rfl, ⟨h2.os, h2.tape, h2.output, h2.size, fun k hk hF => h2.block k hk fun e => hF ⟨e, trivial⟩⟩, spSits rfl h3, fun _ => trivial⟩
    refine wpK_end (n := 400) (m := 0) (nx := 100) (hs := [(13, .eq (.val (.bool false))), (19, .callW [] 2 (spS 0 s long) (hashA X))]) (v := hashA X) follows (And.intro (congrArg Value.bool hlt) (And.intro hsu (And.intro (okN (k := 2) (rd := []) (spOk 0 s.1 s.2.1 (s.2.2 : Int) long hS.hl)) (show ∀ D : Nat → Prop, D 2 → (∀ k, k ∈ ([] : List Nat) → D k) → AV.ok D (hashA X) from fun D _ _ => hashA_ok X D)))) (by kernel_rfl) ?_
    intro ρ w' hf; exact ⟨rfl, hf.to_below⟩
  | succ q ih =>
    intro i hi s long hS
    have hlt : decide ((i : Int) < (m : Int)) = true := by simp; omega
    have him : i < m := by omega
    have hw : IntKind.i64.wrap ((i : Int) + 1) = ((i + 1 : Nat) : Int) := by rw [IntKind.wrap_i64]; omega
    obtain ⟨ad, ⟨A, n, cc, l⟩, rfl, h2, h3, h4, h5⟩ := hP.2 i him
    simp only at h3 h4 h5
    have hj := joinT_take ls i _ h2
    simp only at hj
    have hS' : Spo (joinT (ls.take (i + 1))) (wrF n s l).1 (wrF n s l).2.1 (wrF n s l).2.2 := by
      rw [hj]; exact wrF_spo n _ s l (by rw [h4.1]; exact Nat.le_refl _) hS
    obtain ⟨s', hs'⟩ : ∃ s', s' = wrF n s l := ⟨_, rfl⟩
    rw [← hs'] at hS'
    obtain ⟨long', hl'⟩ : ∃ long', long' = IntKind.i64.wrap (long + (n : Int)) := ⟨_, rfl⟩
    have hwr : ∀ (ρ : Env) w', Fr No w w' → hasAll (ctx Tryd.prog w Tryd.f51.ntmps) ρ w' [(2, spS 0 s long)] → Calls Tryd.prog 66 #[.pointer (some ⟨ρ.b 2, 0, none⟩), .slice A n cc] w' fun e w'' => e = .returned (AV.conc ρ (.tup [])) ∧ Fr (fun b => b = ρ.b 2 ∧ (spS 0 s long).alive ρ 2) w' w'' ∧ Sits ρ w'' 2 (spS 0 s' long') ∧ ((spS 0 s' long').alive ρ 2 → (spS 0 s long).alive ρ 2) := by
      intro ρ w' hf hh
      have hB : w.heap.size ≤ ρ.b 2 := (hh.1.2 trivial).elim (fun h => h.elim) id
      refine (write_c w' (ρ.b 2) 0 _ long s hS A n cc l h5 (fun w'' hf' => h4.frN (fr_new hf hB hf')) (spSits rfl hh.1.1)).mono ?_
      rintro e w'' ⟨rfl, h2, h3⟩
      rw [← hs', ← hl'] at h3
      exact ⟨rfl, ⟨h2.os, h2.tape, h2.output, h2.size, fun k hk hF => h2.block k hk fun e => hF ⟨e, trivial⟩⟩, spSits rfl h3, fun _ => trivial⟩
    have infS : (Tryd.prog.info? 22).map (·.size) = some 1 := by kernel_rfl
    refine wpK_loop (n := 400) (m := 0) (nx := 300) (hs := [(13, .eq (.val (.bool true))), (14, .as (.val (.pointer (some (ad.add i))))), (15, .as (.val (.slice A n cc))), (17, .callW [] 2 (spS 0 s' long') (.tup [])), (18, .eq (.val (.int .i64 ((i + 1 : Nat) : Int))))]) (st' := loopAt Tryd.f51 0) (s' := dgS (some ad) m c s' long' (i + 1)) follows [] [4, 5, 10, 11, 12] [(1, 1), (2, 2)] (And.intro (congrArg Value.bool hlt) (And.intro (sl_index (F := No) (w := w) (A := ad) (n := m) (c := c) (k' := .i64) Tryd.underlying88 infS him) (And.intro (sl_load (F := No) (w := w) Tryd.underlying22 rfl (fun w' hf => frN_cell hf h3)) (And.intro hwr (And.intro (okN (k := 2) (rd := []) (spOk 0 s'.1 s'.2.1 (s'.2.2 : Int) long' hS'.hl)) (And.intro (show ∀ D : Nat → Prop, D 2 → (∀ k, k ∈ ([] : List Nat) → D k) → AV.ok D (.tup []) from fun _ _ _ => trivial) (congrArg (Value.int .i64) hw))))))) (by kernel_rfl) ?_
    exact ih (i + 1) (by omega) s' long' hS'
set_option maxHeartbeats 4000000 in
theorem digest_c (w : World) (P : Option Addr) (m c : Nat) (ls : List PartT) (hP : Parts w P m ls) (hm : m ≤ 9000000000000000000) (hG : w.cell? ⟨0, 0, none⟩ = some (.int .u8 1)) :
    Calls Tryd.prog 51 #[.int .i64 0, .slice P m c] w fun e w' => e = .returned (hashV (digL (joinT ls) 1)) ∧ Below w.heap.size w w' := by
  refine calls_vm [.val (.int .i64 0), .val (.slice P m c)] (fn := Tryd.f51) Tryd.func51 (by kernel_rfl) (by kernel_rfl) (by kernel_rfl) (by simp [AV.okL, AV.ok]) ?_
  refine wpK_loop (n := 400) (m := 0) (nx := 0) (hs := [(4, .row [.ints .u8 32 (List.replicate 32 0)])]) (st' := loopAt Tryd.f51 0) (s' := ⟨[(4, .ptr 1 0), (5, .ptr 2 0), (10, .val (.slice P m c)), (11, .val (.int .i64 (m : Int))), (12, .val (.int .i64 ((0 : Nat) : Int)))], [(1, ⟨[.ints .u8 32 (List.replicate 32 0)], 29, .arr⟩), (2, ⟨[.cell (.val (.int .i64 0)), .cell (.val (.int .u64 0)), .cell (.val (.int .u64 0)), .cell (.val (.int .u64 0)), .cell (.val (.int .u64 0)), .cell (.val (.int .u64 0)), .cell (.val (.int .u64 0)), .cell (.val (.int .u64 0)), .cell (.val (.int .u64 0)), .cell (.val (.int .u64 0)), .cell (.val (.int .u64 0)), .cell (.val (.int .u64 0)), .cell (.val (.int .u64 0)), .cell (.val (.int .u64 0)), .cell (.val (.int .u64 0)), .cell (.val (.int .u64 0)), .cell (.val (.int .u64 0)), .cell (.val (.int .u64 0)), .cell (.val (.int .u64 0)), .cell (.val (.int .u64 0)), .cell (.val (.int .u64 0)), .cell (.val (.int .u64 0)), .cell (.val (.int .u64 0)), .cell (.val (.int .u64 0)), .cell (.val (.int .u64 0)), .cell (.val (.int .u64 0)), .cell (.val (.int .u8 0)), .cell (.val (.int .u8 0)), .cell (.val (.int .u8 0)), .cell (.val (.int .u8 0)), .cell (.val (.int .u8 0)), .cell (.val (.int .u8 0)), .cell (.val (.int .u8 0)), .cell (.val (.int .u8 0)), .cell (.val (.int .u8 0)), .cell (.val (.int .u8 0)), .cell (.val (.int .u8 0)), .cell (.val (.int .u8 0)), .cell (.val (.int .u8 0)), .cell (.val (.int .u8 0)), .cell (.val (.int .u8 0)), .cell (.val (.int .u8 0)), .cell (.val (.int .u8 0)), .cell (.val (.int .u8 0)), .cell (.val (.int .u8 0)), .cell (.val (.int .u8 0)), .cell (.val (.int .u8 0)), .cell (.val (.int .u8 0)), .cell (.val (.int .u8 0)), .cell (.val (.int .u8 0)), .cell (.val (.int .u8 0)), .cell (.val (.int .u8 0)), .cell (.val (.int .u8 0)), .cell (.val (.int .u8 0)), .cell (.val (.int .u8 0)), .cell (.val (.int .u8 0)), .cell (.val (.int .u8 0)), .cell (.val (.int .u8 0)), .cell (.val (.int .u8 0)), .cell (.val (.int .u8 0)), .cell (.val (.int .u8 0)), .cell (.val (.int .u8 0)), .cell (.val (.int .u8 0)), .cell (.val (.int .u8 0)), .cell (.val (.int .u8 0)), .cell (.val (.int .u8 0)), .cell (.val (.int .u8 0)), .cell (.val (.int .u8 0)), .cell (.val (.int .u8 0)), .cell (.val (.int .u8 0)), .cell (.val (.int .u8 0)), .cell (.val (.int .u8 0)), .cell (.val (.int .u8 0)), .cell (.val (.int .u8 0)), .cell (.val (.int .u8 0)), .cell (.val (.int .u8 0)), .cell (.val (.int .u8 0)), .cell (.val (.int .u8 0)), .cell (.val (.int .u8 0)), .cell (.val (.int .u8 0)), .cell (.val (.int .u8 0)), .cell (.val (.int .u8 0)), .cell (.val (.int .u8 0)), .cell (.val (.int .u8 0)), .cell (.val (.int .u8 0)), .cell (.val (.int .u8 0)), .cell (.val (.int .u8 0)), .cell (.val (.int .u8 0)), .cell (.val (.int .u8 0)), .cell (.val (.int .u8 0)), .cell (.val (.int .u8 0)), .cell (.val (.int .u8 0)), .cell (.val (.int .u8 0)), .cell (.val (.int .u8 0)), .cell (.val (.int .u8 0)), .cell (.val (.int .u8 0)), .cell (.val (.int .u8 0)), .cell (.val (.int .u8 0)), .cell (.val (.int .u8 0)), .cell (.val (.int .u8 0)), .cell (.val (.int .u8 0)), .cell (.val (.int .u8 0)), .cell (.val (.int .u8 0)), .cell (.val (.int .u8 0)), .cell (.val (.int .u8 0)), .cell (.val (.int .u8 0)), .cell (.val (.int .u8 0)), .cell (.val (.int .u8 0)), .cell (.val (.int .u8 0)), .cell (.val (.int .u8 0)), .cell (.val (.int .u8 0)), .cell (.val (.int .u8 0)), .cell (.val (.int .u8 0)), .cell (.val (.int .u8 0)), .cell (.val (.int .u8 0)), .cell (.val (.int .u8 0)), .cell (.val (.int .u8 0)), .cell (.val (.int .u8 0)), .cell (.val (.int .u8 0)), .cell (.val (.int .u8 0)), .cell (.val (.int .u8 0)), .cell (.val (.int .u8 0)), .cell (.val (.int .u8 0)), .cell (.val (.int .u8 0)), .cell (.val (.int .u8 0)), .cell (.val (.int .u8 0)), .cell (.val (.int .u8 0)), .cell (.val (.int .u8 0)), .cell (.val (.int .u8 0)), .cell (.val (.int .u8 0)), .cell (.val (.int .u8 0)), .cell (.val (.int .u8 0)), .cell (.val (.int .u8 0)), .cell (.val (.int .u8 0)), .cell (.val (.int .u8 0)), .cell (.val (.int .u8 0)), .cell (.val (.int .u8 0)), .cell (.val (.int .u8 0)), .cell (.val (.int .u8 0)), .cell (.val (.int .u8 0)), .cell (.val (.int .u8 0)), .cell (.val (.int .u8 0)), .cell (.val (.int .u8 0)), .cell (.val (.int .u8 0)), .cell (.val (.int .u8 0)), .cell (.val (.int .u8 0)), .cell (.val (.int .u8 0)), .cell (.val (.int .u8 0)), .cell (.val (.int .u8 0)), .cell (.val (.int .u8 0)), .cell (.val (.int .u8 0)), .cell (.val (.int .u8 0)), .cell (.val (.int .u8 0)), .cell (.val (.int .u8 0)), .cell (.val (.int .u8 0)), .cell (.val (.int .u8 0)), .cell (.val (.int .u8 0)), .cell (.val (.int .u8 0)), .cell (.val (.int .u8 0)), .cell (.val (.int .u8 0)), .cell (.val (.int .u8 0)), .cell (.val (.int .u8 0)), .cell (.val (.int .i64 0)), .cell (.val (.int .i64 0))], 108, .arr⟩)]⟩) follows [] [4, 5, 10, 11, 12] [(1, 0), (2, 3)] (And.intro (fun ρ => (rfl : Seg.cells ρ [.ints .u8 32 (List.replicate 32 0)] = (Value.agg (ints .u8 (List.replicate 32 0))).cells.toList)) (show Seg.ok No [.ints .u8 32 (List.replicate 32 0)] from ⟨rfl, trivial⟩)) (by kernel_rfl) ?_
  refine wpK_recast 2 (b := ⟨[.cell (.val (.int .i64 0)), .cell (.val (.int .u64 0)), .cell (.val (.int .u64 0)), .cell (.val (.int .u64 0)), .cell (.val (.int .u64 0)), .cell (.val (.int .u64 0)), .cell (.val (.int .u64 0)), .cell (.val (.int .u64 0)), .cell (.val (.int .u64 0)), .cell (.val (.int .u64 0)), .cell (.val (.int .u64 0)), .cell (.val (.int .u64 0)), .cell (.val (.int .u64 0)), .cell (.val (.int .u64 0)), .cell (.val (.int .u64 0)), .cell (.val (.int .u64 0)), .cell (.val (.int .u64 0)), .cell (.val (.int .u64 0)), .cell (.val (.int .u64 0)), .cell (.val (.int .u64 0)), .cell (.val (.int .u64 0)), .cell (.val (.int .u64 0)), .cell (.val (.int .u64 0)), .cell (.val (.int .u64 0)), .cell (.val (.int .u64 0)), .cell (.val (.int .u64 0)), .cell (.val (.int .u8 0)), .cell (.val (.int .u8 0)), .cell (.val (.int .u8 0)), .cell (.val (.int .u8 0)), .cell (.val (.int .u8 0)), .cell (.val (.int .u8 0)), .cell (.val (.int .u8 0)), .cell (.val (.int .u8 0)), .cell (.val (.int .u8 0)), .cell (.val (.int .u8 0)), .cell (.val (.int .u8 0)), .cell (.val (.int .u8 0)), .cell (.val (.int .u8 0)), .cell (.val (.int .u8 0)), .cell (.val (.int .u8 0)), .cell (.val (.int .u8 0)), .cell (.val (.int .u8 0)), .cell (.val (.int .u8 0)), .cell (.val (.int .u8 0)), .cell (.val (.int .u8 0)), .cell (.val (.int .u8 0)), .cell (.val (.int .u8 0)), .cell (.val (.int .u8 0)), .cell (.val (.int .u8 0)), .cell (.val (.int .u8 0)), .cell (.val (.int .u8 0)), .cell (.val (.int .u8 0)), .cell (.val (.int .u8 0)), .cell (.val (.int .u8 0)), .cell (.val (.int .u8 0)), .cell (.val (.int .u8 0)), .cell (.val (.int .u8 0)), .cell (.val (.int .u8 0)), .cell (.val (.int .u8 0)), .cell (.val (.int .u8 0)), .cell (.val (.int .u8 0)), .cell (.val (.int .u8 0)), .cell (.val (.int .u8 0)), .cell (.val (.int .u8 0)), .cell (.val (.int .u8 0)), .cell (.val (.int .u8 0)), .cell (.val (.int .u8 0)), .cell (.val (.int .u8 0)), .cell (.val (.int .u8 0)), .cell (.val (.int .u8 0)), .cell (.val (.int .u8 0)), .cell (.val (.int .u8 0)), .cell (.val (.int .u8 0)), .cell (.val (.int .u8 0)), .cell (.val (.int .u8 0)), .cell (.val (.int .u8 0)), .cell (.val (.int .u8 0)), .cell (.val (.int .u8 0)), .cell (.val (.int .u8 0)), .cell (.val (.int .u8 0)), .cell (.val (.int .u8 0)), .cell (.val (.int .u8 0)), .cell (.val (.int .u8 0)), .cell (.val (.int .u8 0)), .cell (.val (.int .u8 0)), .cell (.val (.int .u8 0)), .cell (.val (.int .u8 0)), .cell (.val (.int .u8 0)), .cell (.val (.int .u8 0)), .cell (.val (.int .u8 0)), .cell (.val (.int .u8 0)), .cell (.val (.int .u8 0)), .cell (.val (.int .u8 0)), .cell (.val (.int .u8 0)), .cell (.val (.int .u8 0)), .cell (.val (.int .u8 0)), .cell (.val (.int .u8 0)), .cell (.val (.int .u8 0)), .cell (.val (.int .u8 0)), .cell (.val (.int .u8 0)), .cell (.val (.int .u8 0)), .cell (.val (.int .u8 0)), .cell (.val (.int .u8 0)), .cell (.val (.int .u8 0)), .cell (.val (.int .u8 0)), .cell (.val (.int .u8 0)), .cell (.val (.int .u8 0)), .cell (.val (.int .u8 0)), .cell (.val (.int .u8 0)), .cell (.val (.int .u8 0)), .cell (.val (.int .u8 0)), .cell (.val (.int .u8 0)), .cell (.val (.int .u8 0)), .cell (.val (.int .u8 0)), .cell (.val (.int .u8 0)), .cell (.val (.int .u8 0)), .cell (.val (.int .u8 0)), .cell (.val (.int .u8 0)), .cell (.val (.int .u8 0)), .cell (.val (.int .u8 0)), .cell (.val (.int .u8 0)), .cell (.val (.int .u8 0)), .cell (.val (.int .u8 0)), .cell (.val (.int .u8 0)), .cell (.val (.int .u8 0)), .cell (.val (.int .u8 0)), .cell (.val (.int .u8 0)), .cell (.val (.int .u8 0)), .cell (.val (.int .u8 0)), .cell (.val (.int .u8 0)), .cell (.val (.int .u8 0)), .cell (.val (.int .u8 0)), .cell (.val (.int .u8 0)), .cell (.val (.int .u8 0)), .cell (.val (.int .u8 0)), .cell (.val (.int .u8 0)), .cell (.val (.int .u8 0)), .cell (.val (.int .u8 0)), .cell (.val (.int .u8 0)), .cell (.val (.int .u8 0)), .cell (.val (.int .u8 0)), .cell (.val (.int .u8 0)), .cell (.val (.int .u8 0)), .cell (.val (.int .u8 0)), .cell (.val (.int .u8 0)), .cell (.val (.int .u8 0)), .cell (.val (.int .u8 0)), .cell (.val (.int .u8 0)), .cell (.val (.int .u8 0)), .cell (.val (.int .u8 0)), .cell (.val (.int .u8 0)), .cell (.val (.int .u8 0)), .cell (.val (.int .u8 0)), .cell (.val (.int .u8 0)), .cell (.val (.int .u8 0)), .cell (.val (.int .u8 0)), .cell (.val (.int .u8 0)), .cell (.val (.int .u8 0)), .cell (.val (.int .u8 0)), .cell (.val (.int .u8 0)), .cell (.val (.int .u8 0)), .cell (.val (.int .i64 0)), .cell (.val (.int .i64 0))], 108, .arr⟩) (spRow 0 (fun _ => 0) (List.replicate 136 0) ((0 : Nat) : Int) 0) (by kernel_rfl) (fun ρ => by kernel_rfl) (spOk 0 (fun _ => 0) (List.replicate 136 0) ((0 : Nat) : Int) 0 List.length_replicate) ?_
  exact digest_round w P m c ls hP hm hG m 0 (by omega) (fun _ => 0, List.replicate 136 0, 0) 0 (Spo.nil _ List.length_replicate)
theorem ksum_c (w : World) (P : Option Addr) (m c : Nat) (ls : List PartT) (hP : Parts w P m ls) (hm : m ≤ 9000000000000000000) (hG : w.cell? ⟨0, 0, none⟩ = some (.int .u8 1)) :
    Calls Tryd.prog 36 #[.slice P m c] w fun e w' => e = .returned (hashV (digL (joinT ls) 1)) ∧ Below w.heap.size w w' := by
  obtain ⟨X, hX⟩ : ∃ X, X = digL (joinT ls) 1 := ⟨_, rfl⟩
  have dc : ∀ w', Fr No w w' → Calls Tryd.prog 51 #[.int .i64 0, .slice P m c] w' fun e w'' => e = .returned (hashV X) ∧ Below w'.heap.size w' w'' := fun w' hf => hX ▸ digest_c w' P m c ls (hP.frN hf) hm (frN_cell hf hG)
  rw [← hX]
  refine calls_vm [.val (.slice P m c)] (fn := Tryd.f36) Tryd.func36 (by kernel_rfl) (by kernel_rfl) (by kernel_rfl) (by simp [AV.okL, AV.ok]) ?_
  refine wpK_end (n := 400) (m := 0) (nx := 0) (hs := [(2, .row [.ints .u8 32 (List.replicate 32 0)]), (4, .call (hashA X))]) (v := hashA X) follows (And.intro (fun ρ => (rfl : Seg.cells ρ [.ints .u8 32 (List.replicate 32 0)] = (Value.agg (ints .u8 (List.replicate 32 0))).cells.toList)) (And.intro (show Seg.ok No [.ints .u8 32 (List.replicate 32 0)] from ⟨rfl, trivial⟩) (And.intro dc (hashA_ok X No)))) (by kernel_rfl) ?_
  intro ρ w' hf; exact ⟨rfl, hf.to_below⟩
end Go.Proofs.YtkanjdllaikoaaaDoor

