/- A builder: WriteString, over plain facts. -/
import Derived.Test.YthgnmpjcbicdhaaDoorBlC
import Derived.Test.YthgnmpjcbicdhaaDoorVmR
import Derived.Test.YthgnmpjcbicdhaaDoorShelf
import Derived.Test.YthgnmpjcbicdhaaDoorGv
import Derived.Lib.AppendStr
import Derived.Lib.FrozenHead
set_option linter.unusedSimpArgs false
set_option linter.unusedVariables false
namespace Go.Proofs.YthgnmpjcbicdhaaDoor
open Go Go.RowKit

/-- A builder's variable, in blocks from W0 on, that holds these bytes. -/
def BldO (W0 : Nat) (w : World) (B : Nat) (l : List UInt8) : Prop := W0 ≤ B ∧ ∃ self v, w.heap[B]? = some (.cells #[self, v] 57 (0, 0)) ∧ ((self = .pointer none ∧ v = .slice none 0 0) ∨ self = .pointer (some ⟨B, 0, none⟩)) ∧
  w.ownsRow W0 5 1 v l.length (Lib.byteCells l) ∧ v.ownBlock ≠ some B
theorem ownsRow_fr {F : Nat → Prop} {W0 : Nat} {w w' : World} {ty : TypeId} {sz n : Nat} {v : Value} {xs : List Value} (h : w.ownsRow W0 ty sz v n xs) (hf : Fr F w w') (hF : ∀ B, v.ownBlock = some B → ¬ F B) : w'.ownsRow W0 ty sz v n xs := by
  obtain ⟨h1, h2 | ⟨g, cap, cur, rfl, h3, h4, h5⟩⟩ := h
  · exact ⟨h1, .inl h2⟩
  · refine ⟨h1, .inr ⟨g, cap, cur, rfl, h3, ?_, h5⟩⟩
    rw [hf.block g (Array.getElem?_eq_some_iff.1 h4).1 (hF g rfl)]
    exact h4
theorem BldO.fr {F : Nat → Prop} {W0 : Nat} {w w' : World} {B : Nat} {l : List UInt8} (h : BldO W0 w B l) (hf : Fr F w w') (hF : ∀ k, F k → ¬ W0 ≤ k) : BldO W0 w' B l := by
  obtain ⟨hW, self, v, h1, h2, h3, h4⟩ := h
  have hb : w'.heap[B]? = some (.cells #[self, v] 57 (0, 0)) := by rw [hf.block B (Array.getElem?_eq_some_iff.1 h1).1 (fun h => hF B h hW)]; exact h1
  refine ⟨hW, self, v, hb, h2, ownsRow_fr h3 hf (fun g hg hFg => ?_), h4⟩
  obtain ⟨_, ⟨rfl, _⟩ | ⟨g', cap, cur, rfl, h5, _⟩⟩ := h3
  · cases hg
  · simp only [Value.ownBlock, Option.some.injEq] at hg
    subst hg
    exact hF _ hFg h5
theorem BldO.isF {W0 : Nat} {w : World} {B : Nat} {l : List UInt8} (h : BldO W0 w B l) : Lib.IsBuilderF 57 5 W0 B (Lib.byteCells l) w := by
  obtain ⟨hW, self, v, h1, h2, h3, h4⟩ := h
  have h3' : w.ownsRow W0 5 1 v (Lib.byteCells l).length (Lib.byteCells l) := by rw [Lib.byteCells_length]; exact h3
  have e : Lib.IsBuilder 57 5 W0 B (Lib.byteCells l) w := by
    rcases h2 with ⟨rfl, rfl⟩ | rfl
    · exact .inl ⟨hW, _, h1, h3', h4⟩
    · exact .inr ⟨hW, _, h1, h3', h4⟩
  exact Lib.IsBuilderF.of e
theorem ckO_c (W0 : Nat) (w : World) (B : Nat) (l : List UInt8) (self v : Value) (h1 : w.heap[B]? = some (.cells #[self, v] 57 (0, 0))) (h2 : (self = .pointer none ∧ v = .slice none 0 0) ∨ self = .pointer (some ⟨B, 0, none⟩))
    (h3 : w.ownsRow W0 5 1 v l.length (Lib.byteCells l)) : Calls Tryd.prog 41 #[.pointer (some ⟨B, 0, none⟩)] w fun e w' => e = .returned (.tuple #[]) ∧ Fr (fun k => k = B) w w' ∧
    w'.heap[B]? = some (.cells #[.pointer (some ⟨B, 0, none⟩), v] 57 (0, 0)) := by
  rcases h2 with ⟨rfl, rfl⟩ | rfl
  · refine (ckF_c w B h1).mono ?_
    rintro e w' ⟨rfl, hf, hb⟩
    exact ⟨rfl, hf, hb⟩
  · have hv : ∃ A n c, v = .slice A n c := by
      obtain ⟨_, ⟨rfl, _⟩ | ⟨g', cap, cur, rfl, _⟩⟩ := h3
      · exact ⟨none, 0, 0, rfl⟩
      · exact ⟨_, _, _, rfl⟩
    obtain ⟨A, n, c, rfl⟩ := hv
    refine (ckU_c w B A n c h1).mono ?_
    rintro e w' ⟨rfl, hf, hb⟩
    exact ⟨rfl, hf, hb⟩
/-- What a builder may write: its variable, and rows of bytes from W0 on. -/
def WrB (W0 B : Nat) (w : World) (k : Nat) : Prop := k = B ∨ (W0 ≤ k ∧ ∃ cs m, w.heap[k]? = some (.cells cs 5 m))
abbrev apS (v : Value) (s : ByteArray) : Sem Next := do pure (.value (← Builtin.append_ #[33, 9] 33 #[v, .string s]))
abbrev stS (A : Addr) (v : Value) : Sem Next := do Instr.storeAt 33 (.pointer (some A)) v; pure .skip
theorem infU8 : ∃ i, Tryd.prog.info? 5 = some i ∧ i.size = 1 ∧ i.bytes = 1 ∧ i.zero = some (.int .u8 0) := by
  have h : (Tryd.prog.info? 5).map (fun i => (i.size, i.bytes, i.zero)) = some (1, 1, some (.int .u8 0)) := by kernel_rfl
  obtain ⟨i, hi, e⟩ := Option.map_eq_some_iff.1 h
  simp only [Prod.mk.injEq] at e
  exact ⟨i, hi, e.1, e.2.1, e.2.2⟩
theorem bytes_app (l : List UInt8) (s : ByteArray) : Lib.byteCells l ++ Lib.strCells s = Lib.byteCells (l ++ s.data.toList) := by
  simp [Lib.byteCells, Lib.strCells]
theorem slc_one (v : Value) (A : Option Addr) (n c : Nat) (h : v = .slice A n c) : v.oneCell' = true := by subst h; rfl
theorem ownsRow_slc {w : World} {W0 : Nat} {ty : TypeId} {sz n : Nat} {v : Value} {xs : List Value} (h : w.ownsRow W0 ty sz v n xs) : ∃ A m c, v = .slice A m c := by
  obtain ⟨_, ⟨rfl, _⟩ | ⟨g', cap, cur, rfl, _⟩⟩ := h
  · exact ⟨none, 0, 0, rfl⟩
  · exact ⟨_, _, _, rfl⟩
theorem fr_cellX {w w' : World} (hf : Fr No w w') {p : Addr} {v : Value} (h : w.cell? p = some v) : w'.cell? p = some v := by
  have hlt : p.block < w.heap.size := by
    rcases Nat.lt_or_ge p.block w.heap.size with h' | h'
    · exact h'
    · unfold World.cell? at h; rw [Array.getElem?_eq_none h'] at h; simp at h
  unfold World.cell? at *
  rw [hf.block p.block hlt (fun h => h)]
  exact h
theorem frF {F G : Nat → Prop} {w w' : World} (h : Fr F w w') (hFG : ∀ k, F k → G k) : Fr G w w' := ⟨h.os, h.tape, h.output, h.size, fun k hk hG => h.block k hk fun hF => hG (hFG k hF)⟩
theorem infSl : (Tryd.prog.info? 33).map (·.size) = some 1 := by kernel_rfl
/-- The list of a builder's variable is written. -/
theorem stS_run (w : World) (B : Nat) (x v v' : Value) (h : w.heap[B]? = some (.cells #[x, v] 57 (0, 0))) (h1 : ∃ A n c, v' = .slice A n c) : ∃ w2, (stS ⟨B, 1, none⟩ v').run Tryd.prog w = .ok .skip w2 ∧ w2.heap[B]? = some (.cells #[x, v'] 57 (0, 0)) ∧ Fr (fun k => k = B) w w2 := by
  have hc : w.cell? ⟨B, 1, none⟩ = some v := by simp [World.cell?, h]
  have hfz : w.frozen? ⟨B, 1, none⟩ = false := by simp [World.frozen?, h]
  have hst := run_store Tryd.prog w ⟨B, 1, none⟩ v' .plain (by obtain ⟨A, n, c, rfl⟩ := h1; rfl)
  rw [hc] at hst
  simp only [hfz, if_false, Bool.false_eq_true] at hst
  have hrow := setCell_eq_setRow w B 1 #[x, v] 57 (0, 0) v' h
  refine ⟨w.setCell ⟨B, 1, none⟩ v', ?_, ?_, ⟨rfl, rfl, rfl, by simp, fun k hk hF => ?_⟩⟩
  · have hsz := size_one infSl w
    have h0 : (⟨B, 1, none⟩ : Addr).add 0 = ⟨B, 1, none⟩ := by simp [Addr.add]
    have hcs : v'.cells = #[v'] := by obtain ⟨A, n, c, rfl⟩ := h1; rfl
    simp [stS, Instr.storeAt, Instr.sureAddr, storeVar, hsz, hcs, storeCells, h0, hst, Result.andThen]
  · rw [hrow]
    exact setRow_heap _ _ _ _ _ _ h
  · rw [hrow]
    exact setRow_other _ _ _ _ hF
set_option maxHeartbeats 1000000 in
theorem ws_c (W0 : Nat) (w : World) (B : Nat) (l : List UInt8) (s : ByteArray) (hB : BldO W0 w B l) (hlen : l.length + s.size ≤ 140737488355328) (hW : W0 ≤ w.heap.size) :
    Calls Tryd.prog 25 #[.pointer (some ⟨B, 0, none⟩), .string s] w fun e w' => e = .returned (.tuple #[.int .i64 (s.size : Int), .nilIface]) ∧ BldO W0 w' B (l ++ s.data.toList) ∧ Fr (WrB W0 B w) w w' := by
  obtain ⟨hWB, self, v, h1, h2, how0, hne⟩ := hB
  refine calls_vm [.val (.pointer (some ⟨B, 0, none⟩)), .val (.string s)] (fn := Tryd.f25) Tryd.func25 (by kernel_rfl) (by kernel_rfl) (by kernel_rfl) (by simp [AV.okL, AV.ok]) ?_
  refine wpK_loop (n := 400) (m := 0) (nx := 0) (hs := [(5, .eq (.val .nilIface)), (88888, .subE)]) (st' := regAt Tryd.f25 1) (s' := ⟨[(0, .val (.pointer (some ⟨B, 0, none⟩))), (1, .val (.string s))], []⟩) follows [] [0, 1] [] trivial (by kernel_rfl) ?_
  refine wpL_region (by kernel_rfl) ?_
  refine wpL_call 1 (nx := 500) (hs := []) (tm := [(0, .val (.pointer (some ⟨B, 0, none⟩))), (1, .val (.string s)), (6, .val (.pointer (some ⟨B, 0, none⟩)))]) (f := 41) (args := [.pointer (some ⟨B, 0, none⟩)]) trivial (by kernel_rfl) ?_
  intro w1 hf1
  have hb1 : w1.heap[B]? = some (.cells #[self, v] 57 (0, 0)) := by rw [hf1.block B (Array.getElem?_eq_some_iff.1 h1).1 (fun h => h)]; exact h1
  have how1 := ownsRow_fr how0 hf1 (fun _ _ h => h)
  refine (ckO_c W0 w1 B l self v hb1 h2 how1).mono ?_
  rintro e w2 ⟨rfl, hf2, hb⟩
  have how := ownsRow_fr how1 hf2 (fun g hg e => by subst e; exact hne hg)
  refine ⟨_, rfl, ?_⟩
  refine wpL_loop (n := 400) (m := 0) (nx := 500) (hs := [(88888, .subE)]) (st' := regAt Tryd.f25 2) (s' := ⟨[(0, .val (.pointer (some ⟨B, 0, none⟩))), (1, .val (.string s))], []⟩) follows [] [0, 1] [] trivial (by kernel_rfl) ?_
  refine wpL_region (by kernel_rfl) ?_
  have hcell : w2.cell? ⟨B, 1, none⟩ = some v := by simp [World.cell?, hb]
  have hv : ∃ A n c, v = .slice A n c := by
    obtain ⟨_, ⟨rfl, _⟩ | ⟨g', cap, cur, rfl, _⟩⟩ := how
    · exact ⟨none, 0, 0, rfl⟩
    · exact ⟨_, _, _, rfl⟩
  refine wpL_op 6 (nx := 500) (hs := [(12, .as (.val (v)))]) (tm := [(0, .val (.pointer (some ⟨B, 0, none⟩))), (1, .val (.string s)), (8, .val (.pointer (some ⟨B, 0, none⟩))), (9, .val (.pointer (some ⟨B, 0, none⟩))), (10, .val (.pointer (some ⟨B, 0, none⟩))), (11, .val (.pointer (some ⟨B, 1, none⟩))), (12, .val v), (13, .val (.string s))]) (m := apS v s) (sl_load (F := No) (w := w2) (A := ⟨B, 1, none⟩) (v := v) Tryd.underlying33 rfl (fun w' hf => fr_cellX hf hcell)) (by kernel_rfl) ?_
  intro w3 hf3
  have how3 := ownsRow_fr how hf3 (fun _ _ h => h)
  have hb3 : w3.heap[B]? = some (.cells #[.pointer (some ⟨B, 0, none⟩), v] 57 (0, 0)) := by rw [hf3.block B (Array.getElem?_eq_some_iff.1 hb).1 (fun h => h)]; exact hb
  obtain ⟨i, hi, hi1, hi2, hi3⟩ := infU8
  have hsz3 : W0 ≤ w3.heap.size := Nat.le_trans hW (Nat.le_trans hf1.size (Nat.le_trans hf2.size hf3.size))
  obtain ⟨v', w4, hrun, how4, hgr, _⟩ := Lib.run_append_own_string (P := Tryd.prog) w3 W0 33 9 33 5 i Tryd.underlying33 Tryd.underlying9 hi hi3 hi1 hi2 v l.length (Lib.byteCells l) how3 s (by simp only [maxLen]; omega) hlen hsz3
  have hlt3 : B < w3.heap.size := (Array.getElem?_eq_some_iff.1 hb3).1
  have hb4 : w4.heap[B]? = some (.cells #[.pointer (some ⟨B, 0, none⟩), v] 57 (0, 0)) := by rw [hgr.block B hlt3 (fun e => hne e.symm)]; exact hb3
  have hne4 : v'.ownBlock ≠ some B := by
    intro e
    obtain ⟨_, ⟨rfl, _⟩ | ⟨g', cap, cur, rfl, h5, h6, _⟩⟩ := how4
    · cases e
    · simp only [Value.ownBlock, Option.some.injEq] at e
      subst e
      rw [hb4] at h6
      simp only [Option.some.injEq, Obj.cells.injEq] at h6
      exact absurd h6.2.1 (by decide)
  have hf4 : Fr (WrB W0 B w) w3 w4 := ⟨hgr.os, hgr.tape, hgr.output, hgr.size, fun k hk hF => hgr.block k hk (fun e => by
    obtain ⟨_, ⟨rfl, _⟩ | ⟨g', cap, cur, rfl, h5, h6, _⟩⟩ := how0
    · cases e
    · simp only [Value.ownBlock, Option.some.injEq] at e
      subst e
      exact hF (.inr ⟨h5, _, _, h6⟩))⟩
  have hv' : ∃ A n c, v' = .slice A n c := by
    obtain ⟨_, ⟨rfl, _⟩ | ⟨g', cap, cur, rfl, _⟩⟩ := how4
    · exact ⟨none, 0, 0, rfl⟩
    · exact ⟨_, _, _, rfl⟩
  have hrun' : (apS v s).run Tryd.prog w3 = .ok (.value v') w4 := by unfold apS; rw [Sem.run_bind, hrun]; rfl
  refine ⟨_, v', w4, hrun', rfl, ?_⟩
  refine wpL_op 2 (nx := 600) (hs := []) (tm := [(0, .val (.pointer (some ⟨B, 0, none⟩))), (1, .val (.string s)), (8, .val (.pointer (some ⟨B, 0, none⟩))), (9, .val (.pointer (some ⟨B, 0, none⟩))), (10, .val (.pointer (some ⟨B, 0, none⟩))), (11, .val (.pointer (some ⟨B, 1, none⟩))), (12, .val v), (13, .val (.string s)), (14, .val v'), (15, .val (.pointer (some ⟨B, 0, none⟩))), (16, .val (.pointer (some ⟨B, 1, none⟩)))]) (m := stS ⟨B, 1, none⟩ v') trivial (by kernel_rfl) ?_
  intro w5 hf5
  have hb5 : w5.heap[B]? = some (.cells #[.pointer (some ⟨B, 0, none⟩), v] 57 (0, 0)) := by rw [hf5.block B (Array.getElem?_eq_some_iff.1 hb4).1 (fun h => h)]; exact hb4
  obtain ⟨w6, hrun6, hb6, hf6⟩ := stS_run w5 B _ v v' hb5 hv'
  refine ⟨_, _, w6, hrun6, rfl, ?_⟩
  have how6 := ownsRow_fr (ownsRow_fr how4 hf5 (fun _ _ h => h)) hf6 (fun g hg e => by subst e; exact hne4 hg)
  refine wpL_end (n := 400) (m := 0) (nx := 700) (hs := []) (v := .tup [.val (.int .i64 (s.size : Int)), .val .nilIface]) follows trivial (by kernel_rfl) ?_
  intro ρ w7 hf7
  have hf67 : Fr (WrB W0 B w) w w7 := ((((((frF hf1 (fun _ h => h.elim)).trans (frF hf2 (fun _ h => .inl h))).trans (frF hf3 (fun _ h => h.elim))).trans hf4).trans (frF hf5 (fun _ h => h.elim))).trans (frF hf6 (fun _ h => .inl h))).trans (frF hf7 (fun _ h => h.elim))
  have how7 := ownsRow_fr how6 hf7 (fun _ _ h => h)
  refine ⟨rfl, ⟨hWB, _, v', by rw [hf7.block B (Array.getElem?_eq_some_iff.1 hb6).1 (fun h => h)]; exact hb6, .inr rfl, ?_, hne4⟩, hf67⟩
  have hl : (l ++ s.data.toList).length = l.length + s.size := by rw [List.length_append]; rfl
  rw [← bytes_app, hl]
  exact how7
end Go.Proofs.YthgnmpjcbicdhaaDoor

