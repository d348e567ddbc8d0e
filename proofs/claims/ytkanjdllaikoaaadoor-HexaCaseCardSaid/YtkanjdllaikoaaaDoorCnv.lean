/- Texts as bytes, and back. -/
import Derived.Test.YtkanjdllaikoaaaDoorGv
import Derived.Test.YtkanjdllaikoaaaDoorVmG
import Derived.Lib.ConvBytes
import Derived.Laws.IdiomStrings
set_option linter.unusedVariables false
set_option linter.unusedSimpArgs false
namespace Go.Proofs.YtkanjdllaikoaaaDoor
open Go Go.RowKit
/-- Bytes as a text. -/
def strI (l : List Int) : ByteArray := ⟨(l.map fun x => UInt8.ofNat x.toNat).toArray⟩
/-- The bytes of a text. -/
def bytesI (s : ByteArray) : List Int := s.data.toList.map fun b => (b.toNat : Int)
theorem bytesI_len (s : ByteArray) : (bytesI s).length = s.size := by
  simp [bytesI]
theorem bytesI_byte (s : ByteArray) (x : Int) (h : x ∈ bytesI s) : 0 ≤ x ∧ x < 256 := by
  unfold bytesI at h
  obtain ⟨b, _, rfl⟩ := List.mem_map.1 h
  have := b.toNat_lt
  omega
/-- All are bytes. -/
def ByteL (l : List Int) : Prop := ∀ x ∈ l, 0 ≤ x ∧ x < 256
theorem bytesI_strI (l : List Int) (h : ByteL l) : bytesI (strI l) = l := by
  unfold bytesI strI
  simp only [List.map_map]
  rw [show (List.map ((fun b : UInt8 => (b.toNat : Int)) ∘ fun x : Int => UInt8.ofNat x.toNat) l) = List.map id l from ?_, List.map_id]
  refine List.map_congr_left fun x hx => ?_
  have := h x hx
  simp only [Function.comp, id]
  rw [UInt8.toNat_ofNat']
  omega
theorem strI_inj {l m : List Int} (hl : ByteL l) (hm : ByteL m) (h : strI l = strI m) : l = m := by
  rw [← bytesI_strI l hl, ← bytesI_strI m hm, h]
theorem strI_bytesI (s : ByteArray) : strI (bytesI s) = s := by
  unfold bytesI strI
  rw [List.map_map]
  have : (List.map ((fun x : Int => UInt8.ofNat x.toNat) ∘ fun b : UInt8 => (b.toNat : Int)) s.data.toList) = List.map id s.data.toList := by
    refine List.map_congr_left fun b _ => ?_
    simp
  rw [this, List.map_id, Array.toArray_toList]
/-- A row that a conversion of a text has made. -/
def CRow (w : World) (S : Nat) (xs : List Int) : Prop := ∃ (C : Array Value) (N : Nat), w.heap[S]? = some (.cells C 5 (N, N + 1)) ∧ N = C.size ∧ xs.length ≤ N ∧ C.toList.take xs.length = xs.map (Value.int .u8)
theorem CRow.at {w : World} {S : Nat} {xs : List Int} (h : CRow w S xs) (i : Nat) (hi : i < xs.length) : w.cell? ⟨S, i, none⟩ = some (.int .u8 (xs.getD i 0)) := by
  obtain ⟨C, N, h1, h2, h3, h4⟩ := h
  have h5 : C.toList[i]? = some (.int .u8 (xs.getD i 0)) := by
    have := congrArg (fun l => l[i]?) h4
    simp only [List.getElem?_take_of_lt hi] at this
    rw [this]
    exact vals_get .u8 xs i hi
  unfold World.cell?
  rw [h1]
  simpa using h5
theorem CRow.fr {w w' : World} {S : Nat} {xs : List Int} (h : CRow w S xs) (hf : Fr No w w') : CRow w' S xs := by
  obtain ⟨C, N, h1, h2⟩ := h
  exact ⟨C, N, by rw [hf.block S (Array.getElem?_eq_some_iff.1 h1).1 (fun h => h)]; exact h1, h2⟩
theorem CRow.keep {w w' : World} {S : Nat} {xs : List Int} (h : CRow w S xs) (hf : w'.heap[S]? = w.heap[S]?) : CRow w' S xs := by
  obtain ⟨C, N, h1, h2⟩ := h
  exact ⟨C, N, by rw [hf]; exact h1, h2⟩
theorem CRow.sl {w : World} {S : Nat} {xs : List Int} (h : CRow w S xs) : Sl .u8 w (some ⟨S, 0, none⟩) xs.length xs :=
  ⟨rfl, fun i hi => ⟨_, rfl, by rw [add_at, Nat.zero_add]; exact h.at i hi⟩⟩
theorem CRow.lt {w : World} {S : Nat} {xs : List Int} (h : CRow w S xs) : S < w.heap.size := by
  obtain ⟨C, N, h1, h2⟩ := h
  exact (Array.getElem?_eq_some_iff.1 h1).1
theorem infB8 : (Tryd.prog.info? 5).map (·.size) = some 1 := by kernel_rfl
abbrev cvS (s : ByteArray) : Sem Next := do pure (.value (← convert 9 22 (.string s)))
/-- A text as bytes: a new row. -/
theorem cvS_run (w : World) (s : ByteArray) : ∃ c w2, (cvS s).run Tryd.prog w = .ok (.value (.slice (some ⟨w.heap.size, 0, none⟩) s.size c)) w2 ∧ s.size ≤ c ∧ CRow w2 w.heap.size (bytesI s) ∧ Fr No w w2 := by
  have h := Lib.run_convert_string_bytes (P := Tryd.prog) w 9 22 5 s Tryd.underlying9 Tryd.underlying22 Tryd.underlying5
  have hsz : s.size ≤ (Lib.bytesCells w 5 s).size := by simp [Lib.bytesCells]
  refine ⟨grownCap w s.size 0 5, Lib.bytesWorld w 5 s, ?_, ?_, ⟨_, _, Lib.bytesWorld_at_new w 5 s, rfl, by rw [bytesI_len]; exact hsz, ?_⟩, ?_⟩
  · unfold cvS
    rw [Sem.run_bind, h]
    rfl
  · exact grownCap_ge w s.size 0 5
  · rw [bytesI_len]
    unfold Lib.bytesCells bytesI
    rw [Array.toList_append, List.take_append_of_le_length (by simp)]
    simp only [Array.toList_map, List.map_map]
    rw [List.take_of_length_le (by rw [List.length_map]; exact Nat.le_refl _)]
    rfl
  · exact ⟨rfl, rfl, rfl, by rw [Lib.bytesWorld_size]; omega, fun k hk _ => Lib.bytesWorld_at_old w 5 s k hk⟩
abbrev stB (S i : Nat) (v : Int) : Sem Next := do Instr.storeAt 5 (.pointer (some ⟨S, i, none⟩)) (.int .u8 v); pure .skip
/-- A byte is written into it. -/
theorem stB_run (w : World) (S i : Nat) (v : Int) (xs : List Int) (h : CRow w S xs) (hi : i < xs.length) : ∃ w2, (stB S i v).run Tryd.prog w = .ok .skip w2 ∧ CRow w2 S (xs.set i v) ∧ Fr (fun k => k = S) w w2 := by
  obtain ⟨C, N, h1, h2, h3, h4⟩ := h
  have hiN : i < N := by omega
  have hc : (w.cell? ⟨S, i, none⟩).isSome = true := by
    unfold World.cell?
    rw [h1]
    simp; omega
  have hfz : w.frozen? ⟨S, i, none⟩ = false := by
    simp only [World.frozen?, h1, Bool.and_eq_false_iff, decide_eq_false_iff_not]
    left; omega
  have hst := run_store Tryd.prog w ⟨S, i, none⟩ (.int .u8 v) .plain rfl
  obtain ⟨u, hu⟩ := Option.isSome_iff_exists.1 hc
  rw [hu] at hst
  simp only [hfz, if_false, Bool.false_eq_true] at hst
  have hrow := setCell_eq_setRow w S i C 5 (N, N + 1) (.int .u8 v) h1
  refine ⟨w.setCell ⟨S, i, none⟩ (.int .u8 v), ?_, ⟨C.setIfInBounds i (.int .u8 v), N, ?_, by simp [h2], by simpa using h3, ?_⟩, ⟨rfl, rfl, rfl, by simp, fun k hk hF => ?_⟩⟩
  · have hsz := size_one infB8 w
    have h0 : (⟨S, i, none⟩ : Addr).add 0 = ⟨S, i, none⟩ := by simp [Addr.add]
    have hcs : (Value.int .u8 v).cells = #[.int .u8 v] := rfl
    simp [stB, Instr.storeAt, Instr.sureAddr, storeVar, hsz, hcs, storeCells, h0, hst, Result.andThen]
  · rw [hrow]
    exact setRow_heap _ _ _ _ _ _ h1
  · rw [Array.toList_setIfInBounds, List.length_set, List.take_set, h4, List.map_set]
  · rw [hrow]
    exact setRow_other _ _ _ _ hF
abbrev cvB (A : Addr) (n c : Nat) : Sem Next := do pure (.value (← convert 22 9 (.slice (some A) n c)))
theorem strI_run (w : World) (A : Addr) (n c : Nat) (xs : List Int) (h : Sl .u8 w (some A) n xs) (hb : ByteL xs) : (cvB A n c).run Tryd.prog w = .ok (.value (.string (strI xs))) w := by
  obtain ⟨hl, hc⟩ := h
  subst hl
  have hs := run_convert_bytes_back (P := Tryd.prog) w 22 9 5 A c (xs.map fun x => UInt8.ofNat x.toNat) Tryd.underlying22 Tryd.underlying5 Tryd.underlying9 (fun j hj => by
    have hj' : j < xs.length := by simpa using hj
    obtain ⟨ad, e, h2⟩ := hc j hj'
    simp only [Option.some.injEq] at e
    subst e
    rw [h2]
    have hx := hb xs[j] (List.getElem_mem hj')
    have e1 : xs.getD j 0 = xs[j] := by rw [List.getD_eq_getElem?_getD, List.getElem?_eq_getElem hj']; rfl
    rw [e1]
    simp only [List.getElem_map, UInt8.toNat_ofNat']
    congr 2
    omega)
  rw [List.length_map] at hs
  unfold cvB
  rw [Sem.run_bind, hs]
  rfl
end Go.Proofs.YtkanjdllaikoaaaDoor

