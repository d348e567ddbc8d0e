/- What the calls of U256Bytes lean on. -/
import Derived.Test.YthgnmpjcbicdhaaVRBytes
import Derived.Test.YthgnmpjcbicdhaaStrict
set_option linter.unusedSimpArgs false
set_option linter.unusedVariables false
namespace Go.Proofs.Ythgnmpjcbicdhaa
open Go Go.RowKit Go.Proofs.YthgnmpjcbicdhaaW.PrintWords

def Bytes (l : List Int) : Prop := ∀ x ∈ l, 0 ≤ x ∧ x ≤ 255
abbrev bl (n : Nat) (l : List Int) : Vblk := ⟨[.ints .u8 n l], 5, .own 1⟩
abbrev gb (n : Nat) (l : List Int) : Vblk := ⟨[.ints .u8 (n + 9) (room9 l 9)], 5, .arr⟩
theorem callG {P : Program} {w : World} {f : FuncId} {args : Array Value} {l : List Int} (k nm n : Nat) (c : ∀ w, Calls P f args w (Gives w l)) (hl : l.length = n) :
    ∀ (ρ : Env) (w' : World), Fr No w w' → hasAll (ctx P w k) ρ w' [] → Calls P f args w' fun e w'' => Below w'.heap.size w' w'' ∧ ∃ B C, e = .returned (AV.conc (ρ.up nm B C) (.own nm 1 0 n)) ∧ Sits (ρ.up nm B C) w'' nm (bl n l) ∧ (Vblk.alive (ρ.up nm B C) nm (bl n l) → w'.heap.size ≤ B) := by
  intro ρ w' _ _
  subst hl
  refine (c w').mono ?_
  rintro e w'' ⟨hb, B, C, rfl, ho, hB⟩
  refine ⟨hb, B, C, by rw [ownVal_conc], ?_, fun ha => hB ?_⟩
  · unfold Sits
    simp only [Env.up_same, Env.up_sameC, Seg.cells, Seg.cell1, List.append_nil]
    exact ho
  · unfold Vblk.alive at ha
    simp only [Env.up_sameC] at ha
    exact ha
theorem callS {w : World} (k k1 k2 n1 n2 : Nat) {l1 l2 : List Int} (h1 : l1.length = n1) (h2 : l2.length = n2) (b1 : n1 ≤ 140737488351232) (b2 : n2 ≤ 140737488351232) (r : Bool) (hr : decide (l1 = l2) = r) :
    ∀ (ρ : Env) (w' : World), Fr No w w' → hasAll (ctx Try.prog w k) ρ w' [(k1, bl n1 l1), (k2, bl n2 l2)] → Calls Try.prog 16 #[AV.conc ρ (.own k1 1 0 n1), AV.conc ρ (.own k2 1 0 n2)] w' fun e w'' => e = .returned (.bool r) ∧ Below w'.heap.size w' w'' := by
  intro ρ w' hf hh
  obtain ⟨A, c, e1, c1⟩ := C_own hh.1.1 h1 (by omega)
  obtain ⟨B, d, e2, c2⟩ := C_own hh.2.1.1 h2 (by omega)
  rw [e1, e2]
  have := same_c w' A B n1 n2 c d l1 l2 c1 c2 b1 b2
  rw [hr] at this
  exact this
theorem room9_take (l : List Int) (n j : Nat) (h : l.length = n) (hj : j < n) : (room9 l 9).getD j 0 = l.getD j 0 := by
  unfold room9
  rw [List.getD_eq_getElem?_getD, List.getElem?_append_left (by omega), ← List.getD_eq_getElem?_getD]
theorem C_given {ρ : Env} {w : World} {g n : Nat} {l : List Int} (h : Sits ρ w g (gb n l)) (hl : l.length = n) (hn : n ≤ 140737488351232) : Kd.C (Kd.int .u8) w (some ⟨ρ.b g, 0, none⟩) n l := by
  refine C_arr h hl (by omega) fun j hj => ?_
  simp only [Seg.cells, Seg.cell1, List.append_nil, Nat.zero_add]
  rw [nums_get .u8 _ j (by rw [room9_len l 9 (by omega)]; omega), room9_take l n j hl hj]
theorem callA {P : Program} {w : World} {f : FuncId} (k g n : Nat) {l : List Int} (hl : l.length = n) (hn : n ≤ 140737488351232) {r : Value} (c : ∀ A c w, Kd.C (Kd.int .u8) w A n l → Calls P f #[.slice A n c] w fun e w' => e = .returned r ∧ Below w.heap.size w w') :
    ∀ (ρ : Env) (w' : World), Fr No w w' → hasAll (ctx P w k) ρ w' [(g, gb n l)] → Calls P f #[AV.conc ρ (.lst g 0 0 n (n + 9))] w' fun e w'' => e = .returned r ∧ Below w'.heap.size w' w'' := by
  intro ρ w' hf hh
  exact c _ _ w' (C_given hh.1.1 hl hn)
theorem callSA {w : World} (k g n m c : Nat) {l k2 : List Int} {A : Option Addr} (hl : l.length = n) (hn : n ≤ 140737488351232) (h2 : Kd.C (Kd.int .u8) w A m k2) (hm : m ≤ 140737488351232) (r : Bool) (hr : decide (l = k2) = r) :
    ∀ (ρ : Env) (w' : World), Fr No w w' → hasAll (ctx Try.prog w k) ρ w' [(g, gb n l)] → Calls Try.prog 16 #[AV.conc ρ (.lst g 0 0 n (n + 9)), .slice A m c] w' fun e w'' => e = .returned (.bool r) ∧ Below w'.heap.size w' w'' := by
  intro ρ w' hf hh
  have := same_c w' _ A n m (n + 9) c l k2 (C_given hh.1.1 hl hn) (Kd.C_below h2 hf.to_below) hn hm
  rw [hr] at this
  exact this
theorem callSp {w : World} (k g n : Nat) {l : List Int} (hl : l.length = n) (hn : n ≤ 140737488351232) :
    ∀ (ρ : Env) (w' : World), Fr No w w' → hasAll (ctx Try.prog w k) ρ w' [(g, gb n l)] → Calls Try.prog 23 #[AV.conc ρ (.lst g 0 0 n (n + 9))] w' fun e w'' => e = .returned (.bool true) ∧ Below w'.heap.size w' w'' := by
  intro ρ w' hf hh
  refine spared_c w' _ n l (C_arr hh.1.1 (by rw [room9_len l 9 (by omega), hl]) (by omega) fun j hj => ?_) hn hl
  simp only [Seg.cells, Seg.cell1, List.append_nil, Nat.zero_add]
  rw [nums_get .u8 _ j (by rw [room9_len l 9 (by omega)]; omega)]
theorem callR {w : World} (k nm n c : Nat) {l : List Int} {A : Option Addr} (h : Kd.C (Kd.int .u8) w A n l) (hn : n ≤ 140737488351232) :
    ∀ (ρ : Env) (w' : World), Fr No w w' → hasAll (ctx Try.prog w k) ρ w' [] → Calls Try.prog 17 #[.slice A n c] w' fun e w'' => Below w'.heap.size w' w'' ∧ ∃ B C, e = .returned (AV.conc (ρ.up nm B C) (.lst nm 0 0 n (n + 9))) ∧ Sits (ρ.up nm B C) w'' nm (gb n l) ∧ (Vblk.alive (ρ.up nm B C) nm (gb n l) → w'.heap.size ≤ B) := by
  intro ρ w' hf _
  refine (roomy_c w' A n c l (Kd.C_below h hf.to_below) hn).mono ?_
  rintro e w'' ⟨hb, B, rfl, hB, hle⟩
  refine ⟨hb, B, 0, by simp [AV.conc, Env.up_same], ?_, fun _ => hle⟩
  unfold Sits
  simp only [Env.up_same, Seg.cells, Seg.cell1, List.append_nil]
  exact hB
theorem run_eq_bytes (zs : List Int) (hz : zs.length = 32) (w : World) : (Op.equal 27 (bytesV zs) (bytesV zs)).run Try.prog w = .ok true w := by
  have e : bytesV zs = .agg (ints .u8 zs) := by unfold bytesV ints; rw [List.append_nil]
  rw [e]
  obtain ⟨i, hi, hs⟩ : ∃ i, Try.prog.info? 5 = some i ∧ i.size = 1 := by
    have := info1
    cases hq : Try.prog.info? 5 with
    | none => rw [hq] at this; cases this
    | some i => rw [hq] at this; exact ⟨i, rfl, by simpa using this⟩
  have h := run_equalIn_arr (P := Try.prog) 9998 27 5 32 .u8 .u8 i Try.underlying27 Try.underlying5 hi hs zs zs hz hz w
  rw [decide_eq_true rfl] at h
  exact h
def xorv (x : Int) : Int := IntKind.u8.wrap ((BitVec.ofInt IntKind.u8.bits x ^^^ BitVec.ofInt IntKind.u8.bits 255).toNat : Int)
theorem xorv_byte (x : Int) : 0 ≤ xorv x ∧ xorv x ≤ 255 := by
  unfold xorv
  rw [IntKind.wrap_u8]
  omega
theorem room9_set (l : List Int) (n i : Nat) (v : Int) (h : l.length = n) (hi : i < n) : (room9 l 9).set i v = room9 (l.set i v) 9 := by
  unfold room9
  rw [List.set_append_left _ _ (by omega)]
end Go.Proofs.Ythgnmpjcbicdhaa

