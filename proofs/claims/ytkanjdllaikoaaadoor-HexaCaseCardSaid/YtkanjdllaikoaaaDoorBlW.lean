/- A builder: WriteByte. -/
import Derived.Test.YtkanjdllaikoaaaDoorBlC
set_option linter.unusedSimpArgs false
set_option linter.unusedVariables false
namespace Go.Proofs.YtkanjdllaikoaaaDoor
open Go Go.RowKit

abbrev obn (n : Nat) (l : List Int) : Vblk := ⟨[.ints .u8 n l], 5, .own 1⟩
abbrev bo (k n : Nat) : Vblk := ⟨[.cell (.ptr 0 0), .cell (.own k 1 0 n)], 76, .arr⟩
/-- The bytes of a text as numbers. -/
def nums (l : List UInt8) : List Int := l.map fun b => (b.toNat : Int)
theorem nums_cells (l : List UInt8) : (nums l).map (Value.int .u8) = Lib.byteCells l := by simp [nums, Lib.byteCells]
/-- A builder, in blocks from W0 on, that holds these bytes. -/
def Bld (W0 : Nat) (w : World) (B : Nat) (l : List UInt8) : Prop := W0 ≤ B ∧ ((l = [] ∧ w.heap[B]? = some (.cells #[.pointer none, .slice none 0 0] 76 (0, 0))) ∨
  ∃ g c, W0 ≤ g ∧ g ≠ B ∧ 0 < c ∧ w.heap[B]? = some (.cells #[.pointer (some ⟨B, 0, none⟩), .slice (some ⟨g, 0, none⟩) l.length c] 76 (0, 0)) ∧ OwnAt w g c 1 5 (Lib.byteCells l))
theorem bld_of {W0 : Nat} {w : World} {B k n : Nat} {l : List UInt8} {ρ : Env} (h0 : Sits ρ w 0 (bo k n)) (h1 : Sits ρ w k (obn n (nums l))) (e : ρ.b 0 = B) (hn : 0 < n) (hl : l.length = n) (hB : W0 ≤ B) (hh : (obn n (nums l)).alive ρ k → W0 ≤ ρ.b k) : Bld W0 w B l := by
  subst hl e
  have hcells : Seg.cells ρ [.ints .u8 l.length (nums l)] = Lib.byteCells l := by simp [Seg.cells, Seg.cell1, nums_cells]
  unfold Sits at h0 h1
  simp only [hcells] at h1
  have hc : 0 < ρ.c k := by
    rcases Nat.eq_zero_or_pos (ρ.c k) with h | h
    · have := h1.1 h
      have h2 : (Lib.byteCells l).length = 0 := by rw [this]; rfl
      rw [Lib.byteCells_length] at h2
      omega
    · exact h
  obtain ⟨c, hcc⟩ : ∃ c, ρ.c k = c + 1 := ⟨ρ.c k - 1, by omega⟩
  have h0' : w.heap[ρ.b 0]? = some (.cells #[.pointer (some ⟨ρ.b 0, 0, none⟩), .slice (some ⟨ρ.b k, 0, none⟩) l.length (ρ.c k)] 76 (0, 0)) := by
    simp only [Seg.cells, Seg.cell1, AV.conc, hcc] at h0
    rw [hcc]
    simpa using h0
  refine ⟨hB, .inr ⟨ρ.b k, ρ.c k, hh hc, fun e => ?_, hc, h0', ?_⟩⟩
  · obtain ⟨_, spare, _, h3⟩ := h1.2 hc
    rw [e, h0'] at h3
    simp only [Option.some.injEq, Obj.cells.injEq] at h3
    exact absurd h3.2.1 (by decide)
  · exact h1
theorem byteV {c : UInt8} : ∀ ρ, Seg.cells ρ [.ints .u8 1 [(c.toNat : Int)]] = Seg.cells ρ [] ++ Seg.cells ρ [.cell (.val (.int .u8 (c.toNat : Int)))] := by
  intro ρ; simp [Seg.cells, Seg.cell1, AV.conc]
theorem frF {F G : Nat → Prop} {w w' : World} (h : Fr F w w') (hFG : ∀ k, F k → G k) : Fr G w w' := ⟨h.os, h.tape, h.output, h.size, fun k hk hG => h.block k hk fun hF => hG (hFG k hF)⟩
set_option maxHeartbeats 1000000 in
theorem writeByte_c (W0 : Nat) (w : World) (B : Nat) (l : List UInt8) (c : UInt8) (hB : Bld W0 w B l) (hl : l.length + 1 ≤ 140737488355328) (hW : W0 ≤ w.heap.size) :
    Calls Tryd.prog 45 #[.pointer (some ⟨B, 0, none⟩), .int .u8 (c.toNat : Int)] w fun e w' => e = .returned .nilIface ∧ Bld W0 w' B (l ++ [c]) ∧ Fr (fun k => W0 ≤ k) w w' := by
  obtain ⟨hWB, h | ⟨g, cp, hg, hgB, hcp, hb, ho⟩⟩ := hB
  · obtain ⟨rfl, hb⟩ := h
    refine calls_vmF (F := fun k => k = B) (ρ0 := AtB B) (n0 := 1) [(0, bf)] [.ptr 0 0, .val (.int .u8 (c.toNat : Int))] (fn := Tryd.f45) Tryd.func45 (by kernel_rfl) (by kernel_rfl) (by kernel_rfl) (relM_oneK (b := bf) (show Sits (AtB B) w 0 bf from hb) ⟨⟨rfl, trivial⟩, ⟨rfl, trivial⟩, trivial⟩) ⟨rfl, trivial, trivial⟩ ?_
    have hck : ∀ (ρ : Env) w', Fr (fun k => k = B) w w' → hasAll (ctxF Tryd.prog w (fun k => k = B) (AtB B) 1 Tryd.f45.ntmps) ρ w' [(0, bf)] → Calls Tryd.prog 62 #[.pointer (some ⟨ρ.b 0, 0, none⟩)] w' fun e w'' => e = .returned (AV.conc ρ (.tup [])) ∧ Fr (fun b => b = ρ.b 0 ∧ bf.alive ρ 0) w' w'' ∧ Sits ρ w'' 0 (bu (.slice none 0 0)) ∧ ((bu (.slice none 0 0)).alive ρ 0 → bf.alive ρ 0) := by
      intro ρ w' hf hh
      refine (ckF_c w' (ρ.b 0) hh.1.1).mono ?_
      rintro e w'' ⟨rfl, h2, h3⟩
      exact ⟨rfl, frF h2 fun k e => ⟨e, trivial⟩, h3, fun _ => trivial⟩
    refine wpK_endF (n := 400) (m := 0) (nx := 10) (hs := [(6, .callW [] 0 (bu (.slice none 0 0)) (.tup [])), (14, .app [.ints .u8 1 [(c.toNat : Int)]] 1)]) (v := .val .nilIface) (bs := [(0, bo 20 1), (20, obn 1 [(c.toNat : Int)])]) follows [0, 20] (And.intro hck (And.intro (show Seg.ok (kd 0 []) (bu (.slice none 0 0)).row from ⟨⟨rfl, .inl rfl⟩, ⟨rfl, trivial⟩, trivial⟩) (And.intro (show ∀ D : Nat → Prop, D 0 → (∀ k, k ∈ ([] : List Nat) → D k) → AV.ok D (.tup []) from fun _ _ _ => trivial) (And.intro (byteV (c := c)) (And.intro (show Seg.ok No [.ints .u8 1 [(c.toNat : Int)]] from ⟨rfl, trivial⟩) (And.intro (rfl : 1 = 1) (And.intro (rfl : 0 = 0) (show 1 ≤ 140737488355328 by omega)))))))) (by kernel_rfl) ?_
    intro ρ w' hf hx hh
    refine ⟨rfl, bld_of (l := [] ++ [c]) hh.1.1 hh.2.1.1 (hx 0 Nat.zero_lt_one).1 Nat.zero_lt_one rfl hWB fun ha => ?_, frF hf fun k (e : k = B) => by omega⟩
    rcases hh.2.1.2 ha with h | h
    · have h : ρ.b 20 = B := h
      omega
    · have h : w.heap.size ≤ ρ.b 20 := h
      omega
  · obtain ⟨ρ0, e0, e1, e2⟩ : ∃ ρ0 : Env, ρ0.b 0 = B ∧ ρ0.b 1 = g ∧ ρ0.c 1 = cp := ⟨⟨fun k => match k with | 0 => B | _ => g, fun _ => cp⟩, rfl, rfl, rfl⟩
    obtain ⟨n, hn⟩ : ∃ n, n = l.length := ⟨_, rfl⟩
    obtain ⟨cq, hcq⟩ : ∃ cq, cp = cq + 1 := ⟨cp - 1, by omega⟩
    have hnl : (nums l).length = n := by rw [hn]; simp [nums]
    have hs0 : Sits ρ0 w 0 (bo 1 n) := by
      unfold Sits
      simp only [Seg.cells, Seg.cell1, AV.conc, e0, e1, e2, hcq]
      rw [hn]
      simpa [hcq] using hb
    have hs1 : Sits ρ0 w 1 (obn n (nums l)) := by
      unfold Sits
      simp only [Seg.cells, Seg.cell1, e1, e2, nums_cells, List.append_nil]
      exact ho
    rw [← e0]
    refine calls_vmF (F := fun k => k = ρ0.b 0 ∨ k = ρ0.b 1) (ρ0 := ρ0) (n0 := 2) [(0, bo 1 n), (1, obn n (nums l))] [.ptr 0 0, .val (.int .u8 (c.toNat : Int))] (fn := Tryd.f45) Tryd.func45 (by kernel_rfl) (by kernel_rfl) (by kernel_rfl) (relM_two hs0 hs1 ⟨⟨rfl, .inl rfl⟩, ⟨rfl, .inr (by simp)⟩, trivial⟩ ⟨hnl, trivial⟩ (by omega)) ⟨rfl, trivial, trivial⟩ ?_
    have hck : ∀ (ρ : Env) w', Fr (fun k => k = ρ0.b 0 ∨ k = ρ0.b 1) w w' → hasAll (ctxF Tryd.prog w (fun k => k = ρ0.b 0 ∨ k = ρ0.b 1) ρ0 2 Tryd.f45.ntmps) ρ w' [(0, bo 1 n), (1, obn n (nums l))] → Calls Tryd.prog 62 #[.pointer (some ⟨ρ.b 0, 0, none⟩)] w' fun e w'' => e = .returned (AV.conc ρ (.tup [])) ∧ Fr (fun b => b = ρ.b 0 ∧ (bo 1 n).alive ρ 0) w' w'' ∧ Sits ρ w'' 0 (bo 1 n) ∧ ((bo 1 n).alive ρ 0 → (bo 1 n).alive ρ 0) := by
      intro ρ w' hf hh
      obtain ⟨A, m, cc, hA⟩ : ∃ A m cc, AV.conc ρ (.own 1 1 0 n) = .slice A m cc := by
        cases hq : ρ.c 1 with
        | zero => exact ⟨none, 0, 0, by simp [AV.conc, hq]⟩
        | succ q => exact ⟨some ⟨ρ.b 1, 0, none⟩, n, q + 1, by simp [AV.conc, hq]⟩
      have hbl : w'.heap[ρ.b 0]? = some (.cells (Seg.cells (AtB (ρ.b 0)) (bu (.slice A m cc)).row).toArray 76 (0, 0)) := by
        have := hh.1.1
        unfold Sits at this
        simp only [Seg.cells, Seg.cell1, hA] at this
        exact this
      refine (ckU_c w' (ρ.b 0) A m cc hbl).mono ?_
      rintro e w'' ⟨rfl, h2, h3⟩
      refine ⟨rfl, frF h2 fun k e => ⟨e, trivial⟩, ?_, id⟩
      unfold Sits
      simp only [Seg.cells, Seg.cell1, hA]
      exact h3
    have hcat : ∀ ρ, Seg.cells ρ [.ints .u8 (n + 1) (nums l ++ [(c.toNat : Int)])] = Seg.cells ρ [.ints .u8 n (nums l)] ++ Seg.cells ρ [.cell (.val (.int .u8 (c.toNat : Int)))] := by
      intro ρ
      simp [Seg.cells, Seg.cell1, AV.conc]
    have hlen : (nums l ++ [(c.toNat : Int)]).length = n + 1 := by simp [hnl]
    have hmb : n + 1 ≤ 140737488355328 := by omega
    have hnum : nums l ++ [(c.toNat : Int)] = nums (l ++ [c]) := by simp [nums]
    refine wpK_endF (n := 400) (m := 0) (nx := 10) (hs := [(6, .callW [1] 0 (bo 1 n) (.tup [])), (14, .app [.ints .u8 (n + 1) (nums l ++ [(c.toNat : Int)])] (n + 1))]) (v := .val .nilIface) (bs := [(0, bo 20 (n + 1)), (20, obn (n + 1) (nums l ++ [(c.toNat : Int)]))]) follows [0, 20] (And.intro hck (And.intro (show Seg.ok (kd 0 [1]) (bo 1 n).row from ⟨⟨rfl, .inl rfl⟩, ⟨rfl, .inr (by simp)⟩, trivial⟩) (And.intro (show ∀ D : Nat → Prop, D 0 → (∀ k, k ∈ [1] → D k) → AV.ok D (.tup []) from fun _ _ _ => trivial) (And.intro hcat (And.intro (show Seg.ok No [.ints .u8 (n + 1) (nums l ++ [(c.toNat : Int)])] from ⟨hlen, trivial⟩) (And.intro (rfl : n + 1 = n + 1) (And.intro (Nat.zero_add n) hmb))))))) (by kernel_rfl) ?_
    intro ρ w' hf hx hh
    have h20 := hh.2.1
    rw [hnum] at h20
    refine ⟨rfl, bld_of (l := l ++ [c]) hh.1.1 h20.1 (hx 0 (Nat.zero_lt_succ 1)).1 (Nat.succ_pos n) (by simp [hn]) (by omega) fun ha => ?_, frF hf fun k (e : k = ρ0.b 0 ∨ k = ρ0.b 1) => by omega⟩
    rcases h20.2 ha with h | h
    · have h : ρ.b 20 = ρ0.b 0 ∨ ρ.b 20 = ρ0.b 1 := h
      omega
    · have h : w.heap.size ≤ ρ.b 20 := h
      omega
end Go.Proofs.YtkanjdllaikoaaaDoor

