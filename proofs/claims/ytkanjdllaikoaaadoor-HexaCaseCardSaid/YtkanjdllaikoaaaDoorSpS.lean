/- The sponge tells its digest. -/
import Derived.Test.YtkanjdllaikoaaaDoorSpC
set_option linter.unusedSimpArgs false
set_option linter.unusedVariables false
namespace Go.Proofs.YtkanjdllaikoaaaDoor
open Go Go.RowKit

set_option maxHeartbeats 8000000 in
set_option maxRecDepth 100000 in
theorem sum_c (w : World) (B : Nat) (t : List Int) (long : Int) (a : Nat → B64) (part : List Int) (held : Nat) (hP : Spo t a part held) (hG : ∀ w', Fr (fun k => k = B) w w' → w'.cell? ⟨0, 0, none⟩ = some (.int .u8 1)) (hs : Sits (At B) w 0 (spB 0 a part (held : Int) long)) :
    Calls Tryd.prog 67 #[.pointer (some ⟨B, 0, none⟩)] w fun e w' => e = .returned (.agg ((hashOf (digL t 1)).map (Value.int .u8) ++ []).toArray) ∧ Fr (fun k => k = B) w w' ∧ Sits (At B) w' 0 (spB 0 a part (held : Int) long) := by
  have hlt : held < 136 := by have := hP.hh; omega
  have hp := hP.hl
  refine calls_vmF (F := (fun k => k = B)) (ρ0 := At B) (n0 := 1) [(0, spB 0 a part (held : Int) long)] [.ptr 0 0] (fn := Tryd.f67) Tryd.func67 (by kernel_rfl) (by kernel_rfl) (by kernel_rfl) (relM_one hs (spOk 0 a part (held : Int) long hp)) ⟨rfl, trivial⟩ ?_
  obtain ⟨p1, hp1⟩ : ∃ p1, p1 = part.take held ++ List.replicate (136 - held) 0 := ⟨_, rfl⟩
  have l1 : p1.length = 136 := by rw [hp1]; simp; omega
  have z1 : p1.getD held 0 = 0 := by
    rw [hp1, List.getD_eq_getElem?_getD, List.getElem?_append_right (by simp; omega), List.getElem?_replicate]
    split <;> rfl
  have x1 : IntKind.u8.wrap ((BitVec.ofInt IntKind.u8.bits (p1.getD held 0) ^^^ BitVec.ofInt IntKind.u8.bits 1).toNat : Int) = 1 := by rw [z1]; decide
  obtain ⟨v2, hv2⟩ : ∃ v2, v2 = IntKind.u8.wrap ((BitVec.ofInt IntKind.u8.bits ((p1.set held 1).getD 135 0) ^^^ BitVec.ofInt IntKind.u8.bits 128).toNat : Int) := ⟨_, rfl⟩
  have l2 : ((p1.set held 1).set 135 v2).length = 136 := by rw [List.length_set, List.length_set, l1]
  obtain ⟨X, hX⟩ : ∃ X, X = permN (inL a (fun i => ((p1.set held 1).set 135 v2).getD i 0) 136) 24 := ⟨_, rfl⟩
  have hfin : X = digL t 1 := by
    rw [hX, ← hP.last 1]
    congr 1
    refine inL_congr _ 136 fun i hi => ?_
    have g1 : ∀ j, held ≤ j → p1.getD j 0 = 0 := by
      intro j hj
      rw [hp1, List.getD_eq_getElem?_getD, List.getElem?_append_right (by simp; omega), List.getElem?_replicate]
      split <;> rfl
    have g0 : ∀ j, j < held → p1.getD j 0 = part.getD j 0 := by
      intro j hj
      rw [hp1, List.getD_eq_getElem?_getD, List.getElem?_append_left (by simp; omega), List.getElem?_take_of_lt hj, ← List.getD_eq_getElem?_getD]
    have gs : ∀ (l : List Int) (n j : Nat) (x : Int), l.length = 136 → n < 136 → (l.set n x).getD j 0 = if n = j then x else l.getD j 0 := by
      intro l n j x hl hn
      rw [List.getD_eq_getElem?_getD, List.getElem?_set, List.getD_eq_getElem?_getD]
      by_cases h : n = j
      · subst h; simp [hl, hn]
      · simp [h]
    have hv3 : v2 = if held = 135 then 129 else 128 := by
      rw [hv2, gs p1 held 135 1 l1 hlt]
      by_cases h : held = 135
      · simp only [h, if_true]; decide
      · rw [if_neg h, if_neg h, g1 135 (by omega)]; decide
    rw [gs _ 135 i _ (by rw [List.length_set]; exact l1) (by omega), gs p1 held i 1 l1 hlt, hv3]
    unfold lastP
    by_cases h1 : i < held
    · rw [if_pos h1, if_neg (by omega), if_neg (by omega), g0 i h1]
    · rw [if_neg h1]
      by_cases h2 : i = held
      · subst h2
        by_cases h3 : i = 135
        · subst h3; simp
        · rw [if_neg (fun e => h3 e.symm), if_pos rfl, if_pos rfl, if_neg h3]
      · rw [if_neg h2]
        by_cases h3 : i = 135
        · subst h3; simp; intro h; omega
        · rw [if_neg (fun e => h3 e.symm), if_neg (fun e => h2 e.symm), if_neg h3, g1 i (by omega)]
  rw [← hfin]
  have hab : ∀ (ρ : Env) w', Fr (fun k => k = B) w w' → hasAll (ctxF Tryd.prog w (fun k => k = B) (At B) 1 Tryd.f67.ntmps) ρ w' [(16, spB 0 a ((p1.set held 1).set 135 v2) (held : Int) long)] → Calls Tryd.prog 79 #[.pointer (some ⟨ρ.b 16, 0, none⟩)] w' fun e w'' => e = .returned (AV.conc ρ (.tup [])) ∧ Fr (fun b => b = ρ.b 16 ∧ (spB 0 a ((p1.set held 1).set 135 v2) (held : Int) long).alive ρ 16) w' w'' ∧ Sits ρ w'' 16 (spB 0 X ((p1.set held 1).set 135 v2) 0 long) ∧ ((spB 0 X ((p1.set held 1).set 135 v2) 0 long).alive ρ 16 → (spB 0 a ((p1.set held 1).set 135 v2) (held : Int) long).alive ρ 16) := by
    intro ρ w' hf hh
    refine (absorb_c w' (ρ.b 16) 0 a ((p1.set held 1).set 135 v2) (held : Int) long l2 (spSits rfl hh.1.1)).mono ?_
    rintro e w'' ⟨rfl, h2, h3⟩
    rw [← hX] at h3
    refine ⟨rfl, ⟨h2.os, h2.tape, h2.output, h2.size, fun k hk hF => h2.block k hk fun e => hF ⟨e, trivial⟩⟩, spSits rfl h3, fun _ => trivial⟩
  have hcl := clear_sp (fun k => k = B) w 0 16 0 a part held (held : Int) long hlt hp (ctxF Tryd.prog w (fun k => k = B) (At B) 1 Tryd.f67.ntmps) []
  rw [← hp1] at hcl
  refine wpK_endF (n := 2000) (m := 33) (nx := 10) (hs := [(2, .row [.ints .u8 32 (List.replicate 32 0)]), (7, .as (.val (.bool false))), (15, .sub held 136), (99999, .asW [] 16 (spB 0 a p1 (held : Int) long) (.tup [])), (19, .ix (held)), (24, .as (.val (.int .u8 1))), (25, .eq (.val (.int .u8 1))), (27, .ix (held)), (31, .eq (.val (.int .u8 v2))), (34, .callW [] 16 (spB 0 X ((p1.set held 1).set 135 v2) 0 long) (.tup [])), (4, .row [.ints .u8 32 (List.replicate 32 0)]), (47, .eq (.val (.int .u64 (bv (X 0 >>> 0))))), (47, .eq (.val (.int .u64 (bv (X 0 >>> 8))))), (47, .eq (.val (.int .u64 (bv (X 0 >>> 16))))), (47, .eq (.val (.int .u64 (bv (X 0 >>> 24))))), (47, .eq (.val (.int .u64 (bv (X 0 >>> 32))))), (47, .eq (.val (.int .u64 (bv (X 0 >>> 40))))), (47, .eq (.val (.int .u64 (bv (X 0 >>> 48))))), (47, .eq (.val (.int .u64 (bv (X 0 >>> 56))))), (47, .eq (.val (.int .u64 (bv (X 1 >>> 0))))), (47, .eq (.val (.int .u64 (bv (X 1 >>> 8))))), (47, .eq (.val (.int .u64 (bv (X 1 >>> 16))))), (47, .eq (.val (.int .u64 (bv (X 1 >>> 24))))), (47, .eq (.val (.int .u64 (bv (X 1 >>> 32))))), (47, .eq (.val (.int .u64 (bv (X 1 >>> 40))))), (47, .eq (.val (.int .u64 (bv (X 1 >>> 48))))), (47, .eq (.val (.int .u64 (bv (X 1 >>> 56))))), (47, .eq (.val (.int .u64 (bv (X 2 >>> 0))))), (47, .eq (.val (.int .u64 (bv (X 2 >>> 8))))), (47, .eq (.val (.int .u64 (bv (X 2 >>> 16))))), (47, .eq (.val (.int .u64 (bv (X 2 >>> 24))))), (47, .eq (.val (.int .u64 (bv (X 2 >>> 32))))), (47, .eq (.val (.int .u64 (bv (X 2 >>> 40))))), (47, .eq (.val (.int .u64 (bv (X 2 >>> 48))))), (47, .eq (.val (.int .u64 (bv (X 2 >>> 56))))), (47, .eq (.val (.int .u64 (bv (X 3 >>> 0))))), (47, .eq (.val (.int .u64 (bv (X 3 >>> 8))))), (47, .eq (.val (.int .u64 (bv (X 3 >>> 16))))), (47, .eq (.val (.int .u64 (bv (X 3 >>> 24))))), (47, .eq (.val (.int .u64 (bv (X 3 >>> 32))))), (47, .eq (.val (.int .u64 (bv (X 3 >>> 40))))), (47, .eq (.val (.int .u64 (bv (X 3 >>> 48))))), (47, .eq (.val (.int .u64 (bv (X 3 >>> 56)))))]) (v := .agg [.ints .u8 32 (hashOf X)]) (bs := [(0, spB 0 a part (held : Int) long)]) follows [0] (And.intro (fun ρ => (rfl : Seg.cells ρ [.ints .u8 32 (List.replicate 32 0)] = (Value.agg (ints .u8 (List.replicate 32 0))).cells.toList)) (And.intro (show Seg.ok No [.ints .u8 32 (List.replicate 32 0)] from ⟨rfl, trivial⟩) (And.intro (ptr_eqNil (F := (fun k => k = B)) (w := w) Tryd.underlying120 0 0) (And.intro (rfl : (held : Int) = (held : Int)) (And.intro (rfl : (136 : Nat) = 136) (And.intro (show held ≤ 136 by omega) (And.intro (Nat.le_refl 136) (And.intro (show held < 136 by omega) (And.intro hcl (And.intro (okN (k := 16) (rd := []) (spOk 0 a p1 (held : Int) long l1)) (And.intro (show ∀ D : Nat → Prop, D 16 → (∀ k, k ∈ ([] : List Nat) → D k) → AV.ok D (.tup []) from fun _ _ _ => trivial) (And.intro (rfl : ((held : Nat) : Int) = ((held : Nat) : Int)) (And.intro hlt (And.intro hlt (And.intro (sl_load (F := (fun k => k = B)) (w := w) Tryd.underlying5 rfl hG) (And.intro (congrArg (Value.int .u8) x1) (And.intro (rfl : ((held : Nat) : Int) = ((held : Nat) : Int)) (And.intro hlt (And.intro hlt (And.intro (congrArg (Value.int .u8) hv2.symm) (And.intro hab (And.intro (okN (k := 16) (rd := []) (spOk 0 X ((p1.set held 1).set 135 v2) 0 long l2)) (And.intro (show ∀ D : Nat → Prop, D 16 → (∀ k, k ∈ ([] : List Nat) → D k) → AV.ok D (.tup []) from fun _ _ _ => trivial) (And.intro (fun ρ => (rfl : Seg.cells ρ [.ints .u8 32 (List.replicate 32 0)] = (Value.agg (ints .u8 (List.replicate 32 0))).cells.toList)) (And.intro (show Seg.ok No [.ints .u8 32 (List.replicate 32 0)] from ⟨rfl, trivial⟩) (And.intro (congrArg (Value.int .u64) (k_shr2 (X 0) 0 (by omega))) (And.intro (congrArg (Value.int .u64) (k_shr2 (X 0) 8 (by omega))) (And.intro (congrArg (Value.int .u64) (k_shr2 (X 0) 16 (by omega))) (And.intro (congrArg (Value.int .u64) (k_shr2 (X 0) 24 (by omega))) (And.intro (congrArg (Value.int .u64) (k_shr2 (X 0) 32 (by omega))) (And.intro (congrArg (Value.int .u64) (k_shr2 (X 0) 40 (by omega))) (And.intro (congrArg (Value.int .u64) (k_shr2 (X 0) 48 (by omega))) (And.intro (congrArg (Value.int .u64) (k_shr2 (X 0) 56 (by omega))) (And.intro (congrArg (Value.int .u64) (k_shr2 (X 1) 0 (by omega))) (And.intro (congrArg (Value.int .u64) (k_shr2 (X 1) 8 (by omega))) (And.intro (congrArg (Value.int .u64) (k_shr2 (X 1) 16 (by omega))) (And.intro (congrArg (Value.int .u64) (k_shr2 (X 1) 24 (by omega))) (And.intro (congrArg (Value.int .u64) (k_shr2 (X 1) 32 (by omega))) (And.intro (congrArg (Value.int .u64) (k_shr2 (X 1) 40 (by omega))) (And.intro (congrArg (Value.int .u64) (k_shr2 (X 1) 48 (by omega))) (And.intro (congrArg (Value.int .u64) (k_shr2 (X 1) 56 (by omega))) (And.intro (congrArg (Value.int .u64) (k_shr2 (X 2) 0 (by omega))) (And.intro (congrArg (Value.int .u64) (k_shr2 (X 2) 8 (by omega))) (And.intro (congrArg (Value.int .u64) (k_shr2 (X 2) 16 (by omega))) (And.intro (congrArg (Value.int .u64) (k_shr2 (X 2) 24 (by omega))) (And.intro (congrArg (Value.int .u64) (k_shr2 (X 2) 32 (by omega))) (And.intro (congrArg (Value.int .u64) (k_shr2 (X 2) 40 (by omega))) (And.intro (congrArg (Value.int .u64) (k_shr2 (X 2) 48 (by omega))) (And.intro (congrArg (Value.int .u64) (k_shr2 (X 2) 56 (by omega))) (And.intro (congrArg (Value.int .u64) (k_shr2 (X 3) 0 (by omega))) (And.intro (congrArg (Value.int .u64) (k_shr2 (X 3) 8 (by omega))) (And.intro (congrArg (Value.int .u64) (k_shr2 (X 3) 16 (by omega))) (And.intro (congrArg (Value.int .u64) (k_shr2 (X 3) 24 (by omega))) (And.intro (congrArg (Value.int .u64) (k_shr2 (X 3) 32 (by omega))) (And.intro (congrArg (Value.int .u64) (k_shr2 (X 3) 40 (by omega))) (And.intro (congrArg (Value.int .u64) (k_shr2 (X 3) 48 (by omega))) (congrArg (Value.int .u64) (k_shr2 (X 3) 56 (by omega))))))))))))))))))))))))))))))))))))))))))))))))))))))))))) (by kernel_rfl) ?_
  intro ρ w' hf hx hh
  exact ⟨rfl, hf, spSits (hx 0 Nat.zero_lt_one).1 hh.1.1⟩
end Go.Proofs.YtkanjdllaikoaaaDoor

