/- The checksum of an address: the document. -/
import Derived.Test.YtkanjdllaikoaaaDoorSml
import Derived.Test.YtkanjdllaikoaaaDoorRDg
set_option linter.unusedSimpArgs false
set_option linter.unusedVariables false
namespace Go.Proofs.YtkanjdllaikoaaaDoor
open Go Go.RowKit

abbrev adrA (a : List Int) : AV := .agg [.ints .u8 20 a]
abbrev adrV (a : List Int) : Value := .agg (a.map (Value.int .u8) ++ []).toArray
abbrev siG (t : TypeId) (s : ByteArray) (i : Int) : Sem Next := do pure (.value (← Instr.index t (.string s) (.int .i64 i)))
theorem si_run (w : World) (s : ByteArray) (i : Nat) (hi : i < s.size) : (siG 9 s (i : Int)).run Tryd.prog w = .ok (.value (.int .u8 ((bytesI s).getD i 0))) w := by
  have h1 : (0 : Int) ≤ (i : Int) ∧ (i : Int) < (s.size : Int) := by omega
  have h2 : (bytesI s).getD i 0 = ((s[i]'hi).toNat : Int) := by
    unfold bytesI
    have h3 : i < s.data.size := hi
    rw [List.getD_eq_getElem?_getD, List.getElem?_map, Array.getElem?_toList, Array.getElem?_eq_getElem h3]
    rfl
  rw [h2]
  unfold siG
  simp [Instr.index, asIntOf, h1, hi]
abbrev catG (a b : ByteArray) : Sem Next := do pure (.value (← binOp .add 9 (.string a) (.string b)))
theorem cat_run (w : World) (a b : ByteArray) (h : a.size + b.size ≤ 9000000000000000000) : (catG a b).run Tryd.prog w = .ok (.value (.string (a ++ b))) w := by
  have h1 : ¬ ((a.size + b.size : Nat) : Int) > IntKind.i64.max := by
    have : IntKind.i64.max = 9223372036854775807 := rfl
    omega
  unfold catG
  simp only [binOp, Op.stringOp]
  rw [if_neg h1]
  rfl
theorem strI_size (l : List Int) : (strI l).size = l.length := by
  show ((l.map _).toArray).size = _
  simp
theorem cat_x {F : Nat → Prop} {w : World} (s : ByteArray) (h : s.size ≤ 8000000000000000000) : ∀ (ρ : Env) (w' : World), Fr F w w' → (catG ⟨#[48, 120]⟩ s).run Tryd.prog w' = .ok (.value (.string (withX s))) w' := fun ρ w' _ => cat_run w' _ _ (by have : (⟨#[48, 120]⟩ : ByteArray).size = 2 := rfl; omega)
theorem cat_xx (s : ByteArray) : (Value.string (⟨#[48, 120]⟩ ++ s)) = .string (withX s) := rfl
theorem sub_add (c : Int) (h : 97 ≤ c ∧ c < 256) : IntKind.u8.wrap (IntKind.u8.wrap (c - 97) + 65) = c - 32 := by
  rw [IntKind.wrap_u8, IntKind.wrap_u8]; omega
theorem h_div (x : Int) (h : 0 ≤ x ∧ x < 256) : IntKind.u8.wrap (x.tdiv 16) = x / 16 := by
  rw [Int.tdiv_eq_ediv_of_nonneg h.1, IntKind.wrap_u8]; omega
theorem h_mod (x : Int) (h : 0 ≤ x) : x.tmod 16 = x % 16 := by
  rw [Int.tmod_eq_emod_of_nonneg h]
theorem half2 (i : Nat) (h : i < 1000) : IntKind.i64.wrap ((i : Int).tdiv 2) = ((i / 2 : Nat) : Int) := by
  rw [Int.tdiv_eq_ediv_of_nonneg (by omega), IntKind.wrap_i64]; omega
theorem rem2 (i : Nat) : (i : Int).tmod 2 = ((i % 2 : Nat) : Int) := by
  rw [Int.tmod_eq_emod_of_nonneg (by omega)]; omega
theorem hashOf_byte (X : Nat → B64) : ByteL (hashOf X) := by
  intro x hx
  have : ∃ i, x = hashB X i := by
    unfold hashOf at hx
    simp only [List.mem_cons, List.not_mem_nil, or_false] at hx
    rcases hx with rfl | rfl | rfl | rfl | rfl | rfl | rfl | rfl | rfl | rfl | rfl | rfl | rfl | rfl | rfl | rfl | rfl | rfl | rfl | rfl | rfl | rfl | rfl | rfl | rfl | rfl | rfl | rfl | rfl | rfl | rfl | rfl
    all_goals exact ⟨_, rfl⟩
  obtain ⟨i, rfl⟩ := this
  have := hashB_byte X i
  omega
theorem stringSize (a : List Int) (h : a.length = 20) : (⟨(hexL a).toArray⟩ : ByteArray).size = 40 := by
  show (hexL a).toArray.size = 40
  simp [hexL_len, h]
def crS (S : ByteArray) (h ys : List Int) (i : Nat) : AS := ⟨[(3, .val (.string S)), (4, .ptr 1 0), (5, .own 2 1 0 i), (6, .val (.int .i64 (i : Int)))], [(1, ⟨[.ints .u8 32 h], 29, .arr⟩), (2, ob i ys)]⟩
def strR (w : World) (s : ByteArray) (e : Ending) (w' : World) : Prop := e = .returned (.string s) ∧ Below w.heap.size w w'
set_option maxHeartbeats 4000000 in
theorem cr_round (w0 w : World) (hf0 : Fr No w0 w) (S : ByteArray) (h xs : List Int) (hSz : S.size = 40) (hxs : bytesI S = xs) (hh : h.length = 32) (hhb : ByteL h) :
    ∀ (q i : Nat), i + q = 40 → ∀ (ys : List Int), ys = capL h xs i → wpK (ctx Tryd.prog w Tryd.f19.ntmps) Tryd.f19 (strR w0 (withX (strI (capL h xs 40)))) (loopAt Tryd.f19 0) (crS S h ys i) := by
  have hxl : xs.length = 40 := by rw [← hxs, bytesI_len, hSz]
  have hxb : ByteL xs := fun x hx => bytesI_byte S x (hxs ▸ hx)
  have hsz : (S.size : Int) = 40 := by omega
  intro q
  induction q with
  | zero =>
    intro i hi ys hys
    obtain rfl : i = 40 := by omega
    have hlt : decide (((40 : Nat) : Int) < 40) = false := by simp
    have hyl : ys.length = 40 := by rw [hys, capL_len]
    have hyb : ByteL ys := hys ▸ capL_byte h xs 40 hxb (by omega)
    rw [← hys]
    refine wpK_end (n := 400) (m := 0) (nx := 100) (hs := [(16, .eq (.val (.int .i64 40))), (17, .eq (.val (.bool false))), (50, .asR [2] (.val (.string (strI ys)))), (51, .as (.val (.string (withX (strI ys)))))]) (v := .val (.string (withX (strI ys)))) follows (And.intro (congrArg (Value.int .i64) hsz) (And.intro (congrArg Value.bool hlt) (And.intro (show ∀ (ρ : Env) (w' : World), Fr No w w' → hasAll (ctx Tryd.prog w Tryd.f19.ntmps) ρ w' [(2, ob 40 ys)] → ((do pure (.value (← convert 22 9 (AV.conc ρ (.own 2 1 0 40)))) : Sem Next)).run Tryd.prog w' = .ok (.value (.string (strI ys))) w' from fun ρ w' _ hh => own_str hh.1.1 hyl hyb) (And.intro (show ∀ D : Nat → Prop, (∀ k, k ∈ [2] → D k) → AV.ok D (.val (.string (strI ys))) from fun _ _ => trivial) (cat_x (F := No) (w := w) (strI ys) (by rw [strI_size]; omega)))))) (by kernel_rfl) ?_
    intro ρ w' hf
    exact ⟨rfl, (hf0.trans hf).to_below⟩
  | succ q ih =>
    intro i hi ys hys
    have hlt : decide ((i : Int) < 40) = true := by simp; omega
    have hi40 : i < 40 := by omega
    have hw : IntKind.i64.wrap ((i : Int) + 1) = ((i + 1 : Nat) : Int) := by rw [IntKind.wrap_i64]; omega
    have hi2 : i / 2 < 32 := by omega
    have hq2 := half2 i (by omega)
    have hr2 := rem2 i
    have hyl : ys.length = i := by rw [hys, capL_len]
    obtain ⟨y, hy⟩ : ∃ y, y = h.getD (i / 2) 0 := ⟨_, rfl⟩
    have hyb : 0 ≤ y ∧ y < 256 := hy ▸ hhb.at (i / 2) (by omega)
    have hd16 : IntKind.u8.wrap ((h.getD (i / 2) 0).tdiv 16) = y / 16 := by rw [← hy]; exact h_div y hyb
    have hm16 : (h.getD (i / 2) 0).tmod 16 = y % 16 := by rw [← hy]; exact h_mod y hyb.1
    obtain ⟨c, hc⟩ : ∃ c, c = xs.getD i 0 := ⟨_, rfl⟩
    have hcb : 0 ≤ c ∧ c < 256 := hc ▸ hxb.at i (by omega)
    have hix : ∀ (ρ : Env) (w' : World), Fr No w w' → (siG 9 S (i : Int)).run Tryd.prog w' = .ok (.value (.int .u8 c)) w' := by
      intro ρ w' _
      rw [hc, ← hxs]
      exact si_run w' S i (by omega)
    have hca : ∀ z, z = capAt h i c → capL h xs (i + 1) = ys ++ [z] := by
      rintro z rfl
      rw [capL_succ, hys, hc]
    have hcat : ∀ z : Int, ∀ ρ, Seg.cells ρ [.ints .u8 (i + 1) (ys ++ [z])] = Seg.cells ρ [.ints .u8 i ys] ++ Seg.cells ρ [.cell (.val (.int .u8 z))] := by
      intro z ρ
      simp [Seg.cells, Seg.cell1, AV.conc]
    have hlen : ∀ z : Int, (ys ++ [z]).length = i + 1 := by intro z; simp [hyl]
    have hmb : i + 1 ≤ 140737488355328 := by omega
    have ih := ih (i + 1) (by omega)
    have hnib : nib h i = if i % 2 = 0 then y / 16 else y % 16 := by unfold nib; rw [← hy]
    by_cases hpar : i % 2 = 0
    · have ho : decide (((i % 2 : Nat) : Int) = 1) = false := by simp; omega
      rw [if_pos hpar] at hnib
      by_cases h97 : 97 ≤ c
      · have hg : decide (c ≥ 97) = true := by simp; omega
        by_cases h8 : 8 ≤ (y / 16)
        · have hg8 : decide ((y / 16) ≥ 8) = true := by simp; omega
          have hz : c - 32 = capAt h i c := by unfold capAt; rw [if_pos ⟨h97, by rw [hnib]; exact h8⟩]
          refine wpK_loop (n := 400) (m := 0) (nx := 100) (hs := [(16, .eq (.val (.int .i64 40))), (17, .eq (.val (.bool true))), (21, .eq (.val (.int .i64 ((i / 2 : Nat) : Int)))), (22, .ix (i / 2)), (24, .eq (.val (.int .u8 (y / 16)))), (26, .eq (.val (.int .i64 ((i % 2 : Nat) : Int)))), (27, .eq (.val (.bool false))), (35, .as (.val (.int .u8 c))), (37, .eq (.val (.bool true))), (40, .eq (.val (.bool true))), (44, .eq (.val (.int .u8 (c - 32)))), (48, .app [.ints .u8 (i + 1) (ys ++ [c - 32])] (i + 1)), (19, .eq (.val (.int .i64 ((i + 1 : Nat) : Int))))]) (st' := loopAt Tryd.f19 0) (s' := crS S h (ys ++ [c - 32]) (i + 1)) follows [] [3, 4, 5, 6] [(1, 1), (2, 130)] (And.intro (congrArg (Value.int .i64) hsz) (And.intro (congrArg Value.bool hlt) (And.intro (congrArg (Value.int .i64) hq2) (And.intro (rfl : ((i / 2 : Nat) : Int) = ((i / 2 : Nat) : Int)) (And.intro hi2 (And.intro hi2 (And.intro (congrArg (Value.int .u8) hd16) (And.intro (congrArg (Value.int .i64) hr2) (And.intro (congrArg Value.bool ho) (And.intro hix (And.intro (congrArg Value.bool hg) (And.intro (congrArg Value.bool hg8) (And.intro (congrArg (Value.int .u8) (sub_add c ⟨h97, hcb.2⟩)) (And.intro (hcat (c - 32)) (And.intro (show Seg.ok No [.ints .u8 (i + 1) (ys ++ [c - 32])] from ⟨hlen (c - 32), trivial⟩) (And.intro (rfl : i + 1 = i + 1) (And.intro (Nat.zero_add i) (And.intro hmb (congrArg (Value.int .i64) hw))))))))))))))))))) (by kernel_rfl) ?_
          exact ih _ (hca _ hz).symm
        · have hg8 : decide ((y / 16) ≥ 8) = false := by simp; omega
          have hz : c = capAt h i c := by unfold capAt; rw [if_neg (fun e => h8 (hnib ▸ e.2))]
          refine wpK_loop (n := 400) (m := 0) (nx := 100) (hs := [(16, .eq (.val (.int .i64 40))), (17, .eq (.val (.bool true))), (21, .eq (.val (.int .i64 ((i / 2 : Nat) : Int)))), (22, .ix (i / 2)), (24, .eq (.val (.int .u8 (y / 16)))), (26, .eq (.val (.int .i64 ((i % 2 : Nat) : Int)))), (27, .eq (.val (.bool false))), (35, .as (.val (.int .u8 c))), (37, .eq (.val (.bool true))), (40, .eq (.val (.bool false))), (48, .app [.ints .u8 (i + 1) (ys ++ [c])] (i + 1)), (19, .eq (.val (.int .i64 ((i + 1 : Nat) : Int))))]) (st' := loopAt Tryd.f19 0) (s' := crS S h (ys ++ [c]) (i + 1)) follows [] [3, 4, 5, 6] [(1, 1), (2, 126)] (And.intro (congrArg (Value.int .i64) hsz) (And.intro (congrArg Value.bool hlt) (And.intro (congrArg (Value.int .i64) hq2) (And.intro (rfl : ((i / 2 : Nat) : Int) = ((i / 2 : Nat) : Int)) (And.intro hi2 (And.intro hi2 (And.intro (congrArg (Value.int .u8) hd16) (And.intro (congrArg (Value.int .i64) hr2) (And.intro (congrArg Value.bool ho) (And.intro hix (And.intro (congrArg Value.bool hg) (And.intro (congrArg Value.bool hg8) (And.intro (hcat (c)) (And.intro (show Seg.ok No [.ints .u8 (i + 1) (ys ++ [c])] from ⟨hlen (c), trivial⟩) (And.intro (rfl : i + 1 = i + 1) (And.intro (Nat.zero_add i) (And.intro hmb (congrArg (Value.int .i64) hw)))))))))))))))))) (by kernel_rfl) ?_
          exact ih _ (hca _ hz).symm
      · have hg : decide (c ≥ 97) = false := by simp; omega
        have hz : c = capAt h i c := by unfold capAt; rw [if_neg (fun e => h97 e.1)]
        refine wpK_loop (n := 400) (m := 0) (nx := 100) (hs := [(16, .eq (.val (.int .i64 40))), (17, .eq (.val (.bool true))), (21, .eq (.val (.int .i64 ((i / 2 : Nat) : Int)))), (22, .ix (i / 2)), (24, .eq (.val (.int .u8 (y / 16)))), (26, .eq (.val (.int .i64 ((i % 2 : Nat) : Int)))), (27, .eq (.val (.bool false))), (35, .as (.val (.int .u8 c))), (37, .eq (.val (.bool false))), (48, .app [.ints .u8 (i + 1) (ys ++ [c])] (i + 1)), (19, .eq (.val (.int .i64 ((i + 1 : Nat) : Int))))]) (st' := loopAt Tryd.f19 0) (s' := crS S h (ys ++ [c]) (i + 1)) follows [] [3, 4, 5, 6] [(1, 1), (2, 126)] (And.intro (congrArg (Value.int .i64) hsz) (And.intro (congrArg Value.bool hlt) (And.intro (congrArg (Value.int .i64) hq2) (And.intro (rfl : ((i / 2 : Nat) : Int) = ((i / 2 : Nat) : Int)) (And.intro hi2 (And.intro hi2 (And.intro (congrArg (Value.int .u8) hd16) (And.intro (congrArg (Value.int .i64) hr2) (And.intro (congrArg Value.bool ho) (And.intro hix (And.intro (congrArg Value.bool hg) (And.intro (hcat (c)) (And.intro (show Seg.ok No [.ints .u8 (i + 1) (ys ++ [c])] from ⟨hlen (c), trivial⟩) (And.intro (rfl : i + 1 = i + 1) (And.intro (Nat.zero_add i) (And.intro hmb (congrArg (Value.int .i64) hw))))))))))))))))) (by kernel_rfl) ?_
        exact ih _ (hca _ hz).symm
    · have ho : decide (((i % 2 : Nat) : Int) = 1) = true := by simp; omega
      rw [if_neg hpar] at hnib
      by_cases h97 : 97 ≤ c
      · have hg : decide (c ≥ 97) = true := by simp; omega
        by_cases h8 : 8 ≤ (y % 16)
        · have hg8 : decide ((y % 16) ≥ 8) = true := by simp; omega
          have hz : c - 32 = capAt h i c := by unfold capAt; rw [if_pos ⟨h97, by rw [hnib]; exact h8⟩]
          refine wpK_loop (n := 400) (m := 0) (nx := 100) (hs := [(16, .eq (.val (.int .i64 40))), (17, .eq (.val (.bool true))), (21, .eq (.val (.int .i64 ((i / 2 : Nat) : Int)))), (22, .ix (i / 2)), (24, .eq (.val (.int .u8 (y / 16)))), (26, .eq (.val (.int .i64 ((i % 2 : Nat) : Int)))), (27, .eq (.val (.bool true))), (29, .eq (.val (.int .i64 ((i / 2 : Nat) : Int)))), (30, .ix (i / 2)), (32, .eq (.val (.int .u8 (y % 16)))), (35, .as (.val (.int .u8 c))), (37, .eq (.val (.bool true))), (40, .eq (.val (.bool true))), (44, .eq (.val (.int .u8 (c - 32)))), (48, .app [.ints .u8 (i + 1) (ys ++ [c - 32])] (i + 1)), (19, .eq (.val (.int .i64 ((i + 1 : Nat) : Int))))]) (st' := loopAt Tryd.f19 0) (s' := crS S h (ys ++ [c - 32]) (i + 1)) follows [] [3, 4, 5, 6] [(1, 1), (2, 136)] (And.intro (congrArg (Value.int .i64) hsz) (And.intro (congrArg Value.bool hlt) (And.intro (congrArg (Value.int .i64) hq2) (And.intro (rfl : ((i / 2 : Nat) : Int) = ((i / 2 : Nat) : Int)) (And.intro hi2 (And.intro hi2 (And.intro (congrArg (Value.int .u8) hd16) (And.intro (congrArg (Value.int .i64) hr2) (And.intro (congrArg Value.bool ho) (And.intro (congrArg (Value.int .i64) hq2) (And.intro (rfl : ((i / 2 : Nat) : Int) = ((i / 2 : Nat) : Int)) (And.intro hi2 (And.intro hi2 (And.intro (congrArg (Value.int .u8) hm16) (And.intro hix (And.intro (congrArg Value.bool hg) (And.intro (congrArg Value.bool hg8) (And.intro (congrArg (Value.int .u8) (sub_add c ⟨h97, hcb.2⟩)) (And.intro (hcat (c - 32)) (And.intro (show Seg.ok No [.ints .u8 (i + 1) (ys ++ [c - 32])] from ⟨hlen (c - 32), trivial⟩) (And.intro (rfl : i + 1 = i + 1) (And.intro (Nat.zero_add i) (And.intro hmb (congrArg (Value.int .i64) hw)))))))))))))))))))))))) (by kernel_rfl) ?_
          exact ih _ (hca _ hz).symm
        · have hg8 : decide ((y % 16) ≥ 8) = false := by simp; omega
          have hz : c = capAt h i c := by unfold capAt; rw [if_neg (fun e => h8 (hnib ▸ e.2))]
          refine wpK_loop (n := 400) (m := 0) (nx := 100) (hs := [(16, .eq (.val (.int .i64 40))), (17, .eq (.val (.bool true))), (21, .eq (.val (.int .i64 ((i / 2 : Nat) : Int)))), (22, .ix (i / 2)), (24, .eq (.val (.int .u8 (y / 16)))), (26, .eq (.val (.int .i64 ((i % 2 : Nat) : Int)))), (27, .eq (.val (.bool true))), (29, .eq (.val (.int .i64 ((i / 2 : Nat) : Int)))), (30, .ix (i / 2)), (32, .eq (.val (.int .u8 (y % 16)))), (35, .as (.val (.int .u8 c))), (37, .eq (.val (.bool true))), (40, .eq (.val (.bool false))), (48, .app [.ints .u8 (i + 1) (ys ++ [c])] (i + 1)), (19, .eq (.val (.int .i64 ((i + 1 : Nat) : Int))))]) (st' := loopAt Tryd.f19 0) (s' := crS S h (ys ++ [c]) (i + 1)) follows [] [3, 4, 5, 6] [(1, 1), (2, 132)] (And.intro (congrArg (Value.int .i64) hsz) (And.intro (congrArg Value.bool hlt) (And.intro (congrArg (Value.int .i64) hq2) (And.intro (rfl : ((i / 2 : Nat) : Int) = ((i / 2 : Nat) : Int)) (And.intro hi2 (And.intro hi2 (And.intro (congrArg (Value.int .u8) hd16) (And.intro (congrArg (Value.int .i64) hr2) (And.intro (congrArg Value.bool ho) (And.intro (congrArg (Value.int .i64) hq2) (And.intro (rfl : ((i / 2 : Nat) : Int) = ((i / 2 : Nat) : Int)) (And.intro hi2 (And.intro hi2 (And.intro (congrArg (Value.int .u8) hm16) (And.intro hix (And.intro (congrArg Value.bool hg) (And.intro (congrArg Value.bool hg8) (And.intro (hcat (c)) (And.intro (show Seg.ok No [.ints .u8 (i + 1) (ys ++ [c])] from ⟨hlen (c), trivial⟩) (And.intro (rfl : i + 1 = i + 1) (And.intro (Nat.zero_add i) (And.intro hmb (congrArg (Value.int .i64) hw))))))))))))))))))))))) (by kernel_rfl) ?_
          exact ih _ (hca _ hz).symm
      · have hg : decide (c ≥ 97) = false := by simp; omega
        have hz : c = capAt h i c := by unfold capAt; rw [if_neg (fun e => h97 e.1)]
        refine wpK_loop (n := 400) (m := 0) (nx := 100) (hs := [(16, .eq (.val (.int .i64 40))), (17, .eq (.val (.bool true))), (21, .eq (.val (.int .i64 ((i / 2 : Nat) : Int)))), (22, .ix (i / 2)), (24, .eq (.val (.int .u8 (y / 16)))), (26, .eq (.val (.int .i64 ((i % 2 : Nat) : Int)))), (27, .eq (.val (.bool true))), (29, .eq (.val (.int .i64 ((i / 2 : Nat) : Int)))), (30, .ix (i / 2)), (32, .eq (.val (.int .u8 (y % 16)))), (35, .as (.val (.int .u8 c))), (37, .eq (.val (.bool false))), (48, .app [.ints .u8 (i + 1) (ys ++ [c])] (i + 1)), (19, .eq (.val (.int .i64 ((i + 1 : Nat) : Int))))]) (st' := loopAt Tryd.f19 0) (s' := crS S h (ys ++ [c]) (i + 1)) follows [] [3, 4, 5, 6] [(1, 1), (2, 132)] (And.intro (congrArg (Value.int .i64) hsz) (And.intro (congrArg Value.bool hlt) (And.intro (congrArg (Value.int .i64) hq2) (And.intro (rfl : ((i / 2 : Nat) : Int) = ((i / 2 : Nat) : Int)) (And.intro hi2 (And.intro hi2 (And.intro (congrArg (Value.int .u8) hd16) (And.intro (congrArg (Value.int .i64) hr2) (And.intro (congrArg Value.bool ho) (And.intro (congrArg (Value.int .i64) hq2) (And.intro (rfl : ((i / 2 : Nat) : Int) = ((i / 2 : Nat) : Int)) (And.intro hi2 (And.intro hi2 (And.intro (congrArg (Value.int .u8) hm16) (And.intro hix (And.intro (congrArg Value.bool hg) (And.intro (hcat (c)) (And.intro (show Seg.ok No [.ints .u8 (i + 1) (ys ++ [c])] from ⟨hlen (c), trivial⟩) (And.intro (rfl : i + 1 = i + 1) (And.intro (Nat.zero_add i) (And.intro hmb (congrArg (Value.int .i64) hw)))))))))))))))))))))) (by kernel_rfl) ?_
        exact ih _ (hca _ hz).symm
set_option maxHeartbeats 1000000 in
theorem rck_c (w : World) (a : List Int) (ha : a.length = 20) (hb : Bytes a) (hT : TurnsIn w) (hR : RoundsIn w) :
    Calls Tryd.prog 19 #[adrV a] w (strR w (withX (strI (sumL a)))) := by
  obtain ⟨S, hS⟩ : ∃ S : ByteArray, S = ⟨(hexL a).toArray⟩ := ⟨_, rfl⟩
  have hSz : S.size = 40 := hS ▸ stringSize a ha
  have hxs : bytesI S = nums (hexL a) := by rw [hS]; exact bytesI_mk _
  have hsm : ∀ (ρ : Env) w', Fr No w w' → hasAll (ctx Tryd.prog w Tryd.f19.ntmps) ρ w' [(0, ⟨[.ints .u8 20 a], 27, .arr⟩)] → Calls Tryd.prog 32 #[AV.conc ρ (.lst 0 0 0 20 20)] w' fun e w'' => e = .returned (AV.conc ρ (.val (.string S))) ∧ Below w'.heap.size w' w'' := by
    intro ρ w' hf hh
    have hSl : Sl .u8 w' (some ⟨ρ.b 0, 0, none⟩) 20 a := arr_Sl hh.1.1 ha fun j hj => by
      rw [Nat.zero_add]
      simp only [Seg.cells, Seg.cell1, List.append_nil]
      exact vals_get .u8 a j (by omega)
    have := small_c w' _ 20 20 a hSl hb (by omega)
    unfold wR at this
    rw [← hS] at this
    exact this
  refine calls_vm [adrA a] (fn := Tryd.f19) Tryd.func19 (by kernel_rfl) (by kernel_rfl) (by kernel_rfl) ⟨⟨ha, trivial⟩, trivial⟩ ?_
  refine wpK_loop (n := 400) (m := 0) (nx := 0) (hs := [(9, .sub 0 20), (10, .callM [0] (.val (.string S)) none), (88888, .subE)]) (st' := regAt Tryd.f19 2) (s' := ⟨[(3, .val (.string S))], []⟩) follows [] [3] [] (And.intro (rfl : (0 : Nat) = 0) (And.intro (rfl : (20 : Nat) = 20) (And.intro (Nat.zero_le 20) (And.intro (Nat.le_refl 20) (And.intro (Nat.succ_pos 19) (And.intro hsm (show ∀ D : Nat → Prop, (∀ k, k ∈ [0] → D k) → AV.ok D (.val (.string S)) from fun _ _ => trivial))))))) (by kernel_rfl) ?_
  refine wpL_region (by kernel_rfl) ?_
  refine wpL_op 1 (nx := 500) (hs := []) (tm := [(3, .val (.string S)), (11, .val (.string S))]) (m := cvS S) trivial (by kernel_rfl) ?_
  intro w1 hf1
  obtain ⟨c, w2, hrun, hc, hCR, hf2⟩ := cvS_run w1 S
  refine ⟨_, _, w2, hrun, rfl, ?_⟩
  have hf02 : Fr No w w2 := hf1.trans hf2
  have hSl := hCR.sl
  rw [bytesI_len, hSz] at hSl
  rw [hSz]
  obtain ⟨X, hX⟩ : ∃ X, X = digL (nums (hexL a)) 1 := ⟨_, rfl⟩
  have hof : ∀ w', Fr No w2 w' → Calls Tryd.prog 37 #[.slice (some ⟨w1.heap.size, 0, none⟩) 40 c] w' fun e w'' => e = .returned (.agg ((hashOf X).map (Value.int .u8) ++ []).toArray) ∧ Below w'.heap.size w' w'' := by
    intro w' hf
    have := rof_c w' _ 40 c _ (hSl.frN hf) (by omega) (by omega) (hT.stay (hf02.trans hf)) (hR.stay (hf02.trans hf))
    rw [hxs, ← hX] at this
    exact this
  have hsum : sumL a = capL (hashOf X) (nums (hexL a)) 40 := by unfold sumL; rw [← hX, ha]
  rw [hsum, ← hxs]
  refine wpL_loop (n := 400) (m := 0) (nx := 500) (hs := [(13, .call (.agg [.ints .u8 32 (hashOf X)]))]) (st' := loopAt Tryd.f19 0) (s' := crS S (hashOf X) [] 0) follows [(5, 99, 1, [.ints .u8 0 []], 5)] [3, 4, 5, 6] [(1, 501), (2, 99)] (And.intro hof (show (AV.agg [.ints .u8 32 (hashOf X)]).ok No from ⟨rfl, trivial⟩)) (by kernel_rfl) ?_
  exact cr_round w w2 hf02 S (hashOf X) (bytesI S) hSz rfl (hashOf_len X) (hashOf_byte X) 40 0 (by omega) [] rfl
end Go.Proofs.YtkanjdllaikoaaaDoor

