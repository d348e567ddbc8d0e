/- Small: the digits of bytes, of the document. -/
import Derived.Test.YtkanjdllaikoaaaDoorHSp
set_option linter.unusedSimpArgs false
set_option linter.unusedVariables false
namespace Go.Proofs.YtkanjdllaikoaaaDoor
open Go Go.RowKit

def smS (A : Option Addr) (n c m : Nat) (xs : List Int) (i : Nat) : AS := ⟨[(0, .val (.slice A n c)), (3, .own 1 1 0 m), (4, .val (.int .i64 (i : Int)))], [(1, ob m xs)]⟩
theorem q_div (x : Nat) (h : x < 256) : IntKind.u8.wrap ((x : Int).tdiv 16) = ((x / 16 : Nat) : Int) := by
  rw [Int.tdiv_eq_ediv_of_nonneg (by omega), IntKind.wrap_u8]; omega
theorem q_mod (x : Nat) : (x : Int).tmod 16 = ((x % 16 : Nat) : Int) := by
  rw [Int.tmod_eq_emod_of_nonneg (by omega)]; omega
set_option maxHeartbeats 4000000 in
theorem sm_round (w : World) (A : Option Addr) (n c : Nat) (l : List Int) (hS : Sl .u8 w A n l) (hb : Bytes l) (hn : n ≤ 9000000000000) :
    ∀ (q i : Nat), i + q = n → ∀ (m : Nat) (xs : List Int), xs = nums (hexL (l.take i)) → xs.length = m → wpK (ctx Tryd.prog w Tryd.f32.ntmps) Tryd.f32 (wR w l) (loopAt Tryd.f32 0) (smS A n c m xs i) := by
  have hl := hS.1
  intro q
  induction q with
  | zero =>
    intro i hi m xs hxs hm
    obtain rfl : i = n := by omega
    have hlt : decide ((i : Int) < (i : Int)) = false := by simp
    rw [List.take_of_length_le (by omega)] at hxs
    have hbx : ByteL xs := hxs ▸ nums_byte _
    have hst : (strI xs) = ⟨(hexL l).toArray⟩ := by rw [hxs]; exact strI_nums _
    unfold wR
    rw [← hst]
    refine wpK_end (n := 400) (m := 0) (nx := 100) (hs := [(8, .eq (.val (.bool false))), (27, .asR [1] (.val (.string (strI xs))))]) (v := .val (.string (strI xs))) follows (And.intro (congrArg Value.bool hlt) (And.intro (show ∀ (ρ : Env) (w' : World), Fr No w w' → hasAll (ctx Tryd.prog w Tryd.f32.ntmps) ρ w' [(1, ob m xs)] → ((do pure (.value (← convert 22 9 (AV.conc ρ (.own 1 1 0 m)))) : Sem Next)).run Tryd.prog w' = .ok (.value (.string (strI xs))) w' from fun ρ w' _ hh => own_str hh.1.1 hm hbx) (show ∀ D : Nat → Prop, (∀ k, k ∈ [1] → D k) → AV.ok D (.val (.string (strI xs))) from fun _ _ => trivial))) (by kernel_rfl) ?_
    intro ρ w' hf; exact ⟨rfl, hf.to_below⟩
  | succ q ih =>
    intro i hi m xs hxs hm
    have hlt : decide ((i : Int) < (n : Int)) = true := by simp; omega
    have hin : i < n := by omega
    have hw : IntKind.i64.wrap ((i : Int) + 1) = ((i + 1 : Nat) : Int) := by rw [IntKind.wrap_i64]; omega
    obtain ⟨ad, rfl⟩ := hS.has (by omega)
    have hbi := hb i (by omega)
    obtain ⟨x, hx⟩ : ∃ x : Nat, l.getD i 0 = (x : Int) := ⟨(l.getD i 0).toNat, by omega⟩
    have hx256 : x < 256 := by omega
    have hcell : ∀ w', Fr No w w' → w'.cell? (ad.add i) = some (.int .u8 (x : Int)) := fun w' hf' => hx ▸ (hS.frN hf').at i hin
    have htk : nums (hexL (l.take (i + 1))) = xs ++ [((dgt (x / 16)).toNat : Int), ((dgt (x % 16)).toNat : Int)] := by
      rw [take_snocD l i (by omega), hexL_append, hx, hxs, nums_append]
      simp [hexL, nums]
    have hlen2 : m ≤ 2 * n := by rw [← hm, hxs, nums_len, hexL_len, List.length_take]; omega
    have h16 : x / 16 < 16 := by omega
    have hm16 : x % 16 < 16 := by omega
    obtain ⟨d1, hd1⟩ : ∃ d1 : Int, d1 = ((dgt (x / 16)).toNat : Int) := ⟨_, rfl⟩
    obtain ⟨d2, hd2⟩ : ∃ d2 : Int, d2 = ((dgt (x % 16)).toNat : Int) := ⟨_, rfl⟩
    have hcat : ∀ ρ, Seg.cells ρ [.ints .u8 (m + 2) (xs ++ [d1, d2])] = Seg.cells ρ [.ints .u8 m xs] ++ Seg.cells ρ [.cell (.val (.int .u8 d1)), .cell (.val (.int .u8 d2))] := by
      intro ρ
      simp [Seg.cells, Seg.cell1, AV.conc]
    have hlen : (xs ++ [d1, d2]).length = m + 2 := by simp [hm]
    have hmb : m + 2 ≤ 140737488355328 := by omega
    refine wpK_loop (n := 400) (m := 0) (nx := 100) (hs := [(8, .eq (.val (.bool true))), (14, .as (.val (.pointer (some (ad.add i))))), (15, .as (.val (.int .u8 (x : Int)))), (16, .eq (.val (.int .u8 ((x / 16 : Nat) : Int)))), (17, .as (.val (.int .u8 d1))), (20, .as (.val (.pointer (some (ad.add i))))), (21, .as (.val (.int .u8 (x : Int)))), (22, .eq (.val (.int .u8 ((x % 16 : Nat) : Int)))), (23, .as (.val (.int .u8 d2))), (25, .app [.ints .u8 (m + 2) (xs ++ [d1, d2])] (m + 2)), (10, .eq (.val (.int .i64 ((i + 1 : Nat) : Int))))]) (st' := loopAt Tryd.f32 0) (s' := smS (some ad) n c (m + 2) (xs ++ [d1, d2]) (i + 1)) follows [] [0, 3, 4] [(1, 118)] (And.intro (congrArg Value.bool hlt) (And.intro (sl_index (F := No) (w := w) (A := ad) (n := n) (c := c) (k' := .i64) Tryd.underlying22 infB hin) (And.intro (sl_load (F := No) (w := w) Tryd.underlying5 rfl hcell) (And.intro (congrArg (Value.int .u8) (q_div x hx256)) (And.intro (show ∀ (ρ : Env) (w' : World), Fr No w w' → (idG 9 (x / 16)).run Tryd.prog w' = .ok (.value (.int .u8 d1)) w' from fun ρ w' _ => hd1 ▸ id_run (x / 16) h16 w') (And.intro (sl_index (F := No) (w := w) (A := ad) (n := n) (c := c) (k' := .i64) Tryd.underlying22 infB hin) (And.intro (sl_load (F := No) (w := w) Tryd.underlying5 rfl hcell) (And.intro (congrArg (Value.int .u8) (q_mod x)) (And.intro (show ∀ (ρ : Env) (w' : World), Fr No w w' → (idG 9 (x % 16)).run Tryd.prog w' = .ok (.value (.int .u8 d2)) w' from fun ρ w' _ => hd2 ▸ id_run (x % 16) hm16 w') (And.intro hcat (And.intro (show Seg.ok No [.ints .u8 (m + 2) (xs ++ [d1, d2])] from ⟨hlen, trivial⟩) (And.intro (rfl : m + 2 = m + 2) (And.intro (Nat.zero_add m) (And.intro hmb (congrArg (Value.int .i64) hw))))))))))))))) (by kernel_rfl) ?_
    exact ih (i + 1) (by omega) (m + 2) _ (by rw [htk, hd1, hd2]) hlen
theorem small_c (w : World) (A : Option Addr) (n c : Nat) (l : List Int) (hS : Sl .u8 w A n l) (hb : Bytes l) (hn : n ≤ 9000000000000) :
    Calls Tryd.prog 32 #[.slice A n c] w (wR w l) := by
  refine calls_vm [.val (.slice A n c)] (fn := Tryd.f32) Tryd.func32 (by kernel_rfl) (by kernel_rfl) (by kernel_rfl) (by simp [AV.okL, AV.ok]) ?_
  refine wpK_loop (n := 400) (m := 0) (nx := 0) (hs := []) (st' := loopAt Tryd.f32 0) (s' := smS A n c 0 [] 0) follows [(3, 99, 1, [.ints .u8 0 []], 5)] [0, 3, 4] [(1, 99)] trivial (by kernel_rfl) ?_
  exact sm_round w A n c l hS hb hn n 0 (by omega) 0 [] rfl rfl
end Go.Proofs.YtkanjdllaikoaaaDoor

