/- Quantity, Uint: the program. -/
import Derived.Test.YtkanjdllaikoaaaDoorUqP
import Derived.Lib.TrimByte
set_option linter.unusedSimpArgs false
set_option linter.unusedVariables false
namespace Go.Proofs.YtkanjdllaikoaaaDoor
open Go Go.RowKit

/-- Bytes as what is answered. -/
abbrev bytesA (l : List Int) : AV := .agg [.ints .u8 32 l]
abbrev bytesV (l : List Int) : Value := .agg (l.map (Value.int .u8) ++ []).toArray
theorem put_v (x : Nat) (w : World) : Calls Tryd.prog 33 #[U x] w fun e w' => e = .returned (bytesV (putA x 32)) ∧ Below w.heap.size w w' := by
  refine calls_vm [.val (U x)] (fn := Tryd.f33) Tryd.func33 (by kernel_rfl) (by kernel_rfl) (by kernel_rfl) (by simp [AV.okL, AV.ok]) ?_
  refine wpK_end (n := 1000) (m := 33) (nx := 0) (hs := [(2, .row [.ints .u8 32 (List.replicate 32 0)]), (3, .row [.ints .u8 32 (List.replicate 32 0)]), (18, .eq (.val (.int .u8 (byteN x 0)))), (18, .eq (.val (.int .u8 (byteN x 1)))), (18, .eq (.val (.int .u8 (byteN x 2)))), (18, .eq (.val (.int .u8 (byteN x 3)))), (18, .eq (.val (.int .u8 (byteN x 4)))), (18, .eq (.val (.int .u8 (byteN x 5)))), (18, .eq (.val (.int .u8 (byteN x 6)))), (18, .eq (.val (.int .u8 (byteN x 7)))), (18, .eq (.val (.int .u8 (byteN x 8)))), (18, .eq (.val (.int .u8 (byteN x 9)))), (18, .eq (.val (.int .u8 (byteN x 10)))), (18, .eq (.val (.int .u8 (byteN x 11)))), (18, .eq (.val (.int .u8 (byteN x 12)))), (18, .eq (.val (.int .u8 (byteN x 13)))), (18, .eq (.val (.int .u8 (byteN x 14)))), (18, .eq (.val (.int .u8 (byteN x 15)))), (18, .eq (.val (.int .u8 (byteN x 16)))), (18, .eq (.val (.int .u8 (byteN x 17)))), (18, .eq (.val (.int .u8 (byteN x 18)))), (18, .eq (.val (.int .u8 (byteN x 19)))), (18, .eq (.val (.int .u8 (byteN x 20)))), (18, .eq (.val (.int .u8 (byteN x 21)))), (18, .eq (.val (.int .u8 (byteN x 22)))), (18, .eq (.val (.int .u8 (byteN x 23)))), (18, .eq (.val (.int .u8 (byteN x 24)))), (18, .eq (.val (.int .u8 (byteN x 25)))), (18, .eq (.val (.int .u8 (byteN x 26)))), (18, .eq (.val (.int .u8 (byteN x 27)))), (18, .eq (.val (.int .u8 (byteN x 28)))), (18, .eq (.val (.int .u8 (byteN x 29)))), (18, .eq (.val (.int .u8 (byteN x 30)))), (18, .eq (.val (.int .u8 (byteN x 31))))]) (v := bytesA (putA x 32)) follows (And.intro (fun ρ => (rfl : Seg.cells ρ [.ints .u8 32 (List.replicate 32 0)] = (Value.agg (ints .u8 (List.replicate 32 0))).cells.toList)) (And.intro (show Seg.ok No [.ints .u8 32 (List.replicate 32 0)] from ⟨rfl, trivial⟩) (And.intro (fun ρ => (rfl : Seg.cells ρ [.ints .u8 32 (List.replicate 32 0)] = (Value.agg (ints .u8 (List.replicate 32 0))).cells.toList)) (And.intro (show Seg.ok No [.ints .u8 32 (List.replicate 32 0)] from ⟨rfl, trivial⟩) (And.intro (congrArg (Value.int .u8) (put_byte x 0 0 0 rfl (by omega))) (And.intro (congrArg (Value.int .u8) (put_byte x 0 1 1 rfl (by omega))) (And.intro (congrArg (Value.int .u8) (put_byte x 0 2 2 rfl (by omega))) (And.intro (congrArg (Value.int .u8) (put_byte x 0 3 3 rfl (by omega))) (And.intro (congrArg (Value.int .u8) (put_byte x 0 4 4 rfl (by omega))) (And.intro (congrArg (Value.int .u8) (put_byte x 0 5 5 rfl (by omega))) (And.intro (congrArg (Value.int .u8) (put_byte x 0 6 6 rfl (by omega))) (And.intro (congrArg (Value.int .u8) (put_byte x 0 7 7 rfl (by omega))) (And.intro (congrArg (Value.int .u8) (put_byte x 1 0 8 rfl (by omega))) (And.intro (congrArg (Value.int .u8) (put_byte x 1 1 9 rfl (by omega))) (And.intro (congrArg (Value.int .u8) (put_byte x 1 2 10 rfl (by omega))) (And.intro (congrArg (Value.int .u8) (put_byte x 1 3 11 rfl (by omega))) (And.intro (congrArg (Value.int .u8) (put_byte x 1 4 12 rfl (by omega))) (And.intro (congrArg (Value.int .u8) (put_byte x 1 5 13 rfl (by omega))) (And.intro (congrArg (Value.int .u8) (put_byte x 1 6 14 rfl (by omega))) (And.intro (congrArg (Value.int .u8) (put_byte x 1 7 15 rfl (by omega))) (And.intro (congrArg (Value.int .u8) (put_byte x 2 0 16 rfl (by omega))) (And.intro (congrArg (Value.int .u8) (put_byte x 2 1 17 rfl (by omega))) (And.intro (congrArg (Value.int .u8) (put_byte x 2 2 18 rfl (by omega))) (And.intro (congrArg (Value.int .u8) (put_byte x 2 3 19 rfl (by omega))) (And.intro (congrArg (Value.int .u8) (put_byte x 2 4 20 rfl (by omega))) (And.intro (congrArg (Value.int .u8) (put_byte x 2 5 21 rfl (by omega))) (And.intro (congrArg (Value.int .u8) (put_byte x 2 6 22 rfl (by omega))) (And.intro (congrArg (Value.int .u8) (put_byte x 2 7 23 rfl (by omega))) (And.intro (congrArg (Value.int .u8) (put_byte x 3 0 24 rfl (by omega))) (And.intro (congrArg (Value.int .u8) (put_byte x 3 1 25 rfl (by omega))) (And.intro (congrArg (Value.int .u8) (put_byte x 3 2 26 rfl (by omega))) (And.intro (congrArg (Value.int .u8) (put_byte x 3 3 27 rfl (by omega))) (And.intro (congrArg (Value.int .u8) (put_byte x 3 4 28 rfl (by omega))) (And.intro (congrArg (Value.int .u8) (put_byte x 3 5 29 rfl (by omega))) (And.intro (congrArg (Value.int .u8) (put_byte x 3 6 30 rfl (by omega))) (congrArg (Value.int .u8) (put_byte x 3 7 31 rfl (by omega)))))))))))))))))))))))))))))))))))))) (by kernel_rfl) ?_
  intro ρ w' hf; exact ⟨rfl, hf.to_below⟩
theorem trim_c (s : ByteArray) (w : World) : Calls Tryd.prog 34 #[.string s, .string ⟨#[48]⟩] w fun e w' => e = .returned (.string ⟨(noZ s.data.toList).toArray⟩) ∧ Below w.heap.size w w' :=
  (Tryd.strings_TrimLeft_one s 48 (by decide) w).mono fun e w' h => ⟨h.1, h.2 ▸ Below.refl _ _⟩
theorem str_empty (l : List UInt8) : ((⟨l.toArray⟩ : ByteArray).toList == (⟨#[]⟩ : ByteArray).toList) = decide (l = []) := by
  rw [ByteArray.toList_eq, ByteArray.toList_eq]
  cases l with
  | nil => rfl
  | cons a r => rfl
set_option maxHeartbeats 1000000 in
theorem qty_c (w : World) (x : Nat) : Calls Tryd.prog 14 #[U x] w (strR w (qtyS x)) := by
  obtain ⟨T, hT⟩ : ∃ T : ByteArray, T = ⟨(hexL (putA x 32)).toArray⟩ := ⟨_, rfl⟩
  obtain ⟨Z, hZ⟩ : ∃ Z, Z = noZ (digsL x) := ⟨_, rfl⟩
  have hZl : Z.length ≤ 64 := by have := noZ_len (digsL x); rw [digsL_len] at this; rw [hZ]; exact this
  have pc : ∀ w', Fr No w w' → Calls Tryd.prog 33 #[U x] w' fun e w'' => e = .returned (bytesV (putA x 32)) ∧ Below w'.heap.size w' w'' := fun w' _ => put_v x w'
  have hsm : ∀ (ρ : Env) w', Fr No w w' → hasAll (ctx Tryd.prog w Tryd.f14.ntmps) ρ w' [(4, ⟨[.ints .u8 32 (putA x 32)], 28, .arr⟩)] → Calls Tryd.prog 31 #[AV.conc ρ (.lst 4 0 0 32 32)] w' fun e w'' => e = .returned (AV.conc ρ (.val (.string T))) ∧ Below w'.heap.size w' w'' := by
    intro ρ w' hf hh
    have hSl : Sl .u8 w' (some ⟨ρ.b 4, 0, none⟩) 32 (putA x 32) := arr_Sl hh.1.1 (putA_len x 32) fun j hj => by
      rw [Nat.zero_add]
      simp only [Seg.cells, Seg.cell1, List.append_nil]
      exact vals_get .u8 _ j (by rw [putA_len]; omega)
    have := written_c w' _ 32 32 _ hSl (putA_bytes x 32) (by omega)
    unfold wR at this
    rw [← hT] at this
    exact this
  have tc : ∀ w', Fr No w w' → Calls Tryd.prog 34 #[.string T, .string ⟨#[48]⟩] w' fun e w'' => e = .returned (.string ⟨Z.toArray⟩) ∧ Below w'.heap.size w' w'' := by
    intro w' _
    have := trim_c T w'
    rw [hT, hexL_put] at this
    rw [hT, hexL_put, hZ]
    simpa using this
  unfold strR qtyS qtyL
  rw [← hZ]
  have hse := str_empty Z
  by_cases he : Z = []
  · rw [if_pos he]
    have hd : decide (Z = []) = true := by simp [he]
    refine calls_vm [.val (U x)] (fn := Tryd.f14) Tryd.func14 (by kernel_rfl) (by kernel_rfl) (by kernel_rfl) (by simp [AV.okL, AV.ok]) ?_
    refine wpK_end (n := 400) (m := 0) (nx := 0) (hs := [(6, .call (bytesA (putA x 32))), (3, .row [.ints .u8 32 (List.replicate 32 0)]), (7, .sub 0 32), (8, .callM [4] (.val (.string T)) none), (9, .call (.val (.string ⟨Z.toArray⟩))), (11, .eq (.val (.bool true))), (13, .as (.val (.string (withX ⟨#[48]⟩))))]) (v := .val (.string (withX ⟨#[48]⟩))) follows (And.intro pc (And.intro (show (bytesA (putA x 32)).ok No from ⟨putA_len x 32, trivial⟩) (And.intro (fun ρ => (rfl : Seg.cells ρ [.ints .u8 32 (List.replicate 32 0)] = (Value.agg (ints .u8 (List.replicate 32 0))).cells.toList)) (And.intro (show Seg.ok No [.ints .u8 32 (List.replicate 32 0)] from ⟨rfl, trivial⟩) (And.intro (rfl : (0 : Nat) = 0) (And.intro (rfl : (32 : Nat) = 32) (And.intro (Nat.zero_le 32) (And.intro (Nat.le_refl 32) (And.intro (Nat.succ_pos 31) (And.intro hsm (And.intro (show ∀ D : Nat → Prop, (∀ k, k ∈ [4] → D k) → AV.ok D (.val (.string T)) from fun _ _ => trivial) (And.intro tc (And.intro (congrArg Value.bool (hse.trans hd)) (cat_x (F := No) (w := w) ⟨#[48]⟩ (by decide))))))))))))))) (by kernel_rfl) ?_
    intro ρ w' hf; exact ⟨rfl, hf.to_below⟩
  · rw [if_neg he]
    have hd : decide (Z = []) = false := by simp [he]
    have hsz : (⟨Z.toArray⟩ : ByteArray).size ≤ 8000000000000000000 := by show Z.toArray.size ≤ _; simp; omega
    refine calls_vm [.val (U x)] (fn := Tryd.f14) Tryd.func14 (by kernel_rfl) (by kernel_rfl) (by kernel_rfl) (by simp [AV.okL, AV.ok]) ?_
    refine wpK_end (n := 400) (m := 0) (nx := 0) (hs := [(6, .call (bytesA (putA x 32))), (3, .row [.ints .u8 32 (List.replicate 32 0)]), (7, .sub 0 32), (8, .callM [4] (.val (.string T)) none), (9, .call (.val (.string ⟨Z.toArray⟩))), (11, .eq (.val (.bool false))), (13, .as (.val (.string (withX ⟨Z.toArray⟩))))]) (v := .val (.string (withX ⟨Z.toArray⟩))) follows (And.intro pc (And.intro (show (bytesA (putA x 32)).ok No from ⟨putA_len x 32, trivial⟩) (And.intro (fun ρ => (rfl : Seg.cells ρ [.ints .u8 32 (List.replicate 32 0)] = (Value.agg (ints .u8 (List.replicate 32 0))).cells.toList)) (And.intro (show Seg.ok No [.ints .u8 32 (List.replicate 32 0)] from ⟨rfl, trivial⟩) (And.intro (rfl : (0 : Nat) = 0) (And.intro (rfl : (32 : Nat) = 32) (And.intro (Nat.zero_le 32) (And.intro (Nat.le_refl 32) (And.intro (Nat.succ_pos 31) (And.intro hsm (And.intro (show ∀ D : Nat → Prop, (∀ k, k ∈ [4] → D k) → AV.ok D (.val (.string T)) from fun _ _ => trivial) (And.intro tc (And.intro (congrArg Value.bool (hse.trans hd)) (cat_x (F := No) (w := w) ⟨Z.toArray⟩ hsz)))))))))))))) (by kernel_rfl) ?_
    intro ρ w' hf; exact ⟨rfl, hf.to_below⟩
theorem from_v (v : Int) (w : World) : Calls Tryd.prog 35 #[.int .u64 v] w fun e w' => e = .returned (.agg #[.int .u64 v, .int .u64 0, .int .u64 0, .int .u64 0]) ∧ Below w.heap.size w w' := by
  refine calls_vm [.val (.int .u64 v)] (fn := Tryd.f35) Tryd.func35 (by kernel_rfl) (by kernel_rfl) (by kernel_rfl) (by simp [AV.okL, AV.ok]) ?_
  refine wpK_end (n := 400) (m := 0) (nx := 0) (hs := []) (v := .agg [.cell (.val (.int .u64 v)), .cell (.val (.int .u64 0)), .cell (.val (.int .u64 0)), .cell (.val (.int .u64 0))]) follows trivial (by kernel_rfl) ?_
  intro ρ w' hf; exact ⟨rfl, hf.to_below⟩
theorem U_u64 (v : Int) (h0 : 0 ≤ v) (h1 : v ≤ 18446744073709551615) : Value.agg #[.int .u64 v, .int .u64 0, .int .u64 0, .int .u64 0] = U v.toNat :=
  U_of _ _ _ _ _ h0 (by omega) (by omega) (by omega) (by omega) (by omega) (by omega) (by omega) (by omega)
theorem uint_c (w : World) (v : Int) (h0 : 0 ≤ v) (h1 : v ≤ 18446744073709551615) : Calls Tryd.prog 16 #[.int .u64 v] w (strR w (qtyS v.toNat)) := by
  obtain ⟨S, hS⟩ : ∃ S, S = qtyS v.toNat := ⟨_, rfl⟩
  have fc : ∀ w', Fr No w w' → Calls Tryd.prog 35 #[.int .u64 v] w' fun e w'' => e = .returned (.agg #[.int .u64 v, .int .u64 0, .int .u64 0, .int .u64 0]) ∧ Below w'.heap.size w' w'' := fun w' _ => from_v v w'
  have qc : ∀ w', Fr No w w' → Calls Tryd.prog 14 #[.agg #[.int .u64 v, .int .u64 0, .int .u64 0, .int .u64 0]] w' fun e w'' => e = .returned (.string S) ∧ Below w'.heap.size w' w'' := fun w' _ => by
    rw [U_u64 v h0 h1, hS]; exact qty_c w' _
  unfold strR
  rw [← hS]
  refine calls_vm [.val (.int .u64 v)] (fn := Tryd.f16) Tryd.func16 (by kernel_rfl) (by kernel_rfl) (by kernel_rfl) (by simp [AV.okL, AV.ok]) ?_
  refine wpK_end (n := 400) (m := 0) (nx := 0) (hs := [(4, .call (.val (.agg #[.int .u64 v, .int .u64 0, .int .u64 0, .int .u64 0]))), (5, .call (.val (.string S)))]) (v := .val (.string S)) follows (And.intro fc qc) (by kernel_rfl) ?_
  intro ρ w' hf; exact ⟨rfl, hf.to_below⟩
end Go.Proofs.YtkanjdllaikoaaaDoor

