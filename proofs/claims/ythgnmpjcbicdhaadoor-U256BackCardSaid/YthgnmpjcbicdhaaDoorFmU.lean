/- strconv.FormatUint at base 10: the number's decimal digits. -/
import Derived.Test.YthgnmpjcbicdhaaDoorShelf
import Derived.Test.YthgnmpjcbicdhaaDoorVmR
import Derived.Lib.Walk
import Derived.Lib.ItoaMem
import Derived.Lib.AppendIntMem
import Derived.WalkKit
import Derived.BigCall
import Derived.BigGuard
set_option linter.unusedSimpArgs false
set_option linter.unusedVariables false
namespace Go.Proofs.YthgnmpjcbicdhaaDoor
open Go Go.RowKit Go.Shelf Go.Sort Go.Lib

theorem fmtS_c (n : Nat) (hs : n < 100) (w : World) :
    Calls Tryd.prog 36 #[.int .u64 (n : Int), .int .i64 10] w fun e w' => e = .returned (.string ⟨(Lib.decDigits n).toArray⟩) ∧ Below w.heap.size w w' := by
  have h1 : decide ((n : Int) < 100) = true := by simp; omega
  have h2 : IntKind.i64.wrap (n : Int) = (n : Int) := by rw [IntKind.wrap_i64]; omega
  refine calls_vm [.val (.int .u64 (n : Int)), .val (.int .i64 10)] (fn := Tryd.f36) Tryd.func36 (by kernel_rfl) (by kernel_rfl) (by kernel_rfl) (by simp [AV.okL, AV.ok]) ?_
  have hc : ∀ w' : World, Calls Tryd.prog 50 #[.int .i64 (n : Int)] w' fun e w'' => e = .returned (.string ⟨(Lib.decDigits n).toArray⟩) ∧ Below w'.heap.size w' w'' := fun w' => (Tryd.internal_strconv_small n hs w').mono fun e w'' h => ⟨h.1, by rw [h.2]; exact Below.refl _ _⟩
  refine wpK_end (n := 400) (m := 0) (nx := 0) (hs := [(12, .eq (.val (.bool true))), (14, .eq (.val (.int .i64 (n : Int)))), (15, .call (.val (.string ⟨(Lib.decDigits n).toArray⟩)))]) (v := .val (.string ⟨(Lib.decDigits n).toArray⟩)) follows (And.intro (congrArg Value.bool h1) (And.intro (congrArg (Value.int .i64) h2) (vcall w fun w' => hc w'))) (by kernel_rfl) ?_
  intro ρ w' hf
  exact ⟨rfl, hf.to_below⟩
set_option maxHeartbeats 6400000 in
set_option maxRecDepth 100000 in
theorem fmtB_c (u : Nat) (hs : ¬ u < 100) (hu64 : u < 18446744073709551616) (w : World) (htab : Lib.TabIs Tryd.prog w "internal/strconv.uint64pow10" .u64 Lib.pow10Tab) :
    Calls Tryd.prog 36 #[.int .u64 (u : Int), .int .i64 10] w fun e w' => e = .returned (.string ⟨(Lib.decDigits u).toArray⟩) ∧ Below w.heap.size w w' := by
  have hu1 : 1 ≤ u := by omega
  have hnd20 : Lib.nDigits u ≤ 20 := by have := Lib.numDigits_eq u hu1 hu64; split at this <;> omega
  have hb3 : Lib.nDigits u ≤ 24 := by omega
  have h1 : decide ((u : Int) < 100) = false := by simp; omega
  have hal : Tryd.prog.arrayLen 88 = 24 := by simp [Program.arrayLen, Tryd.underlying88]
  have hsl1 : ∀ W, (Instr.sliceAt 88 (.pointer (some ⟨w.heap.size, 0, none⟩)) none (some (.int .i64 (Lib.nDigits u : Int))) none).run Tryd.prog W = .ok (.slice (some ⟨w.heap.size, 0, none⟩) (Lib.nDigits u) 24) W := fun W => by
    rw [run_sliceAt_array_h W 88 ⟨w.heap.size, 0, none⟩ (by simp [Program.arrayLen, Program.elem, Tryd.underlying88]) .i64 (Lib.nDigits u : Int) (by omega) (by rw [hal]; omega)]
    go_simp
  have hH0 := Lib.holds_zero0 w 88 (Lib.nDigits u) (by omega)
  have hfmt := Tryd.internal_strconv_formatBase10 w.heap.size 0 24 u (Array.replicate (Lib.nDigits u) 0) (w.alloc (.cells Lib.zeros24 88)) hH0 (by rw [Array.size_replicate]; exact Lib.lt_pow_nDigits u) hu64 (by rw [Array.size_replicate]; omega)
  rw [Array.size_replicate] at hfmt
  have HH0 := Lib.hid hH0
  clear hH0 hal
  go_enter Tryd.func36, Tryd.ntmps36
  go_wp2_with fail
  refine (Tryd.internal_strconv_numDigits u hu1 hu64 _ (Lib.tabIs_alloc htab _)).mono ?_
  rintro e w' ⟨rfl, rfl⟩
  go_wp2_with fail
  refine hfmt.mono ?_
  rintro e w' ⟨rfl, k, v', dk, rfl, hF⟩
  have hcv : (convert 33 9 (.slice (some ⟨w.heap.size, 0, none⟩) (Lib.nDigits u) 24)).run Tryd.prog ((putRow (fun (b : UInt8) => Value.int .u8 (b.toNat : Int)) (w.alloc (.cells Lib.zeros24 88)) w.heap.size 0 dk).drewN k) = .ok (.string ⟨(Lib.decDigits u).toArray⟩) ((putRow (fun (b : UInt8) => Value.int .u8 (b.toNat : Int)) (w.alloc (.cells Lib.zeros24 88)) w.heap.size 0 dk).drewN k) := by
    have h := run_convert_bytes_back (P := Tryd.prog) ((putRow (fun (b : UInt8) => Value.int .u8 (b.toNat : Int)) (w.alloc (.cells Lib.zeros24 88)) w.heap.size 0 dk).drewN k) 33 9 5 ⟨w.heap.size, 0, none⟩ 24 (Lib.decDigits u) Tryd.underlying33 Tryd.underlying5 Tryd.underlying9 (fun j hj => by
      rw [Lib.row_is_numeral hF j hj, Lib.add_plain, World.cell?_drewN]
      exact cell?_putRow (fun (b : UInt8) => Value.int .u8 (b.toNat : Int)) _ w.heap.size 0 _ dk HH0.out (by rw [hF.size, Array.size_replicate]) j (by rw [hF.size]; rw [Lib.decDigits_length] at hj; exact hj))
    rw [Lib.decDigits_length] at h
    exact h
  go_wp2
  go_ret
  refine ⟨rfl, ?_⟩
  obtain ⟨os, eo⟩ := Lib.fin_at w (.cells Lib.zeros24 88) dk k 0
  rw [eo]
  exact Lib.below_grow _ w (Nat.le_refl _) k os
/-- A table that lies stays. -/
theorem tabIs_fr {w w' : World} {s : String} {k : IntKind} {t : List Int} (h : Lib.TabIs Tryd.prog w s k t) (hf : Fr No w w') : Lib.TabIs Tryd.prog w' s k t := by
  unfold Lib.TabIs World.var? at *
  cases hg : Tryd.prog.globalNamed s with
  | none => simp [hg] at h
  | some g =>
    simp only [hg, Option.bind_some] at h ⊢
    have hlt : g < w.heap.size := by
      rcases Nat.lt_or_ge g w.heap.size with h' | h'
      · exact h'
      · rw [Array.getElem?_eq_none h'] at h; simp at h
    rw [hf.block g hlt (fun h => h)]
    exact h
theorem fmt_c (u : Nat) (hu64 : u < 18446744073709551616) (w : World) (htab : Lib.TabIs Tryd.prog w "internal/strconv.uint64pow10" .u64 Lib.pow10Tab) :
    Calls Tryd.prog 23 #[.int .u64 (u : Int), .int .i64 10] w fun e w' => e = .returned (.string ⟨(Lib.decDigits u).toArray⟩) ∧ Below w.heap.size w w' := by
  have hc : ∀ w' : World, Fr No w w' → Calls Tryd.prog 36 #[.int .u64 (u : Int), .int .i64 10] w' fun e w'' => e = .returned (.string ⟨(Lib.decDigits u).toArray⟩) ∧ Below w'.heap.size w' w'' := by
    intro w' hf
    by_cases hs : u < 100
    · exact fmtS_c u hs w'
    · exact fmtB_c u hs hu64 w' (tabIs_fr htab hf)
  refine calls_vm [.val (.int .u64 (u : Int)), .val (.int .i64 10)] (fn := Tryd.f23) Tryd.func23 (by kernel_rfl) (by kernel_rfl) (by kernel_rfl) (by simp [AV.okL, AV.ok]) ?_
  refine wpK_end (n := 400) (m := 0) (nx := 0) (hs := [(7, .call (.val (.string ⟨(Lib.decDigits u).toArray⟩)))]) (v := .val (.string ⟨(Lib.decDigits u).toArray⟩)) follows (fun w' hf => hc w' hf) (by kernel_rfl) ?_
  intro ρ w' hf
  exact ⟨rfl, hf.to_below⟩
end Go.Proofs.YthgnmpjcbicdhaaDoor

