/- still: the bytes, and the marks behind them, are what they were. -/
import Derived.Test.YtdagliimdmbeaaaNLent
set_option linter.unusedSimpArgs false
set_option linter.unusedVariables false
namespace Go.Proofs.Ytdagliimdmbeaaa
open Go Go.RowKit Go.Proofs.YtdagliimdmbeaaaW.PrintWords Go.Proofs.YtdagliimdmbeaaaW.PrintLast Go.Proofs.YtdagliimdmbeaaaW.PrintMore

theorem marks_data (l : List Int) (k : Nat) (h : k < l.length) : (marks l 70)[k]? = some (.int .u8 (l.getD k 0)) := by
  unfold marks nums
  rw [List.getElem?_map, List.getElem?_append_left h]
  simp [h]
theorem marks_mark (l : List Int) (k : Nat) (h : l.length ≤ k) (h2 : k < l.length + 70) : (marks l 70)[k]? = some (.int .u8 195) := by
  unfold marks nums
  rw [List.getElem?_map, List.getElem?_append_right h, List.getElem?_append_left (by rw [List.length_replicate]; omega), List.getElem?_replicate, if_pos (by omega)]
  rfl

set_option maxHeartbeats 1000000 in
set_option maxRecDepth 100000 in
theorem still_c (b : Nat) (A0 : Option Addr) (c0 : Nat) (l : List Int) (w : World) (hbox : Box w b (marks l 70).toArray 5) (hr : Kd.C (Kd.int .u8) w A0 l.length l) (hl : l.length ≤ 140737488351232) :
    Calls Try.prog 15 #[.slice (some ⟨b, 0, none⟩) l.length (l.length + 70), .slice A0 l.length c0] w fun e w' => e = .returned (.bool true) ∧ Drawn0 w w' := by
  have hl63 : (l.length : Int) ≤ 9000000000000000000 := by omega
  have Hr := Lib.hid hr
  have Hb := Lib.hid hbox
  clear hl hr hbox
  go_enter Try.func15, Try.ntmps15
  go_wp2_with fail
  go_loopw [6] (fun i wr => ∃ k : Nat, k ≤ l.length + 70 ∧ i = .int .i64 ((k : Nat) : Int) ∧ ∃ n, wr = w.drewN n) (fun i _ => (l.length + 70 - intOf i).toNat)
  case atStart => exact ⟨0, by omega, rfl, 0, rfl⟩
  case round =>
    obtain ⟨k, hk, rfl, n, rfl⟩ := hrel
    by_cases hlt : k < l.length
    · have hc1 : w.cell? ⟨b, k, none⟩ = some (.int .u8 (l.getD k 0)) := by rw [Hb.out.cell]; simpa using marks_data l k hlt
      obtain ⟨ad, e, hc2⟩ := C_cell Hr.out (by omega)
      subst e
      have hc3 := hc2 k hlt
      clear hc2
      obtain ⟨x, hx⟩ : ∃ x, x = l.getD k 0 := ⟨_, rfl⟩
      rw [← hx] at hc1 hc3
      clear hx
      have d1 : decide (k < l.length) = true := by simpa using hlt
      have d2 : decide (l.length ≤ k) = false := by simp; omega
      have d3 : decide (k < l.length + 70) = true := by simp; omega
      go_wp2_with fail
      go_quiet (fail)
      go_wp2_with fail
      go_roundw
      case rel => exact ⟨k + 1, by omega, by go_num, _, rfl⟩
      case measure => simp [intOf]; omega
    · by_cases hlt2 : k < l.length + 70
      · have hc1 : w.cell? ⟨b, k, none⟩ = some (.int .u8 195) := by rw [Hb.out.cell]; simpa using marks_mark l k (by omega) hlt2
        have d1 : decide (k < l.length) = false := by simp; omega
        have d2 : decide (l.length ≤ k) = true := by simp; omega
        have d3 : decide (k < l.length + 70) = true := by simp; omega
        go_wp2_with fail
        go_quiet (fail)
        go_wp2_with fail
        go_roundw
        case rel => exact ⟨k + 1, by omega, by go_num, _, rfl⟩
        case measure => simp [intOf]; omega
      · obtain rfl : k = l.length + 70 := by omega
        go_wp2_with fail
        go_ret
        exact ⟨rfl, ⟨_, rfl⟩⟩
end Go.Proofs.Ytdagliimdmbeaaa
