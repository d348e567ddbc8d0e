/- The statement HexaNumbers: whatever the text, the call returns true. -/
import Derived.Test.YtkanjdllaikoaaaHQuant
import Derived.Test.YtkanjdllaikoaaaHRQuant
import Derived.Test.YtkanjdllaikoaaaCuts
import Derived.Test.YtkanjdllaikoaaaRows
import Derived.Test.YtkanjdllaikoaaaWSized
import Derived.WalkKit
import Derived.ProofKit
import Derived.OpenShut
import Derived.ShutString
import Derived.ChangeOld
import Derived.Below
import Derived.Carry
import Derived.SizedLaws
import Derived.JoinedCond
import Derived.ChangeMaps5
set_option linter.unusedSimpArgs false
set_option linter.unusedVariables false
namespace Go.Proofs.Ytkanjdllaikoaaa
open Go Go.ChangeShapes Go.WideShapes Go.ChangeAt Go.RowKit Go.Proofs.YtkanjdllaikoaaaW.PrintWords Go.Proofs.YtkanjdllaikoaaaW.PrintLast Go.Proofs.YtkanjdllaikoaaaW.PrintMore Go.Proofs.Ytkanjdllaikoaaa.PHexaData

theorem own : ownKnob Try.prog.godebug = none := by kernel_rfl
theorem laidOut : laidOutB Try.prog = true := by kernel_rfl
theorem info22 : (Try.prog.info? 31).map (fun i => (i.zero, i.size, i.bytes)) = some (some (.int .u64 0), 1, 8) := by kernel_rfl
theorem guardU : Try.prog.eqGuardType Try.prog.depth 33 = false := by kernel_rfl
/-- '==' of a number and itself. -/
theorem run_eq_self (n : Nat) (w : World) : (Op.equalIn 10000 33 (U n) (U n)).run Try.prog w = .ok true w := by
  obtain ⟨i, hi, _, hs, _⟩ := info_parts info22
  have h := run_equalIn_arr (P := Try.prog) 9998 33 31 4 .u64 .u64 i Try.underlying33 Try.underlying31 hi hs [L n 0, L n 1, L n 2, L n 3] [L n 0, L n 1, L n 2, L n 3] rfl rfl w
  rw [decide_eq_true rfl] at h
  exact h
theorem bulk_one {H : Type} (d : DataW H) : 1 ≤ Rows.uptoBulk d := by
  cases d with
  | lit l => cases l <;> simp [Rows.uptoBulk]
  | nil => simp [Rows.uptoBulk]
  | ptr d => simp [Rows.uptoBulk]
  | slice elems spare => simp [Rows.uptoBulk]
  | agg parts => simp [Rows.uptoBulk]
  | iface t d => simp [Rows.uptoBulk]
  | map entries => simp [Rows.uptoBulk]
  | held h => simp [Rows.uptoBulk]
theorem bulk_part {H : Type} {d : DataW H} : ∀ {l : List (DataW H)}, d ∈ l → Rows.uptoBulk d ≤ Rows.uptoBulkAll l
  | x :: r, h => by
    simp only [Rows.uptoBulkAll]
    rcases List.mem_cons.1 h with e | e
    · subst e; omega
    · have := bulk_part e; omega
theorem bulk_small {H : Type} {l : List (DataW H)} (hk : Rows.uptoSmall H l = true) : Rows.uptoBulkAll l ≤ 1048576 := of_decide_eq_true hk
theorem open_str {H : Type} {enc : TypeId × Value → H} {W : World} {v : Value} {d : DataW H} {p : List MemPlace} {b0 : Nat} {r : Reach}
    (hv : Value.okWide Try.prog W r b0 9 v) (h : DataW.Trod enc Try.prog W 0 (fun _ => true) true 9 v d p) : ∃ s : ByteArray, v = .string s ∧ s.size ≤ Rows.uptoBulk d := by
  obtain ⟨s, rfl, rfl, _, _⟩ := Go.ChangeMaps.open_string Try.underlying9 hv h
  refine ⟨s, rfl, ?_⟩
  have : s.data.toList.length = s.size := by simp
  simp only [Rows.uptoBulk]
  omega

set_option maxHeartbeats 4000000 in
set_option maxRecDepth 100000 in
theorem pq_c (s : ByteArray) (hs : s.size ≤ 33554434) (w : World) :
    Calls Try.prog 10 #[.string s] w fun e w' => e = .returned (.tuple #[U (qV (tailA s).1 (tailA s).2 64), .int .i64 (qE (tailA s).1 (tailA s).2 64)]) ∧ Bl w w' := by
  have hv := fun w => quant_c s hs 64 (by omega) w
  simp only [Int.cast_ofNat_Int] at hv
  generalize qV (tailA s).1 (tailA s).2 64 = V at *
  generalize qE (tailA s).1 (tailA s).2 64 = E at *
  go_enter Try.func10, Try.ntmps10
  go_wp2_with fail
  refine (hv _).mono ?_
  rintro e w1 ⟨rfl, hb1⟩
  have hx : Box w1 w.heap.size #[.int .u64 0, .int .u64 0, .int .u64 0, .int .u64 0] 33 := (Box.new _ _ _ _ rfl).call hb1
  have B1 := Lib.hid (show Bl w w1 from Bl.trans ((Bl.refl w).alloc _) hb1)
  obtain ⟨c1, f1, z1⟩ := hx.tell
  clear hb1
  go_wp2_with fail
  refine bodyPost_ret (v := .tuple #[U V, .int .i64 E]) (by simp only [results, Try.results10]; go_simp) rfl ⟨rfl, ?_⟩
  exact (by repeat (first | exact B1.out | (refine Bl.setCell ?_ (by simp only []; omega) _) | apply Bl.alloc))

set_option maxHeartbeats 4000000 in
set_option maxRecDepth 100000 in
theorem rpq_c (s : ByteArray) (hs : s.size ≤ 33554434) (w : World) :
    Calls Try.prog 11 #[.string s] w fun e w' => e = .returned (.tuple #[U (qV (tailA s).1 (tailA s).2 64), .int .i64 (qE (tailA s).1 (tailA s).2 64)]) ∧ Bl w w' := by
  have hv := fun w => rquant_c s hs 64 (by omega) w
  simp only [Int.cast_ofNat_Int] at hv
  generalize qV (tailA s).1 (tailA s).2 64 = V at *
  generalize qE (tailA s).1 (tailA s).2 64 = E at *
  go_enter Try.func11, Try.ntmps11
  go_wp2_with fail
  refine (hv _).mono ?_
  rintro e w1 ⟨rfl, hb1⟩
  have hx : Box w1 w.heap.size #[.int .u64 0, .int .u64 0, .int .u64 0, .int .u64 0] 33 := (Box.new _ _ _ _ rfl).call hb1
  have B1 := Lib.hid (show Bl w w1 from Bl.trans ((Bl.refl w).alloc _) hb1)
  obtain ⟨c1, f1, z1⟩ := hx.tell
  clear hb1
  go_wp2_with fail
  refine bodyPost_ret (v := .tuple #[U V, .int .i64 E]) (by simp only [results, Try.results11]; go_simp) rfl ⟨rfl, ?_⟩
  exact (by repeat (first | exact B1.out | (refine Bl.setCell ?_ (by simp only []; omega) _) | apply Bl.alloc))

set_option maxHeartbeats 4000000 in
set_option maxRecDepth 100000 in
theorem pu_c (s : ByteArray) (hs : s.size ≤ 33554434) (w : World) :
    Calls Try.prog 12 #[.string s] w fun e w' => e = .returned (.tuple #[.int .u64 (L (qV (tailA s).1 (tailA s).2 16) 0), .int .i64 (qE (tailA s).1 (tailA s).2 16)]) ∧ Bl w w' := by
  have hv := fun w => quant_c s hs 16 (by omega) w
  simp only [Int.cast_ofNat_Int] at hv
  generalize qV (tailA s).1 (tailA s).2 16 = V at *
  generalize qE (tailA s).1 (tailA s).2 16 = E at *
  go_enter Try.func12, Try.ntmps12
  go_wp2_with fail
  refine (hv _).mono ?_
  rintro e w1 ⟨rfl, hb1⟩
  have B1 := Lib.hid hb1
  clear hb1
  go_wp2_with fail
  refine bodyPost_ret (v := .tuple #[.int .u64 (L V 0), .int .i64 E]) (by simp only [results, Try.results12]; go_simp) rfl ⟨rfl, ?_⟩
  exact (by repeat (first | exact B1.out | (refine Bl.setCell ?_ (by simp only []; omega) _) | apply Bl.alloc))

set_option maxHeartbeats 4000000 in
set_option maxRecDepth 100000 in
theorem rpu_c (s : ByteArray) (hs : s.size ≤ 33554434) (w : World) :
    Calls Try.prog 13 #[.string s] w fun e w' => e = .returned (.tuple #[.int .u64 (L (qV (tailA s).1 (tailA s).2 16) 0), .int .i64 (qE (tailA s).1 (tailA s).2 16)]) ∧ Bl w w' := by
  have hv := fun w => rquant_c s hs 16 (by omega) w
  simp only [Int.cast_ofNat_Int] at hv
  generalize qV (tailA s).1 (tailA s).2 16 = V at *
  generalize qE (tailA s).1 (tailA s).2 16 = E at *
  go_enter Try.func13, Try.ntmps13
  go_wp2_with fail
  refine (hv _).mono ?_
  rintro e w1 ⟨rfl, hb1⟩
  have B1 := Lib.hid hb1
  clear hb1
  go_wp2_with fail
  refine bodyPost_ret (v := .tuple #[.int .u64 (L V 0), .int .i64 E]) (by simp only [results, Try.results13]; go_simp) rfl ⟨rfl, ?_⟩
  exact (by repeat (first | exact B1.out | (refine Bl.setCell ?_ (by simp only []; omega) _) | apply Bl.alloc))

set_option maxHeartbeats 4000000 in
set_option maxRecDepth 100000 in
theorem walkHexaNumbers (w : World) (s : ByteArray) (hl : s.size ≤ 1048576) :
    Calls Try.prog 4 #[.string s] w fun e w' => e = .returned (.bool true) ∧ Below w.heap.size w w' := by
  have hg := guardU
  have qs := fun n w => run_eq_self n w
  have h1 := fun w => pq_c s (by omega) w
  have h2 := fun w => rpq_c s (by omega) w
  have h3 := fun w => pu_c s (by omega) w
  have h4 := fun w => rpu_c s (by omega) w
  generalize qV (tailA s).1 (tailA s).2 64 = V at *
  generalize qE (tailA s).1 (tailA s).2 64 = E at *
  generalize L (qV (tailA s).1 (tailA s).2 16) 0 = X at *
  generalize qE (tailA s).1 (tailA s).2 16 = D at *
  have n1 : ∀ w, Calls Try.prog 8 #[.int .i64 E] w fun e w' => e = .returned (.int .i64 E) ∧ Drawn0 w w' := fun w => waybilllaw08_num.calls E E w rfl
  have n2 : ∀ w, Calls Try.prog 8 #[.int .i64 D] w fun e w' => e = .returned (.int .i64 D) ∧ Drawn0 w w' := fun w => waybilllaw08_num.calls D D w rfl
  clear hl
  go_enter Try.func4, Try.ntmps4
  go_wp2_with fail
  refine (h1 _).mono ?_
  rintro e w1 ⟨rfl, hb1⟩
  have B1 := Lib.hid hb1
  clear hb1 h1
  go_wp2_with fail
  refine (h2 _).mono ?_
  rintro e w2 ⟨rfl, hb2⟩
  have x2 : Box w2 w1.heap.size #[.int .u64 (L V 0), .int .u64 (L V 1), .int .u64 (L V 2), .int .u64 (L V 3)] 33 := (Box.new _ _ _ _ rfl).call hb2
  have B2 := Lib.hid (show Bl w w2 from Bl.trans (by repeat (first | exact B1.out | (refine Bl.setCell ?_ B1.out.size _) | apply Bl.alloc)) hb2)
  have z2 : w1.heap.size < w2.heap.size := x2.lt
  have x2 := Lib.hid x2
  clear hb2 h2
  go_wp2_with fail
  refine (h3 _).mono ?_
  rintro e w3 ⟨rfl, hb3⟩
  have x3 : Box w3 w2.heap.size #[.int .u64 (L V 0), .int .u64 (L V 1), .int .u64 (L V 2), .int .u64 (L V 3)] 33 := (Box.new _ _ _ _ rfl).call hb3
  have x3 := Lib.hid x3
  have y3 := Lib.hid ((x2.out.alloc _).call hb3)
  have B3 := Lib.hid (show Bl w w3 from Bl.trans (by repeat (first | exact B2.out | (refine Bl.setCell ?_ B2.out.size _) | apply Bl.alloc)) hb3)
  clear hb3 h3 x2
  go_wp2_with fail
  refine (h4 _).mono ?_
  rintro e w4 ⟨rfl, hb4⟩
  have x4 := x3.out.call hb4
  have y4 := y3.out.call hb4
  have B4 := Lib.hid (Bl.trans B3.out hb4)
  obtain ⟨c4, f4, l4⟩ := x4.tell
  obtain ⟨d4, g4, m4⟩ := y4.tell
  clear hb4 h4 x3 y3
  go_wp2_with fail
  refine (n1 _).mono ?_
  rintro e w5 ⟨rfl, hq5⟩
  have B5 := Lib.hid (show Bl w w5 from Bl.trans B4.out hq5.below)
  clear hq5
  go_wp2_with fail
  refine (n2 _).mono ?_
  rintro e w6 ⟨rfl, hq6⟩
  have B6 := Lib.hid (show Bl w w6 from Bl.trans B5.out hq6.below)
  clear hq6
  go_wp2_with fail
  go_ret
  exact ⟨rfl, B6.out⟩

set_option maxHeartbeats 1000000 in
set_option maxRecDepth 100000 in
theorem liftedHexaNumbers (os : Os) (started : os.Started) (H : Type) (enc : TypeId × Value → H) (F : Stop.Interp) :
    ReturnsInHanded {} Try.checked os 4 .any ((Rows.OpenSpec.upto Rows.hexaNumbersSpec).pre6 enc Try.prog Try.f4 Rows.hexaNumbersUptoRow.domain false) (((Rows.OpenSpec.upto Rows.hexaNumbersSpec).at F).post enc Try.prog Try.f4 false true false false) := by
  refine returnsInHanded_of_cond (C := Try.checked) (s := Rows.OpenSpec.upto Rows.hexaNumbersSpec) (k := Rows.uptoSmall) rfl own started (by kernel_rfl) Try.func4
    (OpenSpec.witness (enc := enc) (C := Try.checked) (s := Rows.OpenSpec.upto Rows.hexaNumbersSpec) (k := Rows.uptoSmall) rfl false ⟨#[], #[.string ByteArray.empty], []⟩ 8 (by kernel_rfl) (by kernel_rfl) (by kernel_rfl)
      (x := ([.lit (.string [])], [], [])) (by kernel_rfl) rfl (by kernel_rfl)) ?_
  intro W base args ds gs before hval0 hW hcnd hk _
  have hval : ∀ (j : Nat) t v, Try.f4.params[j]? = some t → args[j]? = some v → Value.okWide Try.prog W .any base t v := hval0
  have hW' := hW
  obtain ⟨p, q, hA0, hV, rfl, hfz, hnd⟩ := hW
  have hA : DataW.TrodAll enc Try.prog W 0 (fun _ => true) true Try.f4.params.toList args.toList ds p := hA0
  rw [Try.params4] at hA hval
  obtain ⟨v0, vs0, d0, ds0, p0, q0, hargs, rfl, rfl, h0, r0⟩ := trodAll_cons hA
  obtain ⟨rfl, rfl, rfl⟩ := trodAll_nil r0
  obtain rfl : args = #[v0] := by cases args; simp_all
  obtain ⟨rfl, rfl⟩ := trodVars_none hV
  have hbulk := bulk_small hk
  have k0 := h0
  have lt0 : ∀ x ∈ p0, x.block < W.heap.size := by obtain ⟨m, hm⟩ := k0; exact DataW.trod_lt m _ _ _ hm
  obtain ⟨s0, rfl, hn0⟩ := open_str (hval 0 9 v0 rfl rfl) h0
  have hl0 : s0.size ≤ 1048576 := Nat.le_trans hn0 (Nat.le_trans (bulk_part (by simp)) hbulk)
  clear hA0 hval0
  refine (walkHexaNumbers W s0 hl0).mono fun e W' ⟨he, bel⟩ => ?_
  subst he
  exact ⟨_, rfl, _, _, _, [], _, [], hW', trodAll_mk1 (shut_bool Try.underlying4 _), (trodAll_cons_mk (Below.trod laidOut (by kernel_rfl) (of_decide_eq_true (by kernel_rfl)) k0 bel lt0) trodAll_mk0), rfl, bel.frame _, fun h => by cases h⟩

theorem provedHexaNumbers : Rows.HexaNumbersUptoSaid :=
  OpenClaim.holds_of_cond 4 Try.f4 rfl rfl rfl rfl rfl rfl rfl ⟨rfl, rfl, rfl, rfl, rfl⟩ rfl rfl rfl rfl rfl (by kernel_rfl) Try.func4 (by kernel_rfl)
    (of_decide_eq_true (by kernel_rfl)) (by unfold Func.isWrapper; first | (rw [if_pos (by decide +kernel)]; kernel_rfl) | (rw [if_neg (by decide +kernel)]; exact ⟨rfl, rfl⟩))
    (fun os started H enc _ F => liftedHexaNumbers os started H enc F)
end Go.Proofs.Ytkanjdllaikoaaa
