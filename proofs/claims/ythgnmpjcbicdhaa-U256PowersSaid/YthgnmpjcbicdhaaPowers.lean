/- The statement U256Powers, for every two numbers: no condition. -/
import Derived.Test.YthgnmpjcbicdhaaRoot
import Derived.Test.YthgnmpjcbicdhaaRow
import Derived.Test.YthgnmpjcbicdhaaEqNo
set_option linter.unusedSimpArgs false
set_option linter.unusedVariables false
namespace Go.Proofs.Ythgnmpjcbicdhaa
open Go Go.ChangeShapes Go.WideShapes Go.ChangeAt Go.RowKit

set_option maxHeartbeats 4000000 in
set_option maxRecDepth 100000 in
theorem walkU256Powers (x y : Nat) (hx : x < T256) (hy : y < T256) (w : World) :
    Calls Try.prog 7 #[U x, U y] w fun e w' => e = .returned (.bool true) ∧ Bl w w' := by
  have hg := guardU
  have qs := fun n w => run_eq_self n w
  have i1 := fun w => exp_c x y hx hy w
  have j1 := fun w => rexp_c x y hx hy w
  have i2 := fun w => root_c x hx w
  have j2 := fun w => rroot_c x hx w
  generalize x ^ y % T256 = e at *
  generalize rootN x = r at *
  go_enter Try.func7, Try.ntmps7
  go_wp2_with fail
  obtain ⟨w1, hw1⟩ : ∃ V : World, V = ((w.alloc (.cells #[.int .u64 (L (x) 0), .int .u64 (L (x) 1), .int .u64 (L (x) 2), .int .u64 (L (x) 3)] 24)).alloc (.cells #[.int .u64 (L (y) 0), .int .u64 (L (y) 1), .int .u64 (L (y) 2), .int .u64 (L (y) 3)] 24)) := ⟨_, rfl⟩
  have r1_0 : Box w1 (w.heap.size) #[.int .u64 (L (x) 0), .int .u64 (L (x) 1), .int .u64 (L (x) 2), .int .u64 (L (x) 3)] 24 := by rw [hw1]; exact (Box.new _ _ _ _ (by simp)).alloc _
  have r1_1 : Box w1 (w.heap.size + 1) #[.int .u64 (L (y) 0), .int .u64 (L (y) 1), .int .u64 (L (y) 2), .int .u64 (L (y) 3)] 24 := by rw [hw1]; exact Box.new _ _ _ _ (by simp)
  have b1 : Bl w w1 := by rw [hw1]; exact ((Bl.refl w).alloc _).alloc _
  have z1 : w.heap.size + 1 + 1 ≤ w1.heap.size := (by rw [hw1]; simp only [World.alloc, World.setCell, World.drew, Array.size_push, Array.size_modify]; omega)
  have y1 : w.heap.size ≤ w1.heap.size := b1.size
  rw [← hw1]
  clear hw1
  obtain ⟨r1_0_c, r1_0_f, r1_0_l⟩ := r1_0.tell
  obtain ⟨r1_1_c, r1_1_f, r1_1_l⟩ := r1_1.tell
  have hk1 : ∀ V : World, Bl w1 V → (∀ o, V.cell? ⟨w.heap.size, o, none⟩ = #[.int .u64 (L (x) 0), .int .u64 (L (x) 1), .int .u64 (L (x) 2), .int .u64 (L (x) 3)][o]?) ∧ (∀ o, V.cell? ⟨w.heap.size + 1, o, none⟩ = #[.int .u64 (L (y) 0), .int .u64 (L (y) 1), .int .u64 (L (y) 2), .int .u64 (L (y) 3)][o]?) ∧ Bl w1 V := fun V hb => ⟨(r1_0.call hb).cell, (r1_1.call hb).cell, hb⟩
  have s1_0 := hk1 _ (Bl.refl w1).drew
  refine wp_region_noPanic ?_
  refine wp_region_held_drew (S := fun V : World => (∀ o, V.cell? ⟨w.heap.size, o, none⟩ = #[.int .u64 (L (x) 0), .int .u64 (L (x) 1), .int .u64 (L (x) 2), .int .u64 (L (x) 3)][o]?) ∧ (∀ o, V.cell? ⟨w.heap.size + 1, o, none⟩ = #[.int .u64 (L (y) 0), .int .u64 (L (y) 1), .int .u64 (L (y) 2), .int .u64 (L (y) 3)][o]?) ∧ Bl w1 V) (by kernel_rfl) ?_ (fun hHeld => ?_)
  · exact s1_0
  refine wpAnyH_take (i := 0) (oi := { dst := some 5 , op := Go.Op.load 24 ( Go.Operand.tmp 2 ) , type := 24 , pos := "u256.go:78" , after := #[ ] , guard := none }) (v := ?_) rfl (by kernel_rfl) (by kernel_rfl) (by kernel_rfl) (fun _ _ _ h => h) (Or.inl ⟨by rfl, ?_⟩) (by assumption) ?_
  rotate_left
  · intro w hSw; (try dsimp only at hSw); go_simp; first | done | with_reducible rfl
  (try simp only [Act.put, List.setIfInBounds_toArray, List.set_cons_zero, List.set_cons_succ])
  refine wpAnyH_take (i := 1) (oi := { dst := some 6 , op := Go.Op.load 24 ( Go.Operand.tmp 3 ) , type := 24 , pos := "u256.go:78" , after := #[ ] , guard := none }) (v := ?_) rfl (by kernel_rfl) (by kernel_rfl) (by kernel_rfl) (fun _ _ _ h => h) (Or.inl ⟨by rfl, ?_⟩) (by assumption) ?_
  rotate_left
  · intro w hSw; (try dsimp only at hSw); go_simp; first | done | with_reducible rfl
  (try simp only [Act.put, List.setIfInBounds_toArray, List.set_cons_zero, List.set_cons_succ])
  refine wpAnyH_take (i := 3) (oi := { dst := some 8 , op := Go.Op.load 24 ( Go.Operand.tmp 2 ) , type := 24 , pos := "u256.go:78" , after := #[ ] , guard := none }) (v := ?_) rfl (by kernel_rfl) (by kernel_rfl) (by kernel_rfl) (fun _ _ _ h => h) (Or.inl ⟨by rfl, ?_⟩) (by assumption) ?_
  rotate_left
  · intro w hSw; (try dsimp only at hSw); go_simp; first | done | with_reducible rfl
  (try simp only [Act.put, List.setIfInBounds_toArray, List.set_cons_zero, List.set_cons_succ])
  refine wpAnyH_take (i := 4) (oi := { dst := some 9 , op := Go.Op.load 24 ( Go.Operand.tmp 3 ) , type := 24 , pos := "u256.go:78" , after := #[ ] , guard := none }) (v := ?_) rfl (by kernel_rfl) (by kernel_rfl) (by kernel_rfl) (fun _ _ _ h => h) (Or.inl ⟨by rfl, ?_⟩) (by assumption) ?_
  rotate_left
  · intro w hSw; (try dsimp only at hSw); go_simp; first | done | with_reducible rfl
  (try simp only [Act.put, List.setIfInBounds_toArray, List.set_cons_zero, List.set_cons_succ])
  refine wpAnyH_ready (rs := [2]) (by kernel_rfl) (by simp) ?_
  refine AllReadyH.cons (o := { dst := some 7 , op := Go.Op.call { callee := Go.Callee.value ( Go.Operand.func 48 ) , args := #[ Go.Operand.tmp 5 , Go.Operand.tmp 6 ] , argTypes := #[ 24 , 24 ] } , type := 24 , pos := "u256.go:78" , after := #[ { on := 0 , ground := Go.Ground.data } , { on := 1 , ground := Go.Ground.data } ] , guard := none }) rfl (fun K hK => ?_) AllReadyH.nil
  go_simp
  refine (i1 _).mono ?_
  rintro e w2 ⟨rfl, hb2⟩
  have g2 := (Bl.refl w1).drew.trans hb2
  have s2 := hk1 _ g2
  go_wp2_with fail
  refine hK.out _ _ ?_ (fun hHeld => ?_)
  · exact s2
  clear hK K
  (try simp only [Act.put, List.setIfInBounds_toArray, List.set_cons_zero, List.set_cons_succ])
  refine wpAnyH_ready (rs := [5]) (by kernel_rfl) (by simp) ?_
  refine AllReadyH.cons (o := { dst := some 10 , op := Go.Op.call { callee := Go.Callee.value ( Go.Operand.func 49 ) , args := #[ Go.Operand.tmp 8 , Go.Operand.tmp 9 ] , argTypes := #[ 24 , 24 ] } , type := 24 , pos := "u256.go:78" , after := #[ { on := 3 , ground := Go.Ground.data } , { on := 4 , ground := Go.Ground.data } , { on := 2 , ground := Go.Ground.chain } ] , guard := none }) rfl (fun K hK => ?_) AllReadyH.nil
  go_simp
  refine (j1 _).mono ?_
  rintro e w3 ⟨rfl, hb3⟩
  have g3 := g2.trans hb3
  have s3 := hk1 _ g3
  go_wp2_with fail
  refine hK.out _ _ ?_ (fun hHeld => ?_)
  · exact s3
  clear hK K
  (try simp only [Act.put, List.setIfInBounds_toArray, List.set_cons_zero, List.set_cons_succ])
  refine wpAnyH_take (i := 6) (oi := { dst := some 11 , op := Go.Op.binOp Go.BinOp.eql 24 ( Go.Operand.tmp 7 ) ( Go.Operand.tmp 10 ) 24 , type := 4 , pos := "u256.go:78" , after := #[ { on := 2 , ground := Go.Ground.data } , { on := 5 , ground := Go.Ground.data } ] , guard := none }) (v := ?_) rfl (by kernel_rfl) (by kernel_rfl) (by kernel_rfl) (fun _ _ _ h => h) (Or.inl ⟨by rfl, ?_⟩) (by assumption) ?_
  rotate_left
  · intro w hSw; refine run_eql_U (e) _ _ _ _ _ _ _ _ ?_ ?_ w <;> rfl
  (try simp only [Act.put, List.setIfInBounds_toArray, List.set_cons_zero, List.set_cons_succ])
  refine wpAnyH_take (i := 7) (oi := { dst := some 12 , op := Go.Op.move ( Go.Operand.tmp 11 ) , type := 4 , pos := "u256.go:78" , after := #[ { on := 6 , ground := Go.Ground.data } , { on := 5 , ground := Go.Ground.chain } ] , guard := none }) (v := ?_) rfl (by kernel_rfl) (by kernel_rfl) (by kernel_rfl) (fun _ _ _ h => h) (Or.inl ⟨by rfl, ?_⟩) (by assumption) ?_
  rotate_left
  · intro w hSw; (try dsimp only at hSw); go_simp; first | done | with_reducible rfl
  (try simp only [Act.put, List.setIfInBounds_toArray, List.set_cons_zero, List.set_cons_succ])
  refine wpAnyH_take (i := 8) (oi := { dst := some 13 , op := Go.Op.load 24 ( Go.Operand.tmp 2 ) , type := 24 , pos := "u256.go:78" , after := #[ { on := 7 , ground := Go.Ground.guard } ] , guard := some ( 7 , true ) }) (v := ?_) rfl (by kernel_rfl) (by kernel_rfl) (by kernel_rfl) (fun _ _ _ h => h) (Or.inl ⟨by rfl, ?_⟩) (by assumption) ?_
  rotate_left
  · intro w hSw; (try dsimp only at hSw); go_simp; first | done | with_reducible rfl
  (try simp only [Act.put, List.setIfInBounds_toArray, List.set_cons_zero, List.set_cons_succ])
  refine wpAnyH_take (i := 10) (oi := { dst := some 15 , op := Go.Op.load 24 ( Go.Operand.tmp 2 ) , type := 24 , pos := "u256.go:78" , after := #[ { on := 7 , ground := Go.Ground.guard } ] , guard := some ( 7 , true ) }) (v := ?_) rfl (by kernel_rfl) (by kernel_rfl) (by kernel_rfl) (fun _ _ _ h => h) (Or.inl ⟨by rfl, ?_⟩) (by assumption) ?_
  rotate_left
  · intro w hSw; (try dsimp only at hSw); go_simp; first | done | with_reducible rfl
  (try simp only [Act.put, List.setIfInBounds_toArray, List.set_cons_zero, List.set_cons_succ])
  refine wpAnyH_ready (rs := [9]) (by kernel_rfl) (by simp) ?_
  refine AllReadyH.cons (o := { dst := some 14 , op := Go.Op.call { callee := Go.Callee.value ( Go.Operand.func 47 ) , args := #[ Go.Operand.tmp 13 ] , argTypes := #[ 24 ] } , type := 24 , pos := "u256.go:78" , after := #[ { on := 8 , ground := Go.Ground.data } , { on := 7 , ground := Go.Ground.chain } , { on := 7 , ground := Go.Ground.guard } ] , guard := some ( 7 , true ) }) rfl (fun K hK => ?_) AllReadyH.nil
  go_simp
  refine (i2 _).mono ?_
  rintro e w4 ⟨rfl, hb4⟩
  have g4 := g3.trans hb4
  have s4 := hk1 _ g4
  go_wp2_with fail
  refine hK.out _ _ ?_ (fun hHeld => ?_)
  · exact s4
  clear hK K
  (try simp only [Act.put, List.setIfInBounds_toArray, List.set_cons_zero, List.set_cons_succ])
  refine wpAnyH_ready (rs := [11]) (by kernel_rfl) (by simp) ?_
  refine AllReadyH.cons (o := { dst := some 16 , op := Go.Op.call { callee := Go.Callee.value ( Go.Operand.func 50 ) , args := #[ Go.Operand.tmp 15 ] , argTypes := #[ 24 ] } , type := 24 , pos := "u256.go:78" , after := #[ { on := 10 , ground := Go.Ground.data } , { on := 9 , ground := Go.Ground.chain } , { on := 7 , ground := Go.Ground.guard } ] , guard := some ( 7 , true ) }) rfl (fun K hK => ?_) AllReadyH.nil
  go_simp
  refine (j2 _).mono ?_
  rintro e w5 ⟨rfl, hb5⟩
  have g5 := g4.trans hb5
  have s5 := hk1 _ g5
  go_wp2_with fail
  refine hK.out _ _ ?_ (fun hHeld => ?_)
  · exact s5
  clear hK K
  (try simp only [Act.put, List.setIfInBounds_toArray, List.set_cons_zero, List.set_cons_succ])
  refine wpAnyH_take (i := 12) (oi := { dst := some 17 , op := Go.Op.binOp Go.BinOp.eql 24 ( Go.Operand.tmp 14 ) ( Go.Operand.tmp 16 ) 24 , type := 4 , pos := "u256.go:78" , after := #[ { on := 9 , ground := Go.Ground.data } , { on := 11 , ground := Go.Ground.data } , { on := 7 , ground := Go.Ground.guard } ] , guard := some ( 7 , true ) }) (v := ?_) rfl (by kernel_rfl) (by kernel_rfl) (by kernel_rfl) (fun _ _ _ h => h) (Or.inl ⟨by rfl, ?_⟩) (by assumption) ?_
  rotate_left
  · intro w hSw; refine run_eql_U (r) _ _ _ _ _ _ _ _ ?_ ?_ w <;> rfl
  (try simp only [Act.put, List.setIfInBounds_toArray, List.set_cons_zero, List.set_cons_succ])
  refine wpAnyH_take (i := 13) (oi := { dst := some 18 , op := Go.Op.pick ( Go.Operand.tmp 12 ) ( Go.Operand.tmp 17 ) ( Go.Operand.const ( Go.Value.bool false ) ) , type := 4 , pos := "u256.go:78" , after := #[ { on := 7 , ground := Go.Ground.data } , { on := 12 , ground := Go.Ground.data } ] , guard := none }) (v := ?_) rfl (by kernel_rfl) (by kernel_rfl) (by kernel_rfl) (fun _ _ _ h => h) (Or.inl ⟨by rfl, ?_⟩) (by assumption) ?_
  rotate_left
  · intro w hSw; (try dsimp only at hSw); go_simp; first | done | with_reducible rfl
  (try simp only [Act.put, List.setIfInBounds_toArray, List.set_cons_zero, List.set_cons_succ])
  refine wpAnyH_take (i := 14) (oi := { dst := some 4 , op := Go.Op.assign ( Go.Operand.tmp 18 ) , type := 4 , pos := "u256.go:78" , after := #[ { on := 13 , ground := Go.Ground.data } , { on := 11 , ground := Go.Ground.chain } , { on := 0 , ground := Go.Ground.phase } , { on := 1 , ground := Go.Ground.phase } , { on := 2 , ground := Go.Ground.phase } , { on := 3 , ground := Go.Ground.phase } , { on := 4 , ground := Go.Ground.phase } , { on := 5 , ground := Go.Ground.phase } , { on := 6 , ground := Go.Ground.phase } , { on := 7 , ground := Go.Ground.phase } , { on := 8 , ground := Go.Ground.phase } , { on := 9 , ground := Go.Ground.phase } , { on := 10 , ground := Go.Ground.phase } , { on := 11 , ground := Go.Ground.phase } , { on := 12 , ground := Go.Ground.phase } , { on := 13 , ground := Go.Ground.phase } ] , guard := none }) (v := ?_) rfl (by kernel_rfl) (by kernel_rfl) (by kernel_rfl) (fun _ _ _ h => h) (Or.inl ⟨by rfl, ?_⟩) (by assumption) ?_
  rotate_left
  · intro w hSw; (try dsimp only at hSw); go_simp; first | done | with_reducible rfl
  (try simp only [Act.put, List.setIfInBounds_toArray, List.set_cons_zero, List.set_cons_succ])
  refine wpAnyH_done (by kernel_rfl) ?_ _
  refine NoPanic.normal ?_
  have b5 := b1.trans g5
  have z5 := g5.size
  have y5 : w.heap.size ≤ w5.heap.size := b5.size
  clear hk1 s1_0 r1_0 r1_0_c r1_0_f r1_0_l r1_1 r1_1_c r1_1_f r1_1_l b1 hb2 g2 s2 hb3 g3 s3 hb4 g4 s4 hb5 g5 s5
  go_wp2_with fail
  refine bodyPost_ret (v := .bool true) (by simp only [results, Try.results7]; go_simp) rfl ⟨rfl, ?_⟩
  exact b5

set_option maxHeartbeats 1000000 in
set_option maxRecDepth 100000 in
theorem liftedU256Powers (os : Os) (started : os.Started) (H : Type) (enc : TypeId × Value → H) :
    ReturnsInHanded {} Try.checked os 7 .any (Rows.u256PowersSpec.pre6 enc Try.prog Try.f7 Rows.u256PowersRow.domain false) (Rows.u256PowersSpec.post enc Try.prog Try.f7 false true false false) := by
  refine returnsInHanded_of_change (C := Try.checked) own started (by kernel_rfl) Try.func7
    (ChangeSpec.witness6 (enc := enc) (C := Try.checked) false ⟨#[], #[.agg #[.int .u64 0, .int .u64 0, .int .u64 0, .int .u64 0], .agg #[.int .u64 0, .int .u64 0, .int .u64 0, .int .u64 0]], []⟩ 8 (by kernel_rfl) (by kernel_rfl) (by kernel_rfl) (by kernel_rfl)) ?_
  intro W base args ds gs before hval0 hW hcnd _
  have hval : ∀ (j : Nat) t v, Try.f7.params[j]? = some t → args[j]? = some v → Value.okWide Try.prog W .any base t v := hval0
  have hW' := hW
  obtain ⟨p, q, hA0, hV, rfl, hfz, hnd⟩ := hW
  have hA : DataW.TrodAll enc Try.prog W 0 (fun _ => true) true Try.f7.params.toList args.toList ds p := hA0
  rw [Try.params7] at hA hval
  obtain ⟨v0, vs0, d0, ds0, p0, q0, hargs, rfl, rfl, h0, r0⟩ := trodAll_cons hA
  obtain ⟨v1, vs1, d1, ds1, p1, q1, rfl, rfl, rfl, h1, r1⟩ := trodAll_cons r0
  obtain ⟨rfl, rfl, rfl⟩ := trodAll_nil r1
  obtain rfl : args = #[v0, v1] := by cases args; simp_all
  obtain ⟨rfl, rfl⟩ := trodVars_none hV
  have lt0 : ∀ x ∈ p0, x.block < W.heap.size := by obtain ⟨m, hm⟩ := h0; exact DataW.trod_lt m _ _ _ hm
  obtain ⟨a0, g0, rfl⟩ := open_U (hval 0 24 v0 rfl rfl) h0
  have lt1 : ∀ x ∈ p1, x.block < W.heap.size := by obtain ⟨m, hm⟩ := h1; exact DataW.trod_lt m _ _ _ hm
  obtain ⟨a1, g1, rfl⟩ := open_U (hval 1 24 v1 rfl rfl) h1
  clear hA0 hval0
  refine (walkU256Powers a0 a1 g0 g1 W).mono fun e W' ⟨he, bel⟩ => ?_
  subst he
  exact ⟨_, rfl, _, _, _, [], _, [], hW', trodAll_mk1 (shut_bool Try.underlying4 _), (trodAll_cons_mk (Below.trod laidOut (by kernel_rfl) (of_decide_eq_true (by kernel_rfl)) h0 bel.out lt0) (trodAll_cons_mk (Below.trod laidOut (by kernel_rfl) (of_decide_eq_true (by kernel_rfl)) h1 bel.out lt1) trodAll_mk0)), rfl, bel.out.frame _, fun h => by cases h⟩

theorem provedU256Powers : Rows.U256PowersSaid :=
  OpenClaim.holds_of_wide 7 Try.f7 rfl rfl rfl rfl rfl rfl rfl ⟨rfl, rfl, rfl, rfl, rfl⟩ rfl rfl rfl rfl rfl (by kernel_rfl) Try.func7 (by kernel_rfl)
    (of_decide_eq_true (by kernel_rfl)) (by unfold Func.isWrapper; first | (rw [if_pos (by decide +kernel)]; kernel_rfl) | (rw [if_neg (by decide +kernel)]; exact ⟨rfl, rfl⟩))
    (fun os started H enc _ => liftedU256Powers os started H enc)
end Go.Proofs.Ythgnmpjcbicdhaa
