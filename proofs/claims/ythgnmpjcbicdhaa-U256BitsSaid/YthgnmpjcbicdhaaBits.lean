/- The statement U256Bits, for every two numbers and every int: no condition. -/
import Derived.Test.YthgnmpjcbicdhaaRShl
import Derived.Test.YthgnmpjcbicdhaaBitw
import Derived.Test.YthgnmpjcbicdhaaLen
import Derived.Test.YthgnmpjcbicdhaaRow
import Derived.Test.YthgnmpjcbicdhaaEqs
set_option linter.unusedSimpArgs false
set_option linter.unusedVariables false
namespace Go.Proofs.Ythgnmpjcbicdhaa
open Go Go.ChangeShapes Go.WideShapes Go.ChangeAt Go.RowKit

set_option maxHeartbeats 4000000 in
set_option maxRecDepth 100000 in
theorem walkU256Bits (x y : Nat) (n : Int) (hx : x < T256) (hy : y < T256) (hn : (Lit.int .i64 n).wf = true) (w : World) :
    Calls Try.prog 4 #[U x, U y, .int .i64 n] w fun e w' => e = .returned (.bool true) ∧ Bl w w' := by
  have hg := guardU
  have qs := fun n w => run_eq_self n w
  have i1 := fun w => and_c x y w
  have j1 := fun w => rand_c x y w
  have i2 := fun w => or_c x y w
  have j2 := fun w => ror_c x y w
  have i3 := fun w => xor_c x y w
  have j3 := fun w => rxor_c x y w
  have i4 := fun w => not_c x w
  have j4 := fun w => rnot_c x w
  have i5 := fun w => shl_c x hx n w
  have j5 := fun w => rshl_c x hx n w
  have i6 := fun w => shr_c x hx n w
  have j6 := fun w => rshr_c x hx n w
  have i7 := fun w => bit_c x n w
  have j7 := fun w => rbit_c x n w
  have i8 := fun w => len_c x hx w
  have j8 := fun w => rlen_c x hx w
  generalize x &&& y = v1 at *
  generalize x ||| y = v2 at *
  generalize x ^^^ y = v3 at *
  generalize notN x = v4 at *
  generalize shlZ x n = v5 at *
  generalize shlZ x (-n) = v6 at *
  generalize bitI x n = v7 at *
  generalize lenN x = v8 at *
  go_enter Try.func4, Try.ntmps4
  go_wp2_with fail
  obtain ⟨w1, hw1⟩ : ∃ V : World, V = ((w.alloc (.cells #[.int .u64 (L (x) 0), .int .u64 (L (x) 1), .int .u64 (L (x) 2), .int .u64 (L (x) 3)] 24)).alloc (.cells #[.int .u64 (L (y) 0), .int .u64 (L (y) 1), .int .u64 (L (y) 2), .int .u64 (L (y) 3)] 24)) := ⟨_, rfl⟩
  have r1_0 : Box w1 (w.heap.size) #[.int .u64 (L (x) 0), .int .u64 (L (x) 1), .int .u64 (L (x) 2), .int .u64 (L (x) 3)] 24 := by rw [hw1]; exact (Box.new _ _ _ _ (by simp)).alloc _
  have r1_1 : Box w1 (w.heap.size + 1) #[.int .u64 (L (y) 0), .int .u64 (L (y) 1), .int .u64 (L (y) 2), .int .u64 (L (y) 3)] 24 := by rw [hw1]; exact Box.new _ _ _ _ (by simp)
  have b1 : Bl w w1 := by rw [hw1]; exact ((Bl.refl w).alloc _).alloc _
  have z1 : w.heap.size + 1 + 1 ≤ w1.heap.size := (by rw [hw1]; simp only [World.alloc, World.setCell, World.drew, Array.size_push, Array.size_modify]; omega)
  have y1 : w.heap.size ≤ w1.heap.size := b1.size
  rw [← hw1]
  clear hw1
  obtain ⟨r1_0_c, r1_0_f, r1_0_l⟩ := r1_0.tell
  obtain ⟨r1_1_c, r1_1_f, r1_1_l⟩ := r1_1.tell
  have hk1 : ∀ V : World, Bl w1 V → (∀ o, V.cell? ⟨w.heap.size, o, none⟩ = #[.int .u64 (L (x) 0), .int .u64 (L (x) 1), .int .u64 (L (x) 2), .int .u64 (L (x) 3)][o]?) ∧ (∀ o, V.cell? ⟨w.heap.size + 1, o, none⟩ = #[.int .u64 (L (y) 0), .int .u64 (L (y) 1), .int .u64 (L (y) 2), .int .u64 (L (y) 3)][o]?) ∧ Bl w1 V := fun V hb => ⟨(r1_0.call hb).cell, (r1_1.call hb).cell, hb⟩
  have s1_0 := hk1 _ (Bl.refl w1).drew
  refine wp_region_noPanic ?_
  refine wp_region_held_drew (S := fun V : World => (∀ o, V.cell? ⟨w.heap.size, o, none⟩ = #[.int .u64 (L (x) 0), .int .u64 (L (x) 1), .int .u64 (L (x) 2), .int .u64 (L (x) 3)][o]?) ∧ (∀ o, V.cell? ⟨w.heap.size + 1, o, none⟩ = #[.int .u64 (L (y) 0), .int .u64 (L (y) 1), .int .u64 (L (y) 2), .int .u64 (L (y) 3)][o]?) ∧ Bl w1 V) (by kernel_rfl) ?_ (fun hHeld => ?_)
  · exact s1_0
  refine wpAnyH_take (i := 0) (oi := { dst := some 7 , op := Go.Op.load 24 ( Go.Operand.tmp 3 ) , type := 24 , pos := "u256.go:83" , after := #[ ] , guard := none }) (v := ?_) rfl (by kernel_rfl) (by kernel_rfl) (by kernel_rfl) (fun _ _ _ h => h) (Or.inl ⟨by rfl, ?_⟩) (by assumption) ?_
  rotate_left
  · intro w hSw; (try dsimp only at hSw); go_simp; first | done | with_reducible rfl
  (try simp only [Act.put, List.setIfInBounds_toArray, List.set_cons_zero, List.set_cons_succ])
  refine wpAnyH_take (i := 1) (oi := { dst := some 8 , op := Go.Op.load 24 ( Go.Operand.tmp 4 ) , type := 24 , pos := "u256.go:83" , after := #[ ] , guard := none }) (v := ?_) rfl (by kernel_rfl) (by kernel_rfl) (by kernel_rfl) (fun _ _ _ h => h) (Or.inl ⟨by rfl, ?_⟩) (by assumption) ?_
  rotate_left
  · intro w hSw; (try dsimp only at hSw); go_simp; first | done | with_reducible rfl
  (try simp only [Act.put, List.setIfInBounds_toArray, List.set_cons_zero, List.set_cons_succ])
  refine wpAnyH_take (i := 3) (oi := { dst := some 10 , op := Go.Op.load 24 ( Go.Operand.tmp 3 ) , type := 24 , pos := "u256.go:83" , after := #[ ] , guard := none }) (v := ?_) rfl (by kernel_rfl) (by kernel_rfl) (by kernel_rfl) (fun _ _ _ h => h) (Or.inl ⟨by rfl, ?_⟩) (by assumption) ?_
  rotate_left
  · intro w hSw; (try dsimp only at hSw); go_simp; first | done | with_reducible rfl
  (try simp only [Act.put, List.setIfInBounds_toArray, List.set_cons_zero, List.set_cons_succ])
  refine wpAnyH_take (i := 4) (oi := { dst := some 11 , op := Go.Op.load 24 ( Go.Operand.tmp 4 ) , type := 24 , pos := "u256.go:83" , after := #[ ] , guard := none }) (v := ?_) rfl (by kernel_rfl) (by kernel_rfl) (by kernel_rfl) (fun _ _ _ h => h) (Or.inl ⟨by rfl, ?_⟩) (by assumption) ?_
  rotate_left
  · intro w hSw; (try dsimp only at hSw); go_simp; first | done | with_reducible rfl
  (try simp only [Act.put, List.setIfInBounds_toArray, List.set_cons_zero, List.set_cons_succ])
  refine wpAnyH_ready (rs := [2]) (by kernel_rfl) (by simp) ?_
  refine AllReadyH.cons (o := { dst := some 9 , op := Go.Op.call { callee := Go.Callee.value ( Go.Operand.func 24 ) , args := #[ Go.Operand.tmp 7 , Go.Operand.tmp 8 ] , argTypes := #[ 24 , 24 ] } , type := 24 , pos := "u256.go:83" , after := #[ { on := 0 , ground := Go.Ground.data } , { on := 1 , ground := Go.Ground.data } ] , guard := none }) rfl (fun K hK => ?_) AllReadyH.nil
  go_simp
  refine (i1 _).mono ?_
  rintro e w2 ⟨rfl, hb2⟩
  have g2 := (Bl.refl w1).drew.trans hb2
  have s2 := hk1 _ g2
  go_wp2_with fail
  refine hK.out _ _ ?_ (fun hHeld => ?_)
  · exact s2
  clear hK K
  (try simp only [Act.put, List.setIfInBounds_toArray, List.set_cons_zero, List.set_cons_succ])
  refine wpAnyH_ready (rs := [5]) (by kernel_rfl) (by simp) ?_
  refine AllReadyH.cons (o := { dst := some 12 , op := Go.Op.call { callee := Go.Callee.value ( Go.Operand.func 25 ) , args := #[ Go.Operand.tmp 10 , Go.Operand.tmp 11 ] , argTypes := #[ 24 , 24 ] } , type := 24 , pos := "u256.go:83" , after := #[ { on := 3 , ground := Go.Ground.data } , { on := 4 , ground := Go.Ground.data } , { on := 2 , ground := Go.Ground.chain } ] , guard := none }) rfl (fun K hK => ?_) AllReadyH.nil
  go_simp
  refine (j1 _).mono ?_
  rintro e w3 ⟨rfl, hb3⟩
  have g3 := g2.trans hb3
  have s3 := hk1 _ g3
  go_wp2_with fail
  refine hK.out _ _ ?_ (fun hHeld => ?_)
  · exact s3
  clear hK K
  (try simp only [Act.put, List.setIfInBounds_toArray, List.set_cons_zero, List.set_cons_succ])
  refine wpAnyH_take (i := 6) (oi := { dst := some 13 , op := Go.Op.binOp Go.BinOp.neq 24 ( Go.Operand.tmp 9 ) ( Go.Operand.tmp 12 ) 24 , type := 4 , pos := "u256.go:83" , after := #[ { on := 2 , ground := Go.Ground.data } , { on := 5 , ground := Go.Ground.data } ] , guard := none }) (v := ?_) rfl (by kernel_rfl) (by kernel_rfl) (by kernel_rfl) (fun _ _ _ h => h) (Or.inl ⟨by rfl, ?_⟩) (by assumption) ?_
  rotate_left
  · intro w hSw; refine run_neq_U (v1) _ _ _ _ _ _ _ _ ?_ ?_ w <;> rfl
  (try simp only [Act.put, List.setIfInBounds_toArray, List.set_cons_zero, List.set_cons_succ])
  refine wpAnyH_take (i := 7) (oi := { dst := some 14 , op := Go.Op.move ( Go.Operand.tmp 13 ) , type := 4 , pos := "u256.go:83" , after := #[ { on := 6 , ground := Go.Ground.data } , { on := 5 , ground := Go.Ground.chain } ] , guard := none }) (v := ?_) rfl (by kernel_rfl) (by kernel_rfl) (by kernel_rfl) (fun _ _ _ h => h) (Or.inl ⟨by rfl, ?_⟩) (by assumption) ?_
  rotate_left
  · intro w hSw; (try dsimp only at hSw); go_simp; first | done | with_reducible rfl
  (try simp only [Act.put, List.setIfInBounds_toArray, List.set_cons_zero, List.set_cons_succ])
  refine wpAnyH_take (i := 8) (oi := { dst := some 15 , op := Go.Op.load 24 ( Go.Operand.tmp 3 ) , type := 24 , pos := "u256.go:83" , after := #[ { on := 7 , ground := Go.Ground.guard } ] , guard := some ( 7 , false ) }) (v := ?_) rfl (by kernel_rfl) (by kernel_rfl) (by kernel_rfl) (fun _ _ _ h => h) (Or.inl ⟨by rfl, ?_⟩) (by assumption) ?_
  rotate_left
  · intro w hSw; (try dsimp only at hSw); go_simp; first | done | with_reducible rfl
  (try simp only [Act.put, List.setIfInBounds_toArray, List.set_cons_zero, List.set_cons_succ])
  refine wpAnyH_take (i := 9) (oi := { dst := some 16 , op := Go.Op.load 24 ( Go.Operand.tmp 4 ) , type := 24 , pos := "u256.go:83" , after := #[ { on := 7 , ground := Go.Ground.guard } ] , guard := some ( 7 , false ) }) (v := ?_) rfl (by kernel_rfl) (by kernel_rfl) (by kernel_rfl) (fun _ _ _ h => h) (Or.inl ⟨by rfl, ?_⟩) (by assumption) ?_
  rotate_left
  · intro w hSw; (try dsimp only at hSw); go_simp; first | done | with_reducible rfl
  (try simp only [Act.put, List.setIfInBounds_toArray, List.set_cons_zero, List.set_cons_succ])
  refine wpAnyH_take (i := 11) (oi := { dst := some 18 , op := Go.Op.load 24 ( Go.Operand.tmp 3 ) , type := 24 , pos := "u256.go:83" , after := #[ { on := 7 , ground := Go.Ground.guard } ] , guard := some ( 7 , false ) }) (v := ?_) rfl (by kernel_rfl) (by kernel_rfl) (by kernel_rfl) (fun _ _ _ h => h) (Or.inl ⟨by rfl, ?_⟩) (by assumption) ?_
  rotate_left
  · intro w hSw; (try dsimp only at hSw); go_simp; first | done | with_reducible rfl
  (try simp only [Act.put, List.setIfInBounds_toArray, List.set_cons_zero, List.set_cons_succ])
  refine wpAnyH_take (i := 12) (oi := { dst := some 19 , op := Go.Op.load 24 ( Go.Operand.tmp 4 ) , type := 24 , pos := "u256.go:83" , after := #[ { on := 7 , ground := Go.Ground.guard } ] , guard := some ( 7 , false ) }) (v := ?_) rfl (by kernel_rfl) (by kernel_rfl) (by kernel_rfl) (fun _ _ _ h => h) (Or.inl ⟨by rfl, ?_⟩) (by assumption) ?_
  rotate_left
  · intro w hSw; (try dsimp only at hSw); go_simp; first | done | with_reducible rfl
  (try simp only [Act.put, List.setIfInBounds_toArray, List.set_cons_zero, List.set_cons_succ])
  refine wpAnyH_ready (rs := [10]) (by kernel_rfl) (by simp) ?_
  refine AllReadyH.cons (o := { dst := some 17 , op := Go.Op.call { callee := Go.Callee.value ( Go.Operand.func 26 ) , args := #[ Go.Operand.tmp 15 , Go.Operand.tmp 16 ] , argTypes := #[ 24 , 24 ] } , type := 24 , pos := "u256.go:83" , after := #[ { on := 8 , ground := Go.Ground.data } , { on := 9 , ground := Go.Ground.data } , { on := 7 , ground := Go.Ground.chain } , { on := 7 , ground := Go.Ground.guard } ] , guard := some ( 7 , false ) }) rfl (fun K hK => ?_) AllReadyH.nil
  go_simp
  refine (i2 _).mono ?_
  rintro e w4 ⟨rfl, hb4⟩
  have g4 := g3.trans hb4
  have s4 := hk1 _ g4
  go_wp2_with fail
  refine hK.out _ _ ?_ (fun hHeld => ?_)
  · exact s4
  clear hK K
  (try simp only [Act.put, List.setIfInBounds_toArray, List.set_cons_zero, List.set_cons_succ])
  refine wpAnyH_ready (rs := [13]) (by kernel_rfl) (by simp) ?_
  refine AllReadyH.cons (o := { dst := some 20 , op := Go.Op.call { callee := Go.Callee.value ( Go.Operand.func 27 ) , args := #[ Go.Operand.tmp 18 , Go.Operand.tmp 19 ] , argTypes := #[ 24 , 24 ] } , type := 24 , pos := "u256.go:83" , after := #[ { on := 11 , ground := Go.Ground.data } , { on := 12 , ground := Go.Ground.data } , { on := 10 , ground := Go.Ground.chain } , { on := 7 , ground := Go.Ground.guard } ] , guard := some ( 7 , false ) }) rfl (fun K hK => ?_) AllReadyH.nil
  go_simp
  refine (j2 _).mono ?_
  rintro e w5 ⟨rfl, hb5⟩
  have g5 := g4.trans hb5
  have s5 := hk1 _ g5
  go_wp2_with fail
  refine hK.out _ _ ?_ (fun hHeld => ?_)
  · exact s5
  clear hK K
  (try simp only [Act.put, List.setIfInBounds_toArray, List.set_cons_zero, List.set_cons_succ])
  refine wpAnyH_take (i := 14) (oi := { dst := some 21 , op := Go.Op.binOp Go.BinOp.neq 24 ( Go.Operand.tmp 17 ) ( Go.Operand.tmp 20 ) 24 , type := 4 , pos := "u256.go:83" , after := #[ { on := 10 , ground := Go.Ground.data } , { on := 13 , ground := Go.Ground.data } , { on := 7 , ground := Go.Ground.guard } ] , guard := some ( 7 , false ) }) (v := ?_) rfl (by kernel_rfl) (by kernel_rfl) (by kernel_rfl) (fun _ _ _ h => h) (Or.inl ⟨by rfl, ?_⟩) (by assumption) ?_
  rotate_left
  · intro w hSw; refine run_neq_U (v2) _ _ _ _ _ _ _ _ ?_ ?_ w <;> rfl
  (try simp only [Act.put, List.setIfInBounds_toArray, List.set_cons_zero, List.set_cons_succ])
  refine wpAnyH_take (i := 15) (oi := { dst := some 22 , op := Go.Op.pick ( Go.Operand.tmp 14 ) ( Go.Operand.const ( Go.Value.bool true ) ) ( Go.Operand.tmp 21 ) , type := 4 , pos := "u256.go:83" , after := #[ { on := 7 , ground := Go.Ground.data } , { on := 14 , ground := Go.Ground.data } ] , guard := none }) (v := ?_) rfl (by kernel_rfl) (by kernel_rfl) (by kernel_rfl) (fun _ _ _ h => h) (Or.inl ⟨by rfl, ?_⟩) (by assumption) ?_
  rotate_left
  · intro w hSw; (try dsimp only at hSw); go_simp; first | done | with_reducible rfl
  (try simp only [Act.put, List.setIfInBounds_toArray, List.set_cons_zero, List.set_cons_succ])
  refine wpAnyH_take (i := 16) (oi := { dst := some 23 , op := Go.Op.move ( Go.Operand.tmp 22 ) , type := 4 , pos := "u256.go:83" , after := #[ { on := 15 , ground := Go.Ground.data } , { on := 13 , ground := Go.Ground.chain } ] , guard := none }) (v := ?_) rfl (by kernel_rfl) (by kernel_rfl) (by kernel_rfl) (fun _ _ _ h => h) (Or.inl ⟨by rfl, ?_⟩) (by assumption) ?_
  rotate_left
  · intro w hSw; (try dsimp only at hSw); go_simp; first | done | with_reducible rfl
  (try simp only [Act.put, List.setIfInBounds_toArray, List.set_cons_zero, List.set_cons_succ])
  refine wpAnyH_take (i := 17) (oi := { dst := some 24 , op := Go.Op.load 24 ( Go.Operand.tmp 3 ) , type := 24 , pos := "u256.go:83" , after := #[ { on := 16 , ground := Go.Ground.guard } ] , guard := some ( 16 , false ) }) (v := ?_) rfl (by kernel_rfl) (by kernel_rfl) (by kernel_rfl) (fun _ _ _ h => h) (Or.inl ⟨by rfl, ?_⟩) (by assumption) ?_
  rotate_left
  · intro w hSw; (try dsimp only at hSw); go_simp; first | done | with_reducible rfl
  (try simp only [Act.put, List.setIfInBounds_toArray, List.set_cons_zero, List.set_cons_succ])
  refine wpAnyH_take (i := 18) (oi := { dst := some 25 , op := Go.Op.load 24 ( Go.Operand.tmp 4 ) , type := 24 , pos := "u256.go:83" , after := #[ { on := 16 , ground := Go.Ground.guard } ] , guard := some ( 16 , false ) }) (v := ?_) rfl (by kernel_rfl) (by kernel_rfl) (by kernel_rfl) (fun _ _ _ h => h) (Or.inl ⟨by rfl, ?_⟩) (by assumption) ?_
  rotate_left
  · intro w hSw; (try dsimp only at hSw); go_simp; first | done | with_reducible rfl
  (try simp only [Act.put, List.setIfInBounds_toArray, List.set_cons_zero, List.set_cons_succ])
  refine wpAnyH_take (i := 20) (oi := { dst := some 27 , op := Go.Op.load 24 ( Go.Operand.tmp 3 ) , type := 24 , pos := "u256.go:83" , after := #[ { on := 16 , ground := Go.Ground.guard } ] , guard := some ( 16 , false ) }) (v := ?_) rfl (by kernel_rfl) (by kernel_rfl) (by kernel_rfl) (fun _ _ _ h => h) (Or.inl ⟨by rfl, ?_⟩) (by assumption) ?_
  rotate_left
  · intro w hSw; (try dsimp only at hSw); go_simp; first | done | with_reducible rfl
  (try simp only [Act.put, List.setIfInBounds_toArray, List.set_cons_zero, List.set_cons_succ])
  refine wpAnyH_take (i := 21) (oi := { dst := some 28 , op := Go.Op.load 24 ( Go.Operand.tmp 4 ) , type := 24 , pos := "u256.go:83" , after := #[ { on := 16 , ground := Go.Ground.guard } ] , guard := some ( 16 , false ) }) (v := ?_) rfl (by kernel_rfl) (by kernel_rfl) (by kernel_rfl) (fun _ _ _ h => h) (Or.inl ⟨by rfl, ?_⟩) (by assumption) ?_
  rotate_left
  · intro w hSw; (try dsimp only at hSw); go_simp; first | done | with_reducible rfl
  (try simp only [Act.put, List.setIfInBounds_toArray, List.set_cons_zero, List.set_cons_succ])
  refine wpAnyH_ready (rs := [19]) (by kernel_rfl) (by simp) ?_
  refine AllReadyH.cons (o := { dst := some 26 , op := Go.Op.call { callee := Go.Callee.value ( Go.Operand.func 28 ) , args := #[ Go.Operand.tmp 24 , Go.Operand.tmp 25 ] , argTypes := #[ 24 , 24 ] } , type := 24 , pos := "u256.go:83" , after := #[ { on := 17 , ground := Go.Ground.data } , { on := 18 , ground := Go.Ground.data } , { on := 16 , ground := Go.Ground.chain } , { on := 16 , ground := Go.Ground.guard } ] , guard := some ( 16 , false ) }) rfl (fun K hK => ?_) AllReadyH.nil
  go_simp
  refine (i3 _).mono ?_
  rintro e w6 ⟨rfl, hb6⟩
  have g6 := g5.trans hb6
  have s6 := hk1 _ g6
  go_wp2_with fail
  refine hK.out _ _ ?_ (fun hHeld => ?_)
  · exact s6
  clear hK K
  (try simp only [Act.put, List.setIfInBounds_toArray, List.set_cons_zero, List.set_cons_succ])
  refine wpAnyH_ready (rs := [22]) (by kernel_rfl) (by simp) ?_
  refine AllReadyH.cons (o := { dst := some 29 , op := Go.Op.call { callee := Go.Callee.value ( Go.Operand.func 29 ) , args := #[ Go.Operand.tmp 27 , Go.Operand.tmp 28 ] , argTypes := #[ 24 , 24 ] } , type := 24 , pos := "u256.go:83" , after := #[ { on := 20 , ground := Go.Ground.data } , { on := 21 , ground := Go.Ground.data } , { on := 19 , ground := Go.Ground.chain } , { on := 16 , ground := Go.Ground.guard } ] , guard := some ( 16 , false ) }) rfl (fun K hK => ?_) AllReadyH.nil
  go_simp
  refine (j3 _).mono ?_
  rintro e w7 ⟨rfl, hb7⟩
  have g7 := g6.trans hb7
  have s7 := hk1 _ g7
  go_wp2_with fail
  refine hK.out _ _ ?_ (fun hHeld => ?_)
  · exact s7
  clear hK K
  (try simp only [Act.put, List.setIfInBounds_toArray, List.set_cons_zero, List.set_cons_succ])
  refine wpAnyH_take (i := 23) (oi := { dst := some 30 , op := Go.Op.binOp Go.BinOp.neq 24 ( Go.Operand.tmp 26 ) ( Go.Operand.tmp 29 ) 24 , type := 4 , pos := "u256.go:83" , after := #[ { on := 19 , ground := Go.Ground.data } , { on := 22 , ground := Go.Ground.data } , { on := 16 , ground := Go.Ground.guard } ] , guard := some ( 16 , false ) }) (v := ?_) rfl (by kernel_rfl) (by kernel_rfl) (by kernel_rfl) (fun _ _ _ h => h) (Or.inl ⟨by rfl, ?_⟩) (by assumption) ?_
  rotate_left
  · intro w hSw; refine run_neq_U (v3) _ _ _ _ _ _ _ _ ?_ ?_ w <;> rfl
  (try simp only [Act.put, List.setIfInBounds_toArray, List.set_cons_zero, List.set_cons_succ])
  refine wpAnyH_take (i := 24) (oi := { dst := some 31 , op := Go.Op.pick ( Go.Operand.tmp 23 ) ( Go.Operand.const ( Go.Value.bool true ) ) ( Go.Operand.tmp 30 ) , type := 4 , pos := "u256.go:83" , after := #[ { on := 16 , ground := Go.Ground.data } , { on := 23 , ground := Go.Ground.data } ] , guard := none }) (v := ?_) rfl (by kernel_rfl) (by kernel_rfl) (by kernel_rfl) (fun _ _ _ h => h) (Or.inl ⟨by rfl, ?_⟩) (by assumption) ?_
  rotate_left
  · intro w hSw; (try dsimp only at hSw); go_simp; first | done | with_reducible rfl
  (try simp only [Act.put, List.setIfInBounds_toArray, List.set_cons_zero, List.set_cons_succ])
  refine wpAnyH_take (i := 25) (oi := { dst := some 32 , op := Go.Op.move ( Go.Operand.tmp 31 ) , type := 4 , pos := "u256.go:83" , after := #[ { on := 24 , ground := Go.Ground.data } , { on := 22 , ground := Go.Ground.chain } ] , guard := none }) (v := ?_) rfl (by kernel_rfl) (by kernel_rfl) (by kernel_rfl) (fun _ _ _ h => h) (Or.inl ⟨by rfl, ?_⟩) (by assumption) ?_
  rotate_left
  · intro w hSw; (try dsimp only at hSw); go_simp; first | done | with_reducible rfl
  (try simp only [Act.put, List.setIfInBounds_toArray, List.set_cons_zero, List.set_cons_succ])
  refine wpAnyH_take (i := 26) (oi := { dst := some 33 , op := Go.Op.load 24 ( Go.Operand.tmp 3 ) , type := 24 , pos := "u256.go:83" , after := #[ { on := 25 , ground := Go.Ground.guard } ] , guard := some ( 25 , false ) }) (v := ?_) rfl (by kernel_rfl) (by kernel_rfl) (by kernel_rfl) (fun _ _ _ h => h) (Or.inl ⟨by rfl, ?_⟩) (by assumption) ?_
  rotate_left
  · intro w hSw; (try dsimp only at hSw); go_simp; first | done | with_reducible rfl
  (try simp only [Act.put, List.setIfInBounds_toArray, List.set_cons_zero, List.set_cons_succ])
  refine wpAnyH_take (i := 28) (oi := { dst := some 35 , op := Go.Op.load 24 ( Go.Operand.tmp 3 ) , type := 24 , pos := "u256.go:83" , after := #[ { on := 25 , ground := Go.Ground.guard } ] , guard := some ( 25 , false ) }) (v := ?_) rfl (by kernel_rfl) (by kernel_rfl) (by kernel_rfl) (fun _ _ _ h => h) (Or.inl ⟨by rfl, ?_⟩) (by assumption) ?_
  rotate_left
  · intro w hSw; (try dsimp only at hSw); go_simp; first | done | with_reducible rfl
  (try simp only [Act.put, List.setIfInBounds_toArray, List.set_cons_zero, List.set_cons_succ])
  refine wpAnyH_ready (rs := [27]) (by kernel_rfl) (by simp) ?_
  refine AllReadyH.cons (o := { dst := some 34 , op := Go.Op.call { callee := Go.Callee.value ( Go.Operand.func 30 ) , args := #[ Go.Operand.tmp 33 ] , argTypes := #[ 24 ] } , type := 24 , pos := "u256.go:83" , after := #[ { on := 26 , ground := Go.Ground.data } , { on := 25 , ground := Go.Ground.chain } , { on := 25 , ground := Go.Ground.guard } ] , guard := some ( 25 , false ) }) rfl (fun K hK => ?_) AllReadyH.nil
  go_simp
  refine (i4 _).mono ?_
  rintro e w8 ⟨rfl, hb8⟩
  have g8 := g7.trans hb8
  have s8 := hk1 _ g8
  go_wp2_with fail
  refine hK.out _ _ ?_ (fun hHeld => ?_)
  · exact s8
  clear hK K
  (try simp only [Act.put, List.setIfInBounds_toArray, List.set_cons_zero, List.set_cons_succ])
  refine wpAnyH_ready (rs := [29]) (by kernel_rfl) (by simp) ?_
  refine AllReadyH.cons (o := { dst := some 36 , op := Go.Op.call { callee := Go.Callee.value ( Go.Operand.func 31 ) , args := #[ Go.Operand.tmp 35 ] , argTypes := #[ 24 ] } , type := 24 , pos := "u256.go:83" , after := #[ { on := 28 , ground := Go.Ground.data } , { on := 27 , ground := Go.Ground.chain } , { on := 25 , ground := Go.Ground.guard } ] , guard := some ( 25 , false ) }) rfl (fun K hK => ?_) AllReadyH.nil
  go_simp
  refine (j4 _).mono ?_
  rintro e w9 ⟨rfl, hb9⟩
  have g9 := g8.trans hb9
  have s9 := hk1 _ g9
  go_wp2_with fail
  refine hK.out _ _ ?_ (fun hHeld => ?_)
  · exact s9
  clear hK K
  (try simp only [Act.put, List.setIfInBounds_toArray, List.set_cons_zero, List.set_cons_succ])
  refine wpAnyH_take (i := 30) (oi := { dst := some 37 , op := Go.Op.binOp Go.BinOp.neq 24 ( Go.Operand.tmp 34 ) ( Go.Operand.tmp 36 ) 24 , type := 4 , pos := "u256.go:83" , after := #[ { on := 27 , ground := Go.Ground.data } , { on := 29 , ground := Go.Ground.data } , { on := 25 , ground := Go.Ground.guard } ] , guard := some ( 25 , false ) }) (v := ?_) rfl (by kernel_rfl) (by kernel_rfl) (by kernel_rfl) (fun _ _ _ h => h) (Or.inl ⟨by rfl, ?_⟩) (by assumption) ?_
  rotate_left
  · intro w hSw; refine run_neq_U (v4) _ _ _ _ _ _ _ _ ?_ ?_ w <;> rfl
  (try simp only [Act.put, List.setIfInBounds_toArray, List.set_cons_zero, List.set_cons_succ])
  refine wpAnyH_take (i := 31) (oi := { dst := some 38 , op := Go.Op.pick ( Go.Operand.tmp 32 ) ( Go.Operand.const ( Go.Value.bool true ) ) ( Go.Operand.tmp 37 ) , type := 4 , pos := "u256.go:83" , after := #[ { on := 25 , ground := Go.Ground.data } , { on := 30 , ground := Go.Ground.data } ] , guard := none }) (v := ?_) rfl (by kernel_rfl) (by kernel_rfl) (by kernel_rfl) (fun _ _ _ h => h) (Or.inl ⟨by rfl, ?_⟩) (by assumption) ?_
  rotate_left
  · intro w hSw; (try dsimp only at hSw); go_simp; first | done | with_reducible rfl
  (try simp only [Act.put, List.setIfInBounds_toArray, List.set_cons_zero, List.set_cons_succ])
  refine wpAnyH_done (by kernel_rfl) ?_ _
  refine NoPanic.normal ?_
  have r9_0 := r1_0.call g9
  have b9 := b1.trans g9
  have z9 := g9.size
  have y9 : w.heap.size ≤ w9.heap.size := b9.size
  clear hk1 s1_0 r1_0 r1_0_c r1_0_f r1_0_l r1_1 r1_1_c r1_1_f r1_1_l b1 hb2 g2 s2 hb3 g3 s3 hb4 g4 s4 hb5 g5 s5 hb6 g6 s6 hb7 g7 s7 hb8 g8 s8 hb9 g9 s9
  obtain ⟨r9_0_c, r9_0_f, r9_0_l⟩ := r9_0.tell
  go_wp2_with fail
  clear i1 j1 i2 j2 i3 j3 i4 j4
  have hk9 : ∀ V : World, Bl w9 V → (∀ o, V.cell? ⟨w.heap.size, o, none⟩ = #[.int .u64 (L (x) 0), .int .u64 (L (x) 1), .int .u64 (L (x) 2), .int .u64 (L (x) 3)][o]?) ∧ Bl w9 V := fun V hb => ⟨(r9_0.call hb).cell, hb⟩
  have s9_0 := hk9 _ (Bl.refl w9).drew
  refine wp_region_noPanic ?_
  refine wp_region_held_drew (S := fun V : World => (∀ o, V.cell? ⟨w.heap.size, o, none⟩ = #[.int .u64 (L (x) 0), .int .u64 (L (x) 1), .int .u64 (L (x) 2), .int .u64 (L (x) 3)][o]?) ∧ Bl w9 V) (by kernel_rfl) ?_ (fun hHeld => ?_)
  · exact s9_0
  refine wpAnyH_take (i := 0) (oi := { dst := some 39 , op := Go.Op.load 24 ( Go.Operand.tmp 3 ) , type := 24 , pos := "u256.go:86" , after := #[ ] , guard := none }) (v := ?_) rfl (by kernel_rfl) (by kernel_rfl) (by kernel_rfl) (fun _ _ _ h => h) (Or.inl ⟨by rfl, ?_⟩) (by assumption) ?_
  rotate_left
  · intro w hSw; (try dsimp only at hSw); go_simp; first | done | with_reducible rfl
  (try simp only [Act.put, List.setIfInBounds_toArray, List.set_cons_zero, List.set_cons_succ])
  refine wpAnyH_take (i := 1) (oi := { dst := some 40 , op := Go.Op.move ( Go.Operand.tmp 2 ) , type := 3 , pos := "u256.go:86" , after := #[ ] , guard := none }) (v := ?_) rfl (by kernel_rfl) (by kernel_rfl) (by kernel_rfl) (fun _ _ _ h => h) (Or.inl ⟨by rfl, ?_⟩) (by assumption) ?_
  rotate_left
  · intro w hSw; (try dsimp only at hSw); go_simp; first | done | with_reducible rfl
  (try simp only [Act.put, List.setIfInBounds_toArray, List.set_cons_zero, List.set_cons_succ])
  refine wpAnyH_take (i := 3) (oi := { dst := some 42 , op := Go.Op.load 24 ( Go.Operand.tmp 3 ) , type := 24 , pos := "u256.go:86" , after := #[ ] , guard := none }) (v := ?_) rfl (by kernel_rfl) (by kernel_rfl) (by kernel_rfl) (fun _ _ _ h => h) (Or.inl ⟨by rfl, ?_⟩) (by assumption) ?_
  rotate_left
  · intro w hSw; (try dsimp only at hSw); go_simp; first | done | with_reducible rfl
  (try simp only [Act.put, List.setIfInBounds_toArray, List.set_cons_zero, List.set_cons_succ])
  refine wpAnyH_take (i := 4) (oi := { dst := some 43 , op := Go.Op.move ( Go.Operand.tmp 2 ) , type := 3 , pos := "u256.go:86" , after := #[ ] , guard := none }) (v := ?_) rfl (by kernel_rfl) (by kernel_rfl) (by kernel_rfl) (fun _ _ _ h => h) (Or.inl ⟨by rfl, ?_⟩) (by assumption) ?_
  rotate_left
  · intro w hSw; (try dsimp only at hSw); go_simp; first | done | with_reducible rfl
  (try simp only [Act.put, List.setIfInBounds_toArray, List.set_cons_zero, List.set_cons_succ])
  refine wpAnyH_ready (rs := [2]) (by kernel_rfl) (by simp) ?_
  refine AllReadyH.cons (o := { dst := some 41 , op := Go.Op.call { callee := Go.Callee.value ( Go.Operand.func 32 ) , args := #[ Go.Operand.tmp 39 , Go.Operand.tmp 40 ] , argTypes := #[ 24 , 3 ] } , type := 24 , pos := "u256.go:86" , after := #[ { on := 0 , ground := Go.Ground.data } , { on := 1 , ground := Go.Ground.data } ] , guard := none }) rfl (fun K hK => ?_) AllReadyH.nil
  go_simp
  refine (i5 _).mono ?_
  rintro e w10 ⟨rfl, hb10⟩
  have g10 := (Bl.refl w9).drew.trans hb10
  have s10 := hk9 _ g10
  go_wp2_with fail
  refine hK.out _ _ ?_ (fun hHeld => ?_)
  · exact s10
  clear hK K
  (try simp only [Act.put, List.setIfInBounds_toArray, List.set_cons_zero, List.set_cons_succ])
  refine wpAnyH_ready (rs := [5]) (by kernel_rfl) (by simp) ?_
  refine AllReadyH.cons (o := { dst := some 44 , op := Go.Op.call { callee := Go.Callee.value ( Go.Operand.func 33 ) , args := #[ Go.Operand.tmp 42 , Go.Operand.tmp 43 ] , argTypes := #[ 24 , 3 ] } , type := 24 , pos := "u256.go:86" , after := #[ { on := 3 , ground := Go.Ground.data } , { on := 4 , ground := Go.Ground.data } , { on := 2 , ground := Go.Ground.chain } ] , guard := none }) rfl (fun K hK => ?_) AllReadyH.nil
  go_simp
  refine (j5 _).mono ?_
  rintro e w11 ⟨rfl, hb11⟩
  have g11 := g10.trans hb11
  have s11 := hk9 _ g11
  go_wp2_with fail
  refine hK.out _ _ ?_ (fun hHeld => ?_)
  · exact s11
  clear hK K
  (try simp only [Act.put, List.setIfInBounds_toArray, List.set_cons_zero, List.set_cons_succ])
  refine wpAnyH_take (i := 6) (oi := { dst := some 45 , op := Go.Op.binOp Go.BinOp.neq 24 ( Go.Operand.tmp 41 ) ( Go.Operand.tmp 44 ) 24 , type := 4 , pos := "u256.go:86" , after := #[ { on := 2 , ground := Go.Ground.data } , { on := 5 , ground := Go.Ground.data } ] , guard := none }) (v := ?_) rfl (by kernel_rfl) (by kernel_rfl) (by kernel_rfl) (fun _ _ _ h => h) (Or.inl ⟨by rfl, ?_⟩) (by assumption) ?_
  rotate_left
  · intro w hSw; refine run_neq_U (v5) _ _ _ _ _ _ _ _ ?_ ?_ w <;> rfl
  (try simp only [Act.put, List.setIfInBounds_toArray, List.set_cons_zero, List.set_cons_succ])
  refine wpAnyH_take (i := 7) (oi := { dst := some 46 , op := Go.Op.move ( Go.Operand.tmp 45 ) , type := 4 , pos := "u256.go:86" , after := #[ { on := 6 , ground := Go.Ground.data } , { on := 5 , ground := Go.Ground.chain } ] , guard := none }) (v := ?_) rfl (by kernel_rfl) (by kernel_rfl) (by kernel_rfl) (fun _ _ _ h => h) (Or.inl ⟨by rfl, ?_⟩) (by assumption) ?_
  rotate_left
  · intro w hSw; (try dsimp only at hSw); go_simp; first | done | with_reducible rfl
  (try simp only [Act.put, List.setIfInBounds_toArray, List.set_cons_zero, List.set_cons_succ])
  refine wpAnyH_take (i := 8) (oi := { dst := some 47 , op := Go.Op.load 24 ( Go.Operand.tmp 3 ) , type := 24 , pos := "u256.go:86" , after := #[ { on := 7 , ground := Go.Ground.guard } ] , guard := some ( 7 , false ) }) (v := ?_) rfl (by kernel_rfl) (by kernel_rfl) (by kernel_rfl) (fun _ _ _ h => h) (Or.inl ⟨by rfl, ?_⟩) (by assumption) ?_
  rotate_left
  · intro w hSw; (try dsimp only at hSw); go_simp; first | done | with_reducible rfl
  (try simp only [Act.put, List.setIfInBounds_toArray, List.set_cons_zero, List.set_cons_succ])
  refine wpAnyH_take (i := 9) (oi := { dst := some 48 , op := Go.Op.move ( Go.Operand.tmp 2 ) , type := 3 , pos := "u256.go:86" , after := #[ { on := 7 , ground := Go.Ground.guard } ] , guard := some ( 7 , false ) }) (v := ?_) rfl (by kernel_rfl) (by kernel_rfl) (by kernel_rfl) (fun _ _ _ h => h) (Or.inl ⟨by rfl, ?_⟩) (by assumption) ?_
  rotate_left
  · intro w hSw; (try dsimp only at hSw); go_simp; first | done | with_reducible rfl
  (try simp only [Act.put, List.setIfInBounds_toArray, List.set_cons_zero, List.set_cons_succ])
  refine wpAnyH_take (i := 11) (oi := { dst := some 50 , op := Go.Op.load 24 ( Go.Operand.tmp 3 ) , type := 24 , pos := "u256.go:86" , after := #[ { on := 7 , ground := Go.Ground.guard } ] , guard := some ( 7 , false ) }) (v := ?_) rfl (by kernel_rfl) (by kernel_rfl) (by kernel_rfl) (fun _ _ _ h => h) (Or.inl ⟨by rfl, ?_⟩) (by assumption) ?_
  rotate_left
  · intro w hSw; (try dsimp only at hSw); go_simp; first | done | with_reducible rfl
  (try simp only [Act.put, List.setIfInBounds_toArray, List.set_cons_zero, List.set_cons_succ])
  refine wpAnyH_take (i := 12) (oi := { dst := some 51 , op := Go.Op.move ( Go.Operand.tmp 2 ) , type := 3 , pos := "u256.go:86" , after := #[ { on := 7 , ground := Go.Ground.guard } ] , guard := some ( 7 , false ) }) (v := ?_) rfl (by kernel_rfl) (by kernel_rfl) (by kernel_rfl) (fun _ _ _ h => h) (Or.inl ⟨by rfl, ?_⟩) (by assumption) ?_
  rotate_left
  · intro w hSw; (try dsimp only at hSw); go_simp; first | done | with_reducible rfl
  (try simp only [Act.put, List.setIfInBounds_toArray, List.set_cons_zero, List.set_cons_succ])
  refine wpAnyH_ready (rs := [10]) (by kernel_rfl) (by simp) ?_
  refine AllReadyH.cons (o := { dst := some 49 , op := Go.Op.call { callee := Go.Callee.value ( Go.Operand.func 34 ) , args := #[ Go.Operand.tmp 47 , Go.Operand.tmp 48 ] , argTypes := #[ 24 , 3 ] } , type := 24 , pos := "u256.go:86" , after := #[ { on := 8 , ground := Go.Ground.data } , { on := 9 , ground := Go.Ground.data } , { on := 7 , ground := Go.Ground.chain } , { on := 7 , ground := Go.Ground.guard } ] , guard := some ( 7 , false ) }) rfl (fun K hK => ?_) AllReadyH.nil
  go_simp
  refine (i6 _).mono ?_
  rintro e w12 ⟨rfl, hb12⟩
  have g12 := g11.trans hb12
  have s12 := hk9 _ g12
  go_wp2_with fail
  refine hK.out _ _ ?_ (fun hHeld => ?_)
  · exact s12
  clear hK K
  (try simp only [Act.put, List.setIfInBounds_toArray, List.set_cons_zero, List.set_cons_succ])
  refine wpAnyH_ready (rs := [13]) (by kernel_rfl) (by simp) ?_
  refine AllReadyH.cons (o := { dst := some 52 , op := Go.Op.call { callee := Go.Callee.value ( Go.Operand.func 35 ) , args := #[ Go.Operand.tmp 50 , Go.Operand.tmp 51 ] , argTypes := #[ 24 , 3 ] } , type := 24 , pos := "u256.go:86" , after := #[ { on := 11 , ground := Go.Ground.data } , { on := 12 , ground := Go.Ground.data } , { on := 10 , ground := Go.Ground.chain } , { on := 7 , ground := Go.Ground.guard } ] , guard := some ( 7 , false ) }) rfl (fun K hK => ?_) AllReadyH.nil
  go_simp
  refine (j6 _).mono ?_
  rintro e w13 ⟨rfl, hb13⟩
  have g13 := g12.trans hb13
  have s13 := hk9 _ g13
  go_wp2_with fail
  refine hK.out _ _ ?_ (fun hHeld => ?_)
  · exact s13
  clear hK K
  (try simp only [Act.put, List.setIfInBounds_toArray, List.set_cons_zero, List.set_cons_succ])
  refine wpAnyH_take (i := 14) (oi := { dst := some 53 , op := Go.Op.binOp Go.BinOp.neq 24 ( Go.Operand.tmp 49 ) ( Go.Operand.tmp 52 ) 24 , type := 4 , pos := "u256.go:86" , after := #[ { on := 10 , ground := Go.Ground.data } , { on := 13 , ground := Go.Ground.data } , { on := 7 , ground := Go.Ground.guard } ] , guard := some ( 7 , false ) }) (v := ?_) rfl (by kernel_rfl) (by kernel_rfl) (by kernel_rfl) (fun _ _ _ h => h) (Or.inl ⟨by rfl, ?_⟩) (by assumption) ?_
  rotate_left
  · intro w hSw; refine run_neq_U (v6) _ _ _ _ _ _ _ _ ?_ ?_ w <;> rfl
  (try simp only [Act.put, List.setIfInBounds_toArray, List.set_cons_zero, List.set_cons_succ])
  refine wpAnyH_take (i := 15) (oi := { dst := some 54 , op := Go.Op.pick ( Go.Operand.tmp 46 ) ( Go.Operand.const ( Go.Value.bool true ) ) ( Go.Operand.tmp 53 ) , type := 4 , pos := "u256.go:86" , after := #[ { on := 7 , ground := Go.Ground.data } , { on := 14 , ground := Go.Ground.data } ] , guard := none }) (v := ?_) rfl (by kernel_rfl) (by kernel_rfl) (by kernel_rfl) (fun _ _ _ h => h) (Or.inl ⟨by rfl, ?_⟩) (by assumption) ?_
  rotate_left
  · intro w hSw; (try dsimp only at hSw); go_simp; first | done | with_reducible rfl
  (try simp only [Act.put, List.setIfInBounds_toArray, List.set_cons_zero, List.set_cons_succ])
  refine wpAnyH_done (by kernel_rfl) ?_ _
  refine NoPanic.normal ?_
  have r13_0 := r9_0.call g13
  have b13 := b9.trans g13
  have z13 := g13.size
  have y13 : w.heap.size ≤ w13.heap.size := b13.size
  clear hk9 s9_0 r9_0 r9_0_c r9_0_f r9_0_l b9 hb10 g10 s10 hb11 g11 s11 hb12 g12 s12 hb13 g13 s13
  obtain ⟨r13_0_c, r13_0_f, r13_0_l⟩ := r13_0.tell
  go_wp2_with fail
  clear i5 j5 i6 j6
  have hk13 : ∀ V : World, Bl w13 V → (∀ o, V.cell? ⟨w.heap.size, o, none⟩ = #[.int .u64 (L (x) 0), .int .u64 (L (x) 1), .int .u64 (L (x) 2), .int .u64 (L (x) 3)][o]?) ∧ Bl w13 V := fun V hb => ⟨(r13_0.call hb).cell, hb⟩
  have s13_0 := hk13 _ (Bl.refl w13).drew
  refine wp_region_noPanic ?_
  refine wp_region_held_drew (S := fun V : World => (∀ o, V.cell? ⟨w.heap.size, o, none⟩ = #[.int .u64 (L (x) 0), .int .u64 (L (x) 1), .int .u64 (L (x) 2), .int .u64 (L (x) 3)][o]?) ∧ Bl w13 V) (by kernel_rfl) ?_ (fun hHeld => ?_)
  · exact s13_0
  refine wpAnyH_take (i := 0) (oi := { dst := some 55 , op := Go.Op.load 24 ( Go.Operand.tmp 3 ) , type := 24 , pos := "u256.go:89" , after := #[ ] , guard := none }) (v := ?_) rfl (by kernel_rfl) (by kernel_rfl) (by kernel_rfl) (fun _ _ _ h => h) (Or.inl ⟨by rfl, ?_⟩) (by assumption) ?_
  rotate_left
  · intro w hSw; (try dsimp only at hSw); go_simp; first | done | with_reducible rfl
  (try simp only [Act.put, List.setIfInBounds_toArray, List.set_cons_zero, List.set_cons_succ])
  refine wpAnyH_take (i := 1) (oi := { dst := some 56 , op := Go.Op.move ( Go.Operand.tmp 2 ) , type := 3 , pos := "u256.go:89" , after := #[ ] , guard := none }) (v := ?_) rfl (by kernel_rfl) (by kernel_rfl) (by kernel_rfl) (fun _ _ _ h => h) (Or.inl ⟨by rfl, ?_⟩) (by assumption) ?_
  rotate_left
  · intro w hSw; (try dsimp only at hSw); go_simp; first | done | with_reducible rfl
  (try simp only [Act.put, List.setIfInBounds_toArray, List.set_cons_zero, List.set_cons_succ])
  refine wpAnyH_take (i := 3) (oi := { dst := some 58 , op := Go.Op.load 24 ( Go.Operand.tmp 3 ) , type := 24 , pos := "u256.go:89" , after := #[ ] , guard := none }) (v := ?_) rfl (by kernel_rfl) (by kernel_rfl) (by kernel_rfl) (fun _ _ _ h => h) (Or.inl ⟨by rfl, ?_⟩) (by assumption) ?_
  rotate_left
  · intro w hSw; (try dsimp only at hSw); go_simp; first | done | with_reducible rfl
  (try simp only [Act.put, List.setIfInBounds_toArray, List.set_cons_zero, List.set_cons_succ])
  refine wpAnyH_take (i := 4) (oi := { dst := some 59 , op := Go.Op.move ( Go.Operand.tmp 2 ) , type := 3 , pos := "u256.go:89" , after := #[ ] , guard := none }) (v := ?_) rfl (by kernel_rfl) (by kernel_rfl) (by kernel_rfl) (fun _ _ _ h => h) (Or.inl ⟨by rfl, ?_⟩) (by assumption) ?_
  rotate_left
  · intro w hSw; (try dsimp only at hSw); go_simp; first | done | with_reducible rfl
  (try simp only [Act.put, List.setIfInBounds_toArray, List.set_cons_zero, List.set_cons_succ])
  refine wpAnyH_ready (rs := [2]) (by kernel_rfl) (by simp) ?_
  refine AllReadyH.cons (o := { dst := some 57 , op := Go.Op.call { callee := Go.Callee.value ( Go.Operand.func 36 ) , args := #[ Go.Operand.tmp 55 , Go.Operand.tmp 56 ] , argTypes := #[ 24 , 3 ] } , type := 3 , pos := "u256.go:89" , after := #[ { on := 0 , ground := Go.Ground.data } , { on := 1 , ground := Go.Ground.data } ] , guard := none }) rfl (fun K hK => ?_) AllReadyH.nil
  go_simp
  refine (i7 _).mono ?_
  rintro e w14 ⟨rfl, hb14⟩
  have g14 := (Bl.refl w13).drew.trans hb14
  have s14 := hk13 _ g14
  go_wp2_with fail
  refine hK.out _ _ ?_ (fun hHeld => ?_)
  · exact s14
  clear hK K
  (try simp only [Act.put, List.setIfInBounds_toArray, List.set_cons_zero, List.set_cons_succ])
  refine wpAnyH_ready (rs := [5]) (by kernel_rfl) (by simp) ?_
  refine AllReadyH.cons (o := { dst := some 60 , op := Go.Op.call { callee := Go.Callee.value ( Go.Operand.func 37 ) , args := #[ Go.Operand.tmp 58 , Go.Operand.tmp 59 ] , argTypes := #[ 24 , 3 ] } , type := 3 , pos := "u256.go:89" , after := #[ { on := 3 , ground := Go.Ground.data } , { on := 4 , ground := Go.Ground.data } , { on := 2 , ground := Go.Ground.chain } ] , guard := none }) rfl (fun K hK => ?_) AllReadyH.nil
  go_simp
  refine (j7 _).mono ?_
  rintro e w15 ⟨rfl, hb15⟩
  have g15 := g14.trans hb15
  have s15 := hk13 _ g15
  go_wp2_with fail
  refine hK.out _ _ ?_ (fun hHeld => ?_)
  · exact s15
  clear hK K
  (try simp only [Act.put, List.setIfInBounds_toArray, List.set_cons_zero, List.set_cons_succ])
  refine wpAnyH_take (i := 6) (oi := { dst := some 61 , op := Go.Op.binOp Go.BinOp.eql 3 ( Go.Operand.tmp 57 ) ( Go.Operand.tmp 60 ) 3 , type := 4 , pos := "u256.go:89" , after := #[ { on := 2 , ground := Go.Ground.data } , { on := 5 , ground := Go.Ground.data } ] , guard := none }) (v := ?_) rfl (by kernel_rfl) (by kernel_rfl) (by kernel_rfl) (fun _ _ _ h => h) (Or.inl ⟨by rfl, ?_⟩) (by assumption) ?_
  rotate_left
  · intro w hSw; (try dsimp only at hSw); go_simp; first | done | with_reducible rfl
  (try simp only [Act.put, List.setIfInBounds_toArray, List.set_cons_zero, List.set_cons_succ])
  refine wpAnyH_take (i := 7) (oi := { dst := some 62 , op := Go.Op.move ( Go.Operand.tmp 61 ) , type := 4 , pos := "u256.go:89" , after := #[ { on := 6 , ground := Go.Ground.data } , { on := 5 , ground := Go.Ground.chain } ] , guard := none }) (v := ?_) rfl (by kernel_rfl) (by kernel_rfl) (by kernel_rfl) (fun _ _ _ h => h) (Or.inl ⟨by rfl, ?_⟩) (by assumption) ?_
  rotate_left
  · intro w hSw; (try dsimp only at hSw); go_simp; first | done | with_reducible rfl
  (try simp only [Act.put, List.setIfInBounds_toArray, List.set_cons_zero, List.set_cons_succ])
  refine wpAnyH_take (i := 8) (oi := { dst := some 63 , op := Go.Op.load 24 ( Go.Operand.tmp 3 ) , type := 24 , pos := "u256.go:89" , after := #[ { on := 7 , ground := Go.Ground.guard } ] , guard := some ( 7 , true ) }) (v := ?_) rfl (by kernel_rfl) (by kernel_rfl) (by kernel_rfl) (fun _ _ _ h => h) (Or.inl ⟨by rfl, ?_⟩) (by assumption) ?_
  rotate_left
  · intro w hSw; (try dsimp only at hSw); go_simp; first | done | with_reducible rfl
  (try simp only [Act.put, List.setIfInBounds_toArray, List.set_cons_zero, List.set_cons_succ])
  refine wpAnyH_take (i := 10) (oi := { dst := some 65 , op := Go.Op.load 24 ( Go.Operand.tmp 3 ) , type := 24 , pos := "u256.go:89" , after := #[ { on := 7 , ground := Go.Ground.guard } ] , guard := some ( 7 , true ) }) (v := ?_) rfl (by kernel_rfl) (by kernel_rfl) (by kernel_rfl) (fun _ _ _ h => h) (Or.inl ⟨by rfl, ?_⟩) (by assumption) ?_
  rotate_left
  · intro w hSw; (try dsimp only at hSw); go_simp; first | done | with_reducible rfl
  (try simp only [Act.put, List.setIfInBounds_toArray, List.set_cons_zero, List.set_cons_succ])
  refine wpAnyH_ready (rs := [9]) (by kernel_rfl) (by simp) ?_
  refine AllReadyH.cons (o := { dst := some 64 , op := Go.Op.call { callee := Go.Callee.value ( Go.Operand.func 38 ) , args := #[ Go.Operand.tmp 63 ] , argTypes := #[ 24 ] } , type := 3 , pos := "u256.go:89" , after := #[ { on := 8 , ground := Go.Ground.data } , { on := 7 , ground := Go.Ground.chain } , { on := 7 , ground := Go.Ground.guard } ] , guard := some ( 7 , true ) }) rfl (fun K hK => ?_) AllReadyH.nil
  go_simp
  refine (i8 _).mono ?_
  rintro e w16 ⟨rfl, hb16⟩
  have g16 := g15.trans hb16
  have s16 := hk13 _ g16
  go_wp2_with fail
  refine hK.out _ _ ?_ (fun hHeld => ?_)
  · exact s16
  clear hK K
  (try simp only [Act.put, List.setIfInBounds_toArray, List.set_cons_zero, List.set_cons_succ])
  refine wpAnyH_ready (rs := [11]) (by kernel_rfl) (by simp) ?_
  refine AllReadyH.cons (o := { dst := some 66 , op := Go.Op.call { callee := Go.Callee.value ( Go.Operand.func 39 ) , args := #[ Go.Operand.tmp 65 ] , argTypes := #[ 24 ] } , type := 3 , pos := "u256.go:89" , after := #[ { on := 10 , ground := Go.Ground.data } , { on := 9 , ground := Go.Ground.chain } , { on := 7 , ground := Go.Ground.guard } ] , guard := some ( 7 , true ) }) rfl (fun K hK => ?_) AllReadyH.nil
  go_simp
  refine (j8 _).mono ?_
  rintro e w17 ⟨rfl, hb17⟩
  have g17 := g16.trans hb17
  have s17 := hk13 _ g17
  go_wp2_with fail
  refine hK.out _ _ ?_ (fun hHeld => ?_)
  · exact s17
  clear hK K
  (try simp only [Act.put, List.setIfInBounds_toArray, List.set_cons_zero, List.set_cons_succ])
  refine wpAnyH_take (i := 12) (oi := { dst := some 67 , op := Go.Op.binOp Go.BinOp.eql 3 ( Go.Operand.tmp 64 ) ( Go.Operand.tmp 66 ) 3 , type := 4 , pos := "u256.go:89" , after := #[ { on := 9 , ground := Go.Ground.data } , { on := 11 , ground := Go.Ground.data } , { on := 7 , ground := Go.Ground.guard } ] , guard := some ( 7 , true ) }) (v := ?_) rfl (by kernel_rfl) (by kernel_rfl) (by kernel_rfl) (fun _ _ _ h => h) (Or.inl ⟨by rfl, ?_⟩) (by assumption) ?_
  rotate_left
  · intro w hSw; (try dsimp only at hSw); go_simp; first | done | with_reducible rfl
  (try simp only [Act.put, List.setIfInBounds_toArray, List.set_cons_zero, List.set_cons_succ])
  refine wpAnyH_take (i := 13) (oi := { dst := some 68 , op := Go.Op.pick ( Go.Operand.tmp 62 ) ( Go.Operand.tmp 67 ) ( Go.Operand.const ( Go.Value.bool false ) ) , type := 4 , pos := "u256.go:89" , after := #[ { on := 7 , ground := Go.Ground.data } , { on := 12 , ground := Go.Ground.data } ] , guard := none }) (v := ?_) rfl (by kernel_rfl) (by kernel_rfl) (by kernel_rfl) (fun _ _ _ h => h) (Or.inl ⟨by rfl, ?_⟩) (by assumption) ?_
  rotate_left
  · intro w hSw; (try dsimp only at hSw); go_simp; first | done | with_reducible rfl
  (try simp only [Act.put, List.setIfInBounds_toArray, List.set_cons_zero, List.set_cons_succ])
  refine wpAnyH_take (i := 14) (oi := { dst := some 6 , op := Go.Op.assign ( Go.Operand.tmp 68 ) , type := 4 , pos := "u256.go:89" , after := #[ { on := 13 , ground := Go.Ground.data } , { on := 11 , ground := Go.Ground.chain } , { on := 0 , ground := Go.Ground.phase } , { on := 1 , ground := Go.Ground.phase } , { on := 2 , ground := Go.Ground.phase } , { on := 3 , ground := Go.Ground.phase } , { on := 4 , ground := Go.Ground.phase } , { on := 5 , ground := Go.Ground.phase } , { on := 6 , ground := Go.Ground.phase } , { on := 7 , ground := Go.Ground.phase } , { on := 8 , ground := Go.Ground.phase } , { on := 9 , ground := Go.Ground.phase } , { on := 10 , ground := Go.Ground.phase } , { on := 11 , ground := Go.Ground.phase } , { on := 12 , ground := Go.Ground.phase } , { on := 13 , ground := Go.Ground.phase } ] , guard := none }) (v := ?_) rfl (by kernel_rfl) (by kernel_rfl) (by kernel_rfl) (fun _ _ _ h => h) (Or.inl ⟨by rfl, ?_⟩) (by assumption) ?_
  rotate_left
  · intro w hSw; (try dsimp only at hSw); go_simp; first | done | with_reducible rfl
  (try simp only [Act.put, List.setIfInBounds_toArray, List.set_cons_zero, List.set_cons_succ])
  refine wpAnyH_done (by kernel_rfl) ?_ _
  refine NoPanic.normal ?_
  have b17 := b13.trans g17
  have z17 := g17.size
  have y17 : w.heap.size ≤ w17.heap.size := b17.size
  clear hk13 s13_0 r13_0 r13_0_c r13_0_f r13_0_l b13 hb14 g14 s14 hb15 g15 s15 hb16 g16 s16 hb17 g17 s17
  go_wp2_with fail
  refine bodyPost_ret (v := .bool true) (by simp only [results, Try.results4]; go_simp) rfl ⟨rfl, ?_⟩
  exact b17

set_option maxHeartbeats 1000000 in
set_option maxRecDepth 100000 in
theorem liftedU256Bits (os : Os) (started : os.Started) (H : Type) (enc : TypeId × Value → H) :
    ReturnsInHanded {} Try.checked os 4 .any (Rows.u256BitsSpec.pre6 enc Try.prog Try.f4 Rows.u256BitsRow.domain false) (Rows.u256BitsSpec.post enc Try.prog Try.f4 false true false false) := by
  refine returnsInHanded_of_change (C := Try.checked) own started (by kernel_rfl) Try.func4
    (ChangeSpec.witness6 (enc := enc) (C := Try.checked) false ⟨#[], #[.agg #[.int .u64 0, .int .u64 0, .int .u64 0, .int .u64 0], .agg #[.int .u64 0, .int .u64 0, .int .u64 0, .int .u64 0], .int .i64 0], []⟩ 8 (by kernel_rfl) (by kernel_rfl) (by kernel_rfl) (by kernel_rfl)) ?_
  intro W base args ds gs before hval0 hW hcnd _
  have hval : ∀ (j : Nat) t v, Try.f4.params[j]? = some t → args[j]? = some v → Value.okWide Try.prog W .any base t v := hval0
  have hW' := hW
  obtain ⟨p, q, hA0, hV, rfl, hfz, hnd⟩ := hW
  have hA : DataW.TrodAll enc Try.prog W 0 (fun _ => true) true Try.f4.params.toList args.toList ds p := hA0
  rw [Try.params4] at hA hval
  obtain ⟨v0, vs0, d0, ds0, p0, q0, hargs, rfl, rfl, h0, r0⟩ := trodAll_cons hA
  obtain ⟨v1, vs1, d1, ds1, p1, q1, rfl, rfl, rfl, h1, r1⟩ := trodAll_cons r0
  obtain ⟨v2, vs2, d2, ds2, p2, q2, rfl, rfl, rfl, h2, r2⟩ := trodAll_cons r1
  obtain ⟨rfl, rfl, rfl⟩ := trodAll_nil r2
  obtain rfl : args = #[v0, v1, v2] := by cases args; simp_all
  obtain ⟨rfl, rfl⟩ := trodVars_none hV
  have lt0 : ∀ x ∈ p0, x.block < W.heap.size := by obtain ⟨m, hm⟩ := h0; exact DataW.trod_lt m _ _ _ hm
  obtain ⟨a0, g0, rfl⟩ := open_U (hval 0 24 v0 rfl rfl) h0
  have lt1 : ∀ x ∈ p1, x.block < W.heap.size := by obtain ⟨m, hm⟩ := h1; exact DataW.trod_lt m _ _ _ hm
  obtain ⟨a1, g1, rfl⟩ := open_U (hval 1 24 v1 rfl rfl) h1
  obtain ⟨a2, rfl, rfl, rfl, g2⟩ := open_int Try.underlying3 (hval 2 3 v2 rfl rfl) h2
  clear hA0 hval0
  refine (walkU256Bits a0 a1 a2 g0 g1 g2 W).mono fun e W' ⟨he, bel⟩ => ?_
  subst he
  exact ⟨_, rfl, _, _, _, [], _, [], hW', trodAll_mk1 (shut_bool Try.underlying4 _), (trodAll_cons_mk (Below.trod laidOut (by kernel_rfl) (of_decide_eq_true (by kernel_rfl)) h0 bel.out lt0) (trodAll_cons_mk (Below.trod laidOut (by kernel_rfl) (of_decide_eq_true (by kernel_rfl)) h1 bel.out lt1) (trodAll_cons_mk (shut_int Try.underlying3 g2) trodAll_mk0))), rfl, bel.out.frame _, fun h => by cases h⟩

theorem provedU256Bits : Rows.U256BitsSaid :=
  OpenClaim.holds_of_wide 4 Try.f4 rfl rfl rfl rfl rfl rfl rfl ⟨rfl, rfl, rfl, rfl, rfl⟩ rfl rfl rfl rfl rfl (by kernel_rfl) Try.func4 (by kernel_rfl)
    (of_decide_eq_true (by kernel_rfl)) (by unfold Func.isWrapper; first | (rw [if_pos (by decide +kernel)]; kernel_rfl) | (rw [if_neg (by decide +kernel)]; exact ⟨rfl, rfl⟩))
    (fun os started H enc _ => liftedU256Bits os started H enc)
end Go.Proofs.Ythgnmpjcbicdhaa
