/- U256Bytes, walked. -/
import Derived.Test.YthgnmpjcbicdhaaVCalls
import Derived.Test.YthgnmpjcbicdhaaEqs
set_option linter.unusedSimpArgs false
set_option linter.unusedVariables false
namespace Go.Proofs.Ythgnmpjcbicdhaa
open Go Go.RowKit Go.Proofs.YthgnmpjcbicdhaaW.PrintWords

theorem numb (v : Int) (w : World) : Calls Try.prog 20 #[.int .i64 v] w fun e w' => e = .returned (.int .i64 v) ∧ Below w.heap.size w w' :=
  (num_c v w).mono fun e w' h => ⟨h.1, h.2 ▸ Below.refl _ _⟩
def lawS0 (x m n c : Nat) (A : Option Addr) (xs ys : List Int) (i : Int) : AS := ⟨[(1, .val (.slice A n c)), (2, .ptr 1 0), (4, .val (.bool false)), (5, .own 2 1 0 m), (6, .own 3 1 0 m), (7, .own 4 1 0 m), (8, .val (.int .i64 i))], [(1, ⟨[.cell (.val (.int .u64 (L x 0))), .cell (.val (.int .u64 (L x 1))), .cell (.val (.int .u64 (L x 2))), .cell (.val (.int .u64 (L x 3)))], 24, .arr⟩), (2, bl m xs), (3, bl m ys), (4, bl m ys)]⟩
def lawS1 (x m m1 n c : Nat) (A : Option Addr) (xs ys : List Int) (i : Int) : AS := ⟨[(1, .val (.slice A n c)), (2, .ptr 1 0), (4, .val (.bool false)), (5, .own 2 1 0 m1), (6, .own 3 1 0 m), (7, .own 4 1 0 m), (9, .val (.int .i64 i))], [(1, ⟨[.cell (.val (.int .u64 (L x 0))), .cell (.val (.int .u64 (L x 1))), .cell (.val (.int .u64 (L x 2))), .cell (.val (.int .u64 (L x 3)))], 24, .arr⟩), (2, bl m1 xs), (3, bl m ys), (4, bl m ys)]⟩
def lawS2 (n u v : Nat) (l : List Int) (i : Int) : AS := ⟨[(10, .lst 1 0 0 n (n + 9)), (11, .ptr 2 0), (13, .ptr 3 0), (15, .val (.int .i64 i))], [(1, gb n l), (2, ⟨[.cell (.val (.int .u64 (L u 0))), .cell (.val (.int .u64 (L u 1))), .cell (.val (.int .u64 (L u 2))), .cell (.val (.int .u64 (L u 3)))], 24, .arr⟩), (3, ⟨[.cell (.val (.int .u64 (L v 0))), .cell (.val (.int .u64 (L v 1))), .cell (.val (.int .u64 (L v 2))), .cell (.val (.int .u64 (L v 3)))], 24, .arr⟩)]⟩
theorem getD_byte {l : List Int} (h : Bytes l) (i : Nat) : 0 ≤ l.getD i 0 ∧ l.getD i 0 ≤ 255 := by
  rw [List.getD_eq_getElem?_getD]
  cases hq : l[i]? with
  | none => simp
  | some v => exact h v (List.mem_of_getElem? hq)
set_option maxHeartbeats 2000000 in
theorem law_loop2 (w : World) (n : Nat) (hn : n ≤ 140737488351232) :
    ∀ (q i : Nat), i + q = n → ∀ (u v : Nat) (l : List Int), l.length = n → Bytes l → wpK (ctx Try.prog w Try.f3.ntmps) Try.f3 (fun e w' => e = .returned (.bool true) ∧ Below w.heap.size w w') (loopAt Try.f3 2) (lawS2 n u v l (i : Int)) := by
  intro q
  induction q with
  | zero =>
    intro i hi u v l hl hb
    obtain rfl : i = n := by omega
    have hlt : decide ((i : Int) < (i : Int)) = false := by simp
    have qs := fun n w => run_eq_self n w
    have hq : decide (getE l = getE l) = true := by simp
    obtain ⟨n, hN⟩ : ∃ n, n = i := ⟨_, rfl⟩
    subst hN
    have gc : ∀ A c w, Kd.C (Kd.int .u8) w A n l → Calls Try.prog 18 #[.slice A n c] w fun e w' => e = .returned (.tuple #[U (getV l), .int .i64 (getE l)]) ∧ Below w.heap.size w w' := by
      subst hl; exact fun A c w h => get_c A c l w h hb hn
    have rgc : ∀ A c w, Kd.C (Kd.int .u8) w A n l → Calls Try.prog 19 #[.slice A n c] w fun e w' => e = .returned (.tuple #[U (getV l), .int .i64 (getE l)]) ∧ Below w.heap.size w w' := by
      subst hl; exact fun A c w h => rget_c A c l w h hb hn
    refine wpK_end (n := 400) (m := 0) (nx := 0) (hs := [(128, .eq (.val (.bool false))), (141, .callM [1] (.val (.tuple #[U (getV l), .int .i64 (getE l)])) none), (146, .callM [1] (.val (.tuple #[U (getV l), .int .i64 (getE l)])) none), (151, .cmp true), (154, .call (.val (.int .i64 (getE l)))), (156, .eq (.val (.bool true))), (160, .callM [1] (.val (.bool true)) none)]) (v := .val (.bool true)) follows (And.intro (congrArg Value.bool hlt) (And.intro (callA (w := w) Try.f3.ntmps 1 n hl hn gc) (And.intro (show ∀ D : Nat → Prop, (∀ k, k ∈ [1] → D k) → AV.ok D (.val (.tuple #[U (getV l), .int .i64 (getE l)])) from fun _ _ => trivial) (And.intro (callA (w := w) Try.f3.ntmps 1 n hl hn rgc) (And.intro (show ∀ D : Nat → Prop, (∀ k, k ∈ [1] → D k) → AV.ok D (.val (.tuple #[U (getV l), .int .i64 (getE l)])) from fun _ _ => trivial) (And.intro (fun w => qs (getV l) w) (And.intro (vcall w (fun w => numb (getE l) w)) (And.intro (congrArg Value.bool hq) (And.intro (callSp (w := w) Try.f3.ntmps 1 n hl hn) (show ∀ D : Nat → Prop, (∀ k, k ∈ [1] → D k) → AV.ok D (.val (.bool true)) from fun _ _ => trivial)))))))))) (by kernel_rfl) ?_
    intro ρ w' hf; exact ⟨rfl, hf.to_below⟩
  | succ q ih =>
    intro i hi u v l hl hb
    have hlt : decide ((i : Int) < (n : Int)) = true := by simp; omega
    have hin : i < n := by omega
    have hi9 : i < n + 9 := by omega
    have hw : IntKind.i64.wrap ((i : Int) + 1) = ((i + 1 : Nat) : Int) := by rw [IntKind.wrap_i64]; omega
    refine wpK_loop (n := 400) (m := 0) (nx := 300) (hs := [(128, .eq (.val (.bool true))), (135, .ix (i)), (137, .eq (.val (.int .u8 (xorv ((room9 l 9).getD i 0))))), (138, .ix (i)), (130, .eq (.val (.int .i64 ((i + 1 : Nat) : Int))))]) (st' := loopAt Try.f3 2) (s' := ⟨[(10, .lst 1 0 0 n (n + 9)), (11, .ptr 2 0), (13, .ptr 3 0), (15, .val (.int .i64 ((i + 1 : Nat) : Int)))], [(1, ⟨[.ints .u8 (n + 9) ((room9 l 9).set i (xorv ((room9 l 9).getD i 0)))], 5, .arr⟩), (2, ⟨[.cell (.val (.int .u64 (L u 0))), .cell (.val (.int .u64 (L u 1))), .cell (.val (.int .u64 (L u 2))), .cell (.val (.int .u64 (L u 3)))], 24, .arr⟩), (3, ⟨[.cell (.val (.int .u64 (L v 0))), .cell (.val (.int .u64 (L v 1))), .cell (.val (.int .u64 (L v 2))), .cell (.val (.int .u64 (L v 3)))], 24, .arr⟩)]⟩) follows [] [10, 11, 13, 15] [(1, 1), (2, 2), (3, 3)] (And.intro (congrArg Value.bool hlt) (And.intro (rfl : ((i : Nat) : Int) = ((i : Nat) : Int)) (And.intro hin (And.intro hi9 (And.intro (rfl : Value.int .u8 (xorv ((room9 l 9).getD i 0)) = Value.int .u8 (xorv ((room9 l 9).getD i 0))) (And.intro (rfl : ((i : Nat) : Int) = ((i : Nat) : Int)) (And.intro hin (And.intro hi9 (congrArg (Value.int .i64) hw))))))))) (by kernel_rfl) ?_
    rw [room9_set l n i _ hl hin]
    refine ih (i + 1) (by omega) u v _ (by rw [List.length_set]; exact hl) fun y hy => ?_
    rcases List.mem_or_eq_of_mem_set hy with h | rfl
    · exact hb y h
    · exact xorv_byte _
set_option maxHeartbeats 2000000 in
theorem law_loop1 (w : World) (x m n c : Nat) (A : Option Addr) (l ys : List Int) (hx : x < T256) (hys : ys = bytesOf x) (hm : ys.length = m) (h1 : Kd.C (Kd.int .u8) w A n l) (hl : l.length = n) (hb : Bytes l) (hn : n ≤ 140737488351232) (hmb : m ≤ 140737488351232) :
    ∀ (q k : Nat), k + q = 64 → ∀ (m1 : Nat) (xs : List Int), xs.length = m1 → m1 ≤ m + k → wpK (ctx Try.prog w Try.f3.ntmps) Try.f3 (fun e w' => e = .returned (.bool true) ∧ Below w.heap.size w w') (loopAt Try.f3 1) (lawS1 x m m1 n c A xs ys (k : Int)) := by
  have hss : decide (ys = ys) = true := by simp
  have hll : decide (l = l) = true := by simp
  have qs := fun n w => run_eq_self n w
  have hc := fun w => bytes_c x hx w
  rw [← hys] at hc
  have gc : ∀ A c w, Kd.C (Kd.int .u8) w A n l → Calls Try.prog 18 #[.slice A n c] w fun e w' => e = .returned (.tuple #[U (getV l), .int .i64 (getE l)]) ∧ Below w.heap.size w w' := by
    subst hl; exact fun A c w h => get_c A c l w h hb hn
  have sc : ∀ A c w, Kd.C (Kd.int .u8) w A n l → Calls Try.prog 21 #[.slice A n c] w fun e w' => e = .returned (.tuple #[U (stV l), .int .i64 (stE l)]) ∧ Below w.heap.size w w' := by
    subst hl; exact fun A c w h => strict_c A c l w h hb hn
  have rgc : ∀ w', Fr No w w' → Calls Try.prog 19 #[.slice A n c] w' fun e w'' => e = .returned (.tuple #[U (getV l), .int .i64 (getE l)]) ∧ Below w'.heap.size w' w'' := by
    intro w' hf; have := Kd.C_below h1 hf.to_below; subst hl; exact rget_c A c l w' this hb hn
  have rsc : ∀ w', Fr No w w' → Calls Try.prog 22 #[.slice A n c] w' fun e w'' => e = .returned (.tuple #[U (stV l), .int .i64 (stE l)]) ∧ Below w'.heap.size w' w'' := by
    intro w' hf; have := Kd.C_below h1 hf.to_below; subst hl; exact rstrict_c A c l w' this hb hn
  have hq1 : (!decide (getE l = getE l)) = false := by simp
  have hq2 : (!decide (stE l = stE l)) = false := by simp
  intro q
  induction q with
  | zero =>
    intro k hk m1 xs hxs hm1
    obtain rfl : k = 64 := by omega
    have hlt : decide (((64 : Nat) : Int) < 64) = false := by simp
    refine wpK_loop (n := 800) (m := 0) (nx := 200) (hs := [(51, .eq (.val (.bool false))), (59, .callM [3, 4] (.val (.bool true)) none), (63, .callM [] (.own 208 1 0 m) (some (bl m ys))), (65, .callM [208, 4] (.val (.bool true)) none), (69, .callM [] (.lst 214 0 0 n (n + 9)) (some (gb n l))), (72, .callM [214] (.val (.tuple #[U (getV l), .int .i64 (getE l)])) none), (77, .call (.val (.tuple #[U (getV l), .int .i64 (getE l)]))), (82, .cmp true), (85, .call (.val (.int .i64 (getE l)))), (87, .eq (.val (.bool false))), (92, .callM [214] (.val (.bool true)) none), (97, .callM [214] (.val (.tuple #[U (stV l), .int .i64 (stE l)])) none), (102, .call (.val (.tuple #[U (stV l), .int .i64 (stE l)]))), (107, .cmp true), (110, .call (.val (.int .i64 (stE l)))), (112, .eq (.val (.bool false))), (117, .callM [214] (.val (.bool true)) none), (122, .callM [214] (.val (.bool true)) none)]) (st' := loopAt Try.f3 2) (s' := lawS2 n (stV l) (stV l) l ((0 : Nat) : Int)) follows [] [10, 11, 13, 15] [(1, 214), (2, 221), (3, 229)] (And.intro (congrArg Value.bool hlt) (And.intro (callS (w := w) Try.f3.ntmps 3 4 m m hm hm hmb hmb true hss) (And.intro (show ∀ D : Nat → Prop, (∀ k, k ∈ [3, 4] → D k) → AV.ok D (.val (.bool true)) from fun _ _ => trivial) (And.intro (callG (w := w) Try.f3.ntmps 208 m hc hm) (And.intro (show Seg.ok No [.ints .u8 m ys] from ⟨hm, trivial⟩) (And.intro (show ∀ D : Nat → Prop, D 208 → (∀ k, k ∈ ([] : List Nat) → D k) → AV.ok D (.own 208 1 0 m) from fun _ h _ => h) (And.intro (callS (w := w) Try.f3.ntmps 208 4 m m hm hm hmb hmb true hss) (And.intro (show ∀ D : Nat → Prop, (∀ k, k ∈ [208, 4] → D k) → AV.ok D (.val (.bool true)) from fun _ _ => trivial) (And.intro (callR (w := w) Try.f3.ntmps 214 n c h1 hn) (And.intro (show Seg.ok No [.ints .u8 (n + 9) (room9 l 9)] from ⟨by rw [room9_len l 9 (by omega), hl], trivial⟩) (And.intro (show ∀ D : Nat → Prop, D 214 → (∀ k, k ∈ ([] : List Nat) → D k) → AV.ok D (.lst 214 0 0 n (n + 9)) from fun _ h _ => h) (And.intro (callA (w := w) Try.f3.ntmps 214 n hl hn gc) (And.intro (show ∀ D : Nat → Prop, (∀ k, k ∈ [214] → D k) → AV.ok D (.val (.tuple #[U (getV l), .int .i64 (getE l)])) from fun _ _ => trivial) (And.intro rgc (And.intro (fun w => qs (getV l) w) (And.intro (vcall w (fun w => numb (getE l) w)) (And.intro (congrArg Value.bool hq1) (And.intro (callSA (w := w) Try.f3.ntmps 214 n n c hl hn h1 hn true hll) (And.intro (show ∀ D : Nat → Prop, (∀ k, k ∈ [214] → D k) → AV.ok D (.val (.bool true)) from fun _ _ => trivial) (And.intro (callA (w := w) Try.f3.ntmps 214 n hl hn sc) (And.intro (show ∀ D : Nat → Prop, (∀ k, k ∈ [214] → D k) → AV.ok D (.val (.tuple #[U (stV l), .int .i64 (stE l)])) from fun _ _ => trivial) (And.intro rsc (And.intro (fun w => qs (stV l) w) (And.intro (vcall w (fun w => numb (stE l) w)) (And.intro (congrArg Value.bool hq2) (And.intro (callSA (w := w) Try.f3.ntmps 214 n n c hl hn h1 hn true hll) (And.intro (show ∀ D : Nat → Prop, (∀ k, k ∈ [214] → D k) → AV.ok D (.val (.bool true)) from fun _ _ => trivial) (And.intro (callSp (w := w) Try.f3.ntmps 214 n hl hn) (show ∀ D : Nat → Prop, (∀ k, k ∈ [214] → D k) → AV.ok D (.val (.bool true)) from fun _ _ => trivial))))))))))))))))))))))))))))) (by kernel_rfl) ?_
    exact law_loop2 w n hn n 0 (by omega) _ _ l hl hb
  | succ q ih =>
    intro k hk m1 xs hxs hm1
    have hlt : decide ((k : Int) < 64) = true := by simp; omega
    have hw : IntKind.i64.wrap ((k : Int) + 1) = ((k + 1 : Nat) : Int) := by rw [IntKind.wrap_i64]; omega
    have hcat : ∀ ρ, Seg.cells ρ [.ints .u8 (m1 + 1) (xs ++ [8])] = Seg.cells ρ [.ints .u8 m1 xs] ++ Seg.cells ρ [.cell (.val (.int .u8 8))] := by
      intro ρ
      simp [Seg.cells, Seg.cell1, AV.conc]
    have hlen : (xs ++ [(8 : Int)]).length = m1 + 1 := by simp [hxs]
    have hmb2 : m1 + 1 ≤ 140737488355328 := by omega
    refine wpK_loop (n := 400) (m := 0) (nx := 100) (hs := [(51, .eq (.val (.bool true))), (56, .app [.ints .u8 (m1 + 1) (xs ++ [8])] (m1 + 1)), (53, .eq (.val (.int .i64 ((k + 1 : Nat) : Int))))]) (st' := loopAt Try.f3 1) (s' := lawS1 x m (m1 + 1) n c A (xs ++ [8]) ys ((k + 1 : Nat) : Int)) follows [] [1, 2, 4, 5, 6, 7, 9] [(1, 1), (2, 104), (3, 3), (4, 4)] (And.intro (congrArg Value.bool hlt) (And.intro hcat (And.intro (show Seg.ok No [.ints .u8 (m1 + 1) (xs ++ [8])] from ⟨hlen, trivial⟩) (And.intro (rfl : m1 + 1 = m1 + 1) (And.intro (Nat.zero_add m1) (And.intro hmb2 (congrArg (Value.int .i64) hw))))))) (by kernel_rfl) ?_
    exact ih (k + 1) (by omega) _ _ hlen (by omega)
set_option maxHeartbeats 2000000 in
theorem law_loop0 (w : World) (x m n c : Nat) (A : Option Addr) (l ys : List Int) (hx : x < T256) (hys : ys = bytesOf x) (hm : ys.length = m) (h1 : Kd.C (Kd.int .u8) w A n l) (hl : l.length = n) (hb : Bytes l) (hn : n ≤ 140737488351232) (hmb : m ≤ 140737488351232) :
    ∀ (q i : Nat), i + q = m → ∀ (xs : List Int), xs.length = m → wpK (ctx Try.prog w Try.f3.ntmps) Try.f3 (fun e w' => e = .returned (.bool true) ∧ Below w.heap.size w w') (loopAt Try.f3 0) (lawS0 x m n c A xs ys (i : Int)) := by
  intro q
  induction q with
  | zero =>
    intro i hi xs hxs
    obtain rfl : i = m := by omega
    have hlt : decide ((i : Int) < (i : Int)) = false := by simp
    refine wpK_loop (n := 400) (m := 0) (nx := 100) (hs := [(44, .eq (.val (.bool false)))]) (st' := loopAt Try.f3 1) (s' := lawS1 x i i n c A xs ys ((0 : Nat) : Int)) follows [] [1, 2, 4, 5, 6, 7, 9] [(1, 1), (2, 2), (3, 3), (4, 4)] (And.intro (Nat.le_refl i) (congrArg Value.bool hlt)) (by kernel_rfl) ?_
    exact law_loop1 w x i n c A l ys hx hys hm h1 hl hb hn hmb 64 0 (by omega) i xs hxs (by omega)
  | succ q ih =>
    intro i hi xs hxs
    have hlt : decide ((i : Int) < (m : Int)) = true := by simp; omega
    have him : i < m := by omega
    have hw : IntKind.i64.wrap ((i : Int) + 1) = ((i + 1 : Nat) : Int) := by rw [IntKind.wrap_i64]; omega
    refine wpK_loop (n := 400) (m := 0) (nx := 100) (hs := [(44, .eq (.val (.bool true))), (49, .ix i), (46, .eq (.val (.int .i64 ((i + 1 : Nat) : Int))))]) (st' := loopAt Try.f3 0) (s' := lawS0 x m n c A (xs.set i 7) ys ((i + 1 : Nat) : Int)) follows [] [1, 2, 4, 5, 6, 7, 8] [(1, 1), (2, 2), (3, 3), (4, 4)] (And.intro (Nat.le_refl m) (And.intro (congrArg Value.bool hlt) (And.intro (rfl : ((i : Nat) : Int) = ((i : Nat) : Int)) (And.intro him (And.intro him (And.intro him (congrArg (Value.int .i64) hw))))))) (by kernel_rfl) ?_
    exact ih (i + 1) (by omega) _ (by rw [List.length_set]; exact hxs)
set_option maxHeartbeats 2000000 in
theorem walkU256Bytes (w : World) (x : Nat) (hx : x < T256) (A : Option Addr) (c : Nat) (l : List Int) (h1 : Kd.C (Kd.int .u8) w A l.length l) (hc0 : l.length ≤ c) (hb : Bytes l) (hn : l.length ≤ 140737488351232) :
    Calls Try.prog 3 #[U x, .slice A l.length c] w fun e w' => e = .returned (.bool true) ∧ Bl w w' := by
  obtain ⟨n, hN⟩ : ∃ n, n = l.length := ⟨_, rfl⟩
  rw [← hN] at h1 hn ⊢
  have hc := fun w => bytes_c x hx w
  have rc := fun w => rbytes_c x w
  have hx9 : 9 + 9 * 2 ^ 64 < T256 := by unfold T256; omega
  have hc9 := fun w => bytes_c (9 + 9 * 2 ^ 64) hx9 w
  have hm9 := bytesOf_len (9 + 9 * 2 ^ 64) hx9
  have pc := fun w => put_v x w
  have rpc := fun w => rput_v x w
  have hm := bytesOf_len x hx
  obtain ⟨ys, hys⟩ : ∃ ys, ys = bytesOf x := ⟨_, rfl⟩
  obtain ⟨m, hM⟩ : ∃ m, m = nbytes x := ⟨_, rfl⟩
  obtain ⟨y9, hy9⟩ : ∃ y9, y9 = bytesOf (9 + 9 * 2 ^ 64) := ⟨_, rfl⟩
  obtain ⟨m9, hM9⟩ : ∃ m9, m9 = nbytes (9 + 9 * 2 ^ 64) := ⟨_, rfl⟩
  obtain ⟨zs, hZ⟩ : ∃ zs, zs = putA x 32 := ⟨_, rfl⟩
  have hzl : zs.length = 32 := by rw [hZ]; exact putA_len x 32
  have hmb : m ≤ 140737488351232 := by have := nbytes_le x hx; omega
  rw [← hys] at hc rc
  rw [← hys, ← hM] at hm
  rw [← hy9] at hc9
  rw [← hy9, ← hM9] at hm9
  rw [← hZ] at pc rpc
  have hss : decide (ys = ys) = true := by simp
  have hqb := fun w => run_eq_bytes zs hzl w
  refine calls_vm [.val (U x), .val (.slice A n c)] (fn := Try.f3) Try.func3 (by kernel_rfl) (by kernel_rfl) (by kernel_rfl) (by simp [AV.okL, AV.ok]) ?_
  refine wpK_loop (n := 800) (m := 0) (nx := 0) (hs := [(17, .callM [] (.own 3 1 0 m) (some (bl m ys))), (19, .callM [] (.own 6 1 0 m9) (some (bl m9 y9))), (21, .callM [] (.own 8 1 0 m) (some (bl m ys))), (23, .callM [] (.own 11 1 0 m) (some (bl m ys))), (25, .call (bytesA zs)), (27, .call (bytesA zs)), (28, .cmp true), (32, .callM [3, 11] (.val (.bool true)) none), (38, .callM [8, 11] (.val (.bool true)) none)]) (st' := loopAt Try.f3 0) (s' := lawS0 x m n c A ys ys ((0 : Nat) : Int)) follows [] [1, 2, 4, 5, 6, 7, 8] [(1, 0), (2, 3), (3, 8), (4, 11)] (And.intro (callG (w := w) Try.f3.ntmps 3 m hc hm) (And.intro (show Seg.ok No [.ints .u8 m ys] from ⟨hm, trivial⟩) (And.intro (show ∀ D : Nat → Prop, D 3 → (∀ k, k ∈ ([] : List Nat) → D k) → AV.ok D (.own 3 1 0 m) from fun _ h _ => h) (And.intro (callG (w := w) Try.f3.ntmps 6 m9 hc9 hm9) (And.intro (show Seg.ok No [.ints .u8 m9 y9] from ⟨hm9, trivial⟩) (And.intro (show ∀ D : Nat → Prop, D 6 → (∀ k, k ∈ ([] : List Nat) → D k) → AV.ok D (.own 6 1 0 m9) from fun _ h _ => h) (And.intro (callG (w := w) Try.f3.ntmps 8 m hc hm) (And.intro (show Seg.ok No [.ints .u8 m ys] from ⟨hm, trivial⟩) (And.intro (show ∀ D : Nat → Prop, D 8 → (∀ k, k ∈ ([] : List Nat) → D k) → AV.ok D (.own 8 1 0 m) from fun _ h _ => h) (And.intro (callG (w := w) Try.f3.ntmps 11 m rc hm) (And.intro (show Seg.ok No [.ints .u8 m ys] from ⟨hm, trivial⟩) (And.intro (show ∀ D : Nat → Prop, D 11 → (∀ k, k ∈ ([] : List Nat) → D k) → AV.ok D (.own 11 1 0 m) from fun _ h _ => h) (And.intro (vcall w pc) (And.intro (show (bytesA zs).ok No from ⟨hzl, trivial⟩) (And.intro (vcall w rpc) (And.intro (show (bytesA zs).ok No from ⟨hzl, trivial⟩) (And.intro hqb (And.intro (callS (w := w) Try.f3.ntmps 3 11 m m hm hm hmb hmb true hss) (And.intro (show ∀ D : Nat → Prop, (∀ k, k ∈ [3, 11] → D k) → AV.ok D (.val (.bool true)) from fun _ _ => trivial) (And.intro (callS (w := w) Try.f3.ntmps 8 11 m m hm hm hmb hmb true hss) (show ∀ D : Nat → Prop, (∀ k, k ∈ [8, 11] → D k) → AV.ok D (.val (.bool true)) from fun _ _ => trivial))))))))))))))))))))) (by kernel_rfl) ?_
  exact law_loop0 w x m n c A l ys hx hys hm h1 hN.symm hb hn hmb m 0 (by omega) ys hm
end Go.Proofs.Ythgnmpjcbicdhaa

