/- Texts of digits: the digits read. -/
import Derived.Test.YtkanjdllaikoaaaDoorVal
import Derived.Test.YtkanjdllaikoaaaDoorCom
set_option linter.unusedSimpArgs false
set_option linter.unusedVariables false
namespace Go.Proofs.YtkanjdllaikoaaaDoor
open Go Go.RowKit

/-- The values of digits, if all are digits. -/
def valsL (l : List Int) : Option (List Int) := if (l.all fun c => decide (0 ≤ valOf c)) = true then some (l.map valOf) else none
theorem valsL_some {l v : List Int} (h : valsL l = some v) : v = l.map valOf ∧ ∀ i, i < l.length → 0 ≤ valOf (l.getD i 0) := by
  unfold valsL at h
  split at h
  · rename_i ha
    simp only [Option.some.injEq] at h
    refine ⟨h.symm, fun i hi => ?_⟩
    rw [List.all_eq_true] at ha
    have := ha (l.getD i 0) (by rw [List.getD_eq_getElem?_getD, List.getElem?_eq_getElem hi]; exact List.getElem_mem hi)
    simpa using this
  · cases h
theorem valsL_all {l : List Int} (h : ∀ i, i < l.length → 0 ≤ valOf (l.getD i 0)) : valsL l = some (l.map valOf) := by
  unfold valsL
  rw [if_pos]
  rw [List.all_eq_true]
  intro x hx
  obtain ⟨i, hi, rfl⟩ := List.mem_iff_getElem.1 hx
  have := h i hi
  rw [List.getD_eq_getElem?_getD, List.getElem?_eq_getElem hi] at this
  simpa using this
theorem valsL_none {l : List Int} (i : Nat) (hi : i < l.length) (h : valOf (l.getD i 0) < 0) : valsL l = none := by
  cases hv : valsL l with
  | none => rfl
  | some v => have := (valsL_some hv).2 i hi; omega
/-- A text of digits behind 0x. -/
def textV (s : ByteArray) : Option (List Int) := match bytesI s with
  | a :: b :: r => if a = 48 ∧ b = 120 then valsL r else none
  | _ => none
theorem textV_yes {s : ByteArray} {r : List Int} (h : bytesI s = 48 :: 120 :: r) : textV s = valsL r := by
  unfold textV
  rw [h]
  simp
theorem textV_no {s : ByteArray} {a b : Int} {r : List Int} (h : bytesI s = a :: b :: r) (hab : ¬ (a = 48 ∧ b = 120)) : textV s = none := by
  unfold textV
  rw [h]
  simp only
  rw [if_neg hab]
theorem textV_short {s : ByteArray} (h : s.size < 2) : textV s = none := by
  have hl := bytesI_len s
  unfold textV
  split
  · rename_i a b r hr
    rw [hr] at hl
    simp at hl
    omega
  · rfl
theorem textV_some {s : ByteArray} {v : List Int} (h : textV s = some v) : ∃ r, bytesI s = 48 :: 120 :: r ∧ valsL r = some v := by
  unfold textV at h
  split at h
  · rename_i a b r hr
    split at h
    · rename_i hab
      obtain ⟨rfl, rfl⟩ := hab
      exact ⟨r, hr, h⟩
    · cases h
  · cases h
theorem valsL_range {l v : List Int} (h : valsL l = some v) : ∀ x ∈ v, 0 ≤ x ∧ x < 16 := by
  intro x hx
  obtain ⟨rfl, h2⟩ := valsL_some h
  obtain ⟨y, hy, rfl⟩ := List.mem_map.1 hx
  obtain ⟨i, hi, rfl⟩ := List.mem_iff_getElem.1 hy
  have := h2 i hi
  rw [List.getD_eq_getElem?_getD, List.getElem?_eq_getElem hi] at this
  exact ⟨this, valOf_lt _⟩
/-- A list that is handed over with true, or none with false. -/
def ParR (ty : TypeId) (k : IntKind) (w : World) (r : Option (List Int)) (e : Ending) (w' : World) : Prop := match r with
  | none => e = .returned (.tuple #[.slice none 0 0, .bool false]) ∧ Below w.heap.size w w'
  | some l => Below w.heap.size w w' ∧ ∃ B C, e = .returned (.tuple #[ownVal B C l.length, .bool true]) ∧ OwnAt w' B C 1 ty (l.map (Value.int k)) ∧ (0 < C → w.heap.size ≤ B)
theorem parR_of {P : Program} {w : World} {n m : Nat} {l : List Int} {k : Nat} {kd : IntKind} {ty : TypeId} {ρ : Env} {w' : World} (hl : l.length = n) (hf : Fr No w w') (hh : hasAll (ctx P w m) ρ w' [(k, ⟨[.ints kd n l], ty, .own 1⟩)]) : ParR ty kd w (some l) (.returned ((AV.tup [.own k 1 0 n, .val (.bool true)]).conc ρ)) w' := by
  obtain ⟨hb, B, C, e, ho, hB⟩ := gives_ofT (P := P) hl hf hh
  refine ⟨hb, B, C, ?_, ho, hB⟩
  simp only [Ending.returned.injEq] at e
  simp only [AV.conc, AV.concL, Ending.returned.injEq] at e ⊢
  rw [e]
/-- A call that hands over such a pair. -/
theorem callPar {P : Program} {w : World} {f : FuncId} {args : Array Value} {l : List Int} {kd : IntKind} {ty : TypeId} (k nm n : Nat) (c : ∀ w', Fr No w w' → Calls P f args w' (ParR ty kd w' (some l))) (hl : l.length = n) :
    ∀ (ρ : Env) (w' : World), Fr No w w' → hasAll (ctx P w k) ρ w' [] → Calls P f args w' fun e w'' => Below w'.heap.size w' w'' ∧ ∃ B C, e = .returned (AV.conc (ρ.up nm B C) (.tup [.own nm 1 0 n, .val (.bool true)])) ∧ Sits (ρ.up nm B C) w'' nm ⟨[.ints kd n l], ty, .own 1⟩ ∧ (Vblk.alive (ρ.up nm B C) nm ⟨[.ints kd n l], ty, .own 1⟩ → w'.heap.size ≤ B) := by
  intro ρ w' hf _
  subst hl
  refine (c w' hf).mono ?_
  rintro e w'' ⟨hb, B, C, rfl, ho, hB⟩
  refine ⟨hb, B, C, by simp only [AV.conc, AV.concL]; rw [← ownVal_conc ρ nm B C l.length]; simp [AV.conc], ?_, fun ha => hB ?_⟩
  · unfold Sits
    simp only [Env.up_same, Env.up_sameC, Seg.cells, Seg.cell1, List.append_nil]
    exact ho
  · unfold Vblk.alive at ha
    simp only [Env.up_sameC] at ha
    exact ha
/-- What the two ways ask of the first two bytes. -/
theorem pre_iff (s : ByteArray) : Lib.hasPrefix s.data.toList [48, 120] = true → ∃ r, bytesI s = 48 :: 120 :: r ∧ bytesI ⟨(Lib.trimPrefix s.data.toList [48, 120]).toArray⟩ = r := by
  intro h
  have h2 := h
  unfold Lib.hasPrefix at h
  rw [List.isPrefixOf_iff_prefix] at h
  obtain ⟨t, ht⟩ := h
  refine ⟨t.map fun b => (b.toNat : Int), ?_, ?_⟩
  · unfold bytesI; rw [← ht]; rfl
  · unfold Lib.trimPrefix
    rw [h2, ← ht]
    rfl
theorem pre_not (s : ByteArray) (h : Lib.hasPrefix s.data.toList [48, 120] = false) : textV s = none := by
  cases hv : textV s with
  | none => rfl
  | some v =>
    exfalso
    obtain ⟨r, hr, _⟩ := textV_some hv
    have : Lib.hasPrefix s.data.toList [48, 120] = true := by
      unfold bytesI at hr
      cases hd : s.data.toList with
      | nil => rw [hd] at hr; cases hr
      | cons a l =>
        rw [hd] at hr
        cases l with
        | nil => simp at hr
        | cons b l =>
          simp only [List.map_cons, List.cons.injEq] at hr
          obtain ⟨h1, h2, _⟩ := hr
          have ha : a = 48 := by apply UInt8.toNat_inj.1; show a.toNat = 48; omega
          have hb : b = 120 := by apply UInt8.toNat_inj.1; show b.toNat = 120; omega
          subst ha hb
          rfl
    rw [this] at h
    cases h
def vS (T : ByteArray) (ys : List Int) (n i : Nat) : AS := ⟨[(4, .val (.string T)), (6, .own 1 1 0 i), (17, .val (.int .i64 (n : Int))), (18, .val (.int .i64 (i : Int)))], [(1, ob i ys)]⟩
set_option maxHeartbeats 4000000 in
theorem v_round (w : World) (T : ByteArray) (n : Nat) (hn : T.size = n) (hnb : n ≤ 9000000000000) :
    ∀ (q i : Nat), i + q = n → ∀ (ys : List Int), ys = ((bytesI T).take i).map valOf → (∀ j, j < i → 0 ≤ valOf ((bytesI T).getD j 0)) → wpK (ctx Tryd.prog w Tryd.f38.ntmps) Tryd.f38 (ParR 5 .u8 w (valsL (bytesI T))) (loopAt Tryd.f38 0) (vS T ys n i) := by
  have hbl : (bytesI T).length = n := by rw [bytesI_len, hn]
  intro q
  induction q with
  | zero =>
    intro i hi ys hys hok
    obtain rfl : i = n := by omega
    have hlt : decide ((i : Int) < (i : Int)) = false := by simp
    rw [List.take_of_length_le (by omega)] at hys
    have hyl : ys.length = i := by rw [hys, List.length_map, hbl]
    rw [valsL_all (by rw [hbl]; exact hok), ← hys]
    refine wpK_endM (n := 400) (m := 0) (nx := 100) (hs := [(19, .eq (.val (.bool false)))]) (v := .tup [.own 1 1 0 i, .val (.bool true)]) (bs := [(1, ob i ys)]) follows [1] (congrArg Value.bool hlt) (by kernel_rfl) ?_
    intro ρ w' hf hh; exact parR_of hyl hf hh
  | succ q ih =>
    intro i hi ys hys hok
    have hlt : decide ((i : Int) < (n : Int)) = true := by simp; omega
    have hin : i < n := by omega
    have hw : IntKind.i64.wrap ((i : Int) + 1) = ((i + 1 : Nat) : Int) := by rw [IntKind.wrap_i64]; omega
    obtain ⟨c, hc⟩ : ∃ c, c = (bytesI T).getD i 0 := ⟨_, rfl⟩
    have hcb : 0 ≤ c ∧ c < 256 := by
      rw [hc, List.getD_eq_getElem?_getD, List.getElem?_eq_getElem (by omega)]
      exact bytesI_byte T _ (List.getElem_mem (by omega))
    have hix : ∀ (ρ : Env) (w' : World), Fr No w w' → (siG 9 T (i : Int)).run Tryd.prog w' = .ok (.value (.int .u8 c)) w' := fun ρ w' _ => hc ▸ si_run w' T i (by omega)
    have vc := fun w => value_c c hcb w
    have hv16 := valOf_lt c
    obtain ⟨v, hv⟩ : ∃ v, v = valOf c := ⟨_, rfl⟩
    rw [← hv] at vc hv16
    by_cases hneg : v < 0
    · have hd : decide (v < 0) = true := by simp; omega
      rw [valsL_none i (by omega) (by rw [← hc, ← hv]; exact hneg)]
      refine wpK_end (n := 400) (m := 0) (nx := 100) (hs := [(19, .eq (.val (.bool true))), (23, .as (.val (.int .u8 c))), (24, .call (.val (.int .i64 v))), (26, .eq (.val (.bool true)))]) (v := .tup [.val (.slice none 0 0), .val (.bool false)]) follows (And.intro (congrArg Value.bool hlt) (And.intro hix (And.intro (vcall w vc) (congrArg Value.bool hd)))) (by kernel_rfl) ?_
      intro ρ w' hf; exact ⟨rfl, hf.to_below⟩
    · have hd : decide (v < 0) = false := by simp; omega
      have hvb : IntKind.u8.wrap v = v := by rw [IntKind.wrap_u8]; omega
      have hyl : ys.length = i := by rw [hys, List.length_map, List.length_take]; omega
      have hcat : ∀ ρ, Seg.cells ρ [.ints .u8 (i + 1) (ys ++ [v])] = Seg.cells ρ [.ints .u8 i ys] ++ Seg.cells ρ [.cell (.val (.int .u8 v))] := by
        intro ρ
        simp [Seg.cells, Seg.cell1, AV.conc]
      have hlen : (ys ++ [v]).length = i + 1 := by simp [hyl]
      have hmb : i + 1 ≤ 140737488355328 := by omega
      refine wpK_loop (n := 400) (m := 0) (nx := 100) (hs := [(19, .eq (.val (.bool true))), (23, .as (.val (.int .u8 c))), (24, .call (.val (.int .i64 v))), (26, .eq (.val (.bool false))), (29, .eq (.val (.int .u8 v))), (31, .app [.ints .u8 (i + 1) (ys ++ [v])] (i + 1)), (32, .eq (.val (.int .i64 ((i + 1 : Nat) : Int))))]) (st' := loopAt Tryd.f38 0) (s' := vS T (ys ++ [v]) n (i + 1)) follows [] [4, 6, 17, 18] [(1, 114)] (And.intro (congrArg Value.bool hlt) (And.intro hix (And.intro (vcall w vc) (And.intro (congrArg Value.bool hd) (And.intro (congrArg (Value.int .u8) hvb) (And.intro hcat (And.intro (show Seg.ok No [.ints .u8 (i + 1) (ys ++ [v])] from ⟨hlen, trivial⟩) (And.intro (rfl : i + 1 = i + 1) (And.intro (Nat.zero_add i) (And.intro hmb (congrArg (Value.int .i64) hw))))))))))) (by kernel_rfl) ?_
      refine ih (i + 1) (by omega) _ ?_ ?_
      · rw [take_snocD _ i (by omega), List.map_append, ← hys, ← hc, hv]
        rfl
      · intro j hj
        rcases Nat.lt_succ_iff_lt_or_eq.1 hj with h | rfl
        · exact hok j h
        · rw [← hc, ← hv]; omega
theorem values_c (w : World) (s : ByteArray) (hs : s.size ≤ 9000000000000) : Calls Tryd.prog 38 #[.string s] w (ParR 5 .u8 w (textV s)) := by
  have cp : ∀ w', Fr No w w' → Calls Tryd.prog 53 #[.string s, .string ⟨#[48, 120]⟩] w' fun e w'' => e = .returned (.tuple #[.string ⟨(Lib.trimPrefix s.data.toList [48, 120]).toArray⟩, .bool (Lib.hasPrefix s.data.toList [48, 120])]) ∧ Below w'.heap.size w' w'' := fun w' _ => (Tryd.strings_CutPrefix s ⟨#[48, 120]⟩ w').mono fun e w'' h => ⟨h.1, h.2 ▸ Below.refl _ _⟩
  cases hp : Lib.hasPrefix s.data.toList [48, 120] with
  | false =>
    rw [pre_not s hp]
    rw [hp] at cp
    obtain ⟨T, hT⟩ : ∃ T : ByteArray, T = ⟨(Lib.trimPrefix s.data.toList [48, 120]).toArray⟩ := ⟨_, rfl⟩
    rw [← hT] at cp
    refine calls_vm [.val (.string s)] (fn := Tryd.f38) Tryd.func38 (by kernel_rfl) (by kernel_rfl) (by kernel_rfl) (by simp [AV.okL, AV.ok]) ?_
    refine wpK_end (n := 400) (m := 0) (nx := 0) (hs := [(11, .call (.val (.tuple #[.string T, .bool false])))]) (v := .tup [.val (.slice none 0 0), .val (.bool false)]) follows cp (by kernel_rfl) ?_
    intro ρ w' hf; exact ⟨rfl, hf.to_below⟩
  | true =>
    obtain ⟨r, h1, h2⟩ := pre_iff s hp
    have htv : textV s = valsL r := textV_yes h1
    rw [hp] at cp
    obtain ⟨T, hT⟩ : ∃ T : ByteArray, T = ⟨(Lib.trimPrefix s.data.toList [48, 120]).toArray⟩ := ⟨_, rfl⟩
    rw [← hT] at cp h2
    have hsz : T.size ≤ 9000000000000 := by
      have e1 : (bytesI s).length = s.size := bytesI_len s
      rw [h1] at e1
      rw [← bytesI_len T, h2]
      simp at e1
      omega
    rw [htv, ← h2]
    obtain ⟨n, hn⟩ : ∃ n, T.size = n := ⟨_, rfl⟩
    have hln : (T.size : Int) = (n : Int) := by rw [hn]
    refine calls_vm [.val (.string s)] (fn := Tryd.f38) Tryd.func38 (by kernel_rfl) (by kernel_rfl) (by kernel_rfl) (by simp [AV.okL, AV.ok]) ?_
    refine wpK_loop (n := 400) (m := 0) (nx := 0) (hs := [(11, .call (.val (.tuple #[.string T, .bool true]))), (17, .eq (.val (.int .i64 (n : Int))))]) (st' := loopAt Tryd.f38 0) (s' := vS T [] n 0) follows [(6, 99, 1, [.ints .u8 0 []], 5)] [4, 6, 17, 18] [(1, 99)] (And.intro cp (congrArg (Value.int .i64) hln)) (by kernel_rfl) ?_
    exact v_round w T n hn (by omega) n 0 (by omega) [] rfl (fun j hj => absurd hj (by omega))
abbrev oi (n : Nat) (l : List Int) : Vblk := ⟨[.ints .i64 n l], 3, .own 1⟩
def tS (s : ByteArray) (ys : List Int) (i : Nat) : AS := ⟨[(0, .val (.string s)), (4, .own 1 1 0 i), (5, .val (.int .i64 ((i + 2 : Nat) : Int)))], [(1, oi i ys)]⟩
set_option maxHeartbeats 4000000 in
theorem t_round (w : World) (s : ByteArray) (r : List Int) (hr : bytesI s = 48 :: 120 :: r) (n : Nat) (hn : r.length = n) (hnb : n ≤ 9000000000000) :
    ∀ (q i : Nat), i + q = n → ∀ (ys : List Int), ys = (r.take i).map valOf → (∀ j, j < i → 0 ≤ valOf (r.getD j 0)) → wpK (ctx Tryd.prog w Tryd.f42.ntmps) Tryd.f42 (ParR 3 .i64 w (valsL r)) (loopAt Tryd.f42 0) (tS s ys i) := by
  have hsz : s.size = n + 2 := by rw [← bytesI_len s, hr]; simp [hn]
  have hszI : (s.size : Int) = ((n + 2 : Nat) : Int) := by rw [hsz]
  intro q
  induction q with
  | zero =>
    intro i hi ys hys hok
    obtain rfl : i = n := by omega
    have hlt : decide (((i + 2 : Nat) : Int) < ((i + 2 : Nat) : Int)) = false := by simp
    rw [List.take_of_length_le (by omega)] at hys
    have hyl : ys.length = i := by rw [hys, List.length_map, hn]
    rw [valsL_all (by rw [hn]; exact hok), ← hys]
    refine wpK_endM (n := 400) (m := 0) (nx := 100) (hs := [(22, .eq (.val (.int .i64 ((i + 2 : Nat) : Int)))), (23, .eq (.val (.bool false)))]) (v := .tup [.own 1 1 0 i, .val (.bool true)]) (bs := [(1, oi i ys)]) follows [1] (And.intro (congrArg (Value.int .i64) hszI) (congrArg Value.bool hlt)) (by kernel_rfl) ?_
    intro ρ w' hf hh; exact parR_of hyl hf hh
  | succ q ih =>
    intro i hi ys hys hok
    have hlt : decide (((i + 2 : Nat) : Int) < ((n + 2 : Nat) : Int)) = true := by simp; omega
    have hin : i < n := by omega
    have hw : IntKind.i64.wrap (((i + 2 : Nat) : Int) + 1) = ((i + 1 + 2 : Nat) : Int) := by rw [IntKind.wrap_i64]; omega
    obtain ⟨c, hc⟩ : ∃ c, c = r.getD i 0 := ⟨_, rfl⟩
    have hcc : (bytesI s).getD (i + 2) 0 = c := by rw [hr, hc]; rfl
    have hcb : 0 ≤ c ∧ c < 256 := by
      rw [← hcc, List.getD_eq_getElem?_getD, List.getElem?_eq_getElem (by rw [bytesI_len]; omega)]
      exact bytesI_byte s _ (List.getElem_mem (by rw [bytesI_len]; omega))
    have hix : ∀ (ρ : Env) (w' : World), Fr No w w' → (siG 9 s ((i + 2 : Nat) : Int)).run Tryd.prog w' = .ok (.value (.int .u8 c)) w' := fun ρ w' _ => hcc ▸ si_run w' s (i + 2) (by omega)
    have vc := fun w => rvalue_c c hcb w
    have hv16 := valOf_lt c
    obtain ⟨v, hv⟩ : ∃ v, v = valOf c := ⟨_, rfl⟩
    rw [← hv] at vc hv16
    by_cases hneg : v < 0
    · have hd : decide (v < 0) = true := by simp; omega
      rw [valsL_none i (by omega) (by rw [← hc, ← hv]; exact hneg)]
      refine wpK_end (n := 400) (m := 0) (nx := 100) (hs := [(22, .eq (.val (.int .i64 ((n + 2 : Nat) : Int)))), (23, .eq (.val (.bool true))), (28, .as (.val (.int .u8 c))), (29, .call (.val (.int .i64 v))), (31, .eq (.val (.bool true)))]) (v := .tup [.val (.slice none 0 0), .val (.bool false)]) follows (And.intro (congrArg (Value.int .i64) hszI) (And.intro (congrArg Value.bool hlt) (And.intro hix (And.intro (vcall w vc) (congrArg Value.bool hd))))) (by kernel_rfl) ?_
      intro ρ w' hf; exact ⟨rfl, hf.to_below⟩
    · have hd : decide (v < 0) = false := by simp; omega
      have hyl : ys.length = i := by rw [hys, List.length_map, List.length_take]; omega
      have hcat : ∀ ρ, Seg.cells ρ [.ints .i64 (i + 1) (ys ++ [v])] = Seg.cells ρ [.ints .i64 i ys] ++ Seg.cells ρ [.cell (.val (.int .i64 v))] := by
        intro ρ
        simp [Seg.cells, Seg.cell1, AV.conc]
      have hlen : (ys ++ [v]).length = i + 1 := by simp [hyl]
      have hmb : 8 * (i + 1) ≤ 140737488355328 := by omega
      refine wpK_loop (n := 400) (m := 0) (nx := 100) (hs := [(22, .eq (.val (.int .i64 ((n + 2 : Nat) : Int)))), (23, .eq (.val (.bool true))), (28, .as (.val (.int .u8 c))), (29, .call (.val (.int .i64 v))), (31, .eq (.val (.bool false))), (35, .app [.ints .i64 (i + 1) (ys ++ [v])] (i + 1)), (25, .eq (.val (.int .i64 ((i + 1 + 2 : Nat) : Int))))]) (st' := loopAt Tryd.f42 0) (s' := tS s (ys ++ [v]) (i + 1)) follows [] [0, 4, 5] [(1, 114)] (And.intro (congrArg (Value.int .i64) hszI) (And.intro (congrArg Value.bool hlt) (And.intro hix (And.intro (vcall w vc) (And.intro (congrArg Value.bool hd) (And.intro hcat (And.intro (show Seg.ok No [.ints .i64 (i + 1) (ys ++ [v])] from ⟨hlen, trivial⟩) (And.intro (rfl : i + 1 = i + 1) (And.intro (Nat.zero_add i) (And.intro (show times (i + 1) 8 ≤ 140737488355328 by rw [times_eq]; omega) (congrArg (Value.int .i64) hw))))))))))) (by kernel_rfl) ?_
      refine ih (i + 1) (by omega) _ ?_ ?_
      · rw [take_snocD _ i (by omega), List.map_append, ← hys, ← hc, hv]
        rfl
      · intro j hj
        rcases Nat.lt_succ_iff_lt_or_eq.1 hj with h | rfl
        · exact hok j h
        · rw [← hc, ← hv]; omega
theorem tail_c (w : World) (s : ByteArray) (hs : s.size ≤ 9000000000000) : Calls Tryd.prog 42 #[.string s] w (ParR 3 .i64 w (textV s)) := by
  have hbl := bytesI_len s
  obtain ⟨n, hn⟩ : ∃ n, s.size = n := ⟨_, rfl⟩
  have hln : (s.size : Int) = (n : Int) := by rw [hn]
  obtain ⟨l, hl⟩ : ∃ l, bytesI s = l := ⟨_, rfl⟩
  have hix : ∀ i, i < n → ∀ (ρ : Env) (w' : World), Fr No w w' → (siG 9 s (i : Int)).run Tryd.prog w' = .ok (.value (.int .u8 (l.getD i 0))) w' := fun i hi ρ w' _ => hl ▸ si_run w' s i (by omega)
  refine calls_vm [.val (.string s)] (fn := Tryd.f42) Tryd.func42 (by kernel_rfl) (by kernel_rfl) (by kernel_rfl) (by simp [AV.okL, AV.ok]) ?_
  by_cases h2 : n < 2
  · have hd : decide ((n : Int) < 2) = true := by simp; omega
    have : textV s = none := textV_short (by omega)
    rw [this]
    refine wpK_end (n := 400) (m := 0) (nx := 0) (hs := [(8, .eq (.val (.int .i64 (n : Int)))), (9, .eq (.val (.bool true)))]) (v := .tup [.val (.slice none 0 0), .val (.bool false)]) follows (And.intro (congrArg (Value.int .i64) hln) (congrArg Value.bool hd)) (by kernel_rfl) ?_
    intro ρ w' hf; exact ⟨rfl, hf.to_below⟩
  · have hd : decide ((n : Int) < 2) = false := by simp; omega
    have hx0 := hix 0 (by omega)
    have hx1 := hix 1 (by omega)
    obtain ⟨a, b, r, hab⟩ : ∃ a b r, l = a :: b :: r := by
      rcases l with _ | ⟨a, _ | ⟨b, r⟩⟩
      · have := hbl; rw [hl] at this; simp at this; omega
      · have := hbl; rw [hl] at this; simp at this; omega
      · exact ⟨a, b, r, rfl⟩
    have e0 : l.getD 0 0 = a := by rw [hab]; rfl
    have e1 : l.getD 1 0 = b := by rw [hab]; rfl
    rw [e0] at hx0
    rw [e1] at hx1
    by_cases ha : a = 48
    · have hda : (!decide (a = 48)) = false := by simp [ha]
      by_cases hb : b = 120
      · have hdb : (!decide (b = 120)) = false := by simp [hb]
        have htv : textV s = valsL r := textV_yes (by rw [hl, hab, ha, hb])
        rw [htv]
        refine wpK_loop (n := 400) (m := 0) (nx := 0) (hs := [(8, .eq (.val (.int .i64 (n : Int)))), (9, .eq (.val (.bool false))), (12, .as (.val (.int .u8 a))), (13, .eq (.val (.bool false))), (17, .as (.val (.int .u8 b))), (18, .eq (.val (.bool false)))]) (st' := loopAt Tryd.f42 0) (s' := tS s [] 0) follows [(4, 99, 1, [.ints .i64 0 []], 3)] [0, 4, 5] [(1, 99)] (And.intro (congrArg (Value.int .i64) hln) (And.intro (congrArg Value.bool hd) (And.intro hx0 (And.intro (congrArg Value.bool hda) (And.intro hx1 (congrArg Value.bool hdb)))))) (by kernel_rfl) ?_
        have hrl : r.length ≤ 9000000000000 := by
          have := hbl
          rw [hl, hab] at this
          simp at this
          omega
        exact t_round w s r (by rw [hl, hab, ha, hb]) r.length rfl hrl r.length 0 (by omega) [] rfl (fun j hj => absurd hj (by omega))
      · have hdb : (!decide (b = 120)) = true := by simp [hb]
        have htv : textV s = none := textV_no (hl.trans hab) (fun e => hb e.2)
        rw [htv]
        refine wpK_end (n := 400) (m := 0) (nx := 0) (hs := [(8, .eq (.val (.int .i64 (n : Int)))), (9, .eq (.val (.bool false))), (12, .as (.val (.int .u8 a))), (13, .eq (.val (.bool false))), (17, .as (.val (.int .u8 b))), (18, .eq (.val (.bool true)))]) (v := .tup [.val (.slice none 0 0), .val (.bool false)]) follows (And.intro (congrArg (Value.int .i64) hln) (And.intro (congrArg Value.bool hd) (And.intro hx0 (And.intro (congrArg Value.bool hda) (And.intro hx1 (congrArg Value.bool hdb)))))) (by kernel_rfl) ?_
        intro ρ w' hf; exact ⟨rfl, hf.to_below⟩
    · have hda : (!decide (a = 48)) = true := by simp [ha]
      have htv : textV s = none := textV_no (hl.trans hab) (fun e => ha e.1)
      rw [htv]
      refine wpK_end (n := 400) (m := 0) (nx := 0) (hs := [(8, .eq (.val (.int .i64 (n : Int)))), (9, .eq (.val (.bool false))), (12, .as (.val (.int .u8 a))), (13, .eq (.val (.bool true)))]) (v := .tup [.val (.slice none 0 0), .val (.bool false)]) follows (And.intro (congrArg (Value.int .i64) hln) (And.intro (congrArg Value.bool hd) (And.intro hx0 (congrArg Value.bool hda)))) (by kernel_rfl) ?_
      intro ρ w' hf; exact ⟨rfl, hf.to_below⟩
end Go.Proofs.YtkanjdllaikoaaaDoor

