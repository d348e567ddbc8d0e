/- A text as an address: the program. -/
import Derived.Test.YtkanjdllaikoaaaDoorPHs
import Derived.Test.YtkanjdllaikoaaaDoorCks
import Derived.Lib.IndexBytes
import Derived.Lib.Case
set_option linter.unusedSimpArgs false
set_option linter.unusedVariables false
namespace Go.Proofs.YtkanjdllaikoaaaDoor
open Go Go.RowKit

/-- Is there a small letter, a great one? -/
def hasSmall (r : List Int) : Bool := r.any fun c => decide (97 ≤ c)
def hasGreat (r : List Int) : Bool := r.any fun c => decide (65 ≤ c ∧ c ≤ 70)
def strNe (a b : ByteArray) : Bool := !(a.toList == b.toList)
theorem strNe_iff (a b : ByteArray) : strNe a b = decide (a ≠ b) := by
  unfold strNe
  rw [ByteArray.toList_eq, ByteArray.toList_eq]
  by_cases h : a = b
  · subst h; simp
  · have h2 : ¬ a.data = b.data := fun e => h (by cases a; cases b; exact congrArg ByteArray.mk e)
    simp [h, h2]
/-- Must the sum be asked? -/
def asks (s : ByteArray) : Bool := hasSmall ((bytesI s).drop 2) && hasGreat ((bytesI s).drop 2)
/-- A text as an address, and an error's number. -/
def addrP (s : ByteArray) : List Int × Int := match textV s with
  | none => (List.replicate 20 0, 80)
  | some v => if v.length = 40 then (if (asks s && strNe s (withX (strI (sumL (prL v 20))))) = true then (List.replicate 20 0, 84) else (prL v 20, 0)) else (List.replicate 20 0, 80)
theorem digit_cases {c : Int} (h : 0 ≤ valOf c) : (48 ≤ c ∧ c ≤ 57) ∨ (97 ≤ c ∧ c ≤ 102) ∨ (65 ≤ c ∧ c ≤ 70) := by
  unfold valOf at h
  split at h
  · exact .inl ‹_›
  · split at h
    · exact .inr (.inl ‹_›)
    · split at h
      · exact .inr (.inr ‹_›)
      · omega
set_option maxRecDepth 100000 in
theorem lowerB_same (b : UInt8) : Lib.lowerB b = b ↔ ¬ (65 ≤ b.toNat ∧ b.toNat ≤ 90) := by
  have : ∀ n : Nat, n < 256 → (Lib.lowerB (UInt8.ofNat n) = UInt8.ofNat n ↔ ¬ (65 ≤ n ∧ n ≤ 90)) := by decide
  have h := this b.toNat b.toNat_lt
  rwa [UInt8.ofNat_toNat] at h
set_option maxRecDepth 100000 in
theorem upperB_same (b : UInt8) : Lib.upperB b = b ↔ ¬ (97 ≤ b.toNat ∧ b.toNat ≤ 122) := by
  have : ∀ n : Nat, n < 256 → (Lib.upperB (UInt8.ofNat n) = UInt8.ofNat n ↔ ¬ (97 ≤ n ∧ n ≤ 122)) := by decide
  have h := this b.toNat b.toNat_lt
  rwa [UInt8.ofNat_toNat] at h
theorem map_same {f : UInt8 → UInt8} : ∀ l : List UInt8, l.map f = l ↔ ∀ b ∈ l, f b = b
  | [] => by simp
  | a :: l => by
    simp only [List.map_cons, List.cons.injEq, List.mem_cons, forall_eq_or_imp, map_same l]
theorem ne_lower (T : ByteArray) (hd : ∀ c ∈ bytesI T, 0 ≤ valOf c) : strNe T ⟨(Lib.toLowerA T.data.toList).toArray⟩ = hasGreat (bytesI T) := by
  rw [strNe_iff]
  unfold hasGreat bytesI Lib.toLowerA
  rw [Bool.eq_iff_iff]
  simp only [decide_eq_true_eq, List.any_eq_true, ne_eq]
  have h1 : (T = ⟨(T.data.toList.map Lib.lowerB).toArray⟩) ↔ T.data.toList.map Lib.lowerB = T.data.toList := by
    constructor
    · intro h
      have := congrArg (fun t => t.data.toList) h
      simpa using this.symm
    · intro h
      rw [h]
  rw [h1, map_same]
  constructor
  · intro h
    have h2 : ∃ b, b ∈ T.data.toList ∧ ¬ Lib.lowerB b = b := by
      rcases Classical.em (∃ b, b ∈ T.data.toList ∧ ¬ Lib.lowerB b = b) with h3 | h3
      · exact h3
      · exact absurd (fun b hb => Classical.not_not.1 fun h4 => h3 ⟨b, hb, h4⟩) h
    obtain ⟨b, hb, h3⟩ := h2
    rw [lowerB_same] at h3
    have hv := digit_cases (hd (b.toNat : Int) (List.mem_map.2 ⟨b, hb, rfl⟩))
    exact ⟨(b.toNat : Int), List.mem_map.2 ⟨b, hb, rfl⟩, by omega⟩
  · rintro ⟨c, hc, h2⟩ h
    obtain ⟨b, hb, rfl⟩ := List.mem_map.1 hc
    have := (lowerB_same b).1 (h b hb)
    omega
theorem ne_upper (T : ByteArray) (hd : ∀ c ∈ bytesI T, 0 ≤ valOf c) : strNe T ⟨(Lib.toUpperA T.data.toList).toArray⟩ = hasSmall (bytesI T) := by
  rw [strNe_iff]
  unfold hasSmall bytesI Lib.toUpperA
  rw [Bool.eq_iff_iff]
  simp only [decide_eq_true_eq, List.any_eq_true, ne_eq]
  have h1 : (T = ⟨(T.data.toList.map Lib.upperB).toArray⟩) ↔ T.data.toList.map Lib.upperB = T.data.toList := by
    constructor
    · intro h
      have := congrArg (fun t => t.data.toList) h
      simpa using this.symm
    · intro h
      rw [h]
  rw [h1, map_same]
  constructor
  · intro h
    have h2 : ∃ b, b ∈ T.data.toList ∧ ¬ Lib.upperB b = b := by
      rcases Classical.em (∃ b, b ∈ T.data.toList ∧ ¬ Lib.upperB b = b) with h3 | h3
      · exact h3
      · exact absurd (fun b hb => Classical.not_not.1 fun h4 => h3 ⟨b, hb, h4⟩) h
    obtain ⟨b, hb, h3⟩ := h2
    rw [upperB_same] at h3
    exact ⟨(b.toNat : Int), List.mem_map.2 ⟨b, hb, rfl⟩, by omega⟩
  · rintro ⟨c, hc, h2⟩ h
    obtain ⟨b, hb, rfl⟩ := List.mem_map.1 hc
    have := (upperB_same b).1 (h b hb)
    have hv := digit_cases (hd (b.toNat : Int) (List.mem_map.2 ⟨b, hb, rfl⟩))
    omega
theorem ascii_of (T : ByteArray) (hd : ∀ c ∈ bytesI T, 0 ≤ valOf c) : ∀ (j : Nat) (b : UInt8), T.data.toList[j]? = some b → b.toNat < 128 := by
  intro j b h
  have hb : b ∈ T.data.toList := List.mem_of_getElem? h
  have hv := digit_cases (hd (b.toNat : Int) (List.mem_map.2 ⟨b, hb, rfl⟩))
  omega
abbrev tlG (s : ByteArray) : Sem Next := do pure (.value (← Instr.sliceAt 9 (.string s) (some (.int .i64 2)) none none))
/-- The text behind the first two bytes. -/
theorem tl_run (w : World) (s : ByteArray) (h : 2 ≤ s.size) : (tlG s).run Tryd.prog w = .ok (.value (.string (s.extract 2 s.size))) w := by
  have hb := bounds_run (P := Tryd.prog) (w := w) (isSlice := false) (lo := some (.int .i64 ((2 : Nat) : Int))) (hi := none) (len := s.size) (cap := s.size) (l := 2) (u := s.size) h (Nat.le_refl _) (.inr ⟨.i64, rfl⟩) (.inl ⟨rfl, rfl⟩)
  unfold tlG
  simp [Instr.sliceAt, Instr.slice, run_underlying Tryd.underlying9] at hb ⊢
  simp [hb]
theorem tl_bytes (s : ByteArray) : bytesI (s.extract 2 s.size) = (bytesI s).drop 2 := by
  unfold bytesI
  rw [Lib.extract_to_end, List.map_drop]
abbrev neG2 (a b : ByteArray) : Sem Next := do pure (.value (← binOp .neq 9 (.string a) (.string b)))
theorem vals_all {s : ByteArray} {r v : List Int} (h : valsL r = some v) : ∀ c ∈ r, 0 ≤ valOf c := by
  intro c hc
  obtain ⟨i, hi, rfl⟩ := List.mem_iff_getElem.1 hc
  have := (valsL_some h).2 i hi
  rw [List.getD_eq_getElem?_getD, List.getElem?_eq_getElem hi] at this
  exact this
set_option maxHeartbeats 4000000 in
theorem paddr_c (w : World) (s : ByteArray) (hs : s.size ≤ 9000000000000) (hG : w.cell? ⟨0, 0, none⟩ = some (.int .u8 1)) : Calls Tryd.prog 22 #[.string s] w (pairR w (addrP s).1 (addrP s).2) := by
  have vc : ∀ w', Fr No w w' → Calls Tryd.prog 38 #[.string s] w' (ParR 5 .u8 w' (textV s)) := fun w' _ => values_c w' s hs
  unfold addrP
  cases hv : textV s with
  | none =>
    rw [hv] at vc
    have vc := parN vc
    refine calls_vm [.val (.string s)] (fn := Tryd.f22) Tryd.func22 (by kernel_rfl) (by kernel_rfl) (by kernel_rfl) (by simp [AV.okL, AV.ok]) ?_
    refine wpK_end (n := 400) (m := 0) (nx := 0) (hs := [(2, .row [.ints .u8 20 (List.replicate 20 0)]), (10, .call (.val (.tuple #[.slice none 0 0, .bool false])))]) (v := .tup [.agg [.cell (.val (.int .u8 0)), .cell (.val (.int .u8 0)), .cell (.val (.int .u8 0)), .cell (.val (.int .u8 0)), .cell (.val (.int .u8 0)), .cell (.val (.int .u8 0)), .cell (.val (.int .u8 0)), .cell (.val (.int .u8 0)), .cell (.val (.int .u8 0)), .cell (.val (.int .u8 0)), .cell (.val (.int .u8 0)), .cell (.val (.int .u8 0)), .cell (.val (.int .u8 0)), .cell (.val (.int .u8 0)), .cell (.val (.int .u8 0)), .cell (.val (.int .u8 0)), .cell (.val (.int .u8 0)), .cell (.val (.int .u8 0)), .cell (.val (.int .u8 0)), .cell (.val (.int .u8 0))], .val (.int .i64 80)]) follows (And.intro (fun ρ => (rfl : Seg.cells ρ [.ints .u8 20 (List.replicate 20 0)] = (Value.agg (ints .u8 (List.replicate 20 0))).cells.toList)) (And.intro (show Seg.ok No [.ints .u8 20 (List.replicate 20 0)] from ⟨rfl, trivial⟩) vc)) (by kernel_rfl) ?_
    intro ρ w' hf; exact ⟨rfl, hf.to_below⟩
  | some v =>
    rw [hv] at vc
    obtain ⟨r, hr1, hr2⟩ := textV_some hv
    have hdg := digs_of hr2
    have hvl : v.length ≤ 9000000000000 ∧ v.length + 2 = s.size := by
      have h1 := (valsL_some hr2).1
      have h2 := bytesI_len s
      rw [hr1] at h2
      simp at h2
      rw [h1, List.length_map]
      omega
    by_cases h64 : v.length = 40
    · simp only [h64, if_true]
      have hn : v.length = 40 := h64
      obtain ⟨ys, hys⟩ : ∃ ys, ys = prL v 20 := ⟨_, rfl⟩
      have hyl : ys.length = 20 := by rw [hys, prL_len]
      have hyb : ByteL ys := hys ▸ prL_byte v 20 (by omega) hdg
      have hyB : Bytes ys := fun i hi => by have := hyb.at i hi; omega
      rw [← hys]
      obtain ⟨K, hK⟩ : ∃ K, K = withX (strI (sumL ys)) := ⟨_, rfl⟩
      rw [← hK]
      have hrd : (bytesI s).drop 2 = r := by rw [hr1]; rfl
      obtain ⟨T, hT⟩ : ∃ T, T = s.extract 2 s.size := ⟨_, rfl⟩
      have hTb : bytesI T = r := by rw [hT, tl_bytes, hrd]
      have hTd : ∀ c ∈ bytesI T, 0 ≤ valOf c := hTb ▸ vals_all (s := s) hr2
      have hTs : T.size ≤ 140737488355328 := by rw [← bytesI_len T, hTb]; have := bytesI_len s; rw [hr1] at this; simp at this; omega
      have htl : ∀ (ρ : Env) (w' : World), Fr No w w' → (tlG s).run Tryd.prog w' = .ok (.value (.string T)) w' := fun ρ w' _ => hT ▸ tl_run w' s (by omega)
      obtain ⟨L, hL⟩ : ∃ L : ByteArray, L = ⟨(Lib.toLowerA T.data.toList).toArray⟩ := ⟨_, rfl⟩
      obtain ⟨U, hU⟩ : ∃ U : ByteArray, U = ⟨(Lib.toUpperA T.data.toList).toArray⟩ := ⟨_, rfl⟩
      have hgr : strNe T L = hasGreat r := by rw [hL, ne_lower T hTd, hTb]
      have hsm : strNe T U = hasSmall r := by rw [hU, ne_upper T hTd, hTb]
      have lc : ∀ w', Fr No w w' → Calls Tryd.prog 40 #[.string T] w' fun e w'' => e = .returned (.string L) ∧ Below w'.heap.size w' w'' := fun w' _ => hL ▸ Tryd.strings_ToLower_ascii T w' hTs (ascii_of T hTd)
      have uc : ∀ w', Fr No w w' → Calls Tryd.prog 41 #[.string T] w' fun e w'' => e = .returned (.string U) ∧ Below w'.heap.size w' w'' := fun w' _ => hU ▸ Tryd.strings_ToUpper_ascii T w' hTs (ascii_of T hTd)
      have kc : ∀ w', Fr No w w' → Calls Tryd.prog 18 #[adrV ys] w' fun e w'' => e = .returned (.string K) ∧ Below w'.heap.size w' w'' := fun w' hf => hK ▸ cks_c w' ys hyl hyB (frN_cell hf hG)
      have has : asks s = (hasSmall r && hasGreat r) := by unfold asks; rw [hrd]
      have hjn : ∀ (ρ : Env) w', Fr No w w' → hasAll (ctx Tryd.prog w Tryd.f22.ntmps) ρ w' [(3, ob 40 v)] → Calls Tryd.prog 39 #[AV.conc ρ (.own 3 1 0 40)] w' fun e w'' => Below w'.heap.size w' w'' ∧ ∃ B C, e = .returned (AV.conc (ρ.up 17 B C) (.own 17 1 0 20)) ∧ Sits (ρ.up 17 B C) w'' 17 (ob 20 ys) ∧ (Vblk.alive (ρ.up 17 B C) 17 (ob 20 ys) → w'.heap.size ≤ B) := by
        intro ρ w' hf hh
        obtain ⟨A, c, e1, hS, _⟩ := own_Sl hh.1.1 hn
        obtain ⟨ad, rfl⟩ := hS.has (by omega)
        rw [e1]
        have hc := joinedE_c w' ad 40 c 20 v hS rfl hdg (by omega)
        rw [← hys] at hc
        exact callG (w := w') Tryd.f22.ntmps 17 20 (fun w1 hf1 => by
          have h1 := joinedE_c w1 ad 40 c 20 v (hS.frN hf1) rfl hdg (by omega)
          rw [← hys] at h1
          exact h1) hyl ρ w' (Fr.refl _ _) trivial
      cases hg : hasGreat r with
      | false =>
        rw [hg] at hgr
        have hc : (asks s && strNe s K) = false := by rw [has, hg]; simp
        simp only [hc, if_false, Bool.false_eq_true]
        refine calls_vm [.val (.string s)] (fn := Tryd.f22) Tryd.func22 (by kernel_rfl) (by kernel_rfl) (by kernel_rfl) (by simp [AV.okL, AV.ok]) ?_
        refine wpK_end (n := 400) (m := 0) (nx := 0) (hs := [(2, .row [.ints .u8 20 (List.replicate 20 0)]), (10, .callM [] (.tup [.own 3 1 0 40, .val (.bool true)]) (some (ob 40 v))), (22, .callM [3] (.own 17 1 0 20) (some (ob 20 ys))), (23, .asR [17] (.ptr 17 0)), (26, .as (.val (.string T))), (29, .call (.val (.string L))), (30, .eq (.val (.bool false)))]) (v := .tup [.agg [.ints .u8 20 ys], .val (.int .i64 0)]) follows (And.intro (fun ρ => (rfl : Seg.cells ρ [.ints .u8 20 (List.replicate 20 0)] = (Value.agg (ints .u8 (List.replicate 20 0))).cells.toList)) (And.intro (show Seg.ok No [.ints .u8 20 (List.replicate 20 0)] from ⟨rfl, trivial⟩) (And.intro (callPar (w := w) Tryd.f22.ntmps 3 40 vc hn) (And.intro (show Seg.ok No (ob 40 v).row from ⟨hn, trivial⟩) (And.intro (show ∀ D : Nat → Prop, D 3 → (∀ k, k ∈ ([] : List Nat) → D k) → AV.ok D (.tup [.own 3 1 0 40, .val (.bool true)]) from fun _ h _ => ⟨h, trivial, trivial⟩) (And.intro (Nat.le_refl 40) (And.intro hjn (And.intro (show Seg.ok No (ob 20 ys).row from ⟨hyl, trivial⟩) (And.intro (show ∀ D : Nat → Prop, D 17 → (∀ k, k ∈ [3] → D k) → AV.ok D (.own 17 1 0 20) from fun _ h _ => h) (And.intro (show ∀ (ρ : Env) (w' : World), Fr No w w' → hasAll (ctx Tryd.prog w Tryd.f22.ntmps) ρ w' [(17, ob 20 ys)] → (apG 27 (AV.conc ρ (.own 17 1 0 20))).run Tryd.prog w' = .ok (.value (.pointer (some ⟨ρ.b 17, 0, none⟩))) w' from fun ρ w' _ hh => ap_own Tryd.underlying27 (by omega) hh.1.1 hyl) (And.intro (show ∀ D : Nat → Prop, (∀ k, k ∈ [17] → D k) → AV.ok D (.ptr 17 0) from fun D h => h 17 (by simp)) (And.intro htl (And.intro lc (show Value.bool (strNe T L) = Value.bool false from congrArg Value.bool hgr)))))))))))))) (by kernel_rfl) ?_
        intro ρ w' hf; exact ⟨rfl, hf.to_below⟩
      | true =>
        rw [hg] at hgr
        cases hsl : hasSmall r with
        | false =>
          rw [hsl] at hsm
          have hc : (asks s && strNe s K) = false := by rw [has, hsl]; simp
          simp only [hc, if_false, Bool.false_eq_true]
          refine calls_vm [.val (.string s)] (fn := Tryd.f22) Tryd.func22 (by kernel_rfl) (by kernel_rfl) (by kernel_rfl) (by simp [AV.okL, AV.ok]) ?_
          refine wpK_end (n := 400) (m := 0) (nx := 0) (hs := [(2, .row [.ints .u8 20 (List.replicate 20 0)]), (10, .callM [] (.tup [.own 3 1 0 40, .val (.bool true)]) (some (ob 40 v))), (22, .callM [3] (.own 17 1 0 20) (some (ob 20 ys))), (23, .asR [17] (.ptr 17 0)), (26, .as (.val (.string T))), (29, .call (.val (.string L))), (30, .eq (.val (.bool true))), (34, .call (.val (.string U))), (35, .eq (.val (.bool false)))]) (v := .tup [.agg [.ints .u8 20 ys], .val (.int .i64 0)]) follows (And.intro (fun ρ => (rfl : Seg.cells ρ [.ints .u8 20 (List.replicate 20 0)] = (Value.agg (ints .u8 (List.replicate 20 0))).cells.toList)) (And.intro (show Seg.ok No [.ints .u8 20 (List.replicate 20 0)] from ⟨rfl, trivial⟩) (And.intro (callPar (w := w) Tryd.f22.ntmps 3 40 vc hn) (And.intro (show Seg.ok No (ob 40 v).row from ⟨hn, trivial⟩) (And.intro (show ∀ D : Nat → Prop, D 3 → (∀ k, k ∈ ([] : List Nat) → D k) → AV.ok D (.tup [.own 3 1 0 40, .val (.bool true)]) from fun _ h _ => ⟨h, trivial, trivial⟩) (And.intro (Nat.le_refl 40) (And.intro hjn (And.intro (show Seg.ok No (ob 20 ys).row from ⟨hyl, trivial⟩) (And.intro (show ∀ D : Nat → Prop, D 17 → (∀ k, k ∈ [3] → D k) → AV.ok D (.own 17 1 0 20) from fun _ h _ => h) (And.intro (show ∀ (ρ : Env) (w' : World), Fr No w w' → hasAll (ctx Tryd.prog w Tryd.f22.ntmps) ρ w' [(17, ob 20 ys)] → (apG 27 (AV.conc ρ (.own 17 1 0 20))).run Tryd.prog w' = .ok (.value (.pointer (some ⟨ρ.b 17, 0, none⟩))) w' from fun ρ w' _ hh => ap_own Tryd.underlying27 (by omega) hh.1.1 hyl) (And.intro (show ∀ D : Nat → Prop, (∀ k, k ∈ [17] → D k) → AV.ok D (.ptr 17 0) from fun D h => h 17 (by simp)) (And.intro htl (And.intro lc (And.intro (show Value.bool (strNe T L) = Value.bool true from congrArg Value.bool hgr) (And.intro uc (show Value.bool (strNe T U) = Value.bool false from congrArg Value.bool hsm)))))))))))))))) (by kernel_rfl) ?_
          intro ρ w' hf; exact ⟨rfl, hf.to_below⟩
        | true =>
          rw [hsl] at hsm
          cases hk : strNe s K with
          | false =>
            have hc : (asks s && false) = false := by simp
            simp only [hc, if_false, Bool.false_eq_true]
            refine calls_vm [.val (.string s)] (fn := Tryd.f22) Tryd.func22 (by kernel_rfl) (by kernel_rfl) (by kernel_rfl) (by simp [AV.okL, AV.ok]) ?_
            refine wpK_end (n := 400) (m := 0) (nx := 0) (hs := [(2, .row [.ints .u8 20 (List.replicate 20 0)]), (10, .callM [] (.tup [.own 3 1 0 40, .val (.bool true)]) (some (ob 40 v))), (22, .callM [3] (.own 17 1 0 20) (some (ob 20 ys))), (23, .asR [17] (.ptr 17 0)), (26, .as (.val (.string T))), (29, .call (.val (.string L))), (30, .eq (.val (.bool true))), (34, .call (.val (.string U))), (35, .eq (.val (.bool true))), (40, .call (.val (.string K))), (41, .eq (.val (.bool false)))]) (v := .tup [.agg [.ints .u8 20 ys], .val (.int .i64 0)]) follows (And.intro (fun ρ => (rfl : Seg.cells ρ [.ints .u8 20 (List.replicate 20 0)] = (Value.agg (ints .u8 (List.replicate 20 0))).cells.toList)) (And.intro (show Seg.ok No [.ints .u8 20 (List.replicate 20 0)] from ⟨rfl, trivial⟩) (And.intro (callPar (w := w) Tryd.f22.ntmps 3 40 vc hn) (And.intro (show Seg.ok No (ob 40 v).row from ⟨hn, trivial⟩) (And.intro (show ∀ D : Nat → Prop, D 3 → (∀ k, k ∈ ([] : List Nat) → D k) → AV.ok D (.tup [.own 3 1 0 40, .val (.bool true)]) from fun _ h _ => ⟨h, trivial, trivial⟩) (And.intro (Nat.le_refl 40) (And.intro hjn (And.intro (show Seg.ok No (ob 20 ys).row from ⟨hyl, trivial⟩) (And.intro (show ∀ D : Nat → Prop, D 17 → (∀ k, k ∈ [3] → D k) → AV.ok D (.own 17 1 0 20) from fun _ h _ => h) (And.intro (show ∀ (ρ : Env) (w' : World), Fr No w w' → hasAll (ctx Tryd.prog w Tryd.f22.ntmps) ρ w' [(17, ob 20 ys)] → (apG 27 (AV.conc ρ (.own 17 1 0 20))).run Tryd.prog w' = .ok (.value (.pointer (some ⟨ρ.b 17, 0, none⟩))) w' from fun ρ w' _ hh => ap_own Tryd.underlying27 (by omega) hh.1.1 hyl) (And.intro (show ∀ D : Nat → Prop, (∀ k, k ∈ [17] → D k) → AV.ok D (.ptr 17 0) from fun D h => h 17 (by simp)) (And.intro htl (And.intro lc (And.intro (show Value.bool (strNe T L) = Value.bool true from congrArg Value.bool hgr) (And.intro uc (And.intro (show Value.bool (strNe T U) = Value.bool true from congrArg Value.bool hsm) (And.intro kc (show Value.bool (strNe s K) = Value.bool false from congrArg Value.bool hk)))))))))))))))))) (by kernel_rfl) ?_
            intro ρ w' hf; exact ⟨rfl, hf.to_below⟩
          | true =>
            have hc : (asks s && true) = true := by rw [has, hg, hsl]; rfl
            simp only [hc, if_true]
            refine calls_vm [.val (.string s)] (fn := Tryd.f22) Tryd.func22 (by kernel_rfl) (by kernel_rfl) (by kernel_rfl) (by simp [AV.okL, AV.ok]) ?_
            refine wpK_end (n := 400) (m := 0) (nx := 0) (hs := [(2, .row [.ints .u8 20 (List.replicate 20 0)]), (10, .callM [] (.tup [.own 3 1 0 40, .val (.bool true)]) (some (ob 40 v))), (22, .callM [3] (.own 17 1 0 20) (some (ob 20 ys))), (23, .asR [17] (.ptr 17 0)), (26, .as (.val (.string T))), (29, .call (.val (.string L))), (30, .eq (.val (.bool true))), (34, .call (.val (.string U))), (35, .eq (.val (.bool true))), (40, .call (.val (.string K))), (41, .eq (.val (.bool true)))]) (v := .tup [.agg [.cell (.val (.int .u8 0)), .cell (.val (.int .u8 0)), .cell (.val (.int .u8 0)), .cell (.val (.int .u8 0)), .cell (.val (.int .u8 0)), .cell (.val (.int .u8 0)), .cell (.val (.int .u8 0)), .cell (.val (.int .u8 0)), .cell (.val (.int .u8 0)), .cell (.val (.int .u8 0)), .cell (.val (.int .u8 0)), .cell (.val (.int .u8 0)), .cell (.val (.int .u8 0)), .cell (.val (.int .u8 0)), .cell (.val (.int .u8 0)), .cell (.val (.int .u8 0)), .cell (.val (.int .u8 0)), .cell (.val (.int .u8 0)), .cell (.val (.int .u8 0)), .cell (.val (.int .u8 0))], .val (.int .i64 84)]) follows (And.intro (fun ρ => (rfl : Seg.cells ρ [.ints .u8 20 (List.replicate 20 0)] = (Value.agg (ints .u8 (List.replicate 20 0))).cells.toList)) (And.intro (show Seg.ok No [.ints .u8 20 (List.replicate 20 0)] from ⟨rfl, trivial⟩) (And.intro (callPar (w := w) Tryd.f22.ntmps 3 40 vc hn) (And.intro (show Seg.ok No (ob 40 v).row from ⟨hn, trivial⟩) (And.intro (show ∀ D : Nat → Prop, D 3 → (∀ k, k ∈ ([] : List Nat) → D k) → AV.ok D (.tup [.own 3 1 0 40, .val (.bool true)]) from fun _ h _ => ⟨h, trivial, trivial⟩) (And.intro (Nat.le_refl 40) (And.intro hjn (And.intro (show Seg.ok No (ob 20 ys).row from ⟨hyl, trivial⟩) (And.intro (show ∀ D : Nat → Prop, D 17 → (∀ k, k ∈ [3] → D k) → AV.ok D (.own 17 1 0 20) from fun _ h _ => h) (And.intro (show ∀ (ρ : Env) (w' : World), Fr No w w' → hasAll (ctx Tryd.prog w Tryd.f22.ntmps) ρ w' [(17, ob 20 ys)] → (apG 27 (AV.conc ρ (.own 17 1 0 20))).run Tryd.prog w' = .ok (.value (.pointer (some ⟨ρ.b 17, 0, none⟩))) w' from fun ρ w' _ hh => ap_own Tryd.underlying27 (by omega) hh.1.1 hyl) (And.intro (show ∀ D : Nat → Prop, (∀ k, k ∈ [17] → D k) → AV.ok D (.ptr 17 0) from fun D h => h 17 (by simp)) (And.intro htl (And.intro lc (And.intro (show Value.bool (strNe T L) = Value.bool true from congrArg Value.bool hgr) (And.intro uc (And.intro (show Value.bool (strNe T U) = Value.bool true from congrArg Value.bool hsm) (And.intro kc (show Value.bool (strNe s K) = Value.bool true from congrArg Value.bool hk)))))))))))))))))) (by kernel_rfl) ?_
            intro ρ w' hf; exact ⟨rfl, hf.to_below⟩
    · simp only [h64, if_false]
      obtain ⟨n, hN⟩ : ∃ n, v.length = n := ⟨_, rfl⟩
      have hn := hN
      have hd : (!decide ((n : Int) = 40)) = true := by simp; omega
      refine calls_vm [.val (.string s)] (fn := Tryd.f22) Tryd.func22 (by kernel_rfl) (by kernel_rfl) (by kernel_rfl) (by simp [AV.okL, AV.ok]) ?_
      refine wpK_end (n := 400) (m := 0) (nx := 0) (hs := [(2, .row [.ints .u8 20 (List.replicate 20 0)]), (10, .callM [] (.tup [.own 3 1 0 n, .val (.bool true)]) (some (ob n v))), (18, .eq (.val (.bool true)))]) (v := .tup [.agg [.cell (.val (.int .u8 0)), .cell (.val (.int .u8 0)), .cell (.val (.int .u8 0)), .cell (.val (.int .u8 0)), .cell (.val (.int .u8 0)), .cell (.val (.int .u8 0)), .cell (.val (.int .u8 0)), .cell (.val (.int .u8 0)), .cell (.val (.int .u8 0)), .cell (.val (.int .u8 0)), .cell (.val (.int .u8 0)), .cell (.val (.int .u8 0)), .cell (.val (.int .u8 0)), .cell (.val (.int .u8 0)), .cell (.val (.int .u8 0)), .cell (.val (.int .u8 0)), .cell (.val (.int .u8 0)), .cell (.val (.int .u8 0)), .cell (.val (.int .u8 0)), .cell (.val (.int .u8 0))], .val (.int .i64 80)]) follows (And.intro (fun ρ => (rfl : Seg.cells ρ [.ints .u8 20 (List.replicate 20 0)] = (Value.agg (ints .u8 (List.replicate 20 0))).cells.toList)) (And.intro (show Seg.ok No [.ints .u8 20 (List.replicate 20 0)] from ⟨rfl, trivial⟩) (And.intro (callPar (w := w) Tryd.f22.ntmps 3 n vc hn) (And.intro (show Seg.ok No (ob n v).row from ⟨hn, trivial⟩) (And.intro (show ∀ D : Nat → Prop, D 3 → (∀ k, k ∈ ([] : List Nat) → D k) → AV.ok D (.tup [.own 3 1 0 n, .val (.bool true)]) from fun _ h _ => ⟨h, trivial, trivial⟩) (And.intro (Nat.le_refl n) (congrArg Value.bool hd))))))) (by kernel_rfl) ?_
      intro ρ w' hf; exact ⟨rfl, hf.to_below⟩
end Go.Proofs.YtkanjdllaikoaaaDoor

