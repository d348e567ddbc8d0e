/- A region in whatever order: each operation is told by itself, under what those ahead of it have left. -/
import Derived.Test.YthgnmpjcbicdhaaDoorBase
set_option linter.unusedVariables false
set_option linter.unusedSimpArgs false
namespace Go.Proofs.YthgnmpjcbicdhaaDoor
open Go Go.RowKit

section
variable {P : Program} {ops : Array Oper} {Q : Exit → Act → World → Prop}

/-- Those that an operation waits for are done. -/
def PreD (D : Nat → Prop) : List Edge → Prop
  | [] => True
  | e :: r => (Region.binds .any e = true → D e.on) ∧ PreD D r
theorem PreD.of {D : Nat → Prop} : ∀ (l : List Edge), (∀ e ∈ l, Region.binds .any e = true → D e.on) → PreD D l
  | [], _ => trivial
  | e :: r, h => ⟨h e (by simp), PreD.of r fun x hx => h x (by simp [hx])⟩

/-- What is to be shown of one operation. -/
def StepD (P : Program) (ops : Array Oper) (Q : Exit → Act → World → Prop) (Inv : (Nat → Prop) → Act → World → Prop) (i : Nat) (o : Oper) : Prop :=
  ∀ (D : Nat → Prop) a w, ¬ D i → PreD D o.after.toList → Inv D a w → wpOp P ops Q i (Inv (fun j => j = i ∨ D j)) a w
/-- Of all of them, from a place on. -/
def AllD (P : Program) (ops : Array Oper) (Q : Exit → Act → World → Prop) (Inv : (Nat → Prop) → Act → World → Prop) : Nat → List Oper → Prop
  | _, [] => True
  | i, o :: r => StepD P ops Q Inv i o ∧ AllD P ops Q Inv (i + 1) r
theorem AllD.at {Inv : (Nat → Prop) → Act → World → Prop} : ∀ (l : List Oper) (n : Nat), AllD P ops Q Inv n l → ∀ i o, l[i]? = some o → StepD P ops Q Inv (n + i) o
  | [], _, _, i, o, h => by simp at h
  | o' :: r, n, hA, 0, o, h => by
    have : o' = o := by simpa using h
    subst this; exact hA.1
  | o' :: r, n, hA, i + 1, o, h => by
    have := AllD.at r (n + 1) hA.2 i o (by simpa using h)
    rw [show n + (i + 1) = n + 1 + i by omega]; exact this
theorem AllD.cons {Inv : (Nat → Prop) → Act → World → Prop} {i : Nat} {o : Oper} {r : List Oper} (h : StepD P ops Q Inv i o) (t : AllD P ops Q Inv (i + 1) r) : AllD P ops Q Inv i (o :: r) := ⟨h, t⟩
theorem AllD.nil {Inv : (Nat → Prop) → Act → World → Prop} {i : Nat} : AllD P ops Q Inv i [] := trivial

/-- An operation without a guard. -/
theorem StepD.plain {Inv : (Nat → Prop) → Act → World → Prop} {i : Nat} {o : Oper} (hi : ops[i]? = some o) (hg : o.guard = none)
    (h : ∀ (D : Nat → Prop) a w, ¬ D i → PreD D o.after.toList → Inv D a w → ∀ K, Hid (∀ a w, Inv (fun j => j = i ∨ D j) a w → K a w) → o.wp P a w K Q) : StepD P ops Q Inv i o := by
  intro D a w hn hp hI
  unfold wpOp
  rw [hi]
  have hw : Region.wanted o (yielded ops a.tmps) = true := by unfold Region.wanted; rw [hg]
  simp only [hw, if_true]
  exact .inl (h D a w hn hp hI _ (fun _ _ h => h))
/-- One whose guard is false. -/
theorem StepD.skip {Inv : (Nat → Prop) → Act → World → Prop} {i : Nat} {o : Oper} (hi : ops[i]? = some o)
    (h : ∀ (D : Nat → Prop) a w, ¬ D i → PreD D o.after.toList → Inv D a w → Region.wanted o (yielded ops a.tmps) = false ∧ Inv (fun j => j = i ∨ D j) (a.put o.dst undef) w) : StepD P ops Q Inv i o := by
  intro D a w hn hp hI
  unfold wpOp
  rw [hi]
  obtain ⟨hw, hk⟩ := h D a w hn hp hI
  simp only [hw, Bool.false_eq_true, if_false]
  exact hk
/-- One whose guard is true. -/
theorem StepD.guarded {Inv : (Nat → Prop) → Act → World → Prop} {i : Nat} {o : Oper} (hi : ops[i]? = some o)
    (h : ∀ (D : Nat → Prop) a w, ¬ D i → PreD D o.after.toList → Inv D a w → Region.wanted o (yielded ops a.tmps) = true ∧ ∀ K, Hid (∀ a w, Inv (fun j => j = i ∨ D j) a w → K a w) → o.wp P a w K Q) : StepD P ops Q Inv i o := by
  intro D a w hn hp hI
  unfold wpOp
  rw [hi]
  obtain ⟨hw, hk⟩ := h D a w hn hp hI
  simp only [hw, if_true]
  exact .inl (hk _ (fun _ _ h => h))

/-- Each edge that binds leads to an operation further ahead. -/
def acyc (ops : Array Oper) : Bool := ops.toList.zipIdx.all fun (o, i) => o.after.toList.all fun e => !Region.binds .any e || decide (e.on < i)
theorem acyc_at (h : acyc ops = true) {i : Nat} {o : Oper} (hi : ops[i]? = some o) : ∀ e ∈ o.after, Region.binds .any e = true → e.on < i := by
  intro e he hb
  unfold acyc at h
  rw [List.all_eq_true] at h
  have h1 := h (o, i) (by rw [List.mem_zipIdx_iff_getElem?]; simpa using hi)
  simp only [List.all_eq_true] at h1
  have h2 := h1 e (by simpa using he)
  simpa [hb] using h2

theorem told_any {Inv : (Nat → Prop) → Act → World → Prop} (hac : acyc ops = true) (hs : ∀ i o, ops[i]? = some o → StepD P ops Q Inv i o)
    (he : ∀ D a w, (∀ j, j < ops.size → D j) → Inv D a w → Q .normal a w) :
    ∀ (fuel : Nat) (listed : Array Bool) a w, listed.size = ops.size → (listed.toList.filter (! ·)).length ≤ fuel →
      Inv (fun j => listed.getD j false = true) a w → wpAny P .any ops Q fuel listed a w := by
  have hend : ∀ (listed : Array Bool) a w, listed.size = ops.size → Region.ready .any ops listed = [] → Inv (fun j => listed.getD j false = true) a w → Q .normal a w := by
    intro listed a w hl hr hI
    refine he _ a w ?_ hI
    intro j
    induction j using Nat.strongRecOn with
    | _ j ih =>
      intro hj
      cases hb : listed.getD j false with
      | true => rfl
      | false =>
        exfalso
        obtain ⟨o, ho⟩ : ∃ o, ops[j]? = some o := ⟨_, Array.getElem?_eq_getElem hj⟩
        have hm : j ∈ Region.ready .any ops listed := mem_ready.2 ⟨by
          have : j < listed.size := by omega
          simp [this] at hb ⊢; exact hb, o, ho, fun e hee hbe => ih e.on (acyc_at hac ho e hee hbe) (by have := acyc_at hac ho e hee hbe; omega)⟩
        rw [hr] at hm; cases hm
  intro fuel
  induction fuel with
  | zero =>
    intro listed a w hl hc hI
    have hall : ∀ i, i < listed.size → listed.getD i true = true := by
      intro i hi
      have h0 : listed.toList.filter (! ·) = [] := List.length_eq_zero_iff.1 (by omega)
      rw [List.filter_eq_nil_iff] at h0
      have := h0 listed[i] (by simp)
      simpa [hi] using this
    have hr : Region.ready .any ops listed = [] := by
      refine List.eq_nil_iff_forall_not_mem.2 fun i hi => ?_
      obtain ⟨h1, o, ho, _⟩ := mem_ready.1 hi
      have hlt : i < ops.size := (Array.getElem?_eq_some_iff.1 ho).1
      rw [hall i (by omega)] at h1; cases h1
    exact ⟨hr, hend listed a w hl hr hI⟩
  | succ fuel ih =>
    intro listed a w hl hc hI
    refine ⟨fun hr => hend listed a w hl hr hI, fun i hi => ?_⟩
    obtain ⟨h1, o, ho, hpre⟩ := mem_ready.1 hi
    have hlt : i < ops.size := (Array.getElem?_eq_some_iff.1 ho).1
    have hli : i < listed.size := by omega
    have hn : ¬ (listed.getD i false = true) := by simp [hli] at h1 ⊢; exact h1
    refine wpOp_mono ?_ (hs i o ho _ a w hn (PreD.of _ fun e hee => hpre e (by simpa using hee)) hI)
    intro a' w' hI'
    refine ih _ a' w' (by simpa using hl) ?_ ?_
    · have hb : listed[i] = false := by simp [hli] at h1; exact h1
      have hs1 : listed.toList = listed.toList.take i ++ listed[i] :: listed.toList.drop (i + 1) := by
        rw [← Array.getElem_toList, List.getElem_cons_drop, List.take_append_drop]
      have hs2 : (listed.setIfInBounds i true).toList = listed.toList.take i ++ true :: listed.toList.drop (i + 1) := by
        rw [Array.toList_setIfInBounds]; exact List.set_eq_take_append_cons_drop.trans (by simp [hli])
      rw [hs1, hb] at hc
      rw [hs2]
      simp only [List.filter_append, List.length_append, List.filter_cons, Bool.not_false, Bool.not_true, if_true, Bool.false_eq_true, if_false, List.length_cons] at hc ⊢
      omega
    · have : (fun j => (listed.setIfInBounds i true).getD j false = true) = (fun j => j = i ∨ listed.getD j false = true) := by
        funext j
        by_cases hji : j = i
        · subst hji; simp [hli]
        · rw [getD_set_ne false (Ne.symm hji)]; simp [hji]
      rw [this]; exact hI'

/-- THE RULE. -/
theorem wp_region_told {id : Nat} {a : Act} {w : World} (Inv : (Nat → Prop) → Act → World → Prop) (hm : P.follows .mixedOrders = true) (hac : acyc ops = true)
    (h0 : Inv (fun _ => False) a w.drew) (hs : AllD P ops Q Inv 0 ops.toList) (he : ∀ D a w, (∀ j, j < ops.size → D j) → Inv D a w → Q .normal a w) :
    (Code.region id ops true).wp P Q a w := by
  refine wp_region_any hm (told_any hac (fun i o ho => ?_) he ops.size _ a _ (by simp) (by simp) ?_)
  · have := AllD.at ops.toList 0 hs i o (by simpa using ho)
    rwa [Nat.zero_add] at this
  · have : (fun j => (Array.replicate ops.size false).getD j false = true) = (fun _ => False) := by
      funext j; simp [Array.getElem?_replicate]; split <;> simp
    rw [this]; exact h0
theorem set_self (l : List Value) (d : Nat) : l.set d (l.getD d undef) = l := by
  refine List.ext_getElem (by simp) fun i h1 h2 => ?_
  rw [List.getElem_set]
  split
  · subst_vars; simp [List.getD_eq_getElem?_getD, h2]
  · rfl
/-- As the walk meets it: what is told stands behind a variable. -/
theorem wp_region_told_at {id : Nat} {l : List Value} {w : World} (I : List Value → (Nat → Prop) → Act → World → Prop) (hm : P.follows .mixedOrders = true) (hac : acyc ops = true)
    (h0 : ∀ l0, I l0 (fun _ => False) ⟨l0.toArray, []⟩ w.drew) (hs : AllD P ops Q (I l) 0 ops.toList)
    (he : ∀ D a' w', (∀ j, j < ops.size → D j) → I l D a' w' → Q .normal a' w') : (Code.region id ops true).wp P Q ⟨l.toArray, []⟩ w :=
  wp_region_told (I l) hm hac (h0 l) hs he
end

/-- A block that operation i makes and operation s fills. -/
def Blk (D : Nat → Prop) (i s : Nat) (V w : World) (x : Value) (B : Nat) (z c : Array Value) (t : TypeId) : Prop :=
  (D s → D i) ∧ (D i → x = .pointer (some ⟨B, 0, none⟩) ∧ V.heap.size ≤ B ∧ (D s → Box w B c t) ∧ (¬ D s → Box w B z t))
theorem Blk.start {i s : Nat} {V w : World} {x : Value} {B : Nat} {z c : Array Value} {t : TypeId} : Blk (fun _ => False) i s V w x B z c t := ⟨fun h => h, fun h => h.elim⟩
theorem Blk.next {D : Nat → Prop} {i s k : Nat} {V w w' : World} {x : Value} {B : Nat} {z c : Array Value} {t : TypeId} (h : Blk D i s V w x B z c t) (hi : i ≠ k) (hs : s ≠ k)
    (hw : D i → ∀ c, Box w B c t → Box w' B c t) : Blk (fun j => j = k ∨ D j) i s V w' x B z c t :=
  ⟨fun hd => .inr (h.1 (hd.resolve_left hs)), fun hd => by
    have hd := hd.resolve_left hi
    obtain ⟨h1, h2, h3, h4⟩ := h.2 hd
    exact ⟨h1, h2, fun e => hw hd _ (h3 (e.resolve_left hs)), fun e => hw hd _ (h4 fun q => e (.inr q))⟩⟩
theorem Blk.made {D : Nat → Prop} {i s : Nat} {V w : World} {y : Value} {B' : Nat} {z c : Array Value} {t : TypeId} (h : Blk D i s V w y B' z c t) (hn : ¬ D i) (his : s ≠ i) (hV : V.heap.size ≤ w.heap.size) :
    Blk (fun j => j = i ∨ D j) i s V (w.alloc (.cells z t)) (.pointer (some ⟨w.heap.size, 0, none⟩)) w.heap.size z c t :=
  ⟨fun hd => .inl rfl, fun _ => ⟨rfl, hV, fun hd => absurd (h.1 (hd.resolve_left his)) hn, fun _ => Box.new _ _ _ _ rfl⟩⟩
theorem Blk.filled {D : Nat → Prop} {i s : Nat} {V w w' : World} {x : Value} {B : Nat} {z c : Array Value} {t : TypeId} (h : Blk D i s V w x B z c t) (hi : D i) (hn : ¬ D s)
    (hw : Box w B z t → Box w' B c t) : Blk (fun j => j = s ∨ D j) i s V w' x B z c t := by
  obtain ⟨h1, h2, h3, h4⟩ := h.2 hi
  exact ⟨fun _ => .inr hi, fun _ => ⟨h1, h2, fun _ => hw (h4 hn), fun e => absurd (.inl rfl) e⟩⟩
/-- Two of them are not one. -/
def NeB (D : Nat → Prop) (i j : Nat) (B C : Nat) : Prop := D i → D j → B ≠ C
theorem NeB.start {i j B C : Nat} : NeB (fun _ => False) i j B C := fun h => h.elim
theorem NeB.next {D : Nat → Prop} {i j k B C : Nat} (h : NeB D i j B C) (hi : i ≠ k) (hj : j ≠ k) : NeB (fun x => x = k ∨ D x) i j B C :=
  fun a b => h (a.resolve_left hi) (b.resolve_left hj)
theorem Blk.lt {D : Nat → Prop} {i s : Nat} {V w : World} {x : Value} {B : Nat} {z c : Array Value} {t : TypeId} (h : Blk D i s V w x B z c t) (hi : D i) : B < w.heap.size := by
  obtain ⟨_, _, h3, h4⟩ := h.2 hi
  by_cases hs : D s
  · exact (h3 hs).lt
  · exact (h4 hs).lt
theorem NeB.left {D : Nat → Prop} {i s k : Nat} {V w : World} {x : Value} {B : Nat} {z c : Array Value} {t : TypeId} (h : Blk D i s V w x B z c t) (hk : i ≠ k) : NeB (fun j => j = k ∨ D j) i k B w.heap.size :=
  fun a _ => by have := h.lt (a.resolve_left hk); omega
theorem NeB.right {D : Nat → Prop} {i s k : Nat} {V w : World} {x : Value} {B : Nat} {z c : Array Value} {t : TypeId} (h : Blk D i s V w x B z c t) (hk : i ≠ k) : NeB (fun j => j = k ∨ D j) k i w.heap.size B :=
  fun _ a => by have := h.lt (a.resolve_left hk); omega
/-- A block that stood ahead and that operation s fills anew. -/
def OldB (D : Nat → Prop) (s : Nat) (w : World) (B : Nat) (z c : Array Value) (t : TypeId) : Prop := (D s → Box w B c t) ∧ (¬ D s → Box w B z t)
theorem OldB.start {s : Nat} {w : World} {B : Nat} {z c : Array Value} {t : TypeId} (h : Box w B z t) : OldB (fun _ => False) s w B z c t := ⟨fun h => h.elim, fun _ => h⟩
theorem OldB.next {D : Nat → Prop} {s k : Nat} {w w' : World} {B : Nat} {z c : Array Value} {t : TypeId} (h : OldB D s w B z c t) (hs : s ≠ k) (hw : ∀ c, Box w B c t → Box w' B c t) : OldB (fun j => j = k ∨ D j) s w' B z c t :=
  ⟨fun e => hw _ (h.1 (e.resolve_left hs)), fun e => hw _ (h.2 fun q => e (.inr q))⟩
theorem OldB.filled {D : Nat → Prop} {s : Nat} {w w' : World} {B : Nat} {z c : Array Value} {t : TypeId} (h : OldB D s w B z c t) (hn : ¬ D s) (hw : Box w B z t → Box w' B c t) : OldB (fun j => j = s ∨ D j) s w' B z c t :=
  ⟨fun _ => hw (h.2 hn), fun e => absurd (.inl rfl) e⟩
/-- The frame: these slots hold what x says. -/
def setAll (l : List Value) (x : Nat → Value) : List Nat → List Value
  | [] => l
  | d :: r => (setAll l x r).set d (x d)
def upd (x : Nat → Value) (d : Nat) (v : Value) : Nat → Value := fun t => if t = d then v else x t
theorem setAll_self (l : List Value) : ∀ r, setAll l (fun t => l.getD t undef) r = l
  | [] => rfl
  | d :: r => by rw [setAll, setAll_self l r]; exact set_self l d
theorem setAll_upd (l : List Value) (x : Nat → Value) (d : Nat) (v : Value) : ∀ r, setAll l (upd x d v) r = if d ∈ r then (setAll l x r).set d v else setAll l x r
  | [] => by simp [setAll]
  | e :: r => by
    simp only [setAll]
    rw [setAll_upd l x d v r]
    by_cases he : e = d
    · subst he
      simp only [upd, if_true, List.mem_cons, true_or]
      split <;> simp
    · have hd : ¬ d = e := fun h => he h.symm
      simp only [upd, if_neg he, List.mem_cons, hd, false_or]
      split
      · rw [List.set_comm _ _ (fun h => he h.symm)]
      · rfl
theorem setAll_length (l : List Value) (x : Nat → Value) : ∀ r, (setAll l x r).length = l.length
  | [] => rfl
  | e :: r => by simp [setAll, setAll_length l x r]
theorem setAll_at (l : List Value) (x : Nat → Value) (t : Nat) (ht : t < l.length) : ∀ r, t ∈ r → (setAll l x r)[t]? = some (x t)
  | e :: r, h => by
    simp only [setAll]
    by_cases he : e = t
    · subst he; rw [List.getElem?_set_self (by rw [setAll_length]; exact ht)]
    · rw [List.getElem?_set_ne he]
      exact setAll_at l x t ht r (by rcases List.mem_cons.1 h with h | h; exact absurd h.symm he; exact h)
theorem setAll_off (l : List Value) (x : Nat → Value) (t : Nat) : ∀ r, t ∉ r → (setAll l x r)[t]? = l[t]?
  | [], _ => rfl
  | e :: r, h => by
    simp only [setAll]
    rw [List.getElem?_set_ne (fun he => h (by simp [he]))]
    exact setAll_off l x t r (fun hr => h (by simp [hr]))
/-- A frame with one slot written. -/
theorem put_set (l : List Value) (x : Nat → Value) (r : List Nat) (d : Nat) (v : Value) (hd : r.contains d = true) : (⟨(setAll l x r).toArray.setIfInBounds d v, []⟩ : Act) = ⟨(setAll l (upd x d v) r).toArray, []⟩ := by
  rw [setAll_upd, if_pos (by simpa using hd), List.setIfInBounds_toArray]
/-- What each operation that is done has left in its slot. -/
def Vals (T : List (Nat × Nat)) (vs : List Value) (D : Nat → Prop) (x : Nat → Value) : Prop := ∀ i d, (i, d) ∈ T → D i → x d = vs.getD i undef
theorem Vals.start {T : List (Nat × Nat)} {vs : List Value} {x : Nat → Value} : Vals T vs (fun _ => False) x := fun _ _ _ h => h.elim
theorem Vals.read {T : List (Nat × Nat)} {vs : List Value} {D : Nat → Prop} {x : Nat → Value} (h : Vals T vs D x) (i d : Nat) (hm : T.contains (i, d) = true) (hd : D i) {v : Value} (hv : vs.getD i undef = v) : upd x d v = x := by
  funext t
  unfold upd
  split
  · rename_i e; subst e; rw [h i t (by simpa using hm) hd, hv]
  · rfl
theorem upd_of {x : Nat → Value} {d : Nat} {v : Value} (h : x d = v) : upd x d v = x := by
  funext t; unfold upd; split
  · rename_i e; subst e; exact h.symm
  · rfl
theorem slot_at {l : List Value} {x : Nat → Value} {ds : List Nat} {a : Act} (ha : a = ⟨(setAll l x ds).toArray, []⟩) (t : Nat) (hd : (ds.contains t && decide (t < l.length)) = true) {v : Value} (e : x t = v) : a.tmps[t]?.getD undef = v := by
  rw [Bool.and_eq_true] at hd
  rw [ha]
  show (setAll l x ds).toArray[t]?.getD undef = v
  rw [List.getElem?_toArray, setAll_at l x t (by simpa using hd.2) ds (by simpa using hd.1), e]; rfl
theorem slot_off {l : List Value} {x : Nat → Value} {ds : List Nat} {a : Act} (ha : a = ⟨(setAll l x ds).toArray, []⟩) (t : Nat) (hd : (!ds.contains t) = true) {v : Value} (e : l[t]?.getD undef = v) : a.tmps[t]?.getD undef = v := by
  rw [ha]
  show (setAll l x ds).toArray[t]?.getD undef = v
  rw [List.getElem?_toArray, setAll_off l x t ds (by simpa using hd), e]
theorem slot_some {l : List Value} {x : Nat → Value} {ds : List Nat} {a : Act} (ha : a = ⟨(setAll l x ds).toArray, []⟩) (t : Nat) (hd : (ds.contains t && decide (t < l.length)) = true) {v : Value} (e : x t = v) : a.tmps[t]? = some v := by
  rw [Bool.and_eq_true] at hd
  rw [ha]
  show (setAll l x ds).toArray[t]? = some v
  rw [List.getElem?_toArray, setAll_at l x t (by simpa using hd.2) ds (by simpa using hd.1), e]
theorem wanted_at {ops : Array Oper} {a : Act} {o : Oper} {j t : Nat} {want v r : Bool} (hg : o.guard = some (j, want)) (ho : (ops[j]?).bind (·.dst) = some t) (hv : a.tmps[t]? = some (.bool v)) (hr : (v == want) = r) : Region.wanted o (yielded ops a.tmps) = r := by
  unfold Region.wanted yielded
  rw [hg]
  simp only [ho, Option.bind_some, hv]
  rw [← hr]; cases v <;> cases want <;> rfl
theorem put_eq {l : List Value} {x : Nat → Value} {ds : List Nat} {a : Act} (ha : a = ⟨(setAll l x ds).toArray, []⟩) (d : Nat) (v : Value) (hd : ds.contains d = true) : (⟨a.tmps.setIfInBounds d v, a.defers⟩ : Act) = ⟨(setAll l (upd x d v) ds).toArray, []⟩ := by
  rw [ha]; exact put_set l x ds d v hd
theorem put_at {l : List Value} {x : Nat → Value} {ds : List Nat} {a : Act} (ha : a = ⟨(setAll l x ds).toArray, []⟩) (d : Nat) (v : Value) (hd : ds.contains d = true) : a.put (some d) v = ⟨(setAll l (upd x d v) ds).toArray, []⟩ := by
  rw [ha]; exact put_set l x ds d v hd
theorem Vals.got {T : List (Nat × Nat)} {vs : List Value} {D : Nat → Prop} {x : Nat → Value} (h : Vals T vs D x) (i d : Nat) (hm : T.contains (i, d) = true) (hd : D i) {v : Value} (hv : vs.getD i undef = v) : x d = v := by
  rw [h i d (by simpa using hm) hd, hv]
theorem Vals.next {T : List (Nat × Nat)} {vs : List Value} {D : Nat → Prop} {x : Nat → Value} (h : Vals T vs D x) (k d : Nat) (hT : (T.all fun q => (q.1 == k) == (q.2 == d)) = true) {v : Value} (hv : vs.getD k undef = v) :
    Vals T vs (fun j => j = k ∨ D j) (upd x d v) := by
  intro i e hm hd
  rw [List.all_eq_true] at hT
  have h1 := hT (i, e) hm
  simp only [beq_iff_eq] at h1
  unfold upd
  by_cases hi : i = k
  · subst hi; rw [beq_self_eq_true] at h1; rw [if_pos (by simpa using h1.symm), hv]
  · rw [if_neg (by intro he; subst he; rw [beq_self_eq_true] at h1; exact hi (by simpa using h1))]
    exact h i e hm (hd.resolve_left hi)
theorem Vals.other {T : List (Nat × Nat)} {vs : List Value} {D : Nat → Prop} {x : Nat → Value} (h : Vals T vs D x) (k d : Nat) (hT : (T.all fun q => !(q.1 == k) && !(q.2 == d)) = true) (v : Value) :
    Vals T vs (fun j => j = k ∨ D j) (upd x d v) := by
  intro i e hm hd
  rw [List.all_eq_true] at hT
  have h1 := hT (i, e) hm
  simp only [Bool.and_eq_true, Bool.not_eq_true', beq_eq_false_iff_ne] at h1
  unfold upd
  rw [if_neg h1.2]
  exact h i e hm (hd.resolve_left h1.1)
theorem Vals.skip {T : List (Nat × Nat)} {vs : List Value} {D : Nat → Prop} {x : Nat → Value} (h : Vals T vs D x) (k : Nat) (hT : (T.all fun q => !(q.1 == k)) = true) :
    Vals T vs (fun j => j = k ∨ D j) x := by
  intro i e hm hd
  rw [List.all_eq_true] at hT
  have h1 := hT (i, e) hm
  simp only [Bool.not_eq_true', beq_eq_false_iff_ne] at h1
  exact h i e hm (hd.resolve_left h1)
theorem Vals.same {T : List (Nat × Nat)} {vs : List Value} {D : Nat → Prop} {x y : Nat → Value} (h : Vals T vs D x) (e : y = x) : Vals T vs D y := e ▸ h
/-- The value of a temporary. -/
theorem told_next {D : Nat → Prop} {i k : Nat} {p : Prop} (h : D i → p) (hi : i ≠ k) : (i = k ∨ D i) → p := fun a => h (a.resolve_left hi)
end Go.Proofs.YthgnmpjcbicdhaaDoor

