/- The abstract machine: the world as it is now is taken for the first one; calls with whatever result, the state's own blocks kept. -/
import Derived.Test.YthgnmpjcbicdhaaDoorVmG
set_option linter.unusedVariables false
set_option linter.unusedSimpArgs false
namespace Go.Proofs.YthgnmpjcbicdhaaDoor
open Go Go.RowKit
/-- The blocks that a state holds. -/
def Own (ρ : Env) (mem : List (Nat × Vblk)) (B : Nat) : Prop := ∃ k b, look k mem = some b ∧ b.alive ρ k ∧ B = ρ.b k
theorem RelM.rebase {Γ : Ctx} {ρ : Env} {mem : List (Nat × Vblk)} {w : World} (h : RelM Γ ρ mem w) : RelM (ctxF Γ.P w (Own ρ mem) ρ 0 Γ.size) ρ mem w :=
  ⟨h.sits, h.inj, fun k b hk ha => .inl ⟨k, b, hk, ha, rfl⟩, fun k hk => absurd hk (Nat.not_lt_zero k), Fr.refl _ _⟩
theorem RelM.own {Γ : Ctx} {ρ : Env} {mem : List (Nat × Vblk)} {w : World} (h : RelM Γ ρ mem w) {B : Nat} (hB : Own ρ mem B) : (Γ.F B ∨ Γ.w0.heap.size ≤ B) ∧ B < w.heap.size := by
  obtain ⟨k, b, hk, ha, rfl⟩ := hB
  exact ⟨h.home k b hk ha, (h.sits k b hk).1.lt ha⟩
theorem own_nil {ρ : Env} {B : Nat} (h : Own ρ [] B) : False := by
  obtain ⟨k, b, hk, _⟩ := h
  simp [look] at hk
theorem own_one {ρ : Env} {k : Nat} {b : Vblk} {B : Nat} (h : Own ρ [(k, b)] B) : b.alive ρ k ∧ B = ρ.b k := by
  obtain ⟨j, c, hk, ha, hB⟩ := h
  simp only [look] at hk
  split at hk
  · rename_i hb
    have := Nat.eq_of_beq_eq_true hb
    subst this
    simp only [Option.some.injEq] at hk
    subst hk
    exact ⟨ha, hB⟩
  · cases hk
theorem own_cons {ρ : Env} {k : Nat} {b : Vblk} {r : List (Nat × Vblk)} {B : Nat} (h : Own ρ ((k, b) :: r) B) : (b.alive ρ k ∧ B = ρ.b k) ∨ Own ρ r B := by
  obtain ⟨j, c, hk, ha, hB⟩ := h
  simp only [look] at hk
  split at hk
  · rename_i hb
    have := Nat.eq_of_beq_eq_true hb
    subst this
    simp only [Option.some.injEq] at hk
    subst hk
    exact .inl ⟨ha, hB⟩
  · exact .inr ⟨j, c, hk, ha, hB⟩
/-- Two frames, one behind the other: what the second may write is what the first may, or new. -/
theorem Fr.then {F G : Nat → Prop} {a b c : World} (h : Fr F a b) (hG : ∀ B, G B → F B ∨ a.heap.size ≤ B) (k : Fr G b c) : Fr F a c :=
  ⟨k.os.trans h.os, k.tape.trans h.tape, k.output.trans h.output, Nat.le_trans h.size k.size, fun i hi hf => (k.block i (Nat.lt_of_lt_of_le hi h.size) (fun hg => (hG i hg).elim hf (fun h => by omega))).trans (h.block i hi hf)⟩
/-- The world as it is now is the first one. -/
theorem wpK_rebase {Γ : Ctx} {fn : Func} {R : Ending → World → Prop} {st : List Item} {s : AS} (h : ∀ ρ w, Fr Γ.F Γ.w0 w → RelM Γ ρ s.mem w → wpK (ctxF Γ.P w (Own ρ s.mem) ρ 0 Γ.size) fn R st s) : wpK Γ fn R st s := by
  intro ρ a w hR
  exact h ρ w hR.mem.fr hR.mem ρ a w ⟨hR.mem.rebase, hR.tm, hR.df, hR.size⟩
theorem wpL_rebase {Γ : Ctx} {fn : Func} {R : Ending → World → Prop} {ops : Array Oper} {l : List Oper} {st : List Item} {s : AS} (h : ∀ ρ w, Fr Γ.F Γ.w0 w → RelM Γ ρ s.mem w → wpL (ctxF Γ.P w (Own ρ s.mem) ρ 0 Γ.size) fn R ops l st s) : wpL Γ fn R ops l st s := by
  intro ρ a w hR
  exact h ρ w hR.mem.fr hR.mem ρ a w ⟨hR.mem.rebase, hR.tm, hR.df, hR.size⟩
/-- Part of a region, up to a call; the slots ts are kept, names among them. -/
def toCallX (Γ : Ctx) (ops : Array Oper) (i nx : Nat) (hs : List (Nat × Hint)) (l : List Oper) (ts : List Nat) (s : AS) : Option (List (Nat × AV) × List (Nat × Vblk) × FuncId × List Value × Prop) :=
  match l.drop i with
  | [] => none
  | o :: _ => match runOps Γ ops nx 0 (l.take i) hs s with
    | some (tr, _, s1) => match wantedA ops s1.tm o, dstOk Γ o, isSelect o.op, allV s1.tm o.op.operands.toList with
      | some true, true, false, true => match prun Γ.P (execOp (evV s1.tm) o) with
        | some (.enter f args) => some (pickT s1.tm ts, s1.mem, f, args.toList, allP (trVc tr))
        | _ => none
      | _, _, _, _ => none
    | none => none
/-- A call of plain values, with whatever it does to blocks that are not the state's; the state's are kept. -/
theorem wpL_callX {Γ : Ctx} {fn : Func} {R : Ending → World → Prop} {ops : Array Oper} {l : List Oper} {st : List Item} {s : AS} (i : Nat) {nx : Nat} {hs : List (Nat × Hint)} (ts : List Nat) {tm : List (Nat × AV)} {mem : List (Nat × Vblk)} {f : FuncId} {args : List Value} {A : Prop} (hA : A)
    (h : toCallX Γ ops i nx hs l ts s = some (tm, mem, f, args, A))
    (hk : ∀ ρ w, Fr Γ.F Γ.w0 w → RelM Γ ρ mem w → Calls Γ.P f args.toArray w fun e w2 => ∃ v, e = .returned v ∧ (∀ B, Own ρ mem B → w2.heap[B]? = w.heap[B]?) ∧ wpL (ctxF Γ.P w2 (Own ρ mem) ρ 0 Γ.size) fn R ops (l.drop (i + 1)) st ⟨setD (dstAt l i) (some (.val v)) tm, mem⟩) : wpL Γ fn R ops l st s := by
  unfold toCallX at h
  unfold dstAt at hk
  have hdrop : l.drop (i + 1) = (l.drop i).drop 1 := by rw [List.drop_drop]
  rw [hdrop] at hk
  have hl : l = l.take i ++ l.drop i := (List.take_append_drop i l).symm
  generalize l.take i = pre at *
  generalize l.drop i = post at *
  subst hl
  cases post with
  | nil => simp at h
  | cons o rest =>
    simp only at h hk
    split at h
    · rename_i tr hs1 s1 hrun
      split at h
      · rename_i hw hd hsel hall
        split at h
        · rename_i f' args' hx
          simp only [Option.some.injEq, Prod.mk.injEq] at h
          obtain ⟨rfl, rfl, rfl, rfl, rfl⟩ := h
          intro ρ a w hR
          refine runOps_app (o :: rest) pre 0 hs s tr hs1 s1 hrun (allP_mem _ hA) ρ a w hR ?_
          intro ρ' a' w' hR'
          simp only [wpList]
          rw [if_pos (wantedA_spec hR' hw)]
          refine .inl ?_
          have he : execOp a'.eval o = execOp (evV s1.tm) o := execOp_congr o (isSelect_no hsel) fun x hx => by
            obtain ⟨u, z, hu, hz⟩ := allV_spec _ hall x (by simpa using hx)
            unfold evV
            rw [hu]
            simp only [hz]
            rw [(hR'.ev hu).1]
            exact AV.conc_toV ρ' u z hz
          unfold Oper.wp
          rw [he, prun_run Γ.P _ _ hx w']
          rw [Oper.upon_enter]
          have hcall := hk ρ' w' hR'.mem.fr hR'.mem
          rw [Array.toArray_toList] at hcall
          refine Calls.mono hcall ?_
          rintro e w2 ⟨v, rfl, hkeep, hL⟩
          have hM2 : RelM (ctxF Γ.P w2 (Own ρ' s1.mem) ρ' 0 Γ.size) ρ' s1.mem w2 := by
            refine ⟨fun k b hkb => ?_, hR'.mem.inj, fun k b hkb ha => .inl ⟨k, b, hkb, ha, rfl⟩, fun k hkk => absurd hkk (Nat.not_lt_zero k), Fr.refl _ _⟩
            obtain ⟨h1, h2⟩ := hR'.mem.sits k b hkb
            exact ⟨h1.stay rfl ⟨rfl, rfl⟩ (fun ha => hkeep _ ⟨k, b, hkb, ha, rfl⟩), h2⟩
          refine hL ρ' (a'.put o.dst v) w2 ⟨hM2, ?_, ?_, ?_⟩
          · intro t u ht
            unfold dstOk at hd
            cases hdst : o.dst with
            | none =>
              rw [hdst] at ht
              simp only [setD] at ht
              have := hR'.tm t u (look_pickT ht)
              exact ⟨by simpa [Act.put] using this.1, this.2⟩
            | some d =>
              rw [hdst] at ht hd
              simp only [setD] at ht
              have hput := (hR'.put d (Nat.le_of_ble_eq_true hd) (.val v) (by simp [AV.ok])).tm t u
              rw [look_lay] at ht
              simp only [look_lay] at hput
              split at ht
              · rename_i e
                rw [if_pos e] at hput
                have := hput ht
                exact ⟨by simpa [AV.conc] using this.1, this.2⟩
              · rename_i e
                rw [if_neg e] at hput
                have := hput (look_pickT ht)
                exact ⟨by simpa [AV.conc] using this.1, this.2⟩
          · cases hdst : o.dst <;> simp [Act.put, hR'.df]
          · cases hdst : o.dst <;> simp [Act.put, hR'.size, ctxF]
        · cases h
      · cases h
    · cases h
mutual
/-- The names in a value are among these. -/
def AV.within (ks : List Nat) : AV → Bool
  | .val _ => true
  | .ptr k _ => ks.any (Nat.beq k)
  | .elt k _ _ => ks.any (Nat.beq k)
  | .lst k _ _ _ _ => ks.any (Nat.beq k)
  | .own k _ _ _ => ks.any (Nat.beq k)
  | .agg cs => Seg.within ks cs
  | .tup cs => AV.withinL ks cs
  | .ifc _ x => AV.within ks x
def AV.withinL (ks : List Nat) : List AV → Bool
  | [] => true
  | x :: r => AV.within ks x && AV.withinL ks r
def Seg.within (ks : List Nat) : List Seg → Bool
  | [] => true
  | .cell x :: r => AV.within ks x && Seg.within ks r
  | _ :: r => Seg.within ks r
end
theorem any_mem {ks : List Nat} {k : Nat} (h : ks.any (Nat.beq k) = true) : k ∈ ks := by
  obtain ⟨j, hj, hb⟩ := List.any_eq_true.1 h
  rw [Nat.eq_of_beq_eq_true hb]
  exact hj
section
variable {D E : Nat → Prop} {ks : List Nat}
mutual
theorem AV.within_ok (h : ∀ k, k ∈ ks → D k → E k) : ∀ x : AV, x.within ks = true → AV.ok D x → AV.ok E x
  | .val _, _, _ => by simp [AV.ok]
  | .ptr k _, hw, ho => by simp only [AV.ok, AV.within] at *; exact h k (any_mem hw) ho
  | .elt k _ _, hw, ho => by simp only [AV.ok, AV.within] at *; exact h k (any_mem hw) ho
  | .lst k _ _ _ _, hw, ho => by simp only [AV.ok, AV.within] at *; exact h k (any_mem hw) ho
  | .own k _ _ _, hw, ho => by simp only [AV.ok, AV.within] at *; exact h k (any_mem hw) ho
  | .agg cs, hw, ho => by simp only [AV.ok, AV.within] at *; exact Seg.within_ok h cs hw ho
  | .tup cs, hw, ho => by simp only [AV.ok, AV.within] at *; exact AV.withinL_ok h cs hw ho
  | .ifc _ x, hw, ho => by simp only [AV.ok, AV.within] at *; exact AV.within_ok h x hw ho
theorem AV.withinL_ok (h : ∀ k, k ∈ ks → D k → E k) : ∀ r : List AV, AV.withinL ks r = true → AV.okL D r → AV.okL E r
  | [], _, _ => trivial
  | x :: r, hw, ho => by
    simp only [AV.okL, AV.withinL, Bool.and_eq_true] at *
    exact ⟨AV.within_ok h x hw.1 ho.1, AV.withinL_ok h r hw.2 ho.2⟩
theorem Seg.within_ok (h : ∀ k, k ∈ ks → D k → E k) : ∀ r : List Seg, Seg.within ks r = true → Seg.ok D r → Seg.ok E r
  | [], _, _ => trivial
  | .cell x :: r, hw, ho => by
    simp only [Seg.ok, Seg.within, Bool.and_eq_true] at *
    exact ⟨⟨ho.1.1, AV.within_ok h x hw.1 ho.1.2⟩, Seg.within_ok h r hw.2 ho.2⟩
  | .ints _ _ _ :: r, hw, ho => by
    simp only [Seg.ok, Seg.within] at *
    exact ⟨ho.1, Seg.within_ok h r hw ho.2⟩
  | .vals _ _ :: r, hw, ho => by
    simp only [Seg.ok, Seg.within] at *
    exact ⟨ho.1, Seg.within_ok h r hw ho.2⟩
end
end
def keepMem (mem : List (Nat × Vblk)) : List Nat → Option (List (Nat × Vblk))
  | [] => some []
  | k :: r => match look k mem, keepMem mem r with
    | some b, some m => some ((k, b) :: m)
    | _, _ => none
theorem look_keepMem {mem : List (Nat × Vblk)} : ∀ {ks : List Nat} {m : List (Nat × Vblk)}, keepMem mem ks = some m → (∀ k b, look k m = some b → look k mem = some b ∧ k ∈ ks) ∧ (∀ k, k ∈ ks → ∃ b, look k m = some b)
  | [], m, h => by
    simp only [keepMem, Option.some.injEq] at h
    subst h
    exact ⟨fun k b hk => by simp [look] at hk, fun k hk => by simp at hk⟩
  | j :: r, m, h => by
    simp only [keepMem] at h
    split at h
    · rename_i b m' hb hm
      simp only [Option.some.injEq] at h
      subst h
      obtain ⟨i1, i2⟩ := look_keepMem hm
      refine ⟨fun k c hk => ?_, fun k hk => ?_⟩
      · simp only [look] at hk
        split at hk
        · rename_i he
          have := Nat.eq_of_beq_eq_true he
          subst this
          simp only [Option.some.injEq] at hk
          subst hk
          exact ⟨hb, by simp⟩
        · obtain ⟨g1, g2⟩ := i1 k c hk
          exact ⟨g1, by simp [g2]⟩
      · simp only [look]
        split
        · exact ⟨_, rfl⟩
        · rename_i he
          rcases List.mem_cons.1 hk with rfl | hk
          · simp at he
          · exact i2 k hk
    · cases h
/-- Slots kept with their names (ts), slots of which only the values are kept (us), blocks kept (ks). -/
def partOf (ts us ks : List Nat) (s : AS) : Option (List (Nat × AV) × List (Nat × AV) × List (Nat × Vblk)) := match keepMem s.mem ks with
  | some m => match (pickT s.tm ts).all (fun x => AV.within ks x.2) && m.all (fun x => Seg.within ks x.2.row) with
    | true => some (pickT s.tm ts, pickT s.tm us, m)
    | false => none
  | none => none
theorem look_memX {α : Type} : ∀ {l : List (Nat × α)} {k : Nat} {x : α}, look k l = some x → (k, x) ∈ l
  | [], k, x, h => by simp [look] at h
  | (j, y) :: r, k, x, h => by
    simp only [look] at h
    split at h
    · rename_i he
      have := Nat.eq_of_beq_eq_true he
      subst this
      simp only [Option.some.injEq] at h
      subst h
      simp
    · simp [look_memX h]
theorem look_append {α : Type} : ∀ (l m : List (Nat × α)) (k : Nat), look k (l ++ m) = (look k l).or (look k m)
  | [], m, k => by simp [look]
  | (j, y) :: r, m, k => by
    simp only [List.cons_append, look]
    split
    · rfl
    · exact look_append r m k
theorem Rel.part {Γ : Ctx} {ρ : Env} {s : AS} {a : Act} {w : World} {ts us ks : List Nat} {t1 t2 : List (Nat × AV)} {m : List (Nat × Vblk)} (h : partOf ts us ks s = some (t1, t2, m)) (hR : Rel Γ ρ s a w) : Rel (ctxF Γ.P w (Own ρ m) ρ 0 Γ.size) ρ ⟨t1 ++ plainTm ρ t2, m⟩ a w := by
  unfold partOf at h
  split at h
  · rename_i m' hm
    split at h
    · rename_i hall
      simp only [Option.some.injEq, Prod.mk.injEq] at h
      obtain ⟨rfl, rfl, rfl⟩ := h
      rw [Bool.and_eq_true, List.all_eq_true, List.all_eq_true] at hall
      obtain ⟨g1, g2⟩ := look_keepMem hm
      have hdom : ∀ k, k ∈ ks → AS.dom s.mem k → AS.dom m' k := by
        intro k hk _
        obtain ⟨b, hb⟩ := g2 k hk
        unfold AS.dom
        rw [hb]
        rfl
      refine ⟨⟨fun k b hk => ?_, fun j k b c hj hk => hR.mem.inj j k b c (g1 j b hj).1 (g1 k c hk).1, fun k b hk ha => .inl ⟨k, b, hk, ha, rfl⟩, fun k hk => absurd hk (Nat.not_lt_zero k), Fr.refl _ _⟩, fun t v ht => ?_, hR.df, hR.size⟩
      · obtain ⟨h1, h2⟩ := hR.mem.sits k b (g1 k b hk).1
        exact ⟨h1, Seg.within_ok hdom _ (hall.2 _ (look_memX hk)) h2⟩
      · simp only [look_append, Option.or_eq_some_iff] at ht
        rcases ht with ht | ⟨_, ht⟩
        · obtain ⟨h1, h2⟩ := hR.tm t v (look_pickT ht)
          exact ⟨h1, AV.within_ok hdom v (hall.1 _ (look_memX ht)) h2⟩
        · obtain ⟨u, hu, rfl⟩ := look_plainTm ht
          exact ⟨(hR.tm t u (look_pickT hu)).1, by simp [AV.ok]⟩
    · cases h
  · cases h
/-- At the head of a region, or of a loop: part of the state is kept, some names are forgotten, the world as it is now is the first one. -/
theorem wpK_part {Γ : Ctx} {fn : Func} {R : Ending → World → Prop} {st : List Item} {s : AS} (ts us ks : List Nat) {t1 t2 : List (Nat × AV)} {m : List (Nat × Vblk)} (h : partOf ts us ks s = some (t1, t2, m))
    (hk : ∀ ρ w, Fr Γ.F Γ.w0 w → RelM Γ ρ s.mem w → wpK (ctxF Γ.P w (Own ρ m) ρ 0 Γ.size) fn R st ⟨t1 ++ plainTm ρ t2, m⟩) : wpK Γ fn R st s := by
  intro ρ a w hR
  exact hk ρ w hR.mem.fr hR.mem ρ a w (hR.part h)
def preRunP (Γ : Ctx) (ops : Array Oper) (i nx : Nat) (hs : List (Nat × Hint)) (l : List Oper) (ts us ks : List Nat) (s : AS) : Option (List (Nat × AV) × List (Nat × AV) × List (Nat × Vblk) × List (Nat × Vblk) × Prop) :=
  match runOps Γ ops nx 0 (l.take i) hs s with
  | some (tr, _, s1) => match partOf ts us ks s1 with
    | some (t1, t2, m) => some (t1, t2, m, s1.mem, allP (trVc tr))
    | none => none
  | none => none
/-- The same in the midst of a region. -/
theorem wpL_part {Γ : Ctx} {fn : Func} {R : Ending → World → Prop} {ops : Array Oper} {l : List Oper} {st : List Item} {s : AS} (i : Nat) {nx : Nat} {hs : List (Nat × Hint)} (ts us ks : List Nat) {t1 t2 : List (Nat × AV)} {m mem : List (Nat × Vblk)} {A : Prop} (hA : A)
    (h : preRunP Γ ops i nx hs l ts us ks s = some (t1, t2, m, mem, A))
    (hk : ∀ ρ w, Fr Γ.F Γ.w0 w → RelM Γ ρ mem w → wpL (ctxF Γ.P w (Own ρ m) ρ 0 Γ.size) fn R ops (l.drop i) st ⟨t1 ++ plainTm ρ t2, m⟩) : wpL Γ fn R ops l st s := by
  unfold preRunP at h
  have hl : l = l.take i ++ l.drop i := (List.take_append_drop i l).symm
  generalize l.take i = pre at *
  generalize l.drop i = post at *
  subst hl
  split at h
  · rename_i tr hs1 s1 hrun
    split at h
    · rename_i u1 u2 m' hp
      simp only [Option.some.injEq, Prod.mk.injEq] at h
      obtain ⟨rfl, rfl, rfl, rfl, rfl⟩ := h
      intro ρ a w hR
      refine runOps_app post pre 0 hs s tr hs1 s1 hrun (allP_mem _ hA) ρ a w hR ?_
      intro ρ' a' w' hR'
      exact hk ρ' w' hR'.mem.fr hR'.mem ρ' a' w' (hR'.part hp)
    · cases h
  · cases h
end Go.Proofs.YthgnmpjcbicdhaaDoor

