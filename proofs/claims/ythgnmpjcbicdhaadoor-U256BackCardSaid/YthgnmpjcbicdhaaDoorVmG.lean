/- The abstract machine: calls that turn the world otherwise than the machine tells: all values plain, what is known of the world said in Lean. -/
import Derived.Test.YthgnmpjcbicdhaaDoorVmK
set_option linter.unusedVariables false
set_option linter.unusedSimpArgs false
namespace Go.Proofs.YthgnmpjcbicdhaaDoor
open Go Go.RowKit
/-- From a point of the code on. -/
def wpAt (P : Program) (fn : Func) (R : Ending → World → Prop) (st : List Item) (a : Act) (w : World) : Prop :=
  ∀ (b : Frame) (k : List Item) (cs : List Frame), ∃ e a' w', bodyPost P fn R e a' w' ∧ Arrives P (lone (b.at a (st ++ k)) cs w) b k cs e a' w'
/-- From the midst of a region on. -/
def wpL (Γ : Ctx) (fn : Func) (R : Ending → World → Prop) (ops : Array Oper) (l : List Oper) (st : List Item) (s : AS) : Prop :=
  ∀ ρ a w, Rel Γ ρ s a w → wpList Γ.P ops (fun e a' w' => e = .normal ∧ wpAt Γ.P fn R st a' w') l a w
def opsOf (st : List Item) : Array Oper := match st with
  | .code (.region _ ops false) :: _ => ops
  | _ => #[]
def isReg (st : List Item) : Bool := match st with
  | .code (.region _ _ false) :: _ => true
  | _ => false
theorem wpL_region {Γ : Ctx} {fn : Func} {R : Ending → World → Prop} {st : List Item} {s : AS} (hr : isReg st = true) (h : wpL Γ fn R (opsOf st) (opsOf st).toList st.tail s) : wpK Γ fn R st s := by
  unfold isReg at hr
  split at hr
  · rename_i id ops k
    intro ρ a w hR b k' cs
    obtain ⟨e, a1, w1, ⟨rfl, hq⟩, harr⟩ := wp_region_list (id := id) (h ρ a w hR) b (k ++ k') cs
    obtain ⟨e, a', w', h1, h2⟩ := hq b k' cs
    exact ⟨e, a', w', h1, .of_steps harr h2⟩
  · cases hr
theorem wpL_nil {Γ : Ctx} {fn : Func} {R : Ending → World → Prop} {ops : Array Oper} {st : List Item} {s : AS} (h : wpK Γ fn R st s) : wpL Γ fn R ops [] st s :=
  fun ρ a w hR => ⟨rfl, h ρ a w hR⟩
theorem runOps_app {Γ : Ctx} {ops : Array Oper} {base : Nat} {Q : Exit → Act → World → Prop} (rest : List Oper) : ∀ (l : List Oper) (i : Nat) (hs : List (Nat × Hint)) (s : AS) (tr : List (Oper × Option Res)) (hs' : List (Nat × Hint)) (s' : AS),
    runOps Γ ops base i l hs s = some (tr, hs', s') → (∀ p ∈ trVc tr, p) → ∀ (ρ : Env) (a : Act) (w : World), Rel Γ ρ s a w → (∀ ρ' a' w', Rel Γ ρ' s' a' w' → wpList Γ.P ops Q rest a' w') → wpList Γ.P ops Q (l ++ rest) a w
  | [], i, hs, s, tr, hs', s', h, hvc, ρ, a, w, hR, hQ => by
    simp only [runOps, Option.some.injEq, Prod.mk.injEq] at h
    obtain ⟨_, _, rfl⟩ := h
    exact hQ ρ a w hR
  | o :: l, i, hs, s, tr, hs', s', h, hvc, ρ, a, w, hR, hQ => by
    simp only [runOps] at h
    split at h
    · rename_i hd hw
      split at h
      · rename_i tr1 hs1 s1 hrec
        simp only [Option.some.injEq, Prod.mk.injEq] at h
        obtain ⟨rfl, rfl, rfl⟩ := h
        simp only [List.cons_append, wpList]
        rw [if_neg (by rw [wantedA_spec hR hw]; simp)]
        refine runOps_app rest l (i + 1) hs _ _ _ _ hrec (fun p hp => hvc p (by simp [trVc, qvc, hp])) ρ _ w ?_ hQ
        unfold dstOk at hd
        cases hdst : o.dst with
        | none => simp only [applyQ, hdst, setD, Act.put]; exact hR
        | some d =>
          rw [hdst] at hd
          have := hR.put d (Nat.le_of_ble_eq_true hd) (.val undef) (by simp [AV.ok])
          simpa [applyQ, hdst, setD, AV.conc] using this
      · cases h
    · rename_i hd hw
      split at h
      · rename_i r hex
        split at h
        · rename_i tr1 hs2 s1 hrec
          simp only [Option.some.injEq, Prod.mk.injEq] at h
          obtain ⟨rfl, rfl, rfl⟩ := h
          simp only [List.cons_append, wpList]
          rw [if_pos (wantedA_spec hR hw)]
          refine .inl (op_wp hR (exec_sound hex (fun p hp => hvc p (by simp [trVc, qvc, hp])) hR (fun _ _ => rfl) (fun _ _ => rfl) (fun hn => ?_)) hd (exec_wr hex) ?_)
          · exact exec_fresh hex hn
          · intro ρ' a' w' hR'
            exact runOps_app rest l (i + 1) _ _ _ _ _ hrec (fun p hp => hvc p (by simp [trVc, hp])) ρ' a' w' hR' hQ
        · cases h
      · cases h
    · cases h
/-- All values plain. -/
def plainS : List (Nat × AV) → Bool
  | [] => true
  | (_, .val _) :: r => plainS r
  | _ :: _ => false
def plainTm (ρ : Env) : List (Nat × AV) → List (Nat × AV)
  | [] => []
  | (t, v) :: r => (t, .val (v.conc ρ)) :: plainTm ρ r
theorem look_plainTm {ρ : Env} : ∀ {tm : List (Nat × AV)} {t : Nat} {v : AV}, look t (plainTm ρ tm) = some v → ∃ u, look t tm = some u ∧ v = .val (u.conc ρ)
  | [], t, v, h => by simp [plainTm, look] at h
  | (j, x) :: r, t, v, h => by
    simp only [plainTm, look] at h ⊢
    cases hb : Nat.beq j t with
    | true =>
      rw [hb] at h
      simp only [Option.some.injEq] at h
      exact ⟨x, rfl, h.symm⟩
    | false =>
      rw [hb] at h
      exact look_plainTm h
theorem look_plainS : ∀ {tm : List (Nat × AV)} {t : Nat} {v : AV}, plainS tm = true → look t tm = some v → ∃ y, v = .val y
  | [], t, v, hp, h => by simp [look] at h
  | (j, x) :: r, t, v, hp, h => by
    unfold plainS at hp
    split at hp
    · rename_i e; cases e
    · rename_i e
      simp only [List.cons.injEq, Prod.mk.injEq] at e
      obtain ⟨⟨rfl, rfl⟩, rfl⟩ := e
      simp only [look] at h
      split at h
      · simp only [Option.some.injEq] at h; exact ⟨_, h.symm⟩
      · exact look_plainS hp h
    · cases hp
/-- All values as they are, the names forgotten. -/
theorem wpK_plain {Γ : Ctx} {fn : Func} {R : Ending → World → Prop} {st : List Item} {s : AS} (h : ∀ ρ w, Fr Γ.F Γ.w0 w → RelM Γ ρ s.mem w → wpK (ctx Γ.P w Γ.size) fn R st ⟨plainTm ρ s.tm, []⟩) : wpK Γ fn R st s := by
  intro ρ a w hR
  refine h ρ w hR.mem.fr hR.mem Env.nil a w ⟨⟨fun k b hk => by simp [look] at hk, fun j k b c hj => by simp [look] at hj, fun k b hk => by simp [look] at hk, fun k hk => by simp [ctx] at hk, Fr.refl _ _⟩, fun t v ht => ?_, hR.df, hR.size⟩
  obtain ⟨u, hu, rfl⟩ := look_plainTm ht
  exact ⟨(hR.tm t u hu).1, by simp [AV.ok]⟩
/-- Part of a region, up to a call. -/
def toCall (Γ : Ctx) (ops : Array Oper) (i nx : Nat) (hs : List (Nat × Hint)) (l : List Oper) (s : AS) : Option (List (Nat × AV) × FuncId × List Value × Prop) :=
  match l.drop i with
  | [] => none
  | o :: _ => match runOps Γ ops nx 0 (l.take i) hs s with
    | some (tr, _, s1) => match plainS s1.tm, wantedA ops s1.tm o, dstOk Γ o, isSelect o.op, allV s1.tm o.op.operands.toList with
      | true, some true, true, false, true => match prun Γ.P (execOp (evV s1.tm) o) with
        | some (.enter f args) => some (s1.tm, f, args.toList, allP (trVc tr))
        | _ => none
      | _, _, _, _, _ => none
    | none => none
def dstAt (l : List Oper) (i : Nat) : Option Tmp := match l.drop i with
  | [] => none
  | o :: _ => o.dst
/-- A call, with whatever it does to the world. -/
theorem wpL_call {Γ : Ctx} {fn : Func} {R : Ending → World → Prop} {ops : Array Oper} {l : List Oper} {st : List Item} {s : AS} (i : Nat) {nx : Nat} {hs : List (Nat × Hint)} {tm : List (Nat × AV)} {f : FuncId} {args : List Value} {A : Prop} (hA : A)
    (h : toCall Γ ops i nx hs l s = some (tm, f, args, A))
    (hk : ∀ w, Fr Γ.F Γ.w0 w → Calls Γ.P f args.toArray w fun e w2 => ∃ v, e = .returned v ∧ wpL (ctx Γ.P w2 Γ.size) fn R ops (l.drop (i + 1)) st ⟨setD (dstAt l i) (some (.val v)) tm, []⟩) : wpL Γ fn R ops l st s := by
  unfold toCall at h
  unfold dstAt at hk
  have hdrop : l.drop (i + 1) = (l.drop i).drop 1 := by rw [List.drop_drop]
  rw [hdrop] at hk
  have hl : l = l.take i ++ l.drop i := (List.take_append_drop i l).symm
  generalize l.take i = pre at *
  generalize l.drop i = post at *
  subst hl
  cases post with
  | nil => simp at h
  | cons o rest =>
    simp only at h hk
    split at h
    · rename_i tr hs1 s1 hrun
      split at h
      · rename_i hp hw hd hsel hall
        split at h
        · rename_i f' args' hx
          simp only [Option.some.injEq, Prod.mk.injEq] at h
          obtain ⟨rfl, rfl, rfl, rfl⟩ := h
          intro ρ a w hR
          refine runOps_app (o :: rest) pre 0 hs s tr hs1 s1 hrun (allP_mem _ hA) ρ a w hR ?_
          intro ρ' a' w' hR'
          simp only [wpList]
          rw [if_pos (wantedA_spec hR' hw)]
          refine .inl ?_
          have he : execOp a'.eval o = execOp (evV s1.tm) o := execOp_congr o (isSelect_no hsel) fun x hx => by
            obtain ⟨u, z, hu, hz⟩ := allV_spec _ hall x (by simpa using hx)
            unfold evV
            rw [hu]
            simp only [hz]
            rw [(hR'.ev hu).1]
            exact AV.conc_toV ρ' u z hz
          unfold Oper.wp
          rw [he, prun_run Γ.P _ _ hx w']
          rw [Oper.upon_enter]
          have hcall := hk w' hR'.mem.fr
          rw [Array.toArray_toList] at hcall
          refine Calls.mono hcall ?_
          rintro e w2 ⟨v, rfl, hL⟩
          refine hL Env.nil (a'.put o.dst v) w2 ⟨⟨fun k b hk => by simp [look] at hk, fun j k b c hj => by simp [look] at hj, fun k b hk => by simp [look] at hk, fun k hk => by simp [ctx] at hk, Fr.refl _ _⟩, ?_, ?_, ?_⟩
          · intro t u ht
            unfold dstOk at hd
            cases hdst : o.dst with
            | none =>
              rw [hdst] at ht
              simp only [setD] at ht
              obtain ⟨y, rfl⟩ := look_plainS hp ht
              exact ⟨by simpa [Act.put, AV.conc] using (hR'.tm t _ ht).1, by simp [AV.ok]⟩
            | some d =>
              rw [hdst] at ht hd
              simp only [setD] at ht
              have hput := (hR'.put d (Nat.le_of_ble_eq_true hd) (.val v) (by simp [AV.ok])).tm t u ht
              have hpl : ∃ y, u = .val y := by
                rw [look_lay] at ht
                split at ht
                · simp only [Option.some.injEq] at ht; exact ⟨_, ht.symm⟩
                · exact look_plainS hp ht
              obtain ⟨y, rfl⟩ := hpl
              refine ⟨?_, by simp [AV.ok]⟩
              simpa [AV.conc] using hput.1
          · cases hdst : o.dst <;> simp [Act.put, hR'.df]
          · cases hdst : o.dst <;> simp [Act.put, hR'.size, ctx]
        · cases h
      · cases h
    · cases h
/-- The rest of a region, and on. -/
def goRun (Γ : Ctx) (ops : Array Oper) (n m nx : Nat) (hs : List (Nat × Hint)) (l : List Oper) (st : List Item) (s : AS) : Out := match runOps Γ ops nx 0 l hs s with
  | some (tr, hs', s') => match run Γ n m (nx + 100) hs' st s' [] with
    | .at st1 s1 vc => .at st1 s1 (trVc tr ++ vc)
    | .ret s1 vc => .ret s1 (trVc tr ++ vc)
    | .no => .no
  | none => .no
theorem goRun_sound {Γ : Ctx} {fn : Func} {R : Ending → World → Prop} (hm : Γ.P.follows .mixedOrders = true) {ops : Array Oper} {n m nx : Nat} {hs : List (Nat × Hint)} {l : List Oper} {st : List Item} {s : AS} (h : OutOk Γ fn R (goRun Γ ops n m nx hs l st s)) (hvc : ∀ p ∈ (goRun Γ ops n m nx hs l st s).vc, p) : wpL Γ fn R ops l st s := by
  unfold goRun at h hvc
  cases hr : runOps Γ ops nx 0 l hs s with
  | none => rw [hr] at h; exact h.elim
  | some x =>
    obtain ⟨tr, hs', s'⟩ := x
    rw [hr] at h hvc
    simp only at h hvc
    have hvt : ∀ p ∈ trVc tr, p := by
      intro p hp
      cases hrun : run Γ n m (nx + 100) hs' st s' [] with
      | «at» st1 s1 vc => rw [hrun] at hvc; exact hvc p (by simp [Out.vc, hp])
      | ret s1 vc => rw [hrun] at hvc; exact hvc p (by simp [Out.vc, hp])
      | no => rw [hrun] at h; exact h.elim
    have hK : wpK Γ fn R st s' := by
      refine run_sound hm n m (nx + 100) hs' st s' [] ?_ ?_
      · cases hrun : run Γ n m (nx + 100) hs' st s' [] with
        | «at» st1 s1 vc => rw [hrun] at h; exact h
        | ret s1 vc => rw [hrun] at h; exact h
        | no => rw [hrun] at h; exact h.elim
      · intro p hp
        cases hrun : run Γ n m (nx + 100) hs' st s' [] with
        | «at» st1 s1 vc => rw [hrun] at hvc hp; exact hvc p (by simp [Out.vc] at hp ⊢; exact .inr hp)
        | ret s1 vc => rw [hrun] at hvc hp; exact hvc p (by simp [Out.vc] at hp ⊢; exact .inr hp)
        | no => rw [hrun] at h; exact h.elim
    intro ρ a w hR
    have := runOps_app (Q := fun e a' w' => e = .normal ∧ wpAt Γ.P fn R st a' w') [] l 0 hs s tr hs' s' hr hvt ρ a w hR (fun ρ' a' w' hR' => ⟨rfl, hK ρ' a' w' hR'⟩)
    rwa [List.append_nil] at this
/-- From the midst of a region to the round of a loop (or to where a hint stops). -/
theorem wpL_loop {Γ : Ctx} {fn : Func} {R : Ending → World → Prop} (hm : Γ.P.follows .mixedOrders = true) {ops : Array Oper} {l : List Oper} {n m nx : Nat} {hs : List (Nat × Hint)} {st st' : List Item} {s s' : AS} (ad : List (Nat × Nat × Nat × List Seg × TypeId)) (ts : List Nat) (ps : List (Nat × Nat)) {A : Prop} (hA : A)
    (h : loopRun Γ.n0 ad ts ps (goRun Γ ops n m nx hs l st s) = some (st', s', A)) (hk : wpK Γ fn R st' s') : wpL Γ fn R ops l st s := by
  generalize hx : goRun Γ ops n m nx hs l st s = x at h
  cases x with
  | «at» st1 s1 vc =>
    simp only [loopRun] at h
    split at h
    · rename_i s2 hkeep
      simp only [Option.some.injEq, Prod.mk.injEq] at h
      obtain ⟨rfl, rfl, rfl⟩ := h
      refine goRun_sound hm (n := n) (m := m) (nx := nx) (hs := hs) ?_ (by rw [hx]; exact allP_mem _ hA)
      rw [hx]
      exact fun ρ a w hR => let ⟨ρ', hR'⟩ := hR.keep hkeep; hk ρ' a w hR'
    · cases h
  | ret s1 vc => simp [loopRun] at h
  | no => simp [loopRun] at h
theorem wpL_end {Γ : Ctx} {fn : Func} {R : Ending → World → Prop} (hm : Γ.P.follows .mixedOrders = true) {ops : Array Oper} {l : List Oper} {n m nx : Nat} {hs : List (Nat × Hint)} {st : List Item} {s : AS} {v : AV} {A : Prop} (hA : A)
    (h : endRun Γ fn (goRun Γ ops n m nx hs l st s) = some (v, A)) (hR : ∀ (ρ : Env) w', Fr Γ.F Γ.w0 w' → R (.returned (v.conc ρ)) w') : wpL Γ fn R ops l st s := by
  generalize hx : goRun Γ ops n m nx hs l st s = x at h
  cases x with
  | «at» st1 s1 vc => simp [endRun] at h
  | ret s1 vc =>
    simp only [endRun] at h
    split at h
    · rename_i u hu
      simp only [Option.some.injEq, Prod.mk.injEq] at h
      obtain ⟨rfl, rfl⟩ := h
      refine goRun_sound hm (n := n) (m := m) (nx := nx) (hs := hs) ?_ (by rw [hx]; exact allP_mem _ hA)
      rw [hx]
      exact fun ρ a w hrel => ⟨_, resA_run hrel hu, hR ρ w hrel.mem.fr⟩
    · cases h
  | no => simp [endRun] at h
/-- The regions of a function, in the order of its text. -/
def regionsIn : Code → List Item → List (List Item)
  | .seq x y, k => regionsIn x (.code y :: k) ++ regionsIn y k
  | .block id x, k => regionsIn x (.inBlock id :: k)
  | .cond _ x y, k => regionsIn x k ++ regionsIn y k
  | .loop c, k => regionsIn c (.inLoop c :: k)
  | .region id ops d, k => [.code (.region id ops d) :: k]
  | _, _ => []
def isRegId (n : Nat) (st : List Item) : Bool := match st with
  | .code (.region id _ _) :: _ => Nat.beq id n
  | _ => false
/-- A function's region, by its number. -/
def regAt (fn : Func) (n : Nat) : List Item := ((regionsIn (bodyOf fn) []).find? (isRegId n)).getD []
/-- Part of a region, up to an operation that is no call. -/
def toOp (Γ : Ctx) (ops : Array Oper) (i nx : Nat) (hs : List (Nat × Hint)) (l : List Oper) (s : AS) : Option (List (Nat × AV) × Sem Next × Prop) :=
  match l.drop i with
  | [] => none
  | o :: _ => match runOps Γ ops nx 0 (l.take i) hs s with
    | some (tr, _, s1) => match plainS s1.tm, wantedA ops s1.tm o, dstOk Γ o, isSelect o.op, allV s1.tm o.op.operands.toList with
      | true, some true, true, false, true => some (s1.tm, execOp (evV s1.tm) o, allP (trVc tr))
      | _, _, _, _, _ => none
    | none => none
/-- What an operation leaves in its destination. -/
def leftBy : Next → Option Value
  | .value v => some v
  | .skip => some undef
  | _ => none
/-- An operation, with whatever it does to the world. -/
theorem wpL_op {Γ : Ctx} {fn : Func} {R : Ending → World → Prop} {ops : Array Oper} {l : List Oper} {st : List Item} {s : AS} (i : Nat) {nx : Nat} {hs : List (Nat × Hint)} {tm : List (Nat × AV)} {m : Sem Next} {A : Prop} (hA : A)
    (h : toOp Γ ops i nx hs l s = some (tm, m, A))
    (hk : ∀ w, Fr Γ.F Γ.w0 w → ∃ r v w2, m.run Γ.P w = .ok r w2 ∧ leftBy r = some v ∧ wpL (ctx Γ.P w2 Γ.size) fn R ops (l.drop (i + 1)) st ⟨setD (dstAt l i) (some (.val v)) tm, []⟩) : wpL Γ fn R ops l st s := by
  unfold toOp at h
  unfold dstAt at hk
  have hdrop : l.drop (i + 1) = (l.drop i).drop 1 := by rw [List.drop_drop]
  rw [hdrop] at hk
  have hl : l = l.take i ++ l.drop i := (List.take_append_drop i l).symm
  generalize l.take i = pre at *
  generalize l.drop i = post at *
  subst hl
  cases post with
  | nil => simp at h
  | cons o rest =>
    simp only at h hk
    split at h
    · rename_i tr hs1 s1 hrun
      split at h
      · rename_i hp hw hd hsel hall
        simp only [Option.some.injEq, Prod.mk.injEq] at h
        obtain ⟨rfl, rfl, rfl⟩ := h
        intro ρ a w hR
        refine runOps_app (o :: rest) pre 0 hs s tr hs1 s1 hrun (allP_mem _ hA) ρ a w hR ?_
        intro ρ' a' w' hR'
        simp only [wpList]
        rw [if_pos (wantedA_spec hR' hw)]
        refine .inl ?_
        have he : execOp a'.eval o = execOp (evV s1.tm) o := execOp_congr o (isSelect_no hsel) fun x hx => by
          obtain ⟨u, z, hu, hz⟩ := allV_spec _ hall x (by simpa using hx)
          unfold evV
          rw [hu]
          simp only [hz]
          rw [(hR'.ev hu).1]
          exact AV.conc_toV ρ' u z hz
        unfold Oper.wp
        rw [he]
        obtain ⟨r, v, w2, hrun2, hleft, hL⟩ := hk w' hR'.mem.fr
        rw [hrun2]
        have hgo : Rel (ctx Γ.P w2 Γ.size) Env.nil ⟨setD o.dst (some (.val v)) s1.tm, []⟩ (a'.put o.dst v) w2 := by
          refine ⟨⟨fun k b hk => by simp [look] at hk, fun j k b c hj => by simp [look] at hj, fun k b hk => by simp [look] at hk, fun k hk => by simp [ctx] at hk, Fr.refl _ _⟩, ?_, ?_, ?_⟩
          · intro t u ht
            unfold dstOk at hd
            cases hdst : o.dst with
            | none =>
              rw [hdst] at ht
              simp only [setD] at ht
              obtain ⟨y, rfl⟩ := look_plainS hp ht
              exact ⟨by simpa [Act.put, AV.conc] using (hR'.tm t _ ht).1, by simp [AV.ok]⟩
            | some d =>
              rw [hdst] at ht hd
              simp only [setD] at ht
              have hput := (hR'.put d (Nat.le_of_ble_eq_true hd) (.val v) (by simp [AV.ok])).tm t u ht
              have hpl : ∃ y, u = .val y := by
                rw [look_lay] at ht
                split at ht
                · simp only [Option.some.injEq] at ht; exact ⟨_, ht.symm⟩
                · exact look_plainS hp ht
              obtain ⟨y, rfl⟩ := hpl
              refine ⟨?_, by simp [AV.ok]⟩
              simpa [AV.conc] using hput.1
          · cases hdst : o.dst <;> simp [Act.put, hR'.df]
          · cases hdst : o.dst <;> simp [Act.put, hR'.size, ctx]
        cases r with
        | value x =>
          simp only [leftBy, Option.some.injEq] at hleft
          subst hleft
          rw [Oper.upon_value]
          exact hL Env.nil _ w2 hgo
        | skip =>
          simp only [leftBy, Option.some.injEq] at hleft
          subst hleft
          rw [Oper.upon_skip]
          exact hL Env.nil _ w2 hgo
        | _ => simp [leftBy] at hleft
      · cases h
    · cases h
/-- Some slots of a state. -/
def pickT (tm : List (Nat × AV)) : List Nat → List (Nat × AV)
  | [] => []
  | t :: r => match look t tm with
    | some v => (t, v) :: pickT tm r
    | none => pickT tm r
theorem look_pickT {tm : List (Nat × AV)} : ∀ {ts : List Nat} {t : Nat} {v : AV}, look t (pickT tm ts) = some v → look t tm = some v
  | [], t, v, h => by simp [pickT, look] at h
  | x :: r, t, v, h => by
    simp only [pickT] at h
    split at h
    · rename_i u hu
      simp only [look] at h
      split at h
      · rename_i hb
        have := Nat.eq_of_beq_eq_true hb
        subst this
        simp only [Option.some.injEq] at h
        subst h
        exact hu
      · exact look_pickT h
    · exact look_pickT h
def preRun (Γ : Ctx) (ops : Array Oper) (i nx : Nat) (hs : List (Nat × Hint)) (l : List Oper) (ts : List Nat) (s : AS) : Option (List (Nat × AV) × List (Nat × Vblk) × Prop) :=
  match runOps Γ ops nx 0 (l.take i) hs s with
  | some (tr, _, s1) => some (pickT s1.tm ts, s1.mem, allP (trVc tr))
  | none => none
/-- In the midst of a region: all values as they are, the names forgotten. -/
theorem wpL_plain {Γ : Ctx} {fn : Func} {R : Ending → World → Prop} {ops : Array Oper} {l : List Oper} {st : List Item} {s : AS} (i : Nat) {nx : Nat} {hs : List (Nat × Hint)} (ts : List Nat) {tm : List (Nat × AV)} {mem : List (Nat × Vblk)} {A : Prop} (hA : A)
    (h : preRun Γ ops i nx hs l ts s = some (tm, mem, A))
    (hk : ∀ ρ w, Fr Γ.F Γ.w0 w → RelM Γ ρ mem w → wpL (ctx Γ.P w Γ.size) fn R ops (l.drop i) st ⟨plainTm ρ tm, []⟩) : wpL Γ fn R ops l st s := by
  unfold preRun at h
  have hl : l = l.take i ++ l.drop i := (List.take_append_drop i l).symm
  generalize l.take i = pre at *
  generalize l.drop i = post at *
  subst hl
  split at h
  · rename_i tr hs1 s1 hrun
    simp only [Option.some.injEq, Prod.mk.injEq] at h
    obtain ⟨rfl, rfl, rfl⟩ := h
    intro ρ a w hR
    refine runOps_app post pre 0 hs s tr hs1 s1 hrun (allP_mem _ hA) ρ a w hR ?_
    intro ρ' a' w' hR'
    refine hk ρ' w' hR'.mem.fr hR'.mem Env.nil a' w' ⟨⟨fun k b hk => by simp [look] at hk, fun j k b c hj => by simp [look] at hj, fun k b hk => by simp [look] at hk, fun k hk => by simp [ctx] at hk, Fr.refl _ _⟩, fun t v ht => ?_, hR'.df, hR'.size⟩
    obtain ⟨u, hu, rfl⟩ := look_plainTm ht
    exact ⟨(hR'.tm t u (look_pickT hu)).1, by simp [AV.ok]⟩
  · cases h
/-- At the head of a region: all values as they are, the names forgotten. -/
theorem wpK_plainT {Γ : Ctx} {fn : Func} {R : Ending → World → Prop} {st : List Item} {s : AS} (ts : List Nat) (h : ∀ ρ w, Fr Γ.F Γ.w0 w → RelM Γ ρ s.mem w → wpK (ctx Γ.P w Γ.size) fn R st ⟨plainTm ρ (pickT s.tm ts), []⟩) : wpK Γ fn R st s := by
  intro ρ a w hR
  refine h ρ w hR.mem.fr hR.mem Env.nil a w ⟨⟨fun k b hk => by simp [look] at hk, fun j k b c hj => by simp [look] at hj, fun k b hk => by simp [look] at hk, fun k hk => by simp [ctx] at hk, Fr.refl _ _⟩, fun t v ht => ?_, hR.df, hR.size⟩
  obtain ⟨u, hu, rfl⟩ := look_plainTm ht
  exact ⟨(hR.tm t u (look_pickT hu)).1, by simp [AV.ok]⟩
end Go.Proofs.YthgnmpjcbicdhaaDoor

