/- The abstract machine: code, functions. -/
import Derived.Test.YthgnmpjcbicdhaaDoorVmD
set_option linter.unusedVariables false
set_option linter.unusedSimpArgs false
namespace Go.Proofs.YthgnmpjcbicdhaaDoor
open Go Go.RowKit

def regionRun (Γ : Ctx) (ops : Array Oper) (draw : Bool) (base : Nat) (hs : List (Nat × Hint)) (s : AS) : Option (AS × List (Nat × Hint) × List Prop) :=
  match runOps Γ ops base 0 ops.toList hs s with
  | some (tr, hs', s') => match draw with
    | false => some (s', hs', trVc tr)
    | true => match acyc ops && regionFree ops base tr with
      | true => some (s', hs', trVc tr)
      | false => none
  | none => none
inductive Out where
  | at (k : List Item) (s : AS) (vc : List Prop)
  | ret (s : AS) (vc : List Prop)
  | no
def Out.vc : Out → List Prop
  | .at _ _ vc => vc
  | .ret _ vc => vc
  | .no => []
inductive Nx where
  | go (m nx : Nat) (hs : List (Nat × Hint)) (st : List Item) (s : AS) (vc : List Prop)
  | halt (st : List Item)
  | stop
  | ret
  | no
/-- A hint under 88888 at the head: stop ahead of the next region. -/
def atStop (hs : List (Nat × Hint)) : Bool := match hs with
  | [] => false
  | (k, _) :: _ => Nat.beq k 88888
def step1 (Γ : Ctx) (m nx : Nat) (hs : List (Nat × Hint)) (st : List Item) (s : AS) : Nx := match st with
  | [] => .ret
  | .inBlock _ :: k => .go m nx hs k s []
  | .inLoop c :: k => match m with
    | 0 => .halt (.code c :: .inLoop c :: k)
    | m + 1 => .go m nx hs (.code c :: .inLoop c :: k) s []
  | .code c :: k => match c with
    | .skip => .go m nx hs k s []
    | .label _ => .go m nx hs k s []
    | .seq x y => .go m nx hs (.code x :: .code y :: k) s []
    | .block id x => .go m nx hs (.code x :: .inBlock id :: k) s []
    | .cond t x y => match ev s.tm t with
      | some (.val (.bool true)) => .go m nx hs (.code x :: k) s []
      | some (.val (.bool false)) => .go m nx hs (.code y :: k) s []
      | _ => .no
    | .exit id => match exitTo id k with
      | some k' => .go m nx hs k' s []
      | none => .no
    | .ret => .ret
    | .region _ ops draw => match atStop hs with
      | true => .stop
      | false => match regionRun Γ ops draw nx hs s with
        | some (s', hs', vc') => .go m (nx + ops.size) hs' k s' vc'
        | none => .no
    | .loop x => match m with
      | 0 => .halt (.code x :: .inLoop x :: k)
      | m + 1 => .go m nx hs (.code x :: .inLoop x :: k) s []
    | _ => .no
  | _ => .no
/-- n: how far at most; m: how many rounds of loops; nx: numbers for new blocks. -/
def run (Γ : Ctx) : Nat → Nat → Nat → List (Nat × Hint) → List Item → AS → List Prop → Out
  | 0, _, _, _, _, _, _ => .no
  | n + 1, m, nx, hs, st, s, vc => match step1 Γ m nx hs st s with
    | .go m' nx' hs' st' s' vc' => run Γ n m' nx' hs' st' s' (vc ++ vc')
    | .halt st' => .at st' s vc
    | .stop => .at st s vc
    | .ret => .ret s vc
    | .no => .no

def wpK (Γ : Ctx) (fn : Func) (R : Ending → World → Prop) (st : List Item) (s : AS) : Prop :=
  ∀ ρ a w, Rel Γ ρ s a w → ∀ (b : Frame) (k : List Item) (cs : List Frame), ∃ e a' w', bodyPost Γ.P fn R e a' w' ∧ Arrives Γ.P (lone (b.at a (st ++ k)) cs w) b k cs e a' w'
def OutOk (Γ : Ctx) (fn : Func) (R : Ending → World → Prop) : Out → Prop
  | .at st s _ => wpK Γ fn R st s
  | .ret s _ => ∀ ρ a w, Rel Γ ρ s a w → ∃ v, (results fn a.tmps).run Γ.P w = .ok v w ∧ R (.returned v) w
  | .no => False
theorem exitTo_append {id : Nat} : ∀ {st k' : List Item} (k : List Item), exitTo id st = some k' → exitTo id (st ++ k) = some (k' ++ k)
  | [], k', k, h => by simp [exitTo] at h
  | x :: r, k', k, h => by
    cases x with
    | inBlock i =>
      simp only [exitTo, List.cons_append] at h ⊢
      split at h
      · rename_i he; rw [if_pos he]; simp only [Option.some.injEq] at h; rw [h]
      · rename_i he; rw [if_neg he]; exact exitTo_append k h
    | _ => simp only [exitTo, List.cons_append] at h ⊢; exact exitTo_append k h
section
variable {Γ : Ctx} {fn : Func} {R : Ending → World → Prop}
theorem wpK_step {st st' : List Item} {s : AS} (hs : ∀ (a : Act) (w : World) (b : Frame) (k : List Item) (cs : List Frame), step Γ.P (lone (b.at a (st ++ k)) cs w) = .next (lone (b.at a (st' ++ k)) cs w)) (h : wpK Γ fn R st' s) : wpK Γ fn R st s :=
  fun ρ a w hR b k cs => let ⟨e, a', w', h1, h2⟩ := h ρ a w hR b k cs; ⟨e, a', w', h1, .of_steps (.one (hs a w b k cs)) h2⟩
theorem regionRun_wp (hm : Γ.P.follows .mixedOrders = true) {ops : Array Oper} {draw : Bool} {base id : Nat} {hs hs' : List (Nat × Hint)} {s s' : AS} {vc : List Prop} (h : regionRun Γ ops draw base hs s = some (s', hs', vc)) (hvc : ∀ p ∈ vc, p) {ρ : Env} {a : Act} {w : World} (hR : Rel Γ ρ s a w) {Q : Exit → Act → World → Prop} (hQ : ∀ ρ' a' w', Rel Γ ρ' s' a' w' → Q .normal a' w') :
    (Code.region id ops draw).wp Γ.P Q a w := by
  unfold regionRun at h
  split at h
  · rename_i tr hs1 s1 hrun
    split at h
    · simp only [Option.some.injEq, Prod.mk.injEq] at h
      obtain ⟨rfl, rfl, rfl⟩ := h
      exact wp_region_list (runOps_list _ _ _ _ _ _ _ hrun hvc ρ a w hR hQ)
    · split at h
      · rename_i hb
        rw [Bool.and_eq_true] at hb
        simp only [Option.some.injEq, Prod.mk.injEq] at h
        obtain ⟨rfl, rfl, rfl⟩ := h
        exact region_draw hm hb.1 hrun hb.2 hvc hR hQ
      · cases h
  · cases h
theorem run_vc : ∀ (n m nx : Nat) (hs : List (Nat × Hint)) (st : List Item) (s : AS) (vc : List Prop), run Γ n m nx hs st s vc ≠ .no → ∀ p ∈ vc, p ∈ (run Γ n m nx hs st s vc).vc
  | 0, m, nx, hs, st, s, vc, hno, p, hp => absurd rfl hno
  | n + 1, m, nx, hs, st, s, vc, hno, p, hp => by
    unfold run at hno ⊢
    generalize step1 Γ m nx hs st s = x at *
    cases x with
    | go m' nx' hs' st' s' vc' => exact run_vc n _ _ _ _ _ _ hno p (by simp [hp])
    | halt st' => exact hp
    | stop => exact hp
    | ret => exact hp
    | no => exact absurd rfl hno
theorem step1_sound (hm : Γ.P.follows .mixedOrders = true) {m nx : Nat} {hs : List (Nat × Hint)} {st : List Item} {s : AS} :
    (∀ m' nx' hs' st' s' vc', step1 Γ m nx hs st s = .go m' nx' hs' st' s' vc' → (∀ p ∈ vc', p) → wpK Γ fn R st' s' → wpK Γ fn R st s) ∧
    (∀ st', step1 Γ m nx hs st s = .halt st' → wpK Γ fn R st' s → wpK Γ fn R st s) ∧
    (step1 Γ m nx hs st s = .ret → OutOk Γ fn R (.ret s []) → wpK Γ fn R st s) := by
  have plain : ∀ {st' : List Item}, (∀ (a : Act) (w : World) (b : Frame) (k : List Item) (cs : List Frame), step Γ.P (lone (b.at a (st ++ k)) cs w) = .next (lone (b.at a (st' ++ k)) cs w)) → wpK Γ fn R st' s → wpK Γ fn R st s := fun h1 h2 => wpK_step h1 h2
  refine ⟨?_, ?_, ?_⟩
  · intro m' nx' hs' st' s' vc' h hvc hk
    unfold step1 at h
    split at h
    · cases h
    · simp only [Nx.go.injEq] at h
      obtain ⟨rfl, rfl, rfl, rfl, rfl, rfl⟩ := h
      exact plain (fun a w b k cs => step_inBlock) hk
    · split at h
      · cases h
      · simp only [Nx.go.injEq] at h
        obtain ⟨rfl, rfl, rfl, rfl, rfl, rfl⟩ := h
        exact plain (fun a w b k cs => step_inLoop) hk
    · split at h
      · simp only [Nx.go.injEq] at h
        obtain ⟨rfl, rfl, rfl, rfl, rfl, rfl⟩ := h
        exact plain (fun a w b k cs => step_skip) hk
      · simp only [Nx.go.injEq] at h
        obtain ⟨rfl, rfl, rfl, rfl, rfl, rfl⟩ := h
        exact plain (fun a w b k cs => step_label) hk
      · simp only [Nx.go.injEq] at h
        obtain ⟨rfl, rfl, rfl, rfl, rfl, rfl⟩ := h
        exact plain (fun a w b k cs => step_seq) hk
      · simp only [Nx.go.injEq] at h
        obtain ⟨rfl, rfl, rfl, rfl, rfl, rfl⟩ := h
        exact plain (fun a w b k cs => step_block) hk
      · split at h
        · rename_i hc
          simp only [Nx.go.injEq] at h
          obtain ⟨rfl, rfl, rfl, rfl, rfl, rfl⟩ := h
          intro ρ a w hR b k cs
          obtain ⟨e, a', w', h1, h2⟩ := hk ρ a w hR b k cs
          have hc := (hR.ev hc).1
          simp only [AV.conc] at hc
          exact ⟨e, a', w', h1, .of_steps (.one (step_cond (t := true) hc)) h2⟩
        · rename_i hc
          simp only [Nx.go.injEq] at h
          obtain ⟨rfl, rfl, rfl, rfl, rfl, rfl⟩ := h
          intro ρ a w hR b k cs
          obtain ⟨e, a', w', h1, h2⟩ := hk ρ a w hR b k cs
          have hc := (hR.ev hc).1
          simp only [AV.conc] at hc
          exact ⟨e, a', w', h1, .of_steps (.one (step_cond (t := false) hc)) h2⟩
        · cases h
      · split at h
        · rename_i k' hk'
          simp only [Nx.go.injEq] at h
          obtain ⟨rfl, rfl, rfl, rfl, rfl, rfl⟩ := h
          exact plain (fun a w b k cs => step_exit (exitTo_append k hk')) hk
        · cases h
      · cases h
      · split at h
        · cases h
        · split at h
          · rename_i id ops draw _ _ _ s1 hs1 vc1 hreg
            simp only [Nx.go.injEq] at h
            obtain ⟨rfl, rfl, rfl, rfl, rfl, rfl⟩ := h
            intro ρ a w hR b k cs
            obtain ⟨e, a1, w1, hq, harr⟩ := regionRun_wp (id := id) hm hreg hvc hR (Q := fun e a' w' => e = .normal ∧ ∃ ρ', Rel Γ ρ' s1 a' w') (fun ρ' a' w' h => ⟨rfl, ρ', h⟩) b (_ ++ k) cs
            obtain ⟨rfl, ρ', hR'⟩ := hq
            obtain ⟨e, a', w', h1, h2⟩ := hk ρ' a1 w1 hR' b k cs
            exact ⟨e, a', w', h1, .of_steps harr h2⟩
          · cases h
      · split at h
        · cases h
        · simp only [Nx.go.injEq] at h
          obtain ⟨rfl, rfl, rfl, rfl, rfl, rfl⟩ := h
          exact plain (fun a w b k cs => step_loop) hk
      · cases h
    · cases h
  · intro st' h hk
    unfold step1 at h
    split at h
    · cases h
    · cases h
    · split at h
      · simp only [Nx.halt.injEq] at h
        subst h
        exact plain (fun a w b k cs => step_inLoop) hk
      · cases h
    · split at h
      all_goals (repeat' split at h)
      all_goals first
        | cases h; done
        | (simp only [Nx.halt.injEq] at h; subst h; exact plain (fun a w b k cs => step_loop) hk)
    · cases h
  · intro h hk
    unfold step1 at h
    split at h
    · intro ρ a w hR b k cs
      obtain ⟨v, h1, h2⟩ := hk ρ a w hR
      exact ⟨.normal, a, w, ⟨hR.df, v, h1, h2⟩, Steps.refl _ _⟩
    · cases h
    · split at h <;> cases h
    · split at h
      all_goals (repeat' split at h)
      all_goals first
        | cases h; done
        | skip
      intro ρ a w hR b k cs
      obtain ⟨v, h1, h2⟩ := hk ρ a w hR
      exact ⟨.ret, a, w, ⟨hR.df, v, h1, h2⟩, _, .one step_ret⟩
    · cases h
theorem run_sound (hm : Γ.P.follows .mixedOrders = true) : ∀ (n m nx : Nat) (hs : List (Nat × Hint)) (st : List Item) (s : AS) (vc : List Prop), OutOk Γ fn R (run Γ n m nx hs st s vc) → (∀ p ∈ (run Γ n m nx hs st s vc).vc, p) → wpK Γ fn R st s
  | 0, m, nx, hs, st, s, vc, h, _ => h.elim
  | n + 1, m, nx, hs, st, s, vc, h, hvc => by
    obtain ⟨g1, g2, g3⟩ := step1_sound (Γ := Γ) (fn := fn) (R := R) hm (m := m) (nx := nx) (hs := hs) (st := st) (s := s)
    unfold run at h hvc
    generalize step1 Γ m nx hs st s = x at *
    cases x with
    | go m' nx' hs' st' s' vc' =>
      simp only at h hvc
      have hno : run Γ n m' nx' hs' st' s' (vc ++ vc') ≠ .no := fun e => by rw [e] at h; exact h.elim
      exact g1 _ _ _ _ _ _ rfl (fun p hp => hvc p (run_vc n _ _ _ _ _ _ hno p (by simp [hp]))) (run_sound hm n _ _ _ _ _ _ h hvc)
    | halt st' => exact g2 _ rfl h
    | stop => exact h
    | ret => exact g3 rfl h
    | no => exact h.elim

/-! Results. -/
def resOne (Γ : Ctx) (s : AS) : ResultVar → Option AV
  | .tmp t => look t s.tm
  | .cell t ty => match look t s.tm with
    | some p => match loadOp Γ ty p s.mem with
      | some (.val v _ []) => some v
      | _ => none
    | none => none
def resAll (Γ : Ctx) (s : AS) : List ResultVar → Option (List AV)
  | [] => some []
  | r :: l => match resOne Γ s r, resAll Γ s l with
    | some v, some vs => some (v :: vs)
    | _, _ => none
def resA (Γ : Ctx) (fn : Func) (s : AS) : Option AV := match resAll Γ s fn.results.toList with
  | some [v] => some v
  | some vs => some (.tup vs)
  | none => none
end

def resSem (tmps : Array Value) (r : ResultVar) : Sem Value := match r with
  | .tmp t => pure (tmps.getD t undef)
  | .cell x t => do loadVar t (← asAddr (tmps.getD x undef))
theorem results_eq (fn : Func) (tmps : Array Value) : results fn tmps = (do
    let vs ← fn.results.mapM (resSem tmps)
    pure (if h : vs.size = 1 then vs[0] else .tuple vs)) := by
  unfold results
  congr 1
theorem resOne_run {Γ : Ctx} {ρ : Env} {s : AS} {a : Act} {w : World} (hR : Rel Γ ρ s a w) {r : ResultVar} {v : AV} (h : resOne Γ s r = some v) :
    (resSem a.tmps r).run Γ.P w = .ok (v.conc ρ) w := by
  cases r with
  | tmp t =>
    simp only [resOne] at h
    have := (hR.tm t v h).1
    simp [resSem, Array.getD_eq_getD_getElem?, this]
  | cell t ty =>
    simp only [resOne] at h
    split at h
    · rename_i p hp
      split at h
      · rename_i v' rd hl
        simp only [Option.some.injEq] at h
        subst h
        have hs := loadOp_sound (nm := 0) (o := { dst := none, op := .load ty (.tmp t), type := ty, pos := "", after := #[], guard := none }) (t := ty) (x := .tmp t) rfl (p := p) (hx := hp) hl (by simp [Res.vc]) hR
        have h1 := (hR.tm t p hp).1
        have hs := hs.1
        unfold execOp at hs
        simp only [Act.eval, Array.getD_eq_getD_getElem?, h1, Option.getD_some] at hs
        simp only [resSem, Array.getD_eq_getD_getElem?, h1, Option.getD_some]
        unfold loadOp at hl
        cases p with
        | ptr k off =>
          simp only [AV.conc, Instr.loadAt, Instr.sureAddr, pure_bind] at hs ⊢
          simp only [asAddr, pure_bind]
          cases hq : (loadVar ty ⟨ρ.b k, off, none⟩).run Γ.P w with
          | ok u w' =>
            simp only [Sem.run_bind, hq, Result.andThen_ok, Sem.run_pure, Result.ok.injEq, Next.value.injEq] at hs
            rw [hs.1, hs.2]
          | halt x w' => simp [Sem.run_bind, hq] at hs
        | elt k b i =>
          simp only [AV.conc, Instr.loadAt, Instr.sureAddr, pure_bind] at hs ⊢
          simp only [asAddr, pure_bind]
          cases hq : (loadVar ty ⟨ρ.b k, b + i, none⟩).run Γ.P w with
          | ok u w' =>
            simp only [Sem.run_bind, hq, Result.andThen_ok, Sem.run_pure, Result.ok.injEq, Next.value.injEq] at hs
            rw [hs.1, hs.2]
          | halt x w' => simp [Sem.run_bind, hq] at hs
        | _ => simp at hl
      · cases h
    · cases h
theorem resAll_run {Γ : Ctx} {ρ : Env} {s : AS} {a : Act} {w : World} (hR : Rel Γ ρ s a w) : ∀ (l : List ResultVar) (vs : List AV), resAll Γ s l = some vs →
    (l.mapM (resSem a.tmps)).run Γ.P w = .ok (AV.concL ρ vs) w
  | [], vs, h => by
    simp only [resAll, Option.some.injEq] at h
    subst h
    simp [AV.concL]
  | r :: l, vs, h => by
    simp only [resAll] at h
    split at h
    · rename_i v vs' h1 h2
      simp only [Option.some.injEq] at h
      subst h
      have e1 := resOne_run hR h1
      have e2 := resAll_run hR l vs' h2
      rw [List.mapM_cons]
      simp only [Sem.run_bind, e1, e2, Result.andThen_ok, Sem.run_pure, AV.concL]
    · cases h
theorem resA_run {Γ : Ctx} {fn : Func} {ρ : Env} {s : AS} {a : Act} {w : World} (hR : Rel Γ ρ s a w) {v : AV} (h : resA Γ fn s = some v) : (results fn a.tmps).run Γ.P w = .ok (v.conc ρ) w := by
  unfold resA at h
  have key : ∀ vs, resAll Γ s fn.results.toList = some vs → (results fn a.tmps).run Γ.P w = .ok (if h : (AV.concL ρ vs).toArray.size = 1 then (AV.concL ρ vs).toArray[0] else .tuple (AV.concL ρ vs).toArray) w := by
    intro vs hv
    have := resAll_run hR _ _ hv
    rw [results_eq, Sem.run_bind, Array.mapM_eq_mapM_toList, Sem.run_map, this]
    simp
  split at h
  · rename_i u hu
    simp only [Option.some.injEq] at h
    subst h
    rw [key _ hu]
    simp [AV.concL]
  · rename_i vs hne hu
    simp only [Option.some.injEq] at h
    subst h
    rw [key _ hu]
    have hl : (AV.concL ρ vs).length = vs.length := by
      clear hne hu key
      induction vs with
      | nil => rfl
      | cons x r ih => simp [AV.concL, ih]
    have : ¬ (AV.concL ρ vs).toArray.size = 1 := by
      simp only [List.size_toArray, hl]
      intro e
      obtain ⟨x, hx⟩ := List.length_eq_one_iff.1 e
      exact hne x hx
    rw [dif_neg this]
    simp [AV.conc]
  · cases h

/-! What is to be shown, as one proposition; what a run ends in. -/
def allP : List Prop → Prop
  | [] => True
  | [p] => p
  | p :: r => p ∧ allP r
theorem allP_mem : ∀ (l : List Prop), allP l → ∀ p ∈ l, p
  | [], _, p, hp => by cases hp
  | [q], h, p, hp => by simp only [List.mem_singleton] at hp; subst hp; exact h
  | q :: q' :: r, h, p, hp => by
    simp only [allP] at h
    rcases List.mem_cons.1 hp with rfl | hp
    · exact h.1
    · exact allP_mem (q' :: r) h.2 p hp
/-- A function that is run to its end: its answer, and what is to be shown. -/
def endRun (Γ : Ctx) (fn : Func) : Out → Option (AV × Prop)
  | .ret s vc => match resA Γ fn s with
    | some v => some (v, allP vc)
    | none => none
  | _ => none
/-! To some of the slots and blocks alone, the blocks under other numbers: l tells the new one of each elder one. -/
mutual
def AV.ren (l : List (Nat × Nat)) : AV → Option AV
  | .val x => some (.val x)
  | .ptr k off => match look k l with
    | some j => some (.ptr j off)
    | none => none
  | .elt k base i => match look k l with
    | some j => some (.elt j base i)
    | none => none
  | .lst k base st len cap => match look k l with
    | some j => some (.lst j base st len cap)
    | none => none
  | .own k sz st len => match look k l with
    | some j => some (.own j sz st len)
    | none => none
  | .agg cs => match Seg.ren l cs with
    | some cs' => some (.agg cs')
    | none => none
  | .tup cs => match AV.renL l cs with
    | some cs' => some (.tup cs')
    | none => none
  | .ifc t x => match AV.ren l x with
    | some y => some (.ifc t y)
    | none => none
def AV.renL (l : List (Nat × Nat)) : List AV → Option (List AV)
  | [] => some []
  | x :: r => match AV.ren l x, AV.renL l r with
    | some y, some r' => some (y :: r')
    | _, _ => none
def Seg.ren (l : List (Nat × Nat)) : List Seg → Option (List Seg)
  | [] => some []
  | .cell x :: r => match AV.ren l x, Seg.ren l r with
    | some y, some r' => some (.cell y :: r')
    | _, _ => none
  | .ints k n xs :: r => match Seg.ren l r with
    | some r' => some (.ints k n xs :: r')
    | none => none
  | .vals n vs :: r => match Seg.ren l r with
    | some r' => some (.vals n vs :: r')
    | none => none
end
section
variable {l : List (Nat × Nat)} {ρ ρ' : Env} {D E : Nat → Prop}
theorem AV.ren_one : ∀ (x y : AV), x.ren l = some y → y.one = x.one := by
  intro x y hr
  cases x <;> simp only [AV.ren] at hr <;> (try split at hr) <;> first | (simp only [Option.some.injEq] at hr; subst hr; rfl) | cases hr
mutual
theorem AV.ren_spec (h : ∀ k j, look k l = some j → ρ'.b j = ρ.b k ∧ ρ'.c j = ρ.c k ∧ E j) : ∀ (x y : AV), x.ren l = some y → x.ok D → y.conc ρ' = x.conc ρ ∧ y.ok E
  | .val x, y, hr, _ => by simp only [AV.ren, Option.some.injEq] at hr; subst hr; exact ⟨by simp [AV.conc], by simp [AV.ok]⟩
  | .ptr k off, y, hr, _ => by
    simp only [AV.ren] at hr
    split at hr
    · rename_i j hj; simp only [Option.some.injEq] at hr; subst hr
      obtain ⟨h1, h2, h3⟩ := h k j hj
      exact ⟨by simp [AV.conc, h1], by simpa [AV.ok] using h3⟩
    · cases hr
  | .elt k base i, y, hr, _ => by
    simp only [AV.ren] at hr
    split at hr
    · rename_i j hj; simp only [Option.some.injEq] at hr; subst hr
      obtain ⟨h1, h2, h3⟩ := h k j hj
      exact ⟨by simp [AV.conc, h1], by simpa [AV.ok] using h3⟩
    · cases hr
  | .lst k base st len cap, y, hr, _ => by
    simp only [AV.ren] at hr
    split at hr
    · rename_i j hj; simp only [Option.some.injEq] at hr; subst hr
      obtain ⟨h1, h2, h3⟩ := h k j hj
      exact ⟨by simp [AV.conc, h1], by simpa [AV.ok] using h3⟩
    · cases hr
  | .own k sz st len, y, hr, _ => by
    simp only [AV.ren] at hr
    split at hr
    · rename_i j hj; simp only [Option.some.injEq] at hr; subst hr
      obtain ⟨h1, h2, h3⟩ := h k j hj
      exact ⟨by simp [AV.conc, h1, h2], by simpa [AV.ok] using h3⟩
    · cases hr
  | .agg cs, y, hr, ho => by
    simp only [AV.ren] at hr
    simp only [AV.ok] at ho
    split at hr
    · rename_i cs' hcs; simp only [Option.some.injEq] at hr; subst hr
      obtain ⟨h1, h2⟩ := Seg.ren_spec h cs cs' hcs ho
      exact ⟨by simp only [AV.conc, h1], by simp only [AV.ok]; exact h2⟩
    · cases hr
  | .tup cs, y, hr, ho => by
    simp only [AV.ren] at hr
    simp only [AV.ok] at ho
    split at hr
    · rename_i cs' hcs; simp only [Option.some.injEq] at hr; subst hr
      obtain ⟨h1, h2⟩ := AV.renL_spec h cs cs' hcs ho
      exact ⟨by simp only [AV.conc, h1], by simp only [AV.ok]; exact h2⟩
    · cases hr
  | .ifc t x, y, hr, ho => by
    simp only [AV.ren] at hr
    simp only [AV.ok] at ho
    split at hr
    · rename_i x' hx; simp only [Option.some.injEq] at hr; subst hr
      obtain ⟨h1, h2⟩ := AV.ren_spec h x x' hx ho
      exact ⟨by simp only [AV.conc, h1], by simp only [AV.ok]; exact h2⟩
    · cases hr
theorem AV.renL_spec (h : ∀ k j, look k l = some j → ρ'.b j = ρ.b k ∧ ρ'.c j = ρ.c k ∧ E j) : ∀ (x y : List AV), AV.renL l x = some y → AV.okL D x → AV.concL ρ' y = AV.concL ρ x ∧ AV.okL E y
  | [], y, hr, _ => by simp only [AV.renL, Option.some.injEq] at hr; subst hr; exact ⟨rfl, trivial⟩
  | x :: r, y, hr, ho => by
    simp only [AV.renL] at hr
    simp only [AV.okL] at ho
    split at hr
    · rename_i x' r' h1 h2
      simp only [Option.some.injEq] at hr; subst hr
      obtain ⟨g1, g2⟩ := AV.ren_spec h x x' h1 ho.1
      obtain ⟨g3, g4⟩ := AV.renL_spec h r r' h2 ho.2
      exact ⟨by simp only [AV.concL, g1, g3], by simp only [AV.okL]; exact ⟨g2, g4⟩⟩
    · cases hr
theorem Seg.ren_spec (h : ∀ k j, look k l = some j → ρ'.b j = ρ.b k ∧ ρ'.c j = ρ.c k ∧ E j) : ∀ (x y : List Seg), Seg.ren l x = some y → Seg.ok D x → Seg.cells ρ' y = Seg.cells ρ x ∧ Seg.ok E y
  | [], y, hr, _ => by simp only [Seg.ren, Option.some.injEq] at hr; subst hr; exact ⟨rfl, trivial⟩
  | .cell x :: r, y, hr, ho => by
    simp only [Seg.ren] at hr
    simp only [Seg.ok] at ho
    split at hr
    · rename_i x' r' h1 h2
      simp only [Option.some.injEq] at hr; subst hr
      obtain ⟨g1, g2⟩ := AV.ren_spec h x x' h1 ho.1.2
      obtain ⟨g3, g4⟩ := Seg.ren_spec h r r' h2 ho.2
      exact ⟨by simp only [Seg.cells, Seg.cell1, g1, g3], by simp only [Seg.ok]; exact ⟨⟨by rw [AV.ren_one x x' h1]; exact ho.1.1, g2⟩, g4⟩⟩
    · cases hr
  | .ints k n xs :: r, y, hr, ho => by
    simp only [Seg.ren] at hr
    simp only [Seg.ok] at ho
    split at hr
    · rename_i r' h2
      simp only [Option.some.injEq] at hr; subst hr
      obtain ⟨g3, g4⟩ := Seg.ren_spec h r r' h2 ho.2
      exact ⟨by simp only [Seg.cells, Seg.cell1, g3], by simp only [Seg.ok]; exact ⟨ho.1, g4⟩⟩
    · cases hr
  | .vals n vs :: r, y, hr, ho => by
    simp only [Seg.ren] at hr
    simp only [Seg.ok] at ho
    split at hr
    · rename_i r' h2
      simp only [Option.some.injEq] at hr; subst hr
      obtain ⟨g3, g4⟩ := Seg.ren_spec h r r' h2 ho.2
      exact ⟨by simp only [Seg.cells, Seg.cell1, g3], by simp only [Seg.ok]; exact ⟨ho.1, g4⟩⟩
    · cases hr
end
end
def keepT (l : List (Nat × Nat)) (ts : List Nat) (tm : List (Nat × AV)) : Option (List (Nat × AV)) := match ts with
  | [] => some []
  | t :: r => match look t tm, keepT l r tm with
    | some v, some tm' => match v.ren l with
      | some v' => some ((t, v') :: tm')
      | none => none
    | _, _ => none
/-- ps: the new number, the elder one. -/
def keepM (l : List (Nat × Nat)) (ps : List (Nat × Nat)) (mem : List (Nat × Vblk)) : Option (List (Nat × Vblk)) := match ps with
  | [] => some []
  | (j, k) :: r => match look k mem, keepM l r mem with
    | some b, some m => match Seg.ren l b.row with
      | some row => some ((j, { b with row := row }) :: m)
      | none => none
    | _, _ => none
def swapP : List (Nat × Nat) → List (Nat × Nat)
  | [] => []
  | (j, k) :: r => (k, j) :: swapP r
/-- Each number once, on either side; the first ones stay. -/
def pairsOk (n0 : Nat) (ps : List (Nat × Nat)) : Bool :=
  ps.all (fun x => match look x.1 ps, look x.2 (swapP ps) with
    | some k, some j => Nat.beq k x.2 && Nat.beq j x.1
    | _, _ => false) && (List.range n0).all fun k => match look k ps with
    | some j => Nat.beq j k
    | none => false
/-- Lists that are nil yet get a number. -/
def adopt : List (Nat × Nat × Nat × List Seg × TypeId) → AS → Option AS
  | [], s => some s
  | (t, nm, sz, row, ty) :: r, s => match look t s.tm, look nm s.mem with
    | some (.val (.slice none 0 0)), none => match row with
      | [] => adopt r ⟨lay t (.own nm sz 0 0) s.tm, lay nm ⟨[], ty, .own sz⟩ s.mem⟩
      | [.ints k 0 []] => adopt r ⟨lay t (.own nm sz 0 0) s.tm, lay nm ⟨[.ints k 0 []], ty, .own sz⟩ s.mem⟩
      | [.vals 0 []] => adopt r ⟨lay t (.own nm sz 0 0) s.tm, lay nm ⟨[.vals 0 []], ty, .own sz⟩ s.mem⟩
      | _ => none
    | _, _ => none
def keepS (n0 : Nat) (ad : List (Nat × Nat × Nat × List Seg × TypeId)) (ts : List Nat) (ps : List (Nat × Nat)) (s : AS) : Option AS := match adopt ad s with
  | some s => match pairsOk n0 ps, keepT (swapP ps) ts s.tm, keepM (swapP ps) ps s.mem with
    | true, some tm, some mem => some ⟨tm, mem⟩
    | _, _, _ => none
  | none => none
/-- A run that comes to the round of a loop: the state there, and what is to be shown. -/
def loopRun (n0 : Nat) (ad : List (Nat × Nat × Nat × List Seg × TypeId)) (ts : List Nat) (ps : List (Nat × Nat)) : Out → Option (List Item × AS × Prop)
  | .at st s vc => match keepS n0 ad ts ps s with
    | some s' => some (st, s', allP vc)
    | none => none
  | _ => none
theorem Rel.nil {Γ : Ctx} {ρ : Env} {s : AS} {a : Act} {w : World} (h : Rel Γ ρ s a w) {t nm sz : Nat} {row : List Seg} {ty : TypeId} (ht : look t s.tm = some (.val (.slice none 0 0))) (hn : look nm s.mem = none) (hrow : ∀ ρ, Seg.cells ρ row = []) (hok : Seg.ok (AS.dom s.mem) row) :
    Rel Γ (ρ.up nm 0 0) ⟨lay t (.own nm sz 0 0) s.tm, lay nm ⟨row, ty, .own sz⟩ s.mem⟩ a w := by
  have hna : ¬ (⟨row, ty, .own sz⟩ : Vblk).alive (ρ.up nm 0 0) nm := by unfold Vblk.alive; simp only; rw [Env.up_sameC]; omega
  obtain ⟨g1, g2⟩ := h.mem.name (w' := w) nm 0 0 hn ⟨row, ty, .own sz⟩ hok (by unfold Sits; simp only; rw [Env.up_sameC]; exact ⟨fun _ => hrow _, fun h => by omega⟩) (fun _ _ _ _ => .inr hna) (fun h => absurd h hna) (fun _ _ _ _ => rfl) h.mem.fr
  have h3 : ∀ j, AS.dom s.mem j → AS.dom (lay nm ⟨row, ty, .own sz⟩ s.mem) j := fun j hj => dom_lay.2 (.inr hj)
  have := h.names g1 g2 h3
  refine ⟨this.mem, fun u v hv => ?_, this.df, this.size⟩
  simp only at hv
  rw [look_lay] at hv
  split at hv
  · rename_i e
    subst e
    simp only [Option.some.injEq] at hv
    subst hv
    refine ⟨?_, by simp only [AV.ok]; exact dom_lay.2 (.inl rfl)⟩
    have := (h.tm u _ ht).1
    simp only [AV.conc] at this
    rw [this]
    simp only [AV.conc, Env.up_sameC]
  · exact this.tm u v hv
theorem Rel.adopt {Γ : Ctx} {a : Act} {w : World} : ∀ (ad : List (Nat × Nat × Nat × List Seg × TypeId)) (ρ : Env) (s s' : AS), Rel Γ ρ s a w → adopt ad s = some s' → ∃ ρ', Rel Γ ρ' s' a w
  | [], ρ, s, s', h, hk => by simp only [Go.Proofs.YthgnmpjcbicdhaaDoor.adopt, Option.some.injEq] at hk; subst hk; exact ⟨ρ, h⟩
  | (t, nm, sz, row, ty) :: r, ρ, s, s', h, hk => by
    simp only [Go.Proofs.YthgnmpjcbicdhaaDoor.adopt] at hk
    split at hk
    · rename_i ht hn
      split at hk
      · exact Rel.adopt r _ _ s' (h.nil (row := []) ht hn (fun _ => rfl) trivial) hk
      · rename_i k0
        exact Rel.adopt r _ _ s' (h.nil (row := [.ints k0 0 []]) ht hn (fun _ => rfl) (by simp only [Seg.ok]; exact ⟨rfl, trivial⟩)) hk
      · exact Rel.adopt r _ _ s' (h.nil (row := [.vals 0 []]) ht hn (fun _ => rfl) (by simp only [Seg.ok]; exact ⟨⟨rfl, fun v hv => by simp at hv⟩, trivial⟩)) hk
      · cases hk
    · cases hk
theorem look_mem {α : Type} : ∀ (l : List (Nat × α)) (k : Nat) (x : α), look k l = some x → (k, x) ∈ l
  | [], k, x, h => by simp [look] at h
  | (j, y) :: r, k, x, h => by
    simp only [look] at h
    split at h
    · rename_i hb
      have := Nat.eq_of_beq_eq_true hb
      subst this
      simp only [Option.some.injEq] at h
      subst h
      simp
    · simp [look_mem r k x h]
theorem swapP_mem : ∀ (l : List (Nat × Nat)) (k j : Nat), (k, j) ∈ swapP l → (j, k) ∈ l
  | [], k, j, h => by simp [swapP] at h
  | (x, y) :: r, k, j, h => by
    simp only [swapP, List.mem_cons, Prod.mk.injEq] at h
    rcases h with ⟨rfl, rfl⟩ | h
    · simp
    · simp [swapP_mem r k j h]
theorem keepT_spec {l : List (Nat × Nat)} : ∀ (ts : List Nat) (tm tm' : List (Nat × AV)), keepT l ts tm = some tm' → ∀ t v, look t tm' = some v → ∃ u, look t tm = some u ∧ u.ren l = some v
  | [], tm, tm', h, t, v, hv => by simp only [keepT, Option.some.injEq] at h; subst h; simp [look] at hv
  | x :: r, tm, tm', h, t, v, hv => by
    simp only [keepT] at h
    split at h
    · rename_i u l' h1 h2
      split at h
      · rename_i v' h3
        simp only [Option.some.injEq] at h
        subst h
        simp only [look] at hv
        split at hv
        · rename_i hb
          have := Nat.eq_of_beq_eq_true hb
          subst this
          simp only [Option.some.injEq] at hv
          subst hv
          exact ⟨u, h1, h3⟩
        · exact keepT_spec r tm l' h2 t v hv
      · cases h
    · cases h
theorem keepM_spec {l : List (Nat × Nat)} : ∀ (ps : List (Nat × Nat)) (mem m : List (Nat × Vblk)), keepM l ps mem = some m → (∀ j b, look j m = some b → ∃ k b0, look j ps = some k ∧ look k mem = some b0 ∧ ∃ row, Seg.ren l b0.row = some row ∧ b = { b0 with row := row }) ∧ ∀ j k, look j ps = some k → (look j m).isSome = true
  | [], mem, m, h => by
    simp only [keepM, Option.some.injEq] at h; subst h
    exact ⟨fun j b hv => by simp [look] at hv, fun j k hj => by simp [look] at hj⟩
  | (x, y) :: r, mem, m, h => by
    simp only [keepM] at h
    split at h
    · rename_i b0 l' h1 h2
      split at h
      · rename_i row h3
        simp only [Option.some.injEq] at h
        subst h
        obtain ⟨i1, i2⟩ := keepM_spec r mem l' h2
        refine ⟨fun j b hb => ?_, fun j k hj => ?_⟩
        · have key : ∀ (c : Bool) (b' : Vblk), (match c with | true => some b' | false => look j l') = some b → c = true ∧ b' = b ∨ c = false ∧ look j l' = some b := by
            intro c b' hc
            cases c
            · exact .inr ⟨rfl, hc⟩
            · exact .inl ⟨rfl, by simpa using hc⟩
          rcases key _ _ hb with ⟨he, rfl⟩ | ⟨he, hl⟩
          · refine ⟨y, b0, ?_, h1, row, h3, rfl⟩
            unfold look
            rw [he]
          · obtain ⟨k', b', e1, e2, e3⟩ := i1 j b hl
            refine ⟨k', b', ?_, e2, e3⟩
            unfold look
            rw [he]
            exact e1
        · unfold look at hj ⊢
          split
          · rfl
          · rename_i he
            rw [he] at hj
            exact i2 j k hj
      · cases h
    · cases h
theorem Rel.keep {Γ : Ctx} {ρ : Env} {s s' : AS} {a : Act} {w : World} (h : Rel Γ ρ s a w) {ad : List (Nat × Nat × Nat × List Seg × TypeId)} {ts : List Nat} {ps : List (Nat × Nat)} (hk : keepS Γ.n0 ad ts ps s = some s') : ∃ ρ', Rel Γ ρ' s' a w := by
  unfold keepS at hk
  split at hk
  · rename_i s1 had
    obtain ⟨ρ1, h⟩ := h.adopt ad ρ s s1 had
    split at hk
    · rename_i tm mem hp h1 h2
      simp only [Option.some.injEq] at hk
      subst hk
      unfold pairsOk at hp
      simp only [Bool.and_eq_true, List.all_eq_true] at hp
      obtain ⟨p1, p2⟩ := hp
      -- both ways
      have q1 : ∀ j k, look j ps = some k → look k (swapP ps) = some j := by
        intro j k hj
        have := p1 _ (look_mem _ _ _ hj)
        simp only at this
        split at this
        · rename_i k' j' e1 e2
          rw [Bool.and_eq_true] at this
          rw [e2, Nat.eq_of_beq_eq_true this.2]
        · cases this
      have q2 : ∀ k j, look k (swapP ps) = some j → look j ps = some k := by
        intro k j hk
        have := p1 _ (swapP_mem _ _ _ (look_mem _ _ _ hk))
        simp only at this
        split at this
        · rename_i k' j' e1 e2
          rw [Bool.and_eq_true] at this
          rw [e1, Nat.eq_of_beq_eq_true this.1]
        · cases this
      let ρ' : Env := ⟨fun j => match look j ps with | some k => ρ1.b k | none => 0, fun j => match look j ps with | some k => ρ1.c k | none => 0⟩
      have hρ : ∀ j k, look j ps = some k → ρ'.b j = ρ1.b k ∧ ρ'.c j = ρ1.c k := by
        intro j k hj
        show (match look j ps with | some k => ρ1.b k | none => 0) = _ ∧ (match look j ps with | some k => ρ1.c k | none => 0) = _
        rw [hj]
        exact ⟨rfl, rfl⟩
      obtain ⟨m1, m2⟩ := keepM_spec ps s1.mem mem h2
      have hren : ∀ k j, look k (swapP ps) = some j → ρ'.b j = ρ1.b k ∧ ρ'.c j = ρ1.c k ∧ AS.dom mem j := by
        intro k j hk
        have hj := q2 k j hk
        obtain ⟨e1, e2⟩ := hρ j k hj
        exact ⟨e1, e2, m2 j k hj⟩
      have hal : ∀ (j k : Nat) (b0 : Vblk) (row : List Seg), look j ps = some k → (({ b0 with row := row } : Vblk).alive ρ' j ↔ b0.alive ρ1 k) := by
        intro j k b0 row hj
        unfold Vblk.alive
        simp only
        cases b0.held with
        | own sz => simp only; rw [(hρ j k hj).2]
        | _ => exact Iff.rfl
      refine ⟨ρ', ⟨fun j b hb => ?_, fun i j b c hi hj ai aj hij => ?_, fun j b hb ha => ?_, fun j hj => ?_, h.mem.fr⟩, fun t v hv => ?_, h.df, h.size⟩
      · obtain ⟨k, b0, e1, e2, row, e3, rfl⟩ := m1 j b hb
        obtain ⟨g1, g2⟩ := h.mem.sits k b0 e2
        obtain ⟨r1, r2⟩ := Seg.ren_spec (ρ := ρ1) (ρ' := ρ') (D := AS.dom s1.mem) hren _ _ e3 g2
        refine ⟨?_, r2⟩
        obtain ⟨f1, f2⟩ := hρ j k e1
        unfold Sits at g1 ⊢
        simp only
        cases hh : b0.held with
        | dead => trivial
        | arr => rw [hh] at g1; simp only at g1 ⊢; rw [r1, f1]; exact g1
        | own sz => rw [hh] at g1; simp only at g1 ⊢; rw [r1, f1, f2]; exact g1
      · obtain ⟨k1, b1, e1, e2, row1, e3, rfl⟩ := m1 i b hi
        obtain ⟨k2, b2, f1, f2, row2, f3, rfl⟩ := m1 j c hj
        rw [(hρ i k1 e1).1, (hρ j k2 f1).1] at hij
        have hkk := h.mem.inj k1 k2 b1 b2 e2 f2 ((hal i k1 b1 row1 e1).1 ai) ((hal j k2 b2 row2 f1).1 aj) hij
        subst hkk
        have w1 := q1 i k1 e1
        have w2 := q1 j k1 f1
        rw [w1] at w2
        simpa using w2
      · obtain ⟨k, b0, e1, e2, row, e3, rfl⟩ := m1 j b hb
        have hk := h.mem.home k b0 e2 ((hal j k b0 row e1).1 ha)
        rw [(hρ j k e1).1]
        exact hk
      · have := p2 j (by simpa using hj)
        split at this
        · rename_i k hk
          have e := Nat.eq_of_beq_eq_true this
          subst e
          obtain ⟨h3, h4, h5⟩ := h.mem.fix k hj
          obtain ⟨f1, f2⟩ := hρ k k hk
          exact ⟨m2 k k hk, by rw [f1]; exact h4, by rw [f2]; exact h5⟩
        · cases this
      · obtain ⟨u, e1, e2⟩ := keepT_spec _ _ _ h1 t v hv
        obtain ⟨g1, g2⟩ := h.tm t u e1
        obtain ⟨r1, r2⟩ := AV.ren_spec (ρ := ρ1) (ρ' := ρ') (D := AS.dom s1.mem) hren u v e2 g2
        exact ⟨by rw [r1]; exact g1, r2⟩
    · cases hk
  · cases hk
/-- To the next round of a loop. -/
theorem wpK_loop {Γ : Ctx} {fn : Func} {R : Ending → World → Prop} (hm : Γ.P.follows .mixedOrders = true) {n m nx : Nat} {hs : List (Nat × Hint)} {st st' : List Item} {s s' : AS} (ad : List (Nat × Nat × Nat × List Seg × TypeId)) (ts : List Nat) (ps : List (Nat × Nat)) {A : Prop} (hA : A)
    (h : loopRun Γ.n0 ad ts ps (run Γ n m nx hs st s []) = some (st', s', A)) (hk : wpK Γ fn R st' s') : wpK Γ fn R st s := by
  generalize hx : run Γ n m nx hs st s [] = x at h
  cases x with
  | «at» st1 s1 vc =>
    simp only [loopRun] at h
    split at h
    · rename_i s2 hkeep
      simp only [Option.some.injEq, Prod.mk.injEq] at h
      obtain ⟨rfl, rfl, rfl⟩ := h
      refine run_sound hm n m nx hs st s [] ?_ (by rw [hx]; exact allP_mem _ hA)
      rw [hx]
      exact fun ρ a w hR => let ⟨ρ', hR'⟩ := hR.keep hkeep; hk ρ' a w hR'
    · cases h
  | ret s1 vc => simp [loopRun] at h
  | no => simp [loopRun] at h
/-- To the end. -/
theorem wpK_end {Γ : Ctx} {fn : Func} {R : Ending → World → Prop} (hm : Γ.P.follows .mixedOrders = true) {n m nx : Nat} {hs : List (Nat × Hint)} {st : List Item} {s : AS} {v : AV} {A : Prop} (hA : A)
    (h : endRun Γ fn (run Γ n m nx hs st s []) = some (v, A)) (hR : ∀ (ρ : Env) w', Fr Γ.F Γ.w0 w' → R (.returned (v.conc ρ)) w') : wpK Γ fn R st s := by
  generalize hx : run Γ n m nx hs st s [] = x at h
  cases x with
  | «at» st1 s1 vc => simp [endRun] at h
  | ret s1 vc =>
    simp only [endRun] at h
    split at h
    · rename_i u hu
      simp only [Option.some.injEq, Prod.mk.injEq] at h
      obtain ⟨rfl, rfl⟩ := h
      refine run_sound hm n m nx hs st s [] ?_ (by rw [hx]; exact allP_mem _ hA)
      rw [hx]
      exact fun ρ a w hrel => ⟨_, resA_run hrel hu, hR ρ w hrel.mem.fr⟩
    · cases h
  | no => simp [endRun] at h
/-- A function that is run to its end: its answer, some of the blocks, and what is to be shown. -/
def endRunM (Γ : Ctx) (fn : Func) (ks : List Nat) : Out → Option (AV × List (Nat × Vblk) × Prop)
  | .ret s vc => match resA Γ fn s, pickM s.mem ks with
    | some v, some bs => some (v, bs, allP vc)
    | _, _ => none
  | _ => none
/-- To the end, with some of the memory. -/
theorem wpK_endM {Γ : Ctx} {fn : Func} {R : Ending → World → Prop} (hm : Γ.P.follows .mixedOrders = true) {n m nx : Nat} {hs : List (Nat × Hint)} {st : List Item} {s : AS} (ks : List Nat) {v : AV} {bs : List (Nat × Vblk)} {A : Prop} (hA : A)
    (h : endRunM Γ fn ks (run Γ n m nx hs st s []) = some (v, bs, A)) (hR : ∀ (ρ : Env) w', Fr Γ.F Γ.w0 w' → hasAll Γ ρ w' bs → R (.returned (v.conc ρ)) w') : wpK Γ fn R st s := by
  generalize hx : run Γ n m nx hs st s [] = x at h
  cases x with
  | «at» st1 s1 vc => simp [endRunM] at h
  | ret s1 vc =>
    simp only [endRunM] at h
    split at h
    · rename_i u bs' hu hb
      simp only [Option.some.injEq, Prod.mk.injEq] at h
      obtain ⟨rfl, rfl, rfl⟩ := h
      refine run_sound hm n m nx hs st s [] ?_ (by rw [hx]; exact allP_mem _ hA)
      rw [hx]
      exact fun ρ a w hrel => ⟨_, resA_run hrel hu, hR ρ w hrel.mem.fr (pickM_spec hrel.mem _ _ hb).1⟩
    · cases h
  | no => simp [endRunM] at h
/-- The blocks that were named at the start have their places still. -/
def FixR (Γ : Ctx) (ρ : Env) : Prop := ∀ k, k < Γ.n0 → ρ.b k = Γ.ρ0.b k ∧ ρ.c k = Γ.ρ0.c k
/-- To the end, with some of the memory, and the caller's blocks. -/
theorem wpK_endF {Γ : Ctx} {fn : Func} {R : Ending → World → Prop} (hm : Γ.P.follows .mixedOrders = true) {n m nx : Nat} {hs : List (Nat × Hint)} {st : List Item} {s : AS} (ks : List Nat) {v : AV} {bs : List (Nat × Vblk)} {A : Prop} (hA : A)
    (h : endRunM Γ fn ks (run Γ n m nx hs st s []) = some (v, bs, A)) (hR : ∀ (ρ : Env) w', Fr Γ.F Γ.w0 w' → FixR Γ ρ → hasAll Γ ρ w' bs → R (.returned (v.conc ρ)) w') : wpK Γ fn R st s := by
  generalize hx : run Γ n m nx hs st s [] = x at h
  cases x with
  | «at» st1 s1 vc => simp [endRunM] at h
  | ret s1 vc =>
    simp only [endRunM] at h
    split at h
    · rename_i u bs' hu hb
      simp only [Option.some.injEq, Prod.mk.injEq] at h
      obtain ⟨rfl, rfl, rfl⟩ := h
      refine run_sound hm n m nx hs st s [] ?_ (by rw [hx]; exact allP_mem _ hA)
      rw [hx]
      exact fun ρ a w hrel => ⟨_, resA_run hrel hu, hR ρ w hrel.mem.fr (fun k hk => (hrel.mem.fix k hk).2) (pickM_spec hrel.mem _ _ hb).1⟩
    · cases h
  | no => simp [endRunM] at h
def argsTm : Nat → List AV → List (Nat × AV)
  | _, [] => []
  | i, v :: r => (i, v) :: argsTm (i + 1) r
theorem argsTm_spec : ∀ (l : List AV) (i t : Nat) (v : AV), look t (argsTm i l) = some v → ∃ j, t = i + j ∧ l[j]? = some v
  | [], i, t, v, h => by simp [argsTm, look] at h
  | x :: r, i, t, v, h => by
    simp only [argsTm, look] at h
    split at h
    · rename_i hb
      have := Nat.eq_of_beq_eq_true hb
      exact ⟨0, by omega, by simpa using h⟩
    · obtain ⟨j, h1, h2⟩ := argsTm_spec r (i + 1) t v h
      exact ⟨j + 1, by omega, by simpa using h2⟩
def Env.nil : Env := ⟨fun _ => 0, fun _ => 0⟩
def ctx (P : Program) (w : World) (n : Nat) : Ctx := ⟨P, w, No, Env.nil, 0, n⟩
def bodyOf (fn : Func) : Code := match fn.body with
  | some c => c
  | none => .skip
theorem bodyOf_some {fn : Func} (h : fn.body.isSome = true) : fn.body = some (bodyOf fn) := by
  unfold bodyOf
  cases hb : fn.body with
  | some c => rfl
  | none => rw [hb] at h; cases h
/-- The loops of a function, in the order of its text: each at the start of its round. -/
def loopsIn : Code → List Item → List (List Item)
  | .seq x y, k => loopsIn x (.code y :: k) ++ loopsIn y k
  | .block id x, k => loopsIn x (.inBlock id :: k)
  | .cond _ x y, k => loopsIn x k ++ loopsIn y k
  | .loop c, k => (.code c :: .inLoop c :: k) :: loopsIn c (.inLoop c :: k)
  | _, _ => []
def loopAt (fn : Func) (n : Nat) : List Item := (loopsIn (bodyOf fn) []).getD n []
/-- A function over values. -/
theorem calls_vm {P : Program} {f : FuncId} {fn : Func} {w : World} {R : Ending → World → Prop} (vs : List AV) (hf : P.funcs[f]? = some fn) (hb : fn.body.isSome = true) {args : Array Value} (ha : args = (AV.concL Env.nil vs).toArray) (hl : Nat.ble vs.length fn.ntmps = true) (hok : AV.okL No vs)
    (h : wpK (ctx P w fn.ntmps) fn R [.code (bodyOf fn)] ⟨argsTm 0 vs, []⟩) : Calls P f args w R := by
  have hle := Nat.le_of_ble_eq_true hl
  clear hl
  refine calls_of_wp hf (bodyOf_some hb) fun b k cs => ?_
  have hlen : (AV.concL Env.nil vs).length = vs.length := by
    clear h hok hle ha
    induction vs with
    | nil => rfl
    | cons x r ih => simp [AV.concL, ih]
  refine h Env.nil _ w ⟨⟨fun k b hb => by simp [look] at hb, fun j k b c hj => by simp [look] at hj, fun k b hk => by simp [look] at hk, fun k hk => by simp [ctx] at hk, Fr.refl _ _⟩, fun t v hv => ?_, rfl, ?_⟩ b k cs
  · obtain ⟨j, h1, h2⟩ := argsTm_spec _ _ _ _ hv
    rw [Nat.zero_add] at h1
    subst h1
    have hj : t < vs.length := (List.getElem?_eq_some_iff.1 h2).1
    refine ⟨?_, ?_⟩
    · subst ha
      simp only
      rw [Array.getElem?_append_left (by simp [hlen]; exact hj)]
      rw [List.getElem?_toArray, concL_at, h2]
      rfl
    · exact AV.ok_mono (fun _ h => h.elim) _ (okL_at vs t v h2 hok)
  · subst ha
    simp [ctx, hlen]
    omega
/-- A block's row, spelled otherwise. -/
theorem wpK_recast {Γ : Ctx} {fn : Func} {R : Ending → World → Prop} {st : List Item} {s : AS} (k : Nat) {b : Vblk} (row' : List Seg) (hk : look k s.mem = some b) (hc : ∀ ρ, Seg.cells ρ row' = Seg.cells ρ b.row) (hok : Seg.ok No row') (h : wpK Γ fn R st ⟨s.tm, lay k ⟨row', b.ty, b.held⟩ s.mem⟩) : wpK Γ fn R st s := by
  intro ρ a w hR
  have hdk : AS.dom s.mem k := by unfold AS.dom; rw [hk]; rfl
  have hdom : ∀ j, AS.dom (lay k ⟨row', b.ty, b.held⟩ s.mem) j ↔ AS.dom s.mem j := fun j => by
    rw [dom_lay]; exact ⟨fun e => e.elim (fun e => by subst e; exact hdk) id, .inr⟩
  have hold : ∀ j c, look j (lay k ⟨row', b.ty, b.held⟩ s.mem) = some c → ∃ c0, look j s.mem = some c0 ∧ (c.alive ρ j ↔ c0.alive ρ j) ∧ (Sits ρ w j c ↔ Sits ρ w j c0) := by
    intro j c hj
    rw [look_lay] at hj
    split at hj
    · rename_i e
      subst e
      simp only [Option.some.injEq] at hj
      subst hj
      refine ⟨b, hk, Iff.rfl, ?_⟩
      unfold Sits
      simp only [hc ρ]
    · exact ⟨c, hj, Iff.rfl, Iff.rfl⟩
  refine h ρ a w ⟨⟨fun j c hj => ?_, fun i j b1 c1 hi hj ai aj => ?_, fun j c hj aj => ?_, fun j hj => ⟨(hdom j).2 (hR.mem.fix j hj).1, (hR.mem.fix j hj).2⟩, hR.mem.fr⟩, fun t v ht => ?_, hR.df, hR.size⟩
  · obtain ⟨c0, h1, h2, h3⟩ := hold j c hj
    refine ⟨h3.2 (hR.mem.sits j c0 h1).1, ?_⟩
    rw [look_lay] at hj
    split at hj
    · simp only [Option.some.injEq] at hj
      subst hj
      exact Seg.ok_mono (fun _ h => h.elim) _ hok
    · exact Seg.ok_mono (fun i hi => (hdom i).2 hi) _ (hR.mem.sits j c hj).2
  · obtain ⟨b2, h1, h2, _⟩ := hold i b1 hi
    obtain ⟨c2, h3, h4, _⟩ := hold j c1 hj
    exact hR.mem.inj i j b2 c2 h1 h3 (h2.1 ai) (h4.1 aj)
  · obtain ⟨c2, h3, h4, _⟩ := hold j c hj
    exact hR.mem.home j c2 h3 (h4.1 aj)
  · obtain ⟨h1, h2⟩ := hR.tm t v ht
    exact ⟨h1, AV.ok_mono (fun i hi => (hdom i).2 hi) _ h2⟩
/-- A function that is handed blocks of the caller's. -/
def ctxF (P : Program) (w : World) (F : Nat → Prop) (ρ0 : Env) (n0 n : Nat) : Ctx := ⟨P, w, F, ρ0, n0, n⟩
theorem calls_vmF {P : Program} {f : FuncId} {fn : Func} {w : World} {R : Ending → World → Prop} {F : Nat → Prop} {ρ0 : Env} {n0 : Nat} (mem : List (Nat × Vblk)) (vs : List AV) (hf : P.funcs[f]? = some fn) (hb : fn.body.isSome = true) {args : Array Value} (ha : args = (AV.concL ρ0 vs).toArray) (hl : Nat.ble vs.length fn.ntmps = true)
    (hM : RelM (ctxF P w F ρ0 n0 fn.ntmps) ρ0 mem w) (hok : AV.okL (AS.dom mem) vs)
    (h : wpK (ctxF P w F ρ0 n0 fn.ntmps) fn R [.code (bodyOf fn)] ⟨argsTm 0 vs, mem⟩) : Calls P f args w R := by
  have hle := Nat.le_of_ble_eq_true hl
  clear hl
  refine calls_of_wp hf (bodyOf_some hb) fun b k cs => ?_
  have hlen : (AV.concL ρ0 vs).length = vs.length := by
    clear h hok hle ha hM
    induction vs with
    | nil => rfl
    | cons x r ih => simp [AV.concL, ih]
  refine h ρ0 _ w ⟨hM, fun t v hv => ?_, rfl, ?_⟩ b k cs
  · obtain ⟨j, h1, h2⟩ := argsTm_spec _ _ _ _ hv
    rw [Nat.zero_add] at h1
    subst h1
    have hj : t < vs.length := (List.getElem?_eq_some_iff.1 h2).1
    refine ⟨?_, okL_at vs t v h2 hok⟩
    subst ha
    simp only
    rw [Array.getElem?_append_left (by simp [hlen]; exact hj)]
    rw [List.getElem?_toArray, concL_at, h2]
    rfl
  · subst ha
    simp [ctxF, hlen]
    omega
/-- One block of the caller's. -/
theorem relM_one {P : Program} {w : World} {ρ0 : Env} {n : Nat} {b : Vblk} (hs : Sits ρ0 w 0 b) (hb : Seg.ok No b.row) : RelM (ctxF P w (fun B => B = ρ0.b 0) ρ0 1 n) ρ0 [(0, b)] w := by
  have one : ∀ k c, look k [(0, b)] = some c → k = 0 ∧ c = b := by
    intro k c hc
    simp only [look] at hc
    split at hc
    · rename_i he
      have := Nat.eq_of_beq_eq_true he
      simp only [Option.some.injEq] at hc
      exact ⟨this.symm, hc.symm⟩
    · cases hc
  refine ⟨fun k c hc => ?_, fun j k c d hj hk _ _ _ => ?_, fun k c hc _ => ?_, fun k hk => ?_, Fr.refl _ _⟩
  · obtain ⟨rfl, rfl⟩ := one k c hc
    exact ⟨hs, Seg.ok_mono (fun _ h => h.elim) _ hb⟩
  · rw [(one j c hj).1, (one k d hk).1]
  · obtain ⟨rfl, rfl⟩ := one k c hc
    exact .inl rfl
  · have : k = 0 := by simp [ctxF] at hk; omega
    subst this
    exact ⟨rfl, rfl, rfl⟩
/-- Two blocks of the caller's: a variable and a list. -/
theorem relM_two {P : Program} {w : World} {ρ0 : Env} {n : Nat} {b c : Vblk} (hs : Sits ρ0 w 0 b) (ht : Sits ρ0 w 1 c) (hb : Seg.ok (kd 0 [1]) b.row) (hc : Seg.ok (kd 0 [1]) c.row) (hne : ρ0.b 0 ≠ ρ0.b 1) : RelM (ctxF P w (fun B => B = ρ0.b 0 ∨ B = ρ0.b 1) ρ0 2 n) ρ0 [(0, b), (1, c)] w := by
  have l0 : look 0 [(0, b), (1, c)] = some b := rfl
  have l1 : look 1 [(0, b), (1, c)] = some c := rfl
  have two : ∀ k d, look k [(0, b), (1, c)] = some d → (k = 0 ∧ d = b) ∨ (k = 1 ∧ d = c) := by
    intro k d hd
    simp only [look] at hd
    split at hd
    · rename_i he
      have := Nat.eq_of_beq_eq_true he
      simp only [Option.some.injEq] at hd
      exact .inl ⟨this.symm, hd.symm⟩
    · split at hd
      · rename_i he
        have := Nat.eq_of_beq_eq_true he
        simp only [Option.some.injEq] at hd
        exact .inr ⟨this.symm, hd.symm⟩
      · cases hd
  have hdom : ∀ j, kd 0 [1] j → AS.dom [(0, b), (1, c)] j := by
    intro j hj
    rcases hj with rfl | hj
    · unfold AS.dom; rw [l0]; rfl
    · simp only [List.mem_singleton] at hj
      subst hj
      unfold AS.dom; rw [l1]; rfl
  refine ⟨fun k d hd => ?_, fun j k d e hj hk _ _ heq => ?_, fun k d hd _ => ?_, fun k hk => ?_, Fr.refl _ _⟩
  · rcases two k d hd with ⟨rfl, rfl⟩ | ⟨rfl, rfl⟩
    · exact ⟨hs, Seg.ok_mono hdom _ hb⟩
    · exact ⟨ht, Seg.ok_mono hdom _ hc⟩
  · rcases two j d hj with ⟨rfl, rfl⟩ | ⟨rfl, rfl⟩ <;> rcases two k e hk with ⟨rfl, rfl⟩ | ⟨rfl, rfl⟩
    · rfl
    · exact absurd heq hne
    · exact absurd heq.symm hne
    · rfl
  · rcases two k d hd with ⟨rfl, rfl⟩ | ⟨rfl, rfl⟩
    · exact .inl (.inl rfl)
    · exact .inl (.inr rfl)
  · have : k = 0 ∨ k = 1 := by simp [ctxF] at hk; omega
    rcases this with rfl | rfl
    · exact ⟨hdom 0 (.inl rfl), rfl, rfl⟩
    · exact ⟨hdom 1 (.inr (by simp)), rfl, rfl⟩
end Go.Proofs.YthgnmpjcbicdhaaDoor

