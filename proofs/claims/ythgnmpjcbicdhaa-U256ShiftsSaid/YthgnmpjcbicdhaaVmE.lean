/- The abstract machine: code, functions. -/
import Derived.Test.YthgnmpjcbicdhaaVmD
set_option linter.unusedVariables false
set_option linter.unusedSimpArgs false
namespace Go.Proofs.Ythgnmpjcbicdhaa
open Go Go.RowKit

def regionRun (Γ : Ctx) (ops : Array Oper) (draw : Bool) (base : Nat) (hs : List (Nat × Hint)) (s : AS) : Option (AS × List (Nat × Hint) × List Prop) :=
  match runOps Γ ops base 0 ops.toList hs s with
  | some (tr, hs', s') => match draw with
    | false => some (s', hs', trVc tr)
    | true => match acyc ops && regionFree ops base tr with
      | true => some (s', hs', trVc tr)
      | false => none
  | none => none
inductive Out where
  | at (k : List Item) (s : AS) (vc : List Prop)
  | ret (s : AS) (vc : List Prop)
  | no
def Out.vc : Out → List Prop
  | .at _ _ vc => vc
  | .ret _ vc => vc
  | .no => []
inductive Nx where
  | go (m nx : Nat) (hs : List (Nat × Hint)) (st : List Item) (s : AS) (vc : List Prop)
  | halt (st : List Item)
  | stop
  | ret
  | no
def step1 (Γ : Ctx) (m nx : Nat) (hs : List (Nat × Hint)) (st : List Item) (s : AS) : Nx := match st with
  | [] => .stop
  | .inBlock _ :: k => .go m nx hs k s []
  | .inLoop c :: k => match m with
    | 0 => .halt (.code c :: .inLoop c :: k)
    | m + 1 => .go m nx hs (.code c :: .inLoop c :: k) s []
  | .code c :: k => match c with
    | .skip => .go m nx hs k s []
    | .label _ => .go m nx hs k s []
    | .seq x y => .go m nx hs (.code x :: .code y :: k) s []
    | .block id x => .go m nx hs (.code x :: .inBlock id :: k) s []
    | .cond t x y => match ev s.tm t with
      | some (.val (.bool true)) => .go m nx hs (.code x :: k) s []
      | some (.val (.bool false)) => .go m nx hs (.code y :: k) s []
      | _ => .no
    | .exit id => match exitTo id k with
      | some k' => .go m nx hs k' s []
      | none => .no
    | .ret => .ret
    | .region _ ops draw => match regionRun Γ ops draw nx hs s with
      | some (s', hs', vc') => .go m (nx + ops.size) hs' k s' vc'
      | none => .no
    | .loop x => match m with
      | 0 => .halt (.code x :: .inLoop x :: k)
      | m + 1 => .go m nx hs (.code x :: .inLoop x :: k) s []
    | _ => .no
  | _ => .no
/-- n: how far at most; m: how many rounds of loops; nx: numbers for new blocks. -/
def run (Γ : Ctx) : Nat → Nat → Nat → List (Nat × Hint) → List Item → AS → List Prop → Out
  | 0, _, _, _, _, _, _ => .no
  | n + 1, m, nx, hs, st, s, vc => match step1 Γ m nx hs st s with
    | .go m' nx' hs' st' s' vc' => run Γ n m' nx' hs' st' s' (vc ++ vc')
    | .halt st' => .at st' s vc
    | .stop => .at st s vc
    | .ret => .ret s vc
    | .no => .no

def wpK (Γ : Ctx) (fn : Func) (R : Ending → World → Prop) (st : List Item) (s : AS) : Prop :=
  ∀ ρ a w, Rel Γ ρ s a w → ∀ (b : Frame) (k : List Item) (cs : List Frame), ∃ e a' w', bodyPost Γ.P fn R e a' w' ∧ Arrives Γ.P (lone (b.at a (st ++ k)) cs w) b k cs e a' w'
def OutOk (Γ : Ctx) (fn : Func) (R : Ending → World → Prop) : Out → Prop
  | .at st s _ => wpK Γ fn R st s
  | .ret s _ => ∀ ρ a w, Rel Γ ρ s a w → ∃ v, (results fn a.tmps).run Γ.P w = .ok v w ∧ R (.returned v) w
  | .no => False
theorem exitTo_append {id : Nat} : ∀ {st k' : List Item} (k : List Item), exitTo id st = some k' → exitTo id (st ++ k) = some (k' ++ k)
  | [], k', k, h => by simp [exitTo] at h
  | x :: r, k', k, h => by
    cases x with
    | inBlock i =>
      simp only [exitTo, List.cons_append] at h ⊢
      split at h
      · rename_i he; rw [if_pos he]; simp only [Option.some.injEq] at h; rw [h]
      · rename_i he; rw [if_neg he]; exact exitTo_append k h
    | _ => simp only [exitTo, List.cons_append] at h ⊢; exact exitTo_append k h
section
variable {Γ : Ctx} {fn : Func} {R : Ending → World → Prop}
theorem wpK_step {st st' : List Item} {s : AS} (hs : ∀ (a : Act) (w : World) (b : Frame) (k : List Item) (cs : List Frame), step Γ.P (lone (b.at a (st ++ k)) cs w) = .next (lone (b.at a (st' ++ k)) cs w)) (h : wpK Γ fn R st' s) : wpK Γ fn R st s :=
  fun ρ a w hR b k cs => let ⟨e, a', w', h1, h2⟩ := h ρ a w hR b k cs; ⟨e, a', w', h1, .of_steps (.one (hs a w b k cs)) h2⟩
theorem regionRun_wp (hm : Γ.P.follows .mixedOrders = true) {ops : Array Oper} {draw : Bool} {base id : Nat} {hs hs' : List (Nat × Hint)} {s s' : AS} {vc : List Prop} (h : regionRun Γ ops draw base hs s = some (s', hs', vc)) (hvc : ∀ p ∈ vc, p) {ρ : Env} {a : Act} {w : World} (hR : Rel Γ ρ s a w) {Q : Exit → Act → World → Prop} (hQ : ∀ ρ' a' w', Rel Γ ρ' s' a' w' → Q .normal a' w') :
    (Code.region id ops draw).wp Γ.P Q a w := by
  unfold regionRun at h
  split at h
  · rename_i tr hs1 s1 hrun
    split at h
    · simp only [Option.some.injEq, Prod.mk.injEq] at h
      obtain ⟨rfl, rfl, rfl⟩ := h
      exact wp_region_list (runOps_list _ _ _ _ _ _ _ hrun hvc ρ a w hR hQ)
    · split at h
      · rename_i hb
        rw [Bool.and_eq_true] at hb
        simp only [Option.some.injEq, Prod.mk.injEq] at h
        obtain ⟨rfl, rfl, rfl⟩ := h
        exact region_draw hm hb.1 hrun hb.2 hvc hR hQ
      · cases h
  · cases h
theorem run_vc : ∀ (n m nx : Nat) (hs : List (Nat × Hint)) (st : List Item) (s : AS) (vc : List Prop), run Γ n m nx hs st s vc ≠ .no → ∀ p ∈ vc, p ∈ (run Γ n m nx hs st s vc).vc
  | 0, m, nx, hs, st, s, vc, hno, p, hp => absurd rfl hno
  | n + 1, m, nx, hs, st, s, vc, hno, p, hp => by
    unfold run at hno ⊢
    generalize step1 Γ m nx hs st s = x at *
    cases x with
    | go m' nx' hs' st' s' vc' => exact run_vc n _ _ _ _ _ _ hno p (by simp [hp])
    | halt st' => exact hp
    | stop => exact hp
    | ret => exact hp
    | no => exact absurd rfl hno
theorem step1_sound (hm : Γ.P.follows .mixedOrders = true) {m nx : Nat} {hs : List (Nat × Hint)} {st : List Item} {s : AS} :
    (∀ m' nx' hs' st' s' vc', step1 Γ m nx hs st s = .go m' nx' hs' st' s' vc' → (∀ p ∈ vc', p) → wpK Γ fn R st' s' → wpK Γ fn R st s) ∧
    (∀ st', step1 Γ m nx hs st s = .halt st' → wpK Γ fn R st' s → wpK Γ fn R st s) ∧
    (step1 Γ m nx hs st s = .ret → OutOk Γ fn R (.ret s []) → wpK Γ fn R st s) := by
  have plain : ∀ {st' : List Item}, (∀ (a : Act) (w : World) (b : Frame) (k : List Item) (cs : List Frame), step Γ.P (lone (b.at a (st ++ k)) cs w) = .next (lone (b.at a (st' ++ k)) cs w)) → wpK Γ fn R st' s → wpK Γ fn R st s := fun h1 h2 => wpK_step h1 h2
  refine ⟨?_, ?_, ?_⟩
  · intro m' nx' hs' st' s' vc' h hvc hk
    unfold step1 at h
    split at h
    · cases h
    · simp only [Nx.go.injEq] at h
      obtain ⟨rfl, rfl, rfl, rfl, rfl, rfl⟩ := h
      exact plain (fun a w b k cs => step_inBlock) hk
    · split at h
      · cases h
      · simp only [Nx.go.injEq] at h
        obtain ⟨rfl, rfl, rfl, rfl, rfl, rfl⟩ := h
        exact plain (fun a w b k cs => step_inLoop) hk
    · split at h
      · simp only [Nx.go.injEq] at h
        obtain ⟨rfl, rfl, rfl, rfl, rfl, rfl⟩ := h
        exact plain (fun a w b k cs => step_skip) hk
      · simp only [Nx.go.injEq] at h
        obtain ⟨rfl, rfl, rfl, rfl, rfl, rfl⟩ := h
        exact plain (fun a w b k cs => step_label) hk
      · simp only [Nx.go.injEq] at h
        obtain ⟨rfl, rfl, rfl, rfl, rfl, rfl⟩ := h
        exact plain (fun a w b k cs => step_seq) hk
      · simp only [Nx.go.injEq] at h
        obtain ⟨rfl, rfl, rfl, rfl, rfl, rfl⟩ := h
        exact plain (fun a w b k cs => step_block) hk
      · split at h
        · rename_i hc
          simp only [Nx.go.injEq] at h
          obtain ⟨rfl, rfl, rfl, rfl, rfl, rfl⟩ := h
          intro ρ a w hR b k cs
          obtain ⟨e, a', w', h1, h2⟩ := hk ρ a w hR b k cs
          have hc := (hR.ev hc).1
          simp only [AV.conc] at hc
          exact ⟨e, a', w', h1, .of_steps (.one (step_cond (t := true) hc)) h2⟩
        · rename_i hc
          simp only [Nx.go.injEq] at h
          obtain ⟨rfl, rfl, rfl, rfl, rfl, rfl⟩ := h
          intro ρ a w hR b k cs
          obtain ⟨e, a', w', h1, h2⟩ := hk ρ a w hR b k cs
          have hc := (hR.ev hc).1
          simp only [AV.conc] at hc
          exact ⟨e, a', w', h1, .of_steps (.one (step_cond (t := false) hc)) h2⟩
        · cases h
      · split at h
        · rename_i k' hk'
          simp only [Nx.go.injEq] at h
          obtain ⟨rfl, rfl, rfl, rfl, rfl, rfl⟩ := h
          exact plain (fun a w b k cs => step_exit (exitTo_append k hk')) hk
        · cases h
      · cases h
      · split at h
        · rename_i id ops draw _ s1 hs1 vc1 hreg
          simp only [Nx.go.injEq] at h
          obtain ⟨rfl, rfl, rfl, rfl, rfl, rfl⟩ := h
          intro ρ a w hR b k cs
          obtain ⟨e, a1, w1, hq, harr⟩ := regionRun_wp (id := id) hm hreg hvc hR (Q := fun e a' w' => e = .normal ∧ ∃ ρ', Rel Γ ρ' s1 a' w') (fun ρ' a' w' h => ⟨rfl, ρ', h⟩) b (_ ++ k) cs
          obtain ⟨rfl, ρ', hR'⟩ := hq
          obtain ⟨e, a', w', h1, h2⟩ := hk ρ' a1 w1 hR' b k cs
          exact ⟨e, a', w', h1, .of_steps harr h2⟩
        · cases h
      · split at h
        · cases h
        · simp only [Nx.go.injEq] at h
          obtain ⟨rfl, rfl, rfl, rfl, rfl, rfl⟩ := h
          exact plain (fun a w b k cs => step_loop) hk
      · cases h
    · cases h
  · intro st' h hk
    unfold step1 at h
    split at h
    · cases h
    · cases h
    · split at h
      · simp only [Nx.halt.injEq] at h
        subst h
        exact plain (fun a w b k cs => step_inLoop) hk
      · cases h
    · split at h
      all_goals (repeat' split at h)
      all_goals first
        | cases h; done
        | (simp only [Nx.halt.injEq] at h; subst h; exact plain (fun a w b k cs => step_loop) hk)
    · cases h
  · intro h hk
    unfold step1 at h
    split at h
    · cases h
    · cases h
    · split at h <;> cases h
    · split at h
      all_goals (repeat' split at h)
      all_goals first
        | cases h; done
        | skip
      intro ρ a w hR b k cs
      obtain ⟨v, h1, h2⟩ := hk ρ a w hR
      exact ⟨.ret, a, w, ⟨hR.df, v, h1, h2⟩, _, .one step_ret⟩
    · cases h
theorem run_sound (hm : Γ.P.follows .mixedOrders = true) : ∀ (n m nx : Nat) (hs : List (Nat × Hint)) (st : List Item) (s : AS) (vc : List Prop), OutOk Γ fn R (run Γ n m nx hs st s vc) → (∀ p ∈ (run Γ n m nx hs st s vc).vc, p) → wpK Γ fn R st s
  | 0, m, nx, hs, st, s, vc, h, _ => h.elim
  | n + 1, m, nx, hs, st, s, vc, h, hvc => by
    obtain ⟨g1, g2, g3⟩ := step1_sound (Γ := Γ) (fn := fn) (R := R) hm (m := m) (nx := nx) (hs := hs) (st := st) (s := s)
    unfold run at h hvc
    generalize step1 Γ m nx hs st s = x at *
    cases x with
    | go m' nx' hs' st' s' vc' =>
      simp only at h hvc
      have hno : run Γ n m' nx' hs' st' s' (vc ++ vc') ≠ .no := fun e => by rw [e] at h; exact h.elim
      exact g1 _ _ _ _ _ _ rfl (fun p hp => hvc p (run_vc n _ _ _ _ _ _ hno p (by simp [hp]))) (run_sound hm n _ _ _ _ _ _ h hvc)
    | halt st' => exact g2 _ rfl h
    | stop => exact h
    | ret => exact g3 rfl h
    | no => exact h.elim

/-! Results. -/
def resOne (Γ : Ctx) (s : AS) : ResultVar → Option AV
  | .tmp t => look t s.tm
  | .cell t ty => match look t s.tm with
    | some p => match loadOp Γ ty p s.mem with
      | some (.val v _ []) => some v
      | _ => none
    | none => none
def resAll (Γ : Ctx) (s : AS) : List ResultVar → Option (List AV)
  | [] => some []
  | r :: l => match resOne Γ s r, resAll Γ s l with
    | some v, some vs => some (v :: vs)
    | _, _ => none
def resA (Γ : Ctx) (fn : Func) (s : AS) : Option AV := match resAll Γ s fn.results.toList with
  | some [v] => some v
  | some vs => some (.tup vs)
  | none => none
end

def resSem (tmps : Array Value) (r : ResultVar) : Sem Value := match r with
  | .tmp t => pure (tmps.getD t undef)
  | .cell x t => do loadVar t (← asAddr (tmps.getD x undef))
theorem results_eq (fn : Func) (tmps : Array Value) : results fn tmps = (do
    let vs ← fn.results.mapM (resSem tmps)
    pure (if h : vs.size = 1 then vs[0] else .tuple vs)) := by
  unfold results
  congr 1
theorem resOne_run {Γ : Ctx} {ρ : Env} {s : AS} {a : Act} {w : World} (hR : Rel Γ ρ s a w) {r : ResultVar} {v : AV} (h : resOne Γ s r = some v) :
    (resSem a.tmps r).run Γ.P w = .ok (v.conc ρ) w := by
  cases r with
  | tmp t =>
    simp only [resOne] at h
    have := (hR.tm t v h).1
    simp [resSem, Array.getD_eq_getD_getElem?, this]
  | cell t ty =>
    simp only [resOne] at h
    split at h
    · rename_i p hp
      split at h
      · rename_i v' rd hl
        simp only [Option.some.injEq] at h
        subst h
        have hs := loadOp_sound (nm := 0) (o := { dst := none, op := .load ty (.tmp t), type := ty, pos := "", after := #[], guard := none }) (t := ty) (x := .tmp t) rfl (p := p) (hx := hp) hl (by simp [Res.vc]) hR
        have h1 := (hR.tm t p hp).1
        have hs := hs.1
        unfold execOp at hs
        simp only [Act.eval, Array.getD_eq_getD_getElem?, h1, Option.getD_some] at hs
        simp only [resSem, Array.getD_eq_getD_getElem?, h1, Option.getD_some]
        unfold loadOp at hl
        cases p with
        | ptr k off =>
          simp only [AV.conc, Instr.loadAt, Instr.sureAddr, pure_bind] at hs ⊢
          simp only [asAddr, pure_bind]
          cases hq : (loadVar ty ⟨ρ.b k, off, none⟩).run Γ.P w with
          | ok u w' =>
            simp only [Sem.run_bind, hq, Result.andThen_ok, Sem.run_pure, Result.ok.injEq, Next.value.injEq] at hs
            rw [hs.1, hs.2]
          | halt x w' => simp [Sem.run_bind, hq] at hs
        | elt k b i =>
          simp only [AV.conc, Instr.loadAt, Instr.sureAddr, pure_bind] at hs ⊢
          simp only [asAddr, pure_bind]
          cases hq : (loadVar ty ⟨ρ.b k, b + i, none⟩).run Γ.P w with
          | ok u w' =>
            simp only [Sem.run_bind, hq, Result.andThen_ok, Sem.run_pure, Result.ok.injEq, Next.value.injEq] at hs
            rw [hs.1, hs.2]
          | halt x w' => simp [Sem.run_bind, hq] at hs
        | _ => simp at hl
      · cases h
    · cases h
theorem resAll_run {Γ : Ctx} {ρ : Env} {s : AS} {a : Act} {w : World} (hR : Rel Γ ρ s a w) : ∀ (l : List ResultVar) (vs : List AV), resAll Γ s l = some vs →
    (l.mapM (resSem a.tmps)).run Γ.P w = .ok (AV.concL ρ vs) w
  | [], vs, h => by
    simp only [resAll, Option.some.injEq] at h
    subst h
    simp [AV.concL]
  | r :: l, vs, h => by
    simp only [resAll] at h
    split at h
    · rename_i v vs' h1 h2
      simp only [Option.some.injEq] at h
      subst h
      have e1 := resOne_run hR h1
      have e2 := resAll_run hR l vs' h2
      rw [List.mapM_cons]
      simp only [Sem.run_bind, e1, e2, Result.andThen_ok, Sem.run_pure, AV.concL]
    · cases h
theorem resA_run {Γ : Ctx} {fn : Func} {ρ : Env} {s : AS} {a : Act} {w : World} (hR : Rel Γ ρ s a w) {v : AV} (h : resA Γ fn s = some v) : (results fn a.tmps).run Γ.P w = .ok (v.conc ρ) w := by
  unfold resA at h
  have key : ∀ vs, resAll Γ s fn.results.toList = some vs → (results fn a.tmps).run Γ.P w = .ok (if h : (AV.concL ρ vs).toArray.size = 1 then (AV.concL ρ vs).toArray[0] else .tuple (AV.concL ρ vs).toArray) w := by
    intro vs hv
    have := resAll_run hR _ _ hv
    rw [results_eq, Sem.run_bind, Array.mapM_eq_mapM_toList, Sem.run_map, this]
    simp
  split at h
  · rename_i u hu
    simp only [Option.some.injEq] at h
    subst h
    rw [key _ hu]
    simp [AV.concL]
  · rename_i vs hne hu
    simp only [Option.some.injEq] at h
    subst h
    rw [key _ hu]
    have hl : (AV.concL ρ vs).length = vs.length := by
      clear hne hu key
      induction vs with
      | nil => rfl
      | cons x r ih => simp [AV.concL, ih]
    have : ¬ (AV.concL ρ vs).toArray.size = 1 := by
      simp only [List.size_toArray, hl]
      intro e
      obtain ⟨x, hx⟩ := List.length_eq_one_iff.1 e
      exact hne x hx
    rw [dif_neg this]
    simp [AV.conc]
  · cases h

/-! What is to be shown, as one proposition; what a run ends in. -/
def allP : List Prop → Prop
  | [] => True
  | [p] => p
  | p :: r => p ∧ allP r
theorem allP_mem : ∀ (l : List Prop), allP l → ∀ p ∈ l, p
  | [], _, p, hp => by cases hp
  | [q], h, p, hp => by simp only [List.mem_singleton] at hp; subst hp; exact h
  | q :: q' :: r, h, p, hp => by
    simp only [allP] at h
    rcases List.mem_cons.1 hp with rfl | hp
    · exact h.1
    · exact allP_mem (q' :: r) h.2 p hp
/-- A function that is run to its end: its answer, and what is to be shown. -/
def endRun (Γ : Ctx) (fn : Func) : Out → Option (AV × Prop)
  | .ret s vc => match resA Γ fn s with
    | some v => some (v, allP vc)
    | none => none
  | _ => none
/-- To some of the slots and blocks alone. -/
def keepT (ts : List Nat) (tm : List (Nat × AV)) : Option (List (Nat × AV)) := match ts with
  | [] => some []
  | t :: r => match look t tm, keepT r tm with
    | some v, some l => some ((t, v) :: l)
    | _, _ => none
def keepM (ks : List Nat) (mem : List (Nat × Vblk)) : Option (List (Nat × Vblk)) := match ks with
  | [] => some []
  | k :: r => match look k mem, keepM r mem with
    | some v, some l => some ((k, v) :: l)
    | _, _ => none
mutual
def AV.names (m : List Nat) : AV → Bool
  | .val _ => true
  | .ptr k _ => m.contains k
  | .elt k _ _ => m.contains k
  | .lst k _ _ _ _ => m.contains k
  | .agg cs => Seg.names m cs
  | .tup cs => AV.namesL m cs
  | .ifc _ x => AV.names m x
def AV.namesL (m : List Nat) : List AV → Bool
  | [] => true
  | x :: r => AV.names m x && AV.namesL m r
def Seg.names (m : List Nat) : List Seg → Bool
  | [] => true
  | .cell x :: r => AV.names m x && Seg.names m r
  | .ints _ _ _ :: r => Seg.names m r
end
def keepS (n0 : Nat) (ts ks : List Nat) (s : AS) : Option AS := match keepT ts s.tm, keepM ks s.mem with
  | some tm, some mem => match tm.all (fun x => x.2.names ks) && mem.all (fun x => Seg.names ks x.2.row) && (List.range n0).all (ks.contains ·) with
    | true => some ⟨tm, mem⟩
    | false => none
  | _, _ => none
/-- A run that comes to the round of a loop: the state there, and what is to be shown. -/
def loopRun (n0 : Nat) (ts ks : List Nat) : Out → Option (List Item × AS × Prop)
  | .at st s vc => match keepS n0 ts ks s with
    | some s' => some (st, s', allP vc)
    | none => none
  | _ => none
theorem keepT_spec : ∀ (ts : List Nat) (tm l : List (Nat × AV)), keepT ts tm = some l → ∀ t v, look t l = some v → look t tm = some v
  | [], tm, l, h, t, v, hv => by simp only [keepT, Option.some.injEq] at h; subst h; simp [look] at hv
  | x :: r, tm, l, h, t, v, hv => by
    simp only [keepT] at h
    split at h
    · rename_i u l' h1 h2
      simp only [Option.some.injEq] at h
      subst h
      simp only [look] at hv
      split at hv
      · rename_i hb
        have := Nat.eq_of_beq_eq_true hb
        subst this
        rw [h1]; exact hv
      · exact keepT_spec r tm l' h2 t v hv
    · cases h
theorem keepM_spec : ∀ (ts : List Nat) (tm l : List (Nat × Vblk)), keepM ts tm = some l → (∀ t v, look t l = some v → look t tm = some v) ∧ ∀ t, t ∈ ts → (look t l).isSome = true
  | [], tm, l, h => by
    simp only [keepM, Option.some.injEq] at h; subst h
    exact ⟨fun t v hv => by simp [look] at hv, fun t ht => by cases ht⟩
  | x :: r, tm, l, h => by
    simp only [keepM] at h
    split at h
    · rename_i u l' h1 h2
      simp only [Option.some.injEq] at h
      subst h
      obtain ⟨i1, i2⟩ := keepM_spec r tm l' h2
      refine ⟨fun t v hv => ?_, fun t ht => ?_⟩
      · simp only [look] at hv
        split at hv
        · rename_i hb
          have := Nat.eq_of_beq_eq_true hb
          subst this
          rw [h1]; exact hv
        · exact i1 t v hv
      · simp only [look]
        split
        · rfl
        · rename_i hb
          rcases List.mem_cons.1 ht with rfl | ht
          · simp at hb
          · exact i2 t ht
    · cases h
mutual
theorem AV.names_ok {m : List Nat} {D E : Nat → Prop} (h : ∀ k ∈ m, E k) : ∀ x : AV, x.names m = true → x.ok D → x.ok E
  | .val _, _, _ => by simp [AV.ok]
  | .ptr k _, hn, _ => by simp only [AV.names] at hn; simp only [AV.ok]; exact h k (by simpa using hn)
  | .elt k _ _, hn, _ => by simp only [AV.names] at hn; simp only [AV.ok]; exact h k (by simpa using hn)
  | .lst k _ _ _ _, hn, _ => by simp only [AV.names] at hn; simp only [AV.ok]; exact h k (by simpa using hn)
  | .agg cs, hn, hx => by simp only [AV.names] at hn; simp only [AV.ok] at hx ⊢; exact Seg.names_ok h cs hn hx
  | .tup cs, hn, hx => by simp only [AV.names] at hn; simp only [AV.ok] at hx ⊢; exact AV.namesL_ok h cs hn hx
  | .ifc _ x, hn, hx => by simp only [AV.names] at hn; simp only [AV.ok] at hx ⊢; exact AV.names_ok h x hn hx
theorem AV.namesL_ok {m : List Nat} {D E : Nat → Prop} (h : ∀ k ∈ m, E k) : ∀ x : List AV, AV.namesL m x = true → AV.okL D x → AV.okL E x
  | [], _, _ => by simp [AV.okL]
  | x :: r, hn, hx => by
    simp only [AV.namesL, Bool.and_eq_true] at hn
    simp only [AV.okL] at hx ⊢
    exact ⟨AV.names_ok h x hn.1 hx.1, AV.namesL_ok h r hn.2 hx.2⟩
theorem Seg.names_ok {m : List Nat} {D E : Nat → Prop} (h : ∀ k ∈ m, E k) : ∀ x : List Seg, Seg.names m x = true → Seg.ok D x → Seg.ok E x
  | [], _, _ => by simp [Seg.ok]
  | .cell x :: r, hn, hx => by
    simp only [Seg.names, Bool.and_eq_true] at hn
    simp only [Seg.ok] at hx ⊢
    exact ⟨⟨hx.1.1, AV.names_ok h x hn.1 hx.1.2⟩, Seg.names_ok h r hn.2 hx.2⟩
  | .ints _ _ _ :: r, hn, hx => by
    simp only [Seg.names] at hn
    simp only [Seg.ok] at hx ⊢
    exact ⟨hx.1, Seg.names_ok h r hn hx.2⟩
end
theorem look_mem {α : Type} : ∀ (l : List (Nat × α)) (k : Nat) (x : α), look k l = some x → (k, x) ∈ l
  | [], k, x, h => by simp [look] at h
  | (j, y) :: r, k, x, h => by
    simp only [look] at h
    split at h
    · rename_i hb
      have := Nat.eq_of_beq_eq_true hb
      subst this
      simp only [Option.some.injEq] at h
      subst h
      simp
    · simp [look_mem r k x h]
theorem Rel.keep {Γ : Ctx} {ρ : Env} {s s' : AS} {a : Act} {w : World} (h : Rel Γ ρ s a w) {ts ks : List Nat} (hk : keepS Γ.n0 ts ks s = some s') : Rel Γ ρ s' a w := by
  unfold keepS at hk
  split at hk
  · rename_i tm mem h1 h2
    split at hk
    · rename_i hb
      simp only [Bool.and_eq_true, List.all_eq_true] at hb
      obtain ⟨⟨b1, b2⟩, b3⟩ := hb
      simp only [Option.some.injEq] at hk
      subst hk
      have k1 := keepT_spec _ _ _ h1
      obtain ⟨k2, k3⟩ := keepM_spec _ _ _ h2
      have hE : ∀ k ∈ ks, AS.dom mem k := fun k hk => k3 k hk
      have hdom : ∀ k, AS.dom mem k → AS.dom s.mem k := fun k hk => by
        obtain ⟨b, hb⟩ := Option.isSome_iff_exists.1 hk
        unfold AS.dom; rw [k2 k b hb]; rfl
      refine ⟨⟨fun k b hb => ?_, fun j k hj hk => h.mem.inj j k (hdom j hj) (hdom k hk), fun k hk => h.mem.own k (hdom k hk), fun k hk => ⟨hE k ?_, (h.mem.fix k hk).2⟩, h.mem.fr⟩, fun t v hv => ?_, h.df, h.size⟩
      · obtain ⟨g1, g2⟩ := h.mem.sits k b (k2 k b hb)
        exact ⟨g1, Seg.names_ok hE _ (b2 _ (look_mem _ _ _ hb)) g2⟩
      · have := b3 k (by simpa using hk)
        simpa using this
      · obtain ⟨g1, g2⟩ := h.tm t v (k1 t v hv)
        exact ⟨g1, AV.names_ok hE _ (b1 _ (look_mem _ _ _ hv)) g2⟩
    · cases hk
  · cases hk
/-- To the next round of a loop. -/
theorem wpK_loop {Γ : Ctx} {fn : Func} {R : Ending → World → Prop} (hm : Γ.P.follows .mixedOrders = true) {n m nx : Nat} {hs : List (Nat × Hint)} {st st' : List Item} {s s' : AS} {ts ks : List Nat} {A : Prop} (hA : A)
    (h : loopRun Γ.n0 ts ks (run Γ n m nx hs st s []) = some (st', s', A)) (hk : wpK Γ fn R st' s') : wpK Γ fn R st s := by
  generalize hx : run Γ n m nx hs st s [] = x at h
  cases x with
  | «at» st1 s1 vc =>
    simp only [loopRun] at h
    split at h
    · rename_i s2 hkeep
      simp only [Option.some.injEq, Prod.mk.injEq] at h
      obtain ⟨rfl, rfl, rfl⟩ := h
      refine run_sound hm n m nx hs st s [] ?_ (by rw [hx]; exact allP_mem _ hA)
      rw [hx]
      exact fun ρ a w hR => hk ρ a w (hR.keep hkeep)
    · cases h
  | ret s1 vc => simp [loopRun] at h
  | no => simp [loopRun] at h
/-- To the end. -/
theorem wpK_end {Γ : Ctx} {fn : Func} {R : Ending → World → Prop} (hm : Γ.P.follows .mixedOrders = true) {n m nx : Nat} {hs : List (Nat × Hint)} {st : List Item} {s : AS} {v : AV} {A : Prop} (hA : A)
    (h : endRun Γ fn (run Γ n m nx hs st s []) = some (v, A)) (hR : ∀ (ρ : Env) w', Fr Γ.F Γ.w0 w' → R (.returned (v.conc ρ)) w') : wpK Γ fn R st s := by
  generalize hx : run Γ n m nx hs st s [] = x at h
  cases x with
  | «at» st1 s1 vc => simp [endRun] at h
  | ret s1 vc =>
    simp only [endRun] at h
    split at h
    · rename_i u hu
      simp only [Option.some.injEq, Prod.mk.injEq] at h
      obtain ⟨rfl, rfl⟩ := h
      refine run_sound hm n m nx hs st s [] ?_ (by rw [hx]; exact allP_mem _ hA)
      rw [hx]
      exact fun ρ a w hrel => ⟨_, resA_run hrel hu, hR ρ w hrel.mem.fr⟩
    · cases h
  | no => simp [endRun] at h
def argsTm : Nat → List AV → List (Nat × AV)
  | _, [] => []
  | i, v :: r => (i, v) :: argsTm (i + 1) r
theorem argsTm_spec : ∀ (l : List AV) (i t : Nat) (v : AV), look t (argsTm i l) = some v → ∃ j, t = i + j ∧ l[j]? = some v
  | [], i, t, v, h => by simp [argsTm, look] at h
  | x :: r, i, t, v, h => by
    simp only [argsTm, look] at h
    split at h
    · rename_i hb
      have := Nat.eq_of_beq_eq_true hb
      exact ⟨0, by omega, by simpa using h⟩
    · obtain ⟨j, h1, h2⟩ := argsTm_spec r (i + 1) t v h
      exact ⟨j + 1, by omega, by simpa using h2⟩
def Env.nil : Env := ⟨fun _ => 0, fun _ => 0⟩
def ctx (P : Program) (w : World) (n : Nat) : Ctx := ⟨P, w, No, Env.nil, 0, n⟩
def bodyOf (fn : Func) : Code := match fn.body with
  | some c => c
  | none => .skip
theorem bodyOf_some {fn : Func} (h : fn.body.isSome = true) : fn.body = some (bodyOf fn) := by
  unfold bodyOf
  cases hb : fn.body with
  | some c => rfl
  | none => rw [hb] at h; cases h
/-- A function over values. -/
theorem calls_vm {P : Program} {f : FuncId} {fn : Func} {w : World} {R : Ending → World → Prop} (vs : List AV) (hf : P.funcs[f]? = some fn) (hb : fn.body.isSome = true) {args : Array Value} (ha : args = (AV.concL Env.nil vs).toArray) (hl : Nat.ble vs.length fn.ntmps = true) (hok : AV.okL No vs)
    (h : wpK (ctx P w fn.ntmps) fn R [.code (bodyOf fn)] ⟨argsTm 0 vs, []⟩) : Calls P f args w R := by
  have hle := Nat.le_of_ble_eq_true hl
  clear hl
  refine calls_of_wp hf (bodyOf_some hb) fun b k cs => ?_
  have hlen : (AV.concL Env.nil vs).length = vs.length := by
    clear h hok hle ha
    induction vs with
    | nil => rfl
    | cons x r ih => simp [AV.concL, ih]
  refine h Env.nil _ w ⟨⟨fun k b hb => by simp [look] at hb, fun j k hj => by simp [AS.dom, look] at hj, fun k hk => by simp [AS.dom, look] at hk, fun k hk => by simp [ctx] at hk, Fr.refl _ _⟩, fun t v hv => ?_, rfl, ?_⟩ b k cs
  · obtain ⟨j, h1, h2⟩ := argsTm_spec _ _ _ _ hv
    rw [Nat.zero_add] at h1
    subst h1
    have hj : t < vs.length := (List.getElem?_eq_some_iff.1 h2).1
    refine ⟨?_, ?_⟩
    · subst ha
      simp only
      rw [Array.getElem?_append_left (by simp [hlen]; exact hj)]
      rw [List.getElem?_toArray, concL_at, h2]
      rfl
    · exact AV.ok_mono (fun _ h => h.elim) _ (okL_at vs t v h2 hok)
  · subst ha
    simp [ctx, hlen]
    omega
end Go.Proofs.Ythgnmpjcbicdhaa

