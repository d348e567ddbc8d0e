/- The abstract machine: regions. -/
import Derived.Test.YthgnmpjcbicdhaaDoorVmB
set_option linter.unusedVariables false
set_option linter.unusedSimpArgs false
namespace Go.Proofs.YthgnmpjcbicdhaaDoor
open Go Go.RowKit

theorem Rel.congr {Γ : Ctx} {ρ : Env} {s s' : AS} {a : Act} {w : World} (h : Rel Γ ρ s a w) (ht : ∀ t, look t s'.tm = look t s.tm) (hm : ∀ k, look k s'.mem = look k s.mem) : Rel Γ ρ s' a w := by
  have hd : AS.dom s'.mem = AS.dom s.mem := by funext k; unfold AS.dom; rw [hm]
  refine ⟨⟨fun k b hk => ?_, fun j k b c hj hk => ?_, fun k b hk => ?_, fun k hk => ?_, h.mem.fr⟩, fun t v hv => ?_, h.df, h.size⟩
  · rw [hd]; rw [hm] at hk; exact h.mem.sits k b hk
  · rw [hm] at hj hk; exact h.mem.inj j k b c hj hk
  · rw [hm] at hk; exact h.mem.home k b hk
  · rw [hd]; exact h.mem.fix k hk
  · rw [hd]; rw [ht] at hv; exact h.tm t v hv

def Res.tv : Res → Option AV
  | .val v _ _ => some v
  | .new v _ _ => some v
  | .wr _ _ _ => none
  | .call _ _ r _ => some r
  | .gen v _ _ _ _ => some v
def Res.mw (nm : Nat) : Res → List (Nat × Vblk)
  | .new _ b _ => [(nm, b)]
  | .wr k b _ => [(k, b)]
  | .gen _ ms _ _ _ => ms
  | _ => []
def setD (d : Option Tmp) (v : Option AV) (tm : List (Nat × AV)) : List (Nat × AV) := match d, v with
  | some d, some v => lay d v tm
  | _, _ => tm
/-- What an operation leaves (none: its guard said no). -/
def applyQ (nm : Nat) (o : Oper) (q : Option Res) (s : AS) : AS := match q with
  | none => ⟨setD o.dst (some (.val undef)) s.tm, s.mem⟩
  | some r => ⟨setD o.dst r.tv s.tm, layAll (r.mw nm) s.mem⟩
def qvc : Option Res → List Prop
  | none => []
  | some r => r.vc
def dstOk (Γ : Ctx) (o : Oper) : Bool := match o.dst with
  | some d => Nat.blt d Γ.size
  | none => true
def guardTmp (ops : Array Oper) (o : Oper) : Option Tmp := match o.guard with
  | some (j, _) => (ops[j]?).bind (·.dst)
  | none => none
def wantedA (ops : Array Oper) (tm : List (Nat × AV)) (o : Oper) : Option Bool := match o.guard with
  | none => some true
  | some (j, want) => match (ops[j]?).bind (·.dst) with
    | some t => match look t tm with
      | some (.val (.bool b)) => some (b == want)
      | some (.val (.tuple _)) => some false
      | _ => none
    | none => none
def pop (d : Nat) : List (Nat × Hint) → Option (Hint × List (Nat × Hint))
  | [] => none
  | (k, h) :: r => match Nat.beq k d with
    | true => some (h, r)
    | false => match pop d r with
      | some (h', r') => some (h', (k, h) :: r')
      | none => none
def popD (d : Option Tmp) (hs : List (Nat × Hint)) : Option Hint × List (Nat × Hint) := match d with
  | some d => match pop d hs with
    | some (h, r) => (some h, r)
    | none => (none, hs)
  | none => (none, hs)
/-- An operation that has no destination (no store): its hint stands under 99999. -/
def popO (o : Oper) (hs : List (Nat × Hint)) : Option Hint × List (Nat × Hint) := match o.dst with
  | some d => popD (some d) hs
  | none => match o.op with
    | .store .. => (none, hs)
    | _ => popD (some 99999) hs
/-- The operations, in the order of the text. -/
def runOps (Γ : Ctx) (ops : Array Oper) (base : Nat) : Nat → List Oper → List (Nat × Hint) → AS → Option (List (Oper × Option Res) × List (Nat × Hint) × AS)
  | _, [], hs, s => some ([], hs, s)
  | i, o :: rest, hs, s => match dstOk Γ o, wantedA ops s.tm o with
    | true, some false => match runOps Γ ops base (i + 1) rest hs (applyQ (base + i) o none s) with
      | some (tr, hs', s') => some ((o, none) :: tr, hs', s')
      | none => none
    | true, some true => match popO o hs with
      | (h, hs1) => match exec Γ (base + i) h o s.tm s.mem with
        | some r => match runOps Γ ops base (i + 1) rest hs1 (applyQ (base + i) o (some r) s) with
          | some (tr, hs', s') => some ((o, some r) :: tr, hs', s')
          | none => none
        | none => none
    | _, _ => none
def trVc : List (Oper × Option Res) → List Prop
  | [] => []
  | (_, q) :: r => qvc q ++ trVc r

/-- The guard, as the machine asks it. -/
theorem wantedA_spec {Γ : Ctx} {ρ : Env} {ops : Array Oper} {s : AS} {a : Act} {w : World} {o : Oper} {b : Bool} (hR : Rel Γ ρ s a w) (h : wantedA ops s.tm o = some b) : Region.wanted o (yielded ops a.tmps) = b := by
  unfold wantedA at h
  unfold Region.wanted
  split at h
  · rename_i hg
    rw [hg]
    simpa using h
  · rename_i j want hg
    rw [hg]
    split at h
    · rename_i t ht
      split at h
      · rename_i c hc
        simp only [Option.some.injEq] at h
        have h1 := (hR.tm t _ hc).1
        simp only [AV.conc] at h1
        simp only [yielded, ht, Option.bind_some, h1]
        rw [← h]
        cases c <;> cases want <;> rfl
      · rename_i c hc
        simp only [Option.some.injEq] at h
        have h1 := (hR.tm t _ hc).1
        simp only [AV.conc] at h1
        simp only [yielded, ht, Option.bind_some, h1]
        rw [← h]
        cases want <;> rfl
      · cases h
    · cases h
/-- An operation, carried out. -/
theorem op_wp {Γ : Ctx} {ρ : Env} {nm : Nat} {o : Oper} {s : AS} {a : Act} {w : World} {r : Res} {Q : Exit → Act → World → Prop} {K : Act → World → Prop} (hR : Rel Γ ρ s a w) (hr : ResOk Γ nm o ρ s a w r) (hd : dstOk Γ o = true) (hw : ∀ k b vc, r = .wr k b vc → o.dst = none)
    (hK : ∀ ρ' a' w', Rel Γ ρ' (applyQ nm o (some r) s) a' w' → K a' w') : o.wp Γ.P a w K Q := by
  have hput : ∀ {ρ' : Env} {s' : AS} {w' : World} (v : AV), Rel Γ ρ' s' a w' → v.ok (AS.dom s'.mem) → Rel Γ ρ' ⟨setD o.dst (some v) s'.tm, s'.mem⟩ (a.put o.dst (v.conc ρ')) w' := by
    intro ρ' s' w' v h hv
    unfold dstOk at hd
    cases hdst : o.dst with
    | none => exact h
    | some d =>
      rw [hdst] at hd
      simp only [setD]
      exact h.put d (Nat.le_of_ble_eq_true hd) v hv
  unfold Oper.wp
  cases r with
  | val v rd vc =>
    obtain ⟨h1, h2⟩ := hr
    rw [h1]
    exact hK ρ _ _ (hput v hR h2)
  | new v b vc =>
    obtain ⟨h1, hh, h2, h3, h4⟩ := hr
    rw [h4]
    exact hK _ _ _ (hput v (hR.make nm h1 b hh h2) h3)
  | wr k b vc =>
    obtain ⟨b0, w', h1, h2, h3, h4, h4', h5, h6, h7, h8, h9⟩ := hr
    rw [h2]
    have hdn := hw k b vc rfl
    have := hK ρ a w' (by
      have := hR.write k b0 b h1 h4' h3 h4 h5 h6 h7 h8 h9
      simpa [applyQ, Res.tv, Res.mw, setD, layAll, hdn] using this)
    simpa [Oper.upon, hdn, Act.put] using this
  | call f args v vc =>
    obtain ⟨h1, h2, h3⟩ := hr
    rw [h1]
    refine Calls.mono h3 ?_
    rintro e w' ⟨rfl, hb⟩
    exact hK ρ _ _ (hput v (hR.world hb) h2)
  | gen v ms rd nw vc => exact hr K Q fun ρ' w' h1 h2 => hK ρ' _ _ (hput v h1 h2)
theorem exec_fresh {Γ : Ctx} {nm : Nat} {h : Option Hint} {o : Oper} {tm : List (Nat × AV)} {mem : List (Nat × Vblk)} {r : Res} (hr : exec Γ nm h o tm mem = some r) (hn : r.isNew = true) : look nm mem = none := by
  have hgen : ∀ r, genOp Γ h o tm = some r → r.isNew = false := by
    intro r hg
    unfold genOp cmpOp at hg
    repeat' split at hg
    all_goals first
      | cases hg; done
      | (simp only [Option.some.injEq] at hg; subst hg; rfl)
  have hld : ∀ t p r, loadOp Γ t p mem = some r → r.isNew = false := by
    intro t p r hg
    unfold loadOp at hg
    repeat' split at hg
    all_goals first
      | cases hg; done
      | (simp only [Option.some.injEq] at hg; subst hg; rfl)
  have hst : ∀ t p x r, storeOp Γ t p x mem = some r → r.isNew = false := by
    intro t p x r hg
    unfold storeOp at hg
    repeat' split at hg
    all_goals first
      | cases hg; done
      | (simp only [Option.some.injEq] at hg; subst hg; rfl)
  have h1 : ∀ t p f r, fieldAddrOp Γ t p f = some r → r.isNew = false := by
    intro t p x r hg
    unfold fieldAddrOp at hg
    repeat' split at hg
    all_goals first
      | cases hg; done
      | (simp only [Option.some.injEq] at hg; subst hg; rfl)
  have h2 : ∀ t p i r, indexAddrOp Γ h t p i = some r → r.isNew = false := by
    intro t p x r hg
    unfold indexAddrOp at hg
    repeat' split at hg
    all_goals first
      | cases hg; done
      | (simp only [Option.some.injEq] at hg; subst hg; rfl)
  have h3 : ∀ t p l u r, sliceOp Γ h t p l u = some r → r.isNew = false := by
    intro t p l u r hg
    unfold sliceOp sliceMid sliceEnd at hg
    repeat' split at hg
    all_goals first
      | cases hg; done
      | (simp only [Option.some.injEq] at hg; subst hg; rfl)
  have h4 : ∀ t p f r, fieldOp Γ t p f = some r → r.isNew = false := by
    intro t p f r hg
    unfold fieldOp at hg
    repeat' split at hg
    all_goals first
      | cases hg; done
      | (simp only [Option.some.injEq] at hg; subst hg; rfl)
  have h5 : ∀ t p i r, indexOp Γ h t p i = some r → r.isNew = false := by
    intro t p f r hg
    unfold indexOp at hg
    repeat' split at hg
    all_goals first
      | cases hg; done
      | (simp only [Option.some.injEq] at hg; subst hg; rfl)
  have h6 : ∀ t p r, ifcOp Γ t p = some r → r.isNew = false := by
    intro t p r hg
    unfold ifcOp at hg
    repeat' split at hg
    all_goals first
      | cases hg; done
      | (simp only [Option.some.injEq] at hg; subst hg; rfl)
  have h7 : ∀ t p r, lenVal Γ t p mem = some r → r.isNew = false := by
    intro t p r hg
    unfold lenVal at hg
    repeat' split at hg
    all_goals first
      | cases hg; done
      | (simp only [Option.some.injEq] at hg; subst hg; rfl)
  have h8 : ∀ t p i r, ownIndexOp Γ h t p i mem = some r → r.isNew = false := by
    intro t p i r hg
    unfold ownIndexOp at hg
    repeat' split at hg
    all_goals first
      | cases hg; done
      | (simp only [Option.some.injEq] at hg; subst hg; rfl)
  have h9 : ∀ t p l u r, ownSliceOp Γ h t p l u mem = some r → r.isNew = false := by
    intro t p l u r hg
    unfold ownSliceOp at hg
    repeat' split at hg
    all_goals first
      | cases hg; done
      | (simp only [Option.some.injEq] at hg; subst hg; rfl)
  have h10 : ∀ t ps r, buildOp Γ t ps = some r → r.isNew = false := by
    intro t ps r hg
    unfold buildOp at hg
    repeat' split at hg
    all_goals first
      | cases hg; done
      | (simp only [Option.some.injEq] at hg; subst hg; rfl)
  have h14 : ∀ t D S r, copyOp Γ h t D S mem = some r → r.isNew = false := by
    intro t D S r hg
    unfold copyOp at hg
    repeat' split at hg
    all_goals first
      | cases hg; done
      | (simp only [Option.some.injEq] at hg; subst hg; rfl)
  have h16 : ∀ rd k b v f args r, callWOp Γ rd k b v f args tm mem = some r → r.isNew = false := by
    intro rd k b v f args r hg
    unfold callWOp at hg
    repeat' split at hg
    all_goals first
      | cases hg; done
      | (simp only [Option.some.injEq] at hg; subst hg; rfl)
  have h17 : ∀ r, genX Γ nm h o tm mem = some r → r.isNew = true → look nm mem = none := by
    intro r hg hnn
    unfold genX at hg
    split at hg
    · unfold asWOp at hg
      repeat' split at hg
      all_goals first
        | cases hg; done
        | (simp only [Option.some.injEq] at hg; subst hg; cases hnn)
    · unfold fresh at hg
      split at hg
      · assumption
      · cases hg
    · unfold asROp at hg
      repeat' split at hg
      all_goals first
        | cases hg; done
        | (simp only [Option.some.injEq] at hg; subst hg; cases hnn)
    · rw [hgen _ hg] at hnn; cases hnn
  have h13 : ∀ rd v f args r, callOp Γ nm rd v none f args tm mem = some r → r.isNew = false := by
    intro rd v f args r hg
    unfold callOp at hg
    repeat' split at hg
    all_goals first
      | cases hg; done
      | contradiction
      | (simp only [Option.some.injEq] at hg; subst hg; rfl)
  unfold exec at hr
  split at hr
  all_goals (repeat' split at hr)
  all_goals first
    | (cases hr; done)
    | (rw [h13 _ _ _ _ _ hr] at hn; cases hn; done)
    | (rw [h14 _ _ _ _ hr] at hn; cases hn; done)
    | (rw [h16 _ _ _ _ _ _ _ hr] at hn; cases hn; done)
    | (rw [hgen _ hr] at hn; cases hn; done)
    | (exact h17 _ hr hn; done)
    | (rw [hld _ _ _ hr] at hn; cases hn; done)
    | (rw [hst _ _ _ _ hr] at hn; cases hn; done)
    | (rw [h1 _ _ _ _ hr] at hn; cases hn; done)
    | (rw [h2 _ _ _ _ hr] at hn; cases hn; done)
    | (rw [h3 _ _ _ _ _ hr] at hn; cases hn; done)
    | (rw [h4 _ _ _ _ hr] at hn; cases hn; done)
    | (rw [h5 _ _ _ _ hr] at hn; cases hn; done)
    | (rw [h6 _ _ _ hr] at hn; cases hn; done)
    | (rw [h7 _ _ _ hr] at hn; cases hn; done)
    | (rw [h8 _ _ _ _ hr] at hn; cases hn; done)
    | (rw [h9 _ _ _ _ _ hr] at hn; cases hn; done)
    | (rw [h10 _ _ _ hr] at hn; cases hn; done)
    | (simp only [Option.some.injEq] at hr; subst hr; simp [Res.isNew] at hn; done)
    | (unfold fresh at hr; split at hr; (assumption); (cases hr))
def Res.isWr : Res → Bool
  | .wr .. => true
  | _ => false
theorem makeOp_wr {Γ : Ctx} {nm : Nat} {h : Option Hint} {t : TypeId} {v : AV} {r : Res} (hr : makeOp Γ nm h t v = some r) : r.isWr = false := by
  unfold makeOp at hr
  repeat' split at hr
  all_goals first
    | cases hr; done
    | (simp only [Option.some.injEq] at hr; subst hr; rfl)
theorem exec_wr0 {Γ : Ctx} {nm : Nat} {h : Option Hint} {o : Oper} {tm : List (Nat × AV)} {mem : List (Nat × Vblk)} {r : Res} (hr : exec Γ nm h o tm mem = some r) (hn : r.isWr = true) : o.dst = none := by
  have hgen : ∀ r, genOp Γ h o tm = some r → r.isWr = false := by
    intro r hg
    unfold genOp cmpOp at hg
    repeat' split at hg
    all_goals first
      | cases hg; done
      | (simp only [Option.some.injEq] at hg; subst hg; rfl)
  have hld : ∀ t p r, loadOp Γ t p mem = some r → r.isWr = false := by
    intro t p r hg
    unfold loadOp at hg
    repeat' split at hg
    all_goals first
      | cases hg; done
      | (simp only [Option.some.injEq] at hg; subst hg; rfl)
  have h1 : ∀ t p f r, fieldAddrOp Γ t p f = some r → r.isWr = false := by
    intro t p x r hg
    unfold fieldAddrOp at hg
    repeat' split at hg
    all_goals first
      | cases hg; done
      | (simp only [Option.some.injEq] at hg; subst hg; rfl)
  have h2 : ∀ t p i r, indexAddrOp Γ h t p i = some r → r.isWr = false := by
    intro t p x r hg
    unfold indexAddrOp at hg
    repeat' split at hg
    all_goals first
      | cases hg; done
      | (simp only [Option.some.injEq] at hg; subst hg; rfl)
  have h3 : ∀ t p l u r, sliceOp Γ h t p l u = some r → r.isWr = false := by
    intro t p l u r hg
    unfold sliceOp sliceMid sliceEnd at hg
    repeat' split at hg
    all_goals first
      | cases hg; done
      | (simp only [Option.some.injEq] at hg; subst hg; rfl)
  have h4 : ∀ t p f r, fieldOp Γ t p f = some r → r.isWr = false := by
    intro t p f r hg
    unfold fieldOp at hg
    repeat' split at hg
    all_goals first
      | cases hg; done
      | (simp only [Option.some.injEq] at hg; subst hg; rfl)
  have h5 : ∀ t p i r, indexOp Γ h t p i = some r → r.isWr = false := by
    intro t p f r hg
    unfold indexOp at hg
    repeat' split at hg
    all_goals first
      | cases hg; done
      | (simp only [Option.some.injEq] at hg; subst hg; rfl)
  have h6 : ∀ t p r, ifcOp Γ t p = some r → r.isWr = false := by
    intro t p r hg
    unfold ifcOp at hg
    repeat' split at hg
    all_goals first
      | cases hg; done
      | (simp only [Option.some.injEq] at hg; subst hg; rfl)
  have h7 : ∀ t p r, lenVal Γ t p mem = some r → r.isWr = false := by
    intro t p r hg
    unfold lenVal at hg
    repeat' split at hg
    all_goals first
      | cases hg; done
      | (simp only [Option.some.injEq] at hg; subst hg; rfl)
  have h8 : ∀ t p i r, ownIndexOp Γ h t p i mem = some r → r.isWr = false := by
    intro t p i r hg
    unfold ownIndexOp at hg
    repeat' split at hg
    all_goals first
      | cases hg; done
      | (simp only [Option.some.injEq] at hg; subst hg; rfl)
  have h9 : ∀ t p l u r, ownSliceOp Γ h t p l u mem = some r → r.isWr = false := by
    intro t p l u r hg
    unfold ownSliceOp at hg
    repeat' split at hg
    all_goals first
      | cases hg; done
      | (simp only [Option.some.injEq] at hg; subst hg; rfl)
  have h10 : ∀ t ps r, buildOp Γ t ps = some r → r.isWr = false := by
    intro t ps r hg
    unfold buildOp at hg
    repeat' split at hg
    all_goals first
      | cases hg; done
      | (simp only [Option.some.injEq] at hg; subst hg; rfl)
  have h11 : ∀ t n ps r, buildSliceOp Γ nm t n ps = some r → r.isWr = false := by
    intro t n ps r hg
    unfold buildSliceOp at hg
    repeat' split at hg
    all_goals first
      | cases hg; done
      | (simp only [Option.some.injEq] at hg; subst hg; rfl)
  have h12 : ∀ t t' S X r, appOp Γ nm h t t' S X mem = some r → r.isWr = false := by
    intro t t' S X r hg
    unfold appOp appRes at hg
    repeat' split at hg
    all_goals first
      | cases hg; done
      | (simp only [Option.some.injEq] at hg; subst hg; rfl)
  have h14 : ∀ t D S r, copyOp Γ h t D S mem = some r → r.isWr = false := by
    intro t D S r hg
    unfold copyOp at hg
    repeat' split at hg
    all_goals first
      | cases hg; done
      | (simp only [Option.some.injEq] at hg; subst hg; rfl)
  have h15 : ∀ t l c r, mkOp Γ nm h t l c = some r → r.isWr = false := by
    intro t l c r hg
    rw [mkOp_new hg]; rfl
  have h16 : ∀ rd k b v f args r, callWOp Γ rd k b v f args tm mem = some r → r.isWr = false := by
    intro rd k b v f args r hg
    unfold callWOp at hg
    repeat' split at hg
    all_goals first
      | cases hg; done
      | (simp only [Option.some.injEq] at hg; subst hg; rfl)
  have h17 : ∀ r, genX Γ nm h o tm mem = some r → r.isWr = false := by
    intro r hg
    unfold genX fresh at hg
    split at hg
    · unfold asWOp at hg
      repeat' split at hg
      all_goals first
        | cases hg; done
        | (simp only [Option.some.injEq] at hg; subst hg; rfl)
    · unfold asNOp at hg
      repeat' split at hg
      all_goals first
        | cases hg; done
        | (simp only [Option.some.injEq] at hg; subst hg; rfl)
    · unfold asROp at hg
      repeat' split at hg
      all_goals first
        | cases hg; done
        | (simp only [Option.some.injEq] at hg; subst hg; rfl)
    · exact hgen _ hg
  have h13 : ∀ rd v nb f args r, callOp Γ nm rd v nb f args tm mem = some r → r.isWr = false := by
    intro rd v nb f args r hg
    unfold callOp at hg
    repeat' split at hg
    all_goals first
      | cases hg; done
      | (simp only [Option.some.injEq] at hg; subst hg; rfl)
  unfold exec at hr
  split at hr
  all_goals (repeat' split at hr)
  all_goals first
    | (cases hr; done)
    | (rw [h13 _ _ _ _ _ _ hr] at hn; cases hn; done)
    | (rw [h14 _ _ _ _ hr] at hn; cases hn; done)
    | (rw [h16 _ _ _ _ _ _ _ hr] at hn; cases hn; done)
    | (rw [hgen _ hr] at hn; cases hn; done)
    | (rw [h17 _ hr] at hn; cases hn; done)
    | (rw [hld _ _ _ hr] at hn; cases hn; done)
    | (assumption; done)
    | (rw [h1 _ _ _ _ hr] at hn; cases hn; done)
    | (rw [h2 _ _ _ _ hr] at hn; cases hn; done)
    | (rw [h3 _ _ _ _ _ hr] at hn; cases hn; done)
    | (rw [h4 _ _ _ _ hr] at hn; cases hn; done)
    | (rw [h5 _ _ _ _ hr] at hn; cases hn; done)
    | (rw [h6 _ _ _ hr] at hn; cases hn; done)
    | (rw [h7 _ _ _ hr] at hn; cases hn; done)
    | (rw [h8 _ _ _ _ hr] at hn; cases hn; done)
    | (rw [h9 _ _ _ _ _ hr] at hn; cases hn; done)
    | (rw [h10 _ _ _ hr] at hn; cases hn; done)
    | (simp only [Option.some.injEq] at hr; subst hr; simp [Res.isWr] at hn; done)
    | (unfold fresh at hr; split at hr; (first | (rw [makeOp_wr hr] at hn; cases hn) | (rw [h11 _ _ _ _ hr] at hn; cases hn) | (rw [h12 _ _ _ _ _ hr] at hn; cases hn) | (rw [h13 _ _ _ _ _ _ hr] at hn; cases hn) | (rw [h15 _ _ _ _ hr] at hn; cases hn)); (cases hr))
theorem exec_wr {Γ : Ctx} {nm : Nat} {h : Option Hint} {o : Oper} {tm : List (Nat × AV)} {mem : List (Nat × Vblk)} {r : Res} (hr : exec Γ nm h o tm mem = some r) : ∀ k b vc, r = .wr k b vc → o.dst = none := by
  intro k b vc e
  exact exec_wr0 hr (by rw [e]; rfl)

/-- In the order of the text. -/
theorem runOps_list {Γ : Ctx} {ops : Array Oper} {base : Nat} {Q : Exit → Act → World → Prop} : ∀ (l : List Oper) (i : Nat) (hs : List (Nat × Hint)) (s : AS) (tr : List (Oper × Option Res)) (hs' : List (Nat × Hint)) (s' : AS),
    runOps Γ ops base i l hs s = some (tr, hs', s') → (∀ p ∈ trVc tr, p) → ∀ (ρ : Env) (a : Act) (w : World), Rel Γ ρ s a w → (∀ ρ' a' w', Rel Γ ρ' s' a' w' → Q .normal a' w') → wpList Γ.P ops Q l a w
  | [], i, hs, s, tr, hs', s', h, hvc, ρ, a, w, hR, hQ => by
    simp only [runOps, Option.some.injEq, Prod.mk.injEq] at h
    obtain ⟨_, _, rfl⟩ := h
    exact hQ ρ a w hR
  | o :: rest, i, hs, s, tr, hs', s', h, hvc, ρ, a, w, hR, hQ => by
    simp only [runOps] at h
    split at h
    · rename_i hd hw
      split at h
      · rename_i tr1 hs1 s1 hrec
        simp only [Option.some.injEq, Prod.mk.injEq] at h
        obtain ⟨rfl, rfl, rfl⟩ := h
        simp only [wpList]
        rw [if_neg (by rw [wantedA_spec hR hw]; simp)]
        refine runOps_list rest (i + 1) hs _ _ _ _ hrec (fun p hp => hvc p (by simp [trVc, qvc, hp])) ρ _ w ?_ hQ
        unfold dstOk at hd
        cases hdst : o.dst with
        | none => simp only [applyQ, hdst, setD, Act.put]; exact hR
        | some d =>
          rw [hdst] at hd
          have := hR.put d (Nat.le_of_ble_eq_true hd) (.val undef) (by simp [AV.ok])
          simpa [applyQ, hdst, setD, AV.conc] using this
      · cases h
    · rename_i hd hw
      split at h
      · rename_i r hex
        split at h
        · rename_i tr1 hs2 s1 hrec
          simp only [Option.some.injEq, Prod.mk.injEq] at h
          obtain ⟨rfl, rfl, rfl⟩ := h
          simp only [wpList]
          rw [if_pos (wantedA_spec hR hw)]
          refine .inl (op_wp hR (exec_sound hex (fun p hp => hvc p (by simp [trVc, qvc, hp])) hR (fun _ _ => rfl) (fun _ _ => rfl) (fun hn => ?_)) hd (exec_wr hex) ?_)
          · exact exec_fresh hex hn
          · intro ρ' a' w' hR'
            exact runOps_list rest (i + 1) _ _ _ _ _ hrec (fun p hp => hvc p (by simp [trVc, hp])) ρ' a' w' hR' hQ
        · cases h
      · cases h
    · cases h
end Go.Proofs.YthgnmpjcbicdhaaDoor

