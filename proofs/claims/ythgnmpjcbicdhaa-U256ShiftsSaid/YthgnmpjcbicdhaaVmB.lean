/- The abstract machine: one operation after the other, a region, in whatever order. -/
import Derived.Test.YthgnmpjcbicdhaaVmA
import Derived.Test.YthgnmpjcbicdhaaTold
set_option linter.unusedVariables false
set_option linter.unusedSimpArgs false
namespace Go.Proofs.Ythgnmpjcbicdhaa
open Go Go.RowKit

def fresh (nm : Nat) (mem : List (Nat × Vblk)) (r : Option Res) : Option Res := match look nm mem with
  | none => r
  | some _ => none
def ifcOp (Γ : Ctx) (t : TypeId) (v : AV) : Option Res := match Γ.P.underlying t with
  | some (.interface _) => none
  | some _ => some (.val (.ifc t v) [] [])
  | none => none
/-- An operation. -/
def exec (Γ : Ctx) (nm : Nat) (h : Option Hint) (o : Oper) (tm : List (Nat × AV)) (mem : List (Nat × Vblk)) : Option Res :=
  match o.op with
  | .move x => match ev tm x with
    | some v => some (.val v [] [])
    | none => none
  | .assign x => match ev tm x with
    | some v => some (.val v [] [])
    | none => none
  | .pick c x y => match ev tm c, ev tm x, ev tm y with
    | some (.val (.bool true)), some v, _ => some (.val v [] [])
    | some (.val (.bool false)), _, some v => some (.val v [] [])
    | _, _, _ => none
  | .alloc t => match prun Γ.P (zeroValue t) with
    | some z => fresh nm mem (makeOp Γ nm h t (.val z))
    | none => none
  | .box t x => match ev tm x with
    | some v => fresh nm mem (makeOp Γ nm h t v)
    | none => none
  | .load t x => match ev tm x with
    | some p => match p.here with
      | true => loadOp Γ t p mem
      | false => genOp Γ h o tm
    | none => none
  | .store t x y => match o.dst, ev tm x, ev tm y with
    | none, some p, some v => storeOp Γ t p v mem
    | _, _, _ => none
  | .nilCheck x => match ev tm x with
    | some p => match p.here with
      | true => match p with
        | .lst .. => none
        | p => some (.val p [] [])
      | false => genOp Γ h o tm
    | none => none
  | .fieldAddr t x f => match ev tm x with
    | some p => match p.here with
      | true => fieldAddrOp Γ t p f
      | false => genOp Γ h o tm
    | none => none
  | .indexAddr t x y => match ev tm x, ev tm y with
    | some p, some i => match p.here with
      | true => indexAddrOp Γ h t p i
      | false => genOp Γ h o tm
    | _, _ => none
  | .slice t x lo hi none => match ev tm x, evO tm lo, evO tm hi with
    | some p, some l, some u => match p.here with
      | true => sliceOp Γ h t p l u
      | false => genOp Γ h o tm
    | _, _, _ => none
  | .field t x f => match ev tm x with
    | some (.agg cs) => fieldOp Γ t (.agg cs) f
    | _ => genOp Γ h o tm
  | .index t x y => match ev tm x, ev tm y with
    | some (.agg cs), some i => indexOp Γ h t (.agg cs) i
    | _, _ => genOp Γ h o tm
  | .extract x i => match ev tm x with
    | some (.tup cs) => match cs[i]? with
      | some v => some (.val v [] [])
      | none => none
    | _ => genOp Γ h o tm
  | .makeInterface t x => match ev tm x with
    | some v => match v.toV with
      | some _ => genOp Γ h o tm
      | none => ifcOp Γ t v
    | none => none
  | _ => genOp Γ h o tm

theorem okL_at {D : Nat → Prop} : ∀ (cs : List AV) (i : Nat) (v : AV), cs[i]? = some v → AV.okL D cs → v.ok D
  | [], i, v, h, _ => by simp at h
  | x :: r, 0, v, h, hc => by
    simp only [List.getElem?_cons_zero, Option.some.injEq] at h
    subst h
    simp only [AV.okL] at hc
    exact hc.1
  | x :: r, i + 1, v, h, hc => by
    simp only [AV.okL] at hc
    exact okL_at r i v (by simpa using h) hc.2
theorem concL_at (ρ : Env) : ∀ (cs : List AV) (i : Nat), (AV.concL ρ cs)[i]? = (cs[i]?).map (AV.conc ρ)
  | [], i => by simp [AV.concL]
  | x :: r, 0 => by simp [AV.concL]
  | x :: r, i + 1 => by simp [AV.concL, concL_at ρ r i]
/-- The blocks that an operation looks at or writes. -/
def Res.touch : Res → List Nat
  | .val _ rd _ => rd
  | .new _ _ _ => []
  | .wr k _ _ => [k]
  | .call _ _ _ _ => []
def Res.isNew : Res → Bool
  | .new .. => true
  | _ => false
theorem loadOp_local {Γ : Ctx} {t : TypeId} {p : AV} {mem mem' : List (Nat × Vblk)} {r : Res} (h : loadOp Γ t p mem = some r) (hm : ∀ k ∈ r.touch, look k mem = look k mem') : loadOp Γ t p mem' = some r := by
  cases p with
  | ptr k off =>
    have hk : k ∈ r.touch := by
      unfold loadOp at h
      simp only at h
      repeat' split at h
      all_goals first
        | cases h; done
        | (simp only [Option.some.injEq] at h; subst h; simp [Res.touch])
    unfold loadOp at h ⊢
    simp only at h ⊢
    rw [← hm k hk]
    exact h
  | elt k b i =>
    have hk : k ∈ r.touch := by
      unfold loadOp at h
      simp only at h
      repeat' split at h
      all_goals first
        | cases h; done
        | (simp only [Option.some.injEq] at h; subst h; simp [Res.touch])
    unfold loadOp at h ⊢
    simp only at h ⊢
    rw [← hm k hk]
    exact h
  | _ => simp [loadOp] at h
theorem storeOp_local {Γ : Ctx} {t : TypeId} {p x : AV} {mem mem' : List (Nat × Vblk)} {r : Res} (h : storeOp Γ t p x mem = some r) (hm : ∀ k ∈ r.touch, look k mem = look k mem') : storeOp Γ t p x mem' = some r := by
  cases p with
  | ptr k off =>
    have hk : k ∈ r.touch := by
      unfold storeOp at h
      simp only at h
      repeat' split at h
      all_goals first
        | cases h; done
        | (simp only [Option.some.injEq] at h; subst h; simp [Res.touch])
    unfold storeOp at h ⊢
    simp only at h ⊢
    rw [← hm k hk]
    exact h
  | elt k b i =>
    have hk : k ∈ r.touch := by
      unfold storeOp at h
      simp only at h
      repeat' split at h
      all_goals first
        | cases h; done
        | (simp only [Option.some.injEq] at h; subst h; simp [Res.touch])
    unfold storeOp at h ⊢
    simp only at h ⊢
    rw [← hm k hk]
    exact h
  | _ => simp [storeOp] at h

theorem evO_agree {tm tm' : List (Nat × AV)} {x : Option Operand} (h : ∀ y, x = some y → ev tm y = ev tm' y) : evO tm x = evO tm' x := by
  cases x with
  | none => rfl
  | some y => simp only [evO, h y rfl]
theorem makeOp_new {Γ : Ctx} {nm : Nat} {h : Option Hint} {t : TypeId} {v : AV} {r : Res} (hr : makeOp Γ nm h t v = some r) : r.isNew = true := by
  unfold makeOp at hr
  repeat' split at hr
  all_goals first
    | cases hr; done
    | (simp only [Option.some.injEq] at hr; subst hr; rfl)
theorem exec_sound {Γ : Ctx} {nm : Nat} {h : Option Hint} {o : Oper} {tm : List (Nat × AV)} {mem : List (Nat × Vblk)} {ρ : Env} {s : AS} {a : Act} {w : World} {r : Res} (hr : exec Γ nm h o tm mem = some r) (hvc : ∀ p ∈ r.vc, p) (hR : Rel Γ ρ s a w)
    (hag : ∀ x ∈ o.op.operands, ev tm x = ev s.tm x) (hm : ∀ k ∈ r.touch, look k mem = look k s.mem) (hn : r.isNew = true → look nm s.mem = none) : ResOk Γ nm o ρ s a w r := by
  have gen : genOp Γ h o tm = some r → ResOk Γ nm o ρ s a w r := fun hr => genOp_sound hr hvc hR hag
  unfold exec at hr
  split at hr
  · rename_i x ho
    split at hr
    · rename_i v hv
      simp only [Option.some.injEq] at hr
      subst hr
      rw [hag x (by simp [ho, Op.operands])] at hv
      obtain ⟨h1, h2⟩ := hR.ev hv
      exact ⟨by unfold execOp; simp [ho, h1], h2⟩
    · cases hr
  · rename_i x ho
    split at hr
    · rename_i v hv
      simp only [Option.some.injEq] at hr
      subst hr
      rw [hag x (by simp [ho, Op.operands])] at hv
      obtain ⟨h1, h2⟩ := hR.ev hv
      exact ⟨by unfold execOp; simp [ho, h1], h2⟩
    · cases hr
  · rename_i c x y ho
    have e1 := hag c (by simp [ho, Op.operands])
    have e2 := hag x (by simp [ho, Op.operands])
    have e3 := hag y (by simp [ho, Op.operands])
    rw [e1, e2, e3] at hr
    split at hr
    · rename_i v hc hv
      simp only [Option.some.injEq] at hr
      subst hr
      obtain ⟨h1, h2⟩ := hR.ev hv
      have hc := (hR.ev hc).1
      simp only [AV.conc] at hc
      exact ⟨by unfold execOp; simp [ho, h1, hc, asBool], h2⟩
    · rename_i v hc hv
      simp only [Option.some.injEq] at hr
      subst hr
      obtain ⟨h1, h2⟩ := hR.ev hv
      have hc := (hR.ev hc).1
      simp only [AV.conc] at hc
      exact ⟨by unfold execOp; simp [ho, h1, hc, asBool], h2⟩
    · cases hr
  · rename_i t ho
    split at hr
    · rename_i z hz
      unfold fresh at hr
      split at hr
      · refine makeOp_sound ?_ (by simp [AV.ok]) (hn (makeOp_new hr)) hr hvc hR
        have hz := prun_run Γ.P _ _ hz w
        unfold execOp
        simp [ho, Instr.alloc, newVar, newRow, newObj, hz, AV.conc]
        rfl
      · cases hr
    · cases hr
  · rename_i t x ho
    split at hr
    · rename_i v hv
      rw [hag x (by simp [ho, Op.operands])] at hv
      obtain ⟨h1, h2⟩ := hR.ev hv
      unfold fresh at hr
      split at hr
      · refine makeOp_sound ?_ h2 (hn (makeOp_new hr)) hr hvc hR
        unfold execOp
        simp [ho, Instr.box, newVar, newRow, newObj, h1]
        rfl
      · cases hr
    · cases hr
  · rename_i t x ho
    split at hr
    · rename_i p hp
      split at hr
      · rw [hag x (by simp [ho, Op.operands])] at hp
        exact loadOp_sound ho hp (loadOp_local hr hm) hvc hR
      · exact gen hr
    · cases hr
  · rename_i t x y ho
    split at hr
    · rename_i p v hd hp hv
      rw [hag x (by simp [ho, Op.operands])] at hp
      rw [hag y (by simp [ho, Op.operands])] at hv
      exact storeOp_sound ho hp hv (storeOp_local hr hm) hvc hR
    · cases hr
  · rename_i x ho
    split at hr
    · rename_i p hp
      split at hr
      · rw [hag x (by simp [ho, Op.operands])] at hp
        obtain ⟨h1, h2⟩ := hR.ev hp
        rename_i hh
        split at hr
        · cases hr
        · simp only [Option.some.injEq] at hr
          subst hr
          refine ⟨?_, h2⟩
          unfold execOp
          cases p <;> simp_all [AV.here, AV.conc]
      · exact gen hr
    · cases hr
  · rename_i t x f ho
    split at hr
    · rename_i p hp
      split at hr
      · rw [hag x (by simp [ho, Op.operands])] at hp
        exact fieldAddrOp_sound ho hp hr hvc hR
      · exact gen hr
    · cases hr
  · rename_i t x y ho
    split at hr
    · rename_i p i hp hi
      split at hr
      · rw [hag x (by simp [ho, Op.operands])] at hp
        rw [hag y (by simp [ho, Op.operands])] at hi
        exact indexAddrOp_sound ho hp hi hr hvc hR
      · exact gen hr
    · cases hr
  · rename_i t x lo hi ho
    split at hr
    · rename_i p l u hp hl hu
      split at hr
      · rw [hag x (by simp [ho, Op.operands])] at hp
        rw [evO_agree (tm' := s.tm) (fun y e => hag y (by subst e; simp [ho, Op.operands]))] at hl
        rw [evO_agree (tm' := s.tm) (fun y e => hag y (by subst e; simp [ho, Op.operands]))] at hu
        exact sliceOp_sound ho hp hl hu hr hvc hR
      · exact gen hr
    · cases hr
  · rename_i t x f ho
    split at hr
    · rename_i cs hp
      rw [hag x (by simp [ho, Op.operands])] at hp
      exact fieldOp_sound ho hp hr hR
    · exact gen hr
  · rename_i t x y ho
    split at hr
    · rename_i cs i hp hi
      rw [hag x (by simp [ho, Op.operands])] at hp
      rw [hag y (by simp [ho, Op.operands])] at hi
      exact indexOp_sound ho hp hi hr hvc hR
    · exact gen hr
  · rename_i x i ho
    split at hr
    · rename_i cs hp
      rw [hag x (by simp [ho, Op.operands])] at hp
      obtain ⟨h1, h2⟩ := hR.ev hp
      split at hr
      · rename_i v hv
        simp only [Option.some.injEq] at hr
        subst hr
        simp only [AV.ok] at h2
        simp only [AV.conc] at h1
        refine ⟨?_, okL_at cs i v hv h2⟩
        unfold execOp
        simp [ho, h1, Instr.extract, concL_at, hv]
      · cases hr
    · exact gen hr
  · rename_i t x ho
    split at hr
    · rename_i v hv
      split at hr
      · exact gen hr
      · rw [hag x (by simp [ho, Op.operands])] at hv
        obtain ⟨h1, h2⟩ := hR.ev hv
        unfold ifcOp at hr
        split at hr
        · cases hr
        · rename_i d hni hd
          simp only [Option.some.injEq] at hr
          subst hr
          refine ⟨?_, by simpa [AV.ok] using h2⟩
          unfold execOp
          simp only [ho, h1, Instr.makeInterface, Sem.run_bind, run_underlying hd, Result.andThen_ok]
          cases d <;> first | (simp [AV.conc]; done) | (exfalso; exact hni _ rfl)
        · cases hr
    · cases hr
  · exact gen hr
end Go.Proofs.Ythgnmpjcbicdhaa

