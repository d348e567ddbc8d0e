/- The abstract machine: one operation after the other, a region, in whatever order. -/
import Derived.Test.YthgnmpjcbicdhaaDoorVmL
import Derived.Test.YthgnmpjcbicdhaaDoorTold
set_option linter.unusedVariables false
set_option linter.unusedSimpArgs false
namespace Go.Proofs.YthgnmpjcbicdhaaDoor
open Go Go.RowKit

def fresh (nm : Nat) (mem : List (Nat × Vblk)) (r : Option Res) : Option Res := match look nm mem with
  | none => r
  | some _ => none
/-- What is left: by a law that writes, that makes, that reads; or one that looks at no block. -/
def genX (Γ : Ctx) (nm : Nat) (h : Option Hint) (o : Oper) (tm : List (Nat × AV)) (mem : List (Nat × Vblk)) : Option Res := match h with
  | some (.asW rd k b v) => asWOp Γ rd k b v o tm mem
  | some (.asN rd v b) => fresh nm mem (asNOp Γ nm rd v b o tm mem)
  | some (.asR rd v) => asROp Γ rd v o tm mem
  | _ => genOp Γ h o tm
def ifcOp (Γ : Ctx) (t : TypeId) (v : AV) : Option Res := match Γ.P.underlying t with
  | some (.interface _) => none
  | some _ => some (.val (.ifc t v) [] [])
  | none => none
/-- An operation. -/
def exec (Γ : Ctx) (nm : Nat) (h : Option Hint) (o : Oper) (tm : List (Nat × AV)) (mem : List (Nat × Vblk)) : Option Res :=
  match o.op with
  | .move x => match ev tm x with
    | some v => some (.val v [] [])
    | none => none
  | .assign x => match ev tm x with
    | some v => some (.val v [] [])
    | none => none
  | .pick c x y => match ev tm c, ev tm x, ev tm y with
    | some (.val (.bool true)), some v, _ => some (.val v [] [])
    | some (.val (.bool false)), _, some v => some (.val v [] [])
    | _, _, _ => none
  | .alloc t => match prun Γ.P (zeroValue t) with
    | some z => fresh nm mem (makeOp Γ nm h t (.val z))
    | none => none
  | .box t x => match ev tm x with
    | some v => fresh nm mem (makeOp Γ nm h t v)
    | none => none
  | .load t x => match ev tm x with
    | some p => match p.here with
      | true => loadOp Γ t p mem
      | false => genOp Γ h o tm
    | none => none
  | .store t x y => match o.dst, ev tm x, ev tm y with
    | none, some p, some v => storeOp Γ t p v mem
    | _, _, _ => none
  | .nilCheck x => match ev tm x with
    | some p => match p.here with
      | true => match p with
        | .lst .. => none
        | .own .. => none
        | p => some (.val p [] [])
      | false => genOp Γ h o tm
    | none => none
  | .fieldAddr t x f => match ev tm x with
    | some p => match p.here with
      | true => fieldAddrOp Γ t p f
      | false => genOp Γ h o tm
    | none => none
  | .indexAddr t x y => match ev tm x, ev tm y with
    | some p, some i => match p.here with
      | true => match p with
        | .own .. => ownIndexOp Γ h t p i mem
        | _ => indexAddrOp Γ h t p i
      | false => genOp Γ h o tm
    | _, _ => none
  | .slice t x lo hi none => match ev tm x, evO tm lo, evO tm hi with
    | some p, some l, some u => match p.here with
      | true => match p with
        | .own .. => ownSliceOp Γ h t p l u mem
        | _ => sliceOp Γ h t p l u
      | false => genOp Γ h o tm
    | _, _, _ => none
  | .field t x f => match ev tm x with
    | some (.agg cs) => fieldOp Γ t (.agg cs) f
    | _ => genOp Γ h o tm
  | .index t x y => match ev tm x, ev tm y with
    | some (.agg cs), some i => indexOp Γ h t (.agg cs) i
    | _, _ => genOp Γ h o tm
  | .extract x i => match ev tm x with
    | some (.tup cs) => match cs[i]? with
      | some v => some (.val v [] [])
      | none => none
    | _ => genOp Γ h o tm
  | .makeInterface t x => match ev tm x with
    | some v => match v.toV with
      | some _ => genOp Γ h o tm
      | none => ifcOp Γ t v
    | none => none
  | .build t ps => match partsOf tm ps.toList with
    | some parts => buildOp Γ t parts
    | none => none
  | .buildSlice t len ps => match partsOf tm ps.toList with
    | some parts => match Nat.beq len 0 with
      | true => genOp Γ h o tm
      | false => fresh nm mem (buildSliceOp Γ nm t len parts)
    | none => none
  | .call ⟨.builtin .append, args, ats⟩ => match args.toList, ats.toList with
    | [x, y], [t, t'] => match ev tm x, ev tm y with
      | some S, some X => fresh nm mem (appOp Γ nm h t t' S X mem)
      | _, _ => none
    | _, _ => none
  | .call ⟨.builtin .len, args, ats⟩ => match args.toList, ats.toList with
    | [x], [t] => match ev tm x with
      | some p => match p.here with
        | true => lenVal Γ t p mem
        | false => genOp Γ h o tm
      | none => none
    | _, _ => none
  | .makeSlice t x y => match ev tm x, ev tm y with
    | some l, some c => fresh nm mem (mkOp Γ nm h t l c)
    | _, _ => none
  | .call ⟨.builtin .copy, args, ats⟩ => match args.toList, ats.toList with
    | [x, y], [t, t'] => match ev tm x, ev tm y with
      | some D, some S => copyOp Γ h t D S mem
      | _, _ => none
    | _, _ => none
  | .call ⟨.value f, args, _⟩ => match h with
    | some (.callM rd v nb) => match nb with
      | none => callOp Γ nm rd v none f args.toList tm mem
      | some b => fresh nm mem (callOp Γ nm rd v (some b) f args.toList tm mem)
    | some (.callW rd k b v) => callWOp Γ rd k b v f args.toList tm mem
    | _ => genX Γ nm h o tm mem
  | _ => genX Γ nm h o tm mem

theorem okL_at {D : Nat → Prop} : ∀ (cs : List AV) (i : Nat) (v : AV), cs[i]? = some v → AV.okL D cs → v.ok D
  | [], i, v, h, _ => by simp at h
  | x :: r, 0, v, h, hc => by
    simp only [List.getElem?_cons_zero, Option.some.injEq] at h
    subst h
    simp only [AV.okL] at hc
    exact hc.1
  | x :: r, i + 1, v, h, hc => by
    simp only [AV.okL] at hc
    exact okL_at r i v (by simpa using h) hc.2
theorem concL_at (ρ : Env) : ∀ (cs : List AV) (i : Nat), (AV.concL ρ cs)[i]? = (cs[i]?).map (AV.conc ρ)
  | [], i => by simp [AV.concL]
  | x :: r, 0 => by simp [AV.concL]
  | x :: r, i + 1 => by simp [AV.concL, concL_at ρ r i]
/-- The blocks that an operation looks at or writes. -/
def Res.touch : Res → List Nat
  | .val _ rd _ => rd
  | .new _ _ _ => []
  | .wr k _ _ => [k]
  | .call _ _ _ _ => []
  | .gen _ ms rd _ _ => rd ++ ms.map (·.1)
def Res.isNew : Res → Bool
  | .new .. => true
  | .gen _ _ _ nw _ => nw
  | _ => false
theorem loadOp_local {Γ : Ctx} {t : TypeId} {p : AV} {mem mem' : List (Nat × Vblk)} {r : Res} (h : loadOp Γ t p mem = some r) (hm : ∀ k ∈ r.touch, look k mem = look k mem') : loadOp Γ t p mem' = some r := by
  cases p with
  | ptr k off =>
    have hk : k ∈ r.touch := by
      unfold loadOp at h
      simp only at h
      repeat' split at h
      all_goals first
        | cases h; done
        | (simp only [Option.some.injEq] at h; subst h; simp [Res.touch])
    unfold loadOp at h ⊢
    simp only at h ⊢
    unfold live at h ⊢
    rw [← hm k hk]
    exact h
  | elt k b i =>
    have hk : k ∈ r.touch := by
      unfold loadOp at h
      simp only at h
      repeat' split at h
      all_goals first
        | cases h; done
        | (simp only [Option.some.injEq] at h; subst h; simp [Res.touch])
    unfold loadOp at h ⊢
    simp only at h ⊢
    unfold live at h ⊢
    rw [← hm k hk]
    exact h
  | _ => simp [loadOp] at h
theorem storeOp_local {Γ : Ctx} {t : TypeId} {p x : AV} {mem mem' : List (Nat × Vblk)} {r : Res} (h : storeOp Γ t p x mem = some r) (hm : ∀ k ∈ r.touch, look k mem = look k mem') : storeOp Γ t p x mem' = some r := by
  cases p with
  | ptr k off =>
    have hk : k ∈ r.touch := by
      unfold storeOp at h
      simp only at h
      repeat' split at h
      all_goals first
        | cases h; done
        | (simp only [Option.some.injEq] at h; subst h; simp [Res.touch])
    unfold storeOp at h ⊢
    simp only at h ⊢
    unfold live at h ⊢
    rw [← hm k hk]
    exact h
  | elt k b i =>
    have hk : k ∈ r.touch := by
      unfold storeOp at h
      simp only at h
      repeat' split at h
      all_goals first
        | cases h; done
        | (simp only [Option.some.injEq] at h; subst h; simp [Res.touch])
    unfold storeOp at h ⊢
    simp only at h ⊢
    unfold live at h ⊢
    rw [← hm k hk]
    exact h
  | _ => simp [storeOp] at h

theorem live_agree {k : Nat} {mem mem' : List (Nat × Vblk)} (h : look k mem = look k mem') : live k mem = live k mem' := by unfold live; rw [h]
theorem ownRow_agree {k sz : Nat} {mem mem' : List (Nat × Vblk)} (h : look k mem = look k mem') : ownRow k sz mem = ownRow k sz mem' := by unfold ownRow; rw [live_agree h]
theorem lenVal_local {Γ : Ctx} {t : TypeId} {p : AV} {mem mem' : List (Nat × Vblk)} {r : Res} (h : lenVal Γ t p mem = some r) (hm : ∀ k ∈ r.touch, look k mem = look k mem') : lenVal Γ t p mem' = some r := by
  unfold lenVal at h ⊢
  split at h
  · split at h
    · exact h
    · rename_i k sz st len
      split at h
      · rename_i row hrow
        have hk : k ∈ r.touch := by simp only [Option.some.injEq] at h; subst h; simp [Res.touch]
        rw [ownRow_agree (hm k hk)] at hrow
        simp only [hrow]
        exact h
      · cases h
    · cases h
  · cases h
theorem ownIndexOp_local {Γ : Ctx} {hh : Option Hint} {t : TypeId} {p i : AV} {mem mem' : List (Nat × Vblk)} {r : Res} (h : ownIndexOp Γ hh t p i mem = some r) (hm : ∀ k ∈ r.touch, look k mem = look k mem') : ownIndexOp Γ hh t p i mem' = some r := by
  unfold ownIndexOp at h ⊢
  split at h
  · rename_i kd j k sz st len elem hu
    split at h
    · rename_i row sz' hrow hsz
      have hk : k ∈ r.touch := by
        repeat' split at h
        all_goals first
          | cases h; done
          | (simp only [Option.some.injEq] at h; subst h; simp [Res.touch])
      rw [ownRow_agree (hm k hk)] at hrow
      simp only [hrow, hsz]
      exact h
    · cases h
  · cases h
theorem ownSliceOp_local {Γ : Ctx} {hh : Option Hint} {t : TypeId} {p : AV} {lo hi : Option AV} {mem mem' : List (Nat × Vblk)} {r : Res} (h : ownSliceOp Γ hh t p lo hi mem = some r) (hm : ∀ k ∈ r.touch, look k mem = look k mem') : ownSliceOp Γ hh t p lo hi mem' = some r := by
  unfold ownSliceOp at h ⊢
  split at h
  · rename_i k sz st len elem hu
    split at h
    · rename_i row sz' hrow hsz
      have hk : k ∈ r.touch := by
        repeat' split at h
        all_goals first
          | cases h; done
          | (simp only [Option.some.injEq] at h; subst h; simp [Res.touch])
      rw [ownRow_agree (hm k hk)] at hrow
      simp only [hrow, hsz]
      exact h
    · cases h
  · cases h
theorem headOf_local {Γ : Ctx} {sz : Nat} {ty : TypeId} {x : AV} {mem mem' : List (Nat × Vblk)} {y : List Seg × Nat × List (Nat × Vblk)} (h : headOf Γ sz ty x mem = some y) (hm : ∀ k ∈ y.2.2.map (·.1), look k mem = look k mem') : headOf Γ sz ty x mem' = some y := by
  unfold headOf at h ⊢
  split at h
  · exact h
  · rename_i k sz' n
    split at h
    · rename_i b hb
      have hk : k ∈ y.2.2.map (·.1) := by
        split at h
        · split at h
          · simp only [Option.some.injEq] at h; subst h; simp
          · cases h
        · cases h
      rw [live_agree (hm k hk)] at hb
      simp only [hb]
      exact h
    · cases h
  · cases h
theorem srcOf_local {sz : Nat} {x : AV} {mem mem' : List (Nat × Vblk)} {y : List Seg × Nat × List Nat × List Prop} (h : srcOf sz x mem = some y) (hm : ∀ k ∈ y.2.2.1, look k mem = look k mem') : srcOf sz x mem' = some y := by
  unfold srcOf at h ⊢
  split at h
  · exact h
  · rename_i k base st m c
    split at h
    · rename_i b hb
      have hk : k ∈ y.2.2.1 := by
        split at h
        · simp only [Option.some.injEq] at h; subst h; simp
        · cases h
      rw [live_agree (hm k hk)] at hb
      simp only [hb]
      exact h
    · cases h
  · rename_i k sz' st m
    split at h
    · rename_i b hb
      have hk : k ∈ y.2.2.1 := by
        split at h
        · split at h
          · split at h
            · simp only [Option.some.injEq] at h; subst h; simp
            · cases h
          · cases h
        · cases h
      rw [live_agree (hm k hk)] at hb
      simp only [hb]
      exact h
    · cases h
  · cases h
theorem appOp_local {Γ : Ctx} {nm : Nat} {hh : Option Hint} {t t' : TypeId} {S X : AV} {mem mem' : List (Nat × Vblk)} {r : Res} (h : appOp Γ nm hh t t' S X mem = some r) (hm : ∀ k ∈ r.touch, look k mem = look k mem') : appOp Γ nm hh t t' S X mem' = some r := by
  unfold appOp at h ⊢
  split at h
  · split at h
    · split at h
      · split at h
        · unfold appRes at h ⊢
          split at h
          · rename_i old n ms hhead
            have hms : (∀ k ∈ ms.map (·.1), k ∈ r.touch) := by
              intro k hk
              repeat' split at h
              all_goals first
                | cases h; done
                | (simp only [Option.some.injEq] at h; subst h; simp only [Res.touch, List.map_append, List.mem_append]; exact .inr (.inl hk))
            rw [headOf_local hhead (fun k hk => hm k (hms k hk))]
            simp only
            split at h
            · exact h
            · split at h
              · rename_i news m rd vc hsrc
                have hrd : ∀ k ∈ rd, k ∈ r.touch := by
                  intro k hk
                  simp only [Option.some.injEq] at h
                  subst h
                  simp [Res.touch, hk]
                rw [srcOf_local hsrc (fun k hk => hm k (hrd k hk))]
                exact h
              · cases h
            · split at h
              · rename_i news m rd vc hsrc
                have hrd : ∀ k ∈ rd, k ∈ r.touch := by
                  intro k hk
                  split at h
                  · simp only [Option.some.injEq] at h
                    subst h
                    simp [Res.touch, hk]
                  · cases h
                rw [srcOf_local hsrc (fun k hk => hm k (hrd k hk))]
                exact h
              · cases h
          · cases h
        · cases h
      · cases h
    · cases h
  · cases h
theorem appOp_new {Γ : Ctx} {nm : Nat} {hh : Option Hint} {t t' : TypeId} {S X : AV} {mem : List (Nat × Vblk)} {r : Res} (h : appOp Γ nm hh t t' S X mem = some r) : r.isNew = true := by
  unfold appOp appRes at h
  repeat' split at h
  all_goals first
    | cases h; done
    | (simp only [Option.some.injEq] at h; subst h; rfl)
theorem buildSliceOp_new {Γ : Ctx} {nm : Nat} {t : TypeId} {len : Nat} {parts : List (Nat × AV)} {r : Res} (h : buildSliceOp Γ nm t len parts = some r) : r.isNew = true := by
  unfold buildSliceOp at h
  repeat' split at h
  all_goals first
    | cases h; done
    | (simp only [Option.some.injEq] at h; subst h; rfl)
theorem partsOf_agree {tm tm' : List (Nat × AV)} : ∀ (l : List (Nat × Operand)), (∀ x ∈ l, ev tm x.2 = ev tm' x.2) → partsOf tm l = partsOf tm' l
  | [], _ => rfl
  | (i, x) :: r, h => by
    have h1 := h (i, x) (by simp)
    simp only at h1
    simp only [partsOf]
    rw [h1, partsOf_agree r (fun y hy => h y (by simp [hy]))]
theorem evO_agree {tm tm' : List (Nat × AV)} {x : Option Operand} (h : ∀ y, x = some y → ev tm y = ev tm' y) : evO tm x = evO tm' x := by
  cases x with
  | none => rfl
  | some y => simp only [evO, h y rfl]
theorem makeOp_new {Γ : Ctx} {nm : Nat} {h : Option Hint} {t : TypeId} {v : AV} {r : Res} (hr : makeOp Γ nm h t v = some r) : r.isNew = true := by
  unfold makeOp at hr
  repeat' split at hr
  all_goals first
    | cases hr; done
    | (simp only [Option.some.injEq] at hr; subst hr; rfl)
theorem copyOp_local {Γ : Ctx} {h : Option Hint} {t : TypeId} {D S : AV} {mem mem' : List (Nat × Vblk)} {r : Res} (hr : copyOp Γ h t D S mem = some r) (hm : ∀ k ∈ r.touch, look k mem = look k mem') : copyOp Γ h t D S mem' = some r := by
  unfold copyOp at hr ⊢
  split at hr
  · rename_i ys xs' q k base st len cap e hu
    split at hr
    · rename_i row ty hb hs1
      split at hr
      · rename_i r0 kd m xs r2 hcut
        split at hr
        · rename_i sl rd vc hsrc
          simp only [Option.some.injEq] at hr
          subst hr
          have h1 : live k mem' = some ⟨row, ty, .arr⟩ := by rw [← live_agree (hm k (by simp [Res.touch]))]; exact hb
          have h2 : copySrc Γ kd ys S mem' = some (sl, rd, vc) := by
            unfold copySrc at hsrc ⊢
            split at hsrc
            · exact hsrc
            · split at hsrc
              · rename_i news m' rd' vc' hs
                simp only [Option.some.injEq, Prod.mk.injEq] at hsrc
                obtain ⟨rfl, rfl, rfl⟩ := hsrc
                rw [srcOf_local hs (fun j hj => hm j (by simp [Res.touch, hj]))]
              · cases hsrc
          simp only [h1, hs1, hcut, h2]
        · cases hr
      · cases hr
    · cases hr
  · cases hr
theorem exec_sound {Γ : Ctx} {nm : Nat} {h : Option Hint} {o : Oper} {tm : List (Nat × AV)} {mem : List (Nat × Vblk)} {ρ : Env} {s : AS} {a : Act} {w : World} {r : Res} (hr : exec Γ nm h o tm mem = some r) (hvc : ∀ p ∈ r.vc, p) (hR : Rel Γ ρ s a w)
    (hag : ∀ x ∈ o.op.operands, ev tm x = ev s.tm x) (hm : ∀ k ∈ r.touch, look k mem = look k s.mem) (hn : r.isNew = true → look nm s.mem = none) : ResOk Γ nm o ρ s a w r := by
  have gen : genOp Γ h o tm = some r → ResOk Γ nm o ρ s a w r := fun hr => genOp_sound hr hvc hR hag
  have genW : genX Γ nm h o tm mem = some r → ResOk Γ nm o ρ s a w r := by
    intro hr
    unfold genX at hr
    split at hr
    · rename_i rd k b v _
      refine asWOp_sound (rd := rd) (k := k) (b := b) (v := v) (tm := tm) ?_ hvc hR hag
      have ht : (∀ j ∈ rd, j ∈ r.touch) ∧ k ∈ r.touch := by
        unfold asWOp at hr
        repeat' split at hr
        all_goals first
          | cases hr; done
          | (simp only [Option.some.injEq] at hr; subst hr; exact ⟨fun j hj => by simp [Res.touch, hj], by simp [Res.touch]⟩)
      have e3 : pickM mem rd = pickM s.mem rd := pickM_agree _ fun j hj => hm j (ht.1 j hj)
      have e4 : live k mem = live k s.mem := live_agree (hm k ht.2)
      unfold asWOp at hr ⊢
      rw [e3, e4] at hr
      exact hr
    · rename_i rd v b _
      unfold fresh at hr
      split at hr
      · have ht : ∀ j ∈ rd, j ∈ r.touch := by
          unfold asNOp at hr
          repeat' split at hr
          all_goals first
            | cases hr; done
            | (simp only [Option.some.injEq] at hr; subst hr; exact fun j hj => by simp [Res.touch, hj])
        have hnew : r.isNew = true := by
          unfold asNOp at hr
          repeat' split at hr
          all_goals first
            | cases hr; done
            | (simp only [Option.some.injEq] at hr; subst hr; rfl)
        refine asNOp_sound (rd := rd) (b := b) (v := v) (tm := tm) (hn hnew) ?_ hvc hR hag
        have e3 : pickM mem rd = pickM s.mem rd := pickM_agree _ fun j hj => hm j (ht j hj)
        unfold asNOp at hr ⊢
        rw [e3] at hr
        exact hr
      · cases hr
    · rename_i rd v _
      refine asROp_sound (rd := rd) (v := v) (tm := tm) ?_ hvc hR hag
      have ht : ∀ j ∈ rd, j ∈ r.touch := by
        unfold asROp at hr
        repeat' split at hr
        all_goals first
          | cases hr; done
          | (simp only [Option.some.injEq] at hr; subst hr; exact fun j hj => by simp [Res.touch, hj])
      have e3 : pickM mem rd = pickM s.mem rd := pickM_agree _ fun j hj => hm j (ht j hj)
      unfold asROp at hr ⊢
      rw [e3] at hr
      exact hr
    · exact gen hr
  unfold exec at hr
  split at hr
  · rename_i x ho
    split at hr
    · rename_i v hv
      simp only [Option.some.injEq] at hr
      subst hr
      rw [hag x (by simp [ho, Op.operands])] at hv
      obtain ⟨h1, h2⟩ := hR.ev hv
      exact ⟨by unfold execOp; simp [ho, h1], h2⟩
    · cases hr
  · rename_i x ho
    split at hr
    · rename_i v hv
      simp only [Option.some.injEq] at hr
      subst hr
      rw [hag x (by simp [ho, Op.operands])] at hv
      obtain ⟨h1, h2⟩ := hR.ev hv
      exact ⟨by unfold execOp; simp [ho, h1], h2⟩
    · cases hr
  · rename_i c x y ho
    have e1 := hag c (by simp [ho, Op.operands])
    have e2 := hag x (by simp [ho, Op.operands])
    have e3 := hag y (by simp [ho, Op.operands])
    rw [e1, e2, e3] at hr
    split at hr
    · rename_i v hc hv
      simp only [Option.some.injEq] at hr
      subst hr
      obtain ⟨h1, h2⟩ := hR.ev hv
      have hc := (hR.ev hc).1
      simp only [AV.conc] at hc
      exact ⟨by unfold execOp; simp [ho, h1, hc, asBool], h2⟩
    · rename_i v hc hv
      simp only [Option.some.injEq] at hr
      subst hr
      obtain ⟨h1, h2⟩ := hR.ev hv
      have hc := (hR.ev hc).1
      simp only [AV.conc] at hc
      exact ⟨by unfold execOp; simp [ho, h1, hc, asBool], h2⟩
    · cases hr
  · rename_i t ho
    split at hr
    · rename_i z hz
      unfold fresh at hr
      split at hr
      · refine makeOp_sound ?_ (by simp [AV.ok]) (hn (makeOp_new hr)) hr hvc hR
        have hz := prun_run Γ.P _ _ hz w
        unfold execOp
        simp [ho, Instr.alloc, newVar, newRow, newObj, hz, AV.conc]
        rfl
      · cases hr
    · cases hr
  · rename_i t x ho
    split at hr
    · rename_i v hv
      rw [hag x (by simp [ho, Op.operands])] at hv
      obtain ⟨h1, h2⟩ := hR.ev hv
      unfold fresh at hr
      split at hr
      · refine makeOp_sound ?_ h2 (hn (makeOp_new hr)) hr hvc hR
        unfold execOp
        simp [ho, Instr.box, newVar, newRow, newObj, h1]
        rfl
      · cases hr
    · cases hr
  · rename_i t x ho
    split at hr
    · rename_i p hp
      split at hr
      · rw [hag x (by simp [ho, Op.operands])] at hp
        exact loadOp_sound ho hp (loadOp_local hr hm) hvc hR
      · exact gen hr
    · cases hr
  · rename_i t x y ho
    split at hr
    · rename_i p v hd hp hv
      rw [hag x (by simp [ho, Op.operands])] at hp
      rw [hag y (by simp [ho, Op.operands])] at hv
      exact storeOp_sound ho hp hv (storeOp_local hr hm) hvc hR
    · cases hr
  · rename_i x ho
    split at hr
    · rename_i p hp
      split at hr
      · rw [hag x (by simp [ho, Op.operands])] at hp
        obtain ⟨h1, h2⟩ := hR.ev hp
        rename_i hh
        split at hr
        · cases hr
        · cases hr
        · rename_i hlst hown
          simp only [Option.some.injEq] at hr
          subst hr
          refine ⟨?_, h2⟩
          unfold execOp
          cases p with
          | own k sz st len => exact (hown _ _ _ _ rfl).elim
          | lst k b st len cap => exact (hlst _ _ _ _ _ rfl).elim
          | _ => simp_all [AV.here, AV.conc]
      · exact gen hr
    · cases hr
  · rename_i t x f ho
    split at hr
    · rename_i p hp
      split at hr
      · rw [hag x (by simp [ho, Op.operands])] at hp
        exact fieldAddrOp_sound ho hp hr hvc hR
      · exact gen hr
    · cases hr
  · rename_i t x y ho
    split at hr
    · rename_i p i hp hi
      split at hr
      · rw [hag x (by simp [ho, Op.operands])] at hp
        rw [hag y (by simp [ho, Op.operands])] at hi
        split at hr
        · exact ownIndexOp_sound ho hp hi (ownIndexOp_local hr hm) hvc hR
        · exact indexAddrOp_sound ho hp hi hr hvc hR
      · exact gen hr
    · cases hr
  · rename_i t x lo hi ho
    split at hr
    · rename_i p l u hp hl hu
      split at hr
      · rw [hag x (by simp [ho, Op.operands])] at hp
        rw [evO_agree (tm' := s.tm) (fun y e => hag y (by subst e; simp [ho, Op.operands]))] at hl
        rw [evO_agree (tm' := s.tm) (fun y e => hag y (by subst e; simp [ho, Op.operands]))] at hu
        split at hr
        · exact ownSliceOp_sound ho hp hl hu (ownSliceOp_local hr hm) hvc hR
        · exact sliceOp_sound ho hp hl hu hr hvc hR
      · exact gen hr
    · cases hr
  · rename_i t x f ho
    split at hr
    · rename_i cs hp
      rw [hag x (by simp [ho, Op.operands])] at hp
      exact fieldOp_sound ho hp hr hR
    · exact gen hr
  · rename_i t x y ho
    split at hr
    · rename_i cs i hp hi
      rw [hag x (by simp [ho, Op.operands])] at hp
      rw [hag y (by simp [ho, Op.operands])] at hi
      exact indexOp_sound ho hp hi hr hvc hR
    · exact gen hr
  · rename_i x i ho
    split at hr
    · rename_i cs hp
      rw [hag x (by simp [ho, Op.operands])] at hp
      obtain ⟨h1, h2⟩ := hR.ev hp
      split at hr
      · rename_i v hv
        simp only [Option.some.injEq] at hr
        subst hr
        simp only [AV.ok] at h2
        simp only [AV.conc] at h1
        refine ⟨?_, okL_at cs i v hv h2⟩
        unfold execOp
        simp [ho, h1, Instr.extract, concL_at, hv]
      · cases hr
    · exact gen hr
  · rename_i t x ho
    split at hr
    · rename_i v hv
      split at hr
      · exact gen hr
      · rw [hag x (by simp [ho, Op.operands])] at hv
        obtain ⟨h1, h2⟩ := hR.ev hv
        unfold ifcOp at hr
        split at hr
        · cases hr
        · rename_i d hni hd
          simp only [Option.some.injEq] at hr
          subst hr
          refine ⟨?_, by simpa [AV.ok] using h2⟩
          unfold execOp
          simp only [ho, h1, Instr.makeInterface, Sem.run_bind, run_underlying hd, Result.andThen_ok]
          cases d <;> first | (simp [AV.conc]; done) | (exfalso; exact hni _ rfl)
        · cases hr
    · cases hr
  · rename_i t ps ho
    split at hr
    · rename_i parts hp
      rw [partsOf_agree (tm' := s.tm) _ (fun x hx => hag x.2 (by simp only [ho, Op.operands]; simp; exact ⟨x.1, by simpa using hx⟩))] at hp
      exact buildOp_sound ho hp hr hR
    · cases hr
  · rename_i t len ps ho
    split at hr
    · rename_i parts hp
      rw [partsOf_agree (tm' := s.tm) _ (fun x hx => hag x.2 (by simp only [ho, Op.operands]; simp; exact ⟨x.1, by simpa using hx⟩))] at hp
      split at hr
      · exact gen hr
      · unfold fresh at hr
        split at hr
        · exact buildSliceOp_sound ho hp (hn (buildSliceOp_new hr)) hr hR
        · cases hr
    · cases hr
  · rename_i args ats ho
    split at hr
    · rename_i x y t t' ha ht
      have ea : args = #[x, y] := by rw [← Array.toList_inj]; simpa using ha
      have et : ats = #[t, t'] := by rw [← Array.toList_inj]; simpa using ht
      subst ea et
      split at hr
      · rename_i S X hS hX
        rw [hag x (by simp [ho, Op.operands, Call.operands])] at hS
        rw [hag y (by simp [ho, Op.operands, Call.operands])] at hX
        unfold fresh at hr
        split at hr
        · exact appOp_sound ho hR hS hX (hn (appOp_new hr)) (appOp_local hr hm) hvc
        · cases hr
      · cases hr
    · cases hr
  · rename_i args ats ho
    split at hr
    · rename_i x t ha ht
      have ea : args = #[x] := by rw [← Array.toList_inj]; simpa using ha
      have et : ats = #[t] := by rw [← Array.toList_inj]; simpa using ht
      subst ea et
      split at hr
      · rename_i p hp
        split at hr
        · rw [hag x (by simp [ho, Op.operands, Call.operands])] at hp
          exact lenVal_sound ho hp (lenVal_local hr hm) hvc hR
        · exact gen hr
      · cases hr
    · cases hr
  · rename_i t x y ho
    split at hr
    · rename_i l c hl hc
      rw [hag x (by simp [ho, Op.operands])] at hl
      rw [hag y (by simp [ho, Op.operands])] at hc
      unfold fresh at hr
      split at hr
      · exact mkOp_sound ho hl hc (hn (by rw [mkOp_new hr]; rfl)) hr hvc hR
      · cases hr
    · cases hr
  · rename_i args ats ho
    split at hr
    · rename_i x y t t' ha ht
      have ea : args = #[x, y] := by rw [← Array.toList_inj]; simpa using ha
      have et : ats = #[t, t'] := by rw [← Array.toList_inj]; simpa using ht
      subst ea et
      split at hr
      · rename_i D S hD hS
        rw [hag x (by simp [ho, Op.operands, Call.operands])] at hD
        rw [hag y (by simp [ho, Op.operands, Call.operands])] at hS
        exact copyOp_sound ho hR hD hS (copyOp_local hr hm) hvc
      · cases hr
    · cases hr
  · rename_i f args ats ho
    have e1 : ev tm f = ev s.tm f := hag f (by simp [ho, Op.operands, Call.operands])
    have e2 : evL tm args.toList = evL s.tm args.toList := evL_agree _ fun x hx => hag x (by simp only [ho, Op.operands, Call.operands]; simp; exact .inr (by simpa using hx))
    have key : ∀ rd v nb, callOp Γ nm rd v nb f args.toList tm mem = some r → callOp Γ nm rd v nb f args.toList s.tm s.mem = some r := by
      intro rd v nb hc
      have ht : r.touch = rd ∨ ∃ l, r.touch = rd ++ l := by
        unfold callOp at hc
        repeat' split at hc
        all_goals first
          | cases hc; done
          | (simp only [Option.some.injEq] at hc; subst hc; exact .inr ⟨_, rfl⟩)
      have e3 : pickM mem rd = pickM s.mem rd := pickM_agree _ fun k hk => hm k (by rcases ht with h | ⟨l, h⟩ <;> rw [h] <;> simp [hk])
      unfold callOp at hc ⊢
      rw [e1, e2, e3] at hc
      exact hc
    split at hr
    · rename_i rd v nb
      split at hr
      · refine callOp_sound ho (fun ⟨_, _, _, _, e⟩ => hn (by rw [e]; rfl)) (key _ _ _ hr) hvc hR
      · unfold fresh at hr
        split at hr
        · refine callOp_sound ho (fun ⟨_, _, _, _, e⟩ => hn (by rw [e]; rfl)) (key _ _ _ hr) hvc hR
        · cases hr
    · rename_i rd k b v
      refine callWOp_sound (rd := rd) (k := k) (b := b) (v := v) ho ?_ hvc hR
      have ht : (∀ j ∈ rd, j ∈ r.touch) ∧ k ∈ r.touch := by
        unfold callWOp at hr
        repeat' split at hr
        all_goals first
          | cases hr; done
          | (simp only [Option.some.injEq] at hr; subst hr; exact ⟨fun j hj => by simp [Res.touch, hj], by simp [Res.touch]⟩)
      have e3 : pickM mem rd = pickM s.mem rd := pickM_agree _ fun j hj => hm j (ht.1 j hj)
      have e4 : live k mem = live k s.mem := live_agree (hm k ht.2)
      unfold callWOp at hr ⊢
      rw [e1, e2, e3, e4] at hr
      exact hr
    · exact genW hr
  · exact genW hr
end Go.Proofs.YthgnmpjcbicdhaaDoor

