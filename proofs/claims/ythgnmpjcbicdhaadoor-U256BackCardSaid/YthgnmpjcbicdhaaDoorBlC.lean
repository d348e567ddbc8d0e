/- A builder: copyCheck. -/
import Derived.Test.YthgnmpjcbicdhaaDoorSl
import Derived.Lib.Builder
import Derived.Lib.UnsafeStr
set_option linter.unusedSimpArgs false
set_option linter.unusedVariables false
namespace Go.Proofs.YthgnmpjcbicdhaaDoor
open Go Go.RowKit

abbrev cvG (s t : TypeId) (A : Addr) : Sem Next := do pure (.value (← convert s t (.pointer (some A))))
abbrev neG (A : Addr) : Sem Next := callFunc 57 #[.pointer (some A)]
abbrev ptrNe (t : TypeId) (A B : Addr) : Sem Next := do pure (.value (← (do pure (Value.bool (!(← Op.equal t (.pointer (some A)) (.pointer (some B))))))))
/-- A builder's variable: fresh; used. -/
abbrev bf : Vblk := ⟨[.cell (.val (.pointer none)), .cell (.val (.slice none 0 0))], 57, .arr⟩
abbrev bu (s : Value) : Vblk := ⟨[.cell (.ptr 0 0), .cell (.val s)], 57, .arr⟩
theorem info_two : ∃ j, Tryd.prog.info? 57 = some j ∧ j.size = 2 := by
  have h : (Tryd.prog.info? 57).map (·.size) = some 2 := by kernel_rfl
  obtain ⟨j, h1, h2⟩ := Option.map_eq_some_iff.1 h
  exact ⟨j, h1, h2⟩
theorem lies_b : liesAt Tryd.prog Tryd.prog.depth 57 (2 / Tryd.prog.cellsOf 57) 0 57 1 = true := by kernel_rfl
theorem shape_of {w : World} {B : Nat} {x y : Value} (h : w.heap[B]? = some (.cells #[x, y] 57 (0, 0))) : w.shape? B = some (57, 2) := by
  simp [World.shape?, h]
theorem cv1 {w : World} {B : Nat} {x y : Value} (h : w.heap[B]? = some (.cells #[x, y] 57 (0, 0))) : (cvG 55 95 ⟨B, 0, none⟩).run Tryd.prog w = .ok (.value (.pointer (some ⟨B, 0, none⟩))) w := by
  obtain ⟨j, hj, hjs⟩ := info_two
  have := Lib.run_to_unsafe (P := Tryd.prog) (w := w) ⟨B, 0, none⟩ Tryd.underlying55 Tryd.underlying95 hj (by rw [hjs]; decide) (shape_of h) (Nat.zero_lt_succ 1)
  unfold cvG
  simp [this]
theorem cv2 {w : World} {B : Nat} {x y : Value} (h : w.heap[B]? = some (.cells #[x, y] 57 (0, 0))) : (cvG 95 55 ⟨B, 0, none⟩).run Tryd.prog w = .ok (.value (.pointer (some ⟨B, 0, none⟩))) w := by
  obtain ⟨j, hj, hjs⟩ := info_two
  have := Lib.run_from_unsafe (P := Tryd.prog) (w := w) ⟨B, 0, none⟩ Tryd.underlying95 Tryd.underlying55 hj (shape_of h) lies_b
  unfold cvG
  simp [this]
theorem ne_run (w : World) (A : Addr) : (neG A).run Tryd.prog w = .ok (.value (.pointer (some A))) w := by
  unfold neG
  rw [run_callFunc_extern Tryd.func57 (by kernel_rfl) (by kernel_rfl) (by kernel_rfl) (e := Extern.AbiNoEscape.same) (by kernel_rfl)]
  rw [Lib.run_noEscape]
  simp only [Result.andThen]
theorem nptr_run (w : World) (A : Addr) : (ptrNe 55 A A).run Tryd.prog w = .ok (.value (.bool false)) w := by
  obtain ⟨j, hj, hjs⟩ := info_two
  have h := Lib.run_neq_ptr_same (P := Tryd.prog) (w := w) A Tryd.underlying55 hj
  simp only [binOp] at h
  unfold ptrNe
  rw [Sem.run_bind, h]
  rfl
theorem asW_same {Γ : Ctx} {F : Nat → Prop} {w : World} {k : Nat} {b : Vblk} {m : Env → Sem Next} {v : AV} {bs : List (Nat × Vblk)} (h : ∀ ρ w', Sits ρ w' k b → (m ρ).run Tryd.prog w' = .ok (.value (v.conc ρ)) w') :
    ∀ ρ w', Fr F w w' → hasAll Γ ρ w' ((k, b) :: bs) → ∃ w'', (m ρ).run Tryd.prog w' = .ok (.value (v.conc ρ)) w'' ∧ Fr (fun B => B = ρ.b k ∧ b.alive ρ k) w' w'' ∧ Sits ρ w'' k b ∧ (b.alive ρ k → b.alive ρ k) :=
  fun ρ w' _ hh => ⟨w', h ρ w' hh.1.1, Fr.refl _ _, hh.1.1, id⟩
theorem relM_oneK {P : Program} {w : World} {ρ0 : Env} {n : Nat} {b : Vblk} (hs : Sits ρ0 w 0 b) (hb : Seg.ok (kd 0 []) b.row) : RelM (ctxF P w (fun B => B = ρ0.b 0) ρ0 1 n) ρ0 [(0, b)] w := by
  have one : ∀ k c, look k [(0, b)] = some c → k = 0 ∧ c = b := by
    intro k c hc
    simp only [look] at hc
    split at hc
    · rename_i he
      have := Nat.eq_of_beq_eq_true he
      simp only [Option.some.injEq] at hc
      exact ⟨this.symm, hc.symm⟩
    · cases hc
  have hdom : ∀ j, kd 0 [] j → AS.dom [(0, b)] j := by
    intro j hj
    rcases hj with rfl | hj
    · rfl
    · simp at hj
  refine ⟨fun k c hc => ?_, fun j k c d hj hk _ _ _ => ?_, fun k c hc _ => ?_, fun k hk => ?_, Fr.refl _ _⟩
  · obtain ⟨rfl, rfl⟩ := one k c hc
    exact ⟨hs, Seg.ok_mono hdom _ hb⟩
  · rw [(one j c hj).1, (one k d hk).1]
  · obtain ⟨rfl, rfl⟩ := one k c hc
    exact .inl rfl
  · have : k = 0 := by simp [ctxF] at hk; omega
    subst this
    exact ⟨rfl, rfl, rfl⟩
def AtB (B : Nat) : Env := ⟨fun _ => B, fun _ => 0⟩
theorem ckF_c (w : World) (B : Nat) (h : w.heap[B]? = some (.cells (Seg.cells (AtB B) (bf).row).toArray 57 (0, 0))) :
    Calls Tryd.prog 41 #[.pointer (some ⟨B, 0, none⟩)] w fun e w' => e = .returned (.tuple #[]) ∧ Fr (fun k => k = B) w w' ∧ w'.heap[B]? = some (.cells #[.pointer (some ⟨B, 0, none⟩), .slice none 0 0] 57 (0, 0)) := by
  refine calls_vmF (F := (fun k => k = B)) (ρ0 := AtB B) (n0 := 1) [(0, bf)] [.ptr 0 0] (fn := Tryd.f41) Tryd.func41 (by kernel_rfl) (by kernel_rfl) (by kernel_rfl) (relM_oneK (b := bf) (show Sits (AtB B) w 0 (bf) from h) ⟨⟨rfl, trivial⟩, ⟨rfl, trivial⟩, trivial⟩) ⟨rfl, trivial⟩ ?_
  refine wpK_endF (n := 400) (m := 0) (nx := 0) (hs := [(9, .asW [] 0 bf (.ptr 0 0)), (10, .asW [] 0 bf (.ptr 0 0)), (11, .asW [] 0 bf (.ptr 0 0))]) (v := .tup []) (bs := [(0, bu (.slice none 0 0))]) follows [0] (And.intro (asW_same (Γ := ctxF Tryd.prog w (fun k => k = B) (AtB B) 1 Tryd.f41.ntmps) (F := (fun k => k = B)) (w := w) (k := 0) (b := bf) (v := .ptr 0 0) (bs := []) (m := fun ρ => cvG 55 95 ⟨ρ.b 0, 0, none⟩) (fun ρ w' hs => cv1 hs)) (And.intro (show Seg.ok (kd 0 []) bf.row from ⟨⟨rfl, trivial⟩, ⟨rfl, trivial⟩, trivial⟩) (And.intro (show ∀ D : Nat → Prop, D 0 → (∀ k, k ∈ ([] : List Nat) → D k) → AV.ok D (.ptr 0 0) from fun D h _ => h) (And.intro (asW_same (Γ := ctxF Tryd.prog w (fun k => k = B) (AtB B) 1 Tryd.f41.ntmps) (F := (fun k => k = B)) (w := w) (k := 0) (b := bf) (v := .ptr 0 0) (bs := []) (m := fun ρ => neG ⟨ρ.b 0, 0, none⟩) (fun ρ w' hs => ne_run w' _)) (And.intro (show Seg.ok (kd 0 []) bf.row from ⟨⟨rfl, trivial⟩, ⟨rfl, trivial⟩, trivial⟩) (And.intro (show ∀ D : Nat → Prop, D 0 → (∀ k, k ∈ ([] : List Nat) → D k) → AV.ok D (.ptr 0 0) from fun D h _ => h) (And.intro (asW_same (Γ := ctxF Tryd.prog w (fun k => k = B) (AtB B) 1 Tryd.f41.ntmps) (F := (fun k => k = B)) (w := w) (k := 0) (b := bf) (v := .ptr 0 0) (bs := []) (m := fun ρ => cvG 95 55 ⟨ρ.b 0, 0, none⟩) (fun ρ w' hs => cv2 hs)) (And.intro (show Seg.ok (kd 0 []) bf.row from ⟨⟨rfl, trivial⟩, ⟨rfl, trivial⟩, trivial⟩) (show ∀ D : Nat → Prop, D 0 → (∀ k, k ∈ ([] : List Nat) → D k) → AV.ok D (.ptr 0 0) from fun D h _ => h))))))))) (by kernel_rfl) ?_
  intro ρ w' hf hx hh
  refine ⟨rfl, hf, ?_⟩
  have e : ρ.b 0 = B := (hx 0 Nat.zero_lt_one).1
  have := hh.1.1
  unfold Sits at this
  simp only [Seg.cells, Seg.cell1, AV.conc, e] at this
  exact this
theorem ckU_c (w : World) (B : Nat) (A : Option Addr) (n c : Nat) (h : w.heap[B]? = some (.cells (Seg.cells (AtB B) (bu (.slice A n c)).row).toArray 57 (0, 0))) :
    Calls Tryd.prog 41 #[.pointer (some ⟨B, 0, none⟩)] w fun e w' => e = .returned (.tuple #[]) ∧ Fr (fun k => k = B) w w' ∧ w'.heap[B]? = some (.cells #[.pointer (some ⟨B, 0, none⟩), .slice A n c] 57 (0, 0)) := by
  refine calls_vmF (F := (fun k => k = B)) (ρ0 := AtB B) (n0 := 1) [(0, bu (.slice A n c))] [.ptr 0 0] (fn := Tryd.f41) Tryd.func41 (by kernel_rfl) (by kernel_rfl) (by kernel_rfl) (relM_oneK (b := bu (.slice A n c)) (show Sits (AtB B) w 0 (bu (.slice A n c)) from h) ⟨⟨rfl, .inl rfl⟩, ⟨rfl, trivial⟩, trivial⟩) ⟨rfl, trivial⟩ ?_
  refine wpK_endF (n := 400) (m := 0) (nx := 0) (hs := [(6, .as (.val (.bool false))), (19, .as (.val (.bool false)))]) (v := .tup []) (bs := [(0, bu (.slice A n c))]) follows [0] (And.intro (ptr_eqNil (F := (fun k => k = B)) (w := w) Tryd.underlying55 0 0) (show ∀ (ρ : Env) (w' : World), Fr (fun k => k = B) w w' → (ptrNe 55 ⟨ρ.b 0, 0, none⟩ ⟨ρ.b 0, 0, none⟩).run Tryd.prog w' = .ok (.value (.bool false)) w' from fun ρ w' _ => nptr_run w' _)) (by kernel_rfl) ?_
  intro ρ w' hf hx hh
  refine ⟨rfl, hf, ?_⟩
  have e : ρ.b 0 = B := (hx 0 Nat.zero_lt_one).1
  have := hh.1.1
  unfold Sits at this
  simp only [Seg.cells, Seg.cell1, AV.conc, e] at this
  exact this
end Go.Proofs.YthgnmpjcbicdhaaDoor

