/- What the arguments' readings say: bytes, numbers, rows of bytes. -/
import Derived.Test.YthgnmpjcbicdhaaDoorLdG
import Derived.Test.YthgnmpjcbicdhaaDoorNum
import Derived.Test.YthgnmpjcbicdhaaDoorGv
set_option linter.unusedVariables false
set_option linter.unusedSimpArgs false
set_option maxRecDepth 100000
namespace Go.Proofs.YthgnmpjcbicdhaaDoor
open Go Go.ChangeShapes Go.WideShapes Go.ChangeAt Go.RowKit
/-- Bytes. -/
def Bytes (l : List Int) : Prop := ∀ i, i < l.length → 0 ≤ l.getD i 0 ∧ l.getD i 0 ≤ 255
theorem wf_u8K {x : Int} (h : (Lit.int .u8 x).wf = true) : 0 ≤ x ∧ x ≤ 255 := by
  simp [Lit.wf, show IntKind.u8.min = 0 from rfl, show IntKind.u8.max = 255 from rfl] at h
  omega
theorem wf64K {x : Int} (h : (Lit.int .u64 x).wf = true) : 0 ≤ x ∧ x ≤ 18446744073709551615 := by
  simp [Lit.wf, show IntKind.u64.min = 0 from rfl, show IntKind.u64.max = 18446744073709551615 from rfl] at h
  omega
/-- Bytes that came in. -/
theorem open_bytesK {H : Type} {enc : TypeId × Value → H} {W : World} {v : Value} {d : DataW H} {p : List MemPlace} {b0 : Nat} {r : Reach}
    (hv : Value.okWide Tryd.prog W r b0 33 v) (h : DataW.Trod enc Tryd.prog W 0 (fun _ => true) true 33 v d p) :
    ∃ (A : Option Addr) (c : Nat) (l : List Int), v = .slice A l.length c ∧ Sl .u8 W A l.length l ∧ l.length ≤ c ∧ Bytes l ∧ l.length ≤ Rows.uptoBulk d := by
  obtain ⟨a0, len0, cap0, rfl⟩ := okWide_slice Tryd.underlying33 hv
  obtain ⟨fuel, hf⟩ := h
  rcases open_ints Tryd.underlying33 Tryd.underlying5 (by kernel_rfl) hf with ⟨hcs, hd⟩ | ⟨x, l, c, zs, hcs, _, hl, hm, hz, hd, hcell, hwz⟩
  · simp [Value.cells] at hcs
    obtain ⟨rfl, rfl, rfl⟩ := hcs
    exact ⟨none, 0, [], rfl, ⟨rfl, fun i hi => absurd hi (by simp)⟩, Nat.le_refl _, fun i hi => absurd hi (by simp), by simp⟩
  · simp [Value.cells] at hcs
    obtain ⟨rfl, rfl, rfl⟩ := hcs
    have hz' : zs.length = cap0 := by simpa using hz
    have hd2 : d = .slice (lits .u8 (zs.take len0)) (lits .u8 (zs.drop len0)) := by
      simp only [Prod.mk.injEq] at hd; exact hd.1
    have hlen : (zs.take len0).length = len0 := by rw [List.length_take]; omega
    have hat : ∀ i, i < len0 → (zs.take len0).getD i 0 = zs.getD i 0 := by
      intro i hi
      rw [List.getD_eq_getElem?_getD, List.getElem?_take_of_lt hi, ← List.getD_eq_getElem?_getD]
    refine ⟨some x, cap0, zs.take len0, by rw [hlen], ⟨rfl, fun i hi => ⟨x, rfl, ?_⟩⟩, by rw [hlen]; exact hl, fun i hi => ?_, ?_⟩
    · rw [hat i (by omega)]; exact hcell i (by omega)
    · rw [hat i (by omega), List.getD_eq_getElem?_getD, List.getElem?_eq_getElem (by omega)]
      exact wf_u8K (hwz _ (List.getElem_mem _))
    · rw [hd2]
      have h1 := bulk_length (lits (H := H) .u8 (zs.take len0))
      simp only [Rows.uptoBulk]
      have h2 : (lits (H := H) .u8 (zs.take len0)).length = len0 := by simp [lits]; omega
      omega
theorem cell_int {W : World} {r : Reach} {b0 : Nat} {k : IntKind} {t : TypeId} {v : Value} (ht : Tryd.prog.underlying t = some (.int k)) (h : Cell.okWide Tryd.prog W r b0 t v) : ∃ x, v = .int k x ∧ k.has x := by
  unfold Cell.okWide at h
  rw [ht] at h
  cases v <;> simp [Cell.ok, ht] at h
  obtain ⟨rfl, h⟩ := h
  exact ⟨_, rfl, h⟩
/-- A row of integers that came in. -/
theorem open_rowK {W : World} {v : Value} {b0 : Nat} {r : Reach} {n : Nat} {k : IntKind} {t e : TypeId} (hu : Tryd.prog.underlying t = some (.array n e)) (he : Tryd.prog.underlying e = some (.int k)) (hc : Tryd.prog.cellsOf t = n)
    (hts : Tryd.prog.cellTypes Tryd.prog.depth t = some (List.replicate n e)) (hv : Value.okWide Tryd.prog W r b0 t v) : ∃ l : List Int, l.length = n ∧ (∀ x ∈ l, k.has x) ∧ v = .agg (l.map (Value.int k) ++ []).toArray := by
  unfold Value.okWide at hv
  rw [hu] at hv
  obtain ⟨cs, rfl, hsz, ts, h1, _, h2⟩ := hv
  rw [hts] at h1
  simp only [Option.some.injEq] at h1
  subst h1
  rw [hc] at hsz
  have key : ∀ i (hi : i < cs.size), ∃ x, cs[i] = .int k x ∧ k.has x := by
    intro i hi
    obtain ⟨u, hu2, hk⟩ := h2 i cs[i] (Array.getElem?_eq_getElem hi)
    have : u = e := by
      have := List.mem_of_getElem? hu2
      exact (List.mem_replicate.1 this).2
    subst this
    exact cell_int he hk
  obtain ⟨f, hf⟩ : ∃ f : Value → Int, ∀ k x, f (.int k x) = x := ⟨fun v => match v with | .int _ x => x | _ => 0, fun _ _ => rfl⟩
  refine ⟨cs.toList.map f, by simp [hsz], ?_, ?_⟩
  · intro x hx
    obtain ⟨v, hv, rfl⟩ := List.mem_map.1 hx
    obtain ⟨i, hi, rfl⟩ := List.mem_iff_getElem.1 hv
    obtain ⟨x, e1, e2⟩ := key i (by simpa using hi)
    have : cs.toList[i] = .int k x := by simpa using e1
    rw [this, hf]
    exact e2
  · congr 1
    rw [List.append_nil, List.map_map]
    apply Array.ext'
    simp only
    conv => lhs; rw [← List.map_id cs.toList]
    refine List.map_congr_left fun v hv => ?_
    obtain ⟨i, hi, rfl⟩ := List.mem_iff_getElem.1 hv
    obtain ⟨x, e1, e2⟩ := key i (by simpa using hi)
    have : cs.toList[i] = .int k x := by simpa using e1
    rw [this]
    simp [hf]
theorem bytes_has {l : List Int} (h : ∀ x ∈ l, IntKind.u8.has x) : Bytes l := by
  intro i hi
  rw [List.getD_eq_getElem?_getD, List.getElem?_eq_getElem hi]
  have := h _ (List.getElem_mem hi)
  simp only [IntKind.has, show IntKind.u8.min = 0 from rfl, show IntKind.u8.max = 255 from rfl] at this
  simpa using this
theorem open_UK {W : World} {v : Value} {b0 : Nat} {r : Reach} (hv : Value.okWide Tryd.prog W r b0 24 v) : ∃ n, n < T256 ∧ v = U n := by
  obtain ⟨l, h1, h2, h3⟩ := open_rowK Tryd.underlying24 Tryd.underlying22 (by kernel_rfl) (by kernel_rfl) hv
  have h4 : ∀ x ∈ l, 0 ≤ x ∧ x < 18446744073709551616 := by
    intro x hx
    have := h2 x hx
    simp only [IntKind.has, show IntKind.u64.min = 0 from rfl, show IntKind.u64.max = 18446744073709551615 from rfl] at this
    omega
  match l, h1 with
  | [x0, x1, x2, x3], _ =>
    have a0 := h4 x0 (by simp); have a1 := h4 x1 (by simp); have a2 := h4 x2 (by simp); have a3 := h4 x3 (by simp)
    obtain ⟨n, hn, e⟩ := U_any x0 x1 x2 x3 a0.1 a0.2 a1.1 a1.2 a2.1 a2.2 a3.1 a3.2
    exact ⟨n, hn, h3.trans e⟩
end Go.Proofs.YthgnmpjcbicdhaaDoor

