/- Equality of arrays of integers. -/
import Derived.WalkKit
import Derived.Laws.StructEq
namespace Go.Proofs.YthgnmpjcbicdhaaDoor
open Go
section
variable {P : Program}
theorem run_part_int {e : TypeId} {k : IntKind} (he : P.underlying e = some (.int k)) (xs : Array Value) (j : Nat) (v : Value) (hv : xs[j]? = some v) (w : World) :
   (part e xs j).run P w = .ok v w := by
  unfold part isAgg
  simp [Sem.run_bind, run_underlying he, hv]

def ints (k : IntKind) (xs : List Int) : Array Value := (xs.map (Value.int k)).toArray
theorem ints_at (k : IntKind) (xs : List Int) (j : Nat) : (ints k xs)[j]? = (xs[j]?).map (Value.int k) := by simp [ints]

theorem run_equalIn_arr (d : Nat) (t e : TypeId) (n : Nat) (k k' : IntKind) (i : TypeInfo) (ht : P.underlying t = some (.array n e)) (he : P.underlying e = some (.int k')) (hi : P.info? e = some i) (hs : i.size = 1)
    (xs ys : List Int) (hx : xs.length = n) (hy : ys.length = n) (w : World) :
    (Op.equalIn (d + 2) t (.agg (ints k xs)) (.agg (ints k ys))).run P w = .ok (decide (xs = ys)) w := by
  have key : ∀ m j, j + m = n → (Sem.run P (do
      let r ← forIn (List.range' j m) (none, ()) fun i (_ : Option Bool × Unit) => do
            if (!(← Op.equalIn (d + 1) e (← part e (ints k xs) (i * 1)) (← part e (ints k ys) (i * 1)))) = true then return ForInStep.done (some false, ())
            else return ForInStep.yield (none, ())
      match r.1 with | none => pure true | some a => pure a) w) = .ok (decide (xs.drop j = ys.drop j)) w := by
    intro m
    induction m with
    | zero =>
      intro j hj
      rw [List.drop_of_length_le (by omega), List.drop_of_length_le (by omega)]
      simp
    | succ m ih =>
      intro j hj
      have hjx : j < xs.length := by omega
      have hjy : j < ys.length := by omega
      have ih' := ih (j + 1) (by omega)
      rw [List.range'_succ, List.forIn_cons, List.drop_eq_getElem_cons hjx, List.drop_eq_getElem_cons hjy]
      have p1 := run_part_int (P := P) he (ints k xs) (j * 1) (.int k xs[j]) (by rw [ints_at]; simp [hjx])
      have p2 := run_part_int (P := P) he (ints k ys) (j * 1) (.int k ys[j]) (by rw [ints_at]; simp [hjy])
      simp only [Sem.run_bind, p1, p2, Result.andThen_ok, run_equalIn_int w d e k k' _ _ he, Sem.run_ite]
      by_cases h : xs[j] = ys[j]
      · simp only [h, beq_self_eq_true, Bool.not_true, Bool.false_eq_true, if_false, Sem.run_pure, Result.andThen_ok]
        simp only [Sem.run_bind] at ih'
        rw [ih']
        generalize List.drop (j + 1) xs = A
        generalize List.drop (j + 1) ys = B
        simp
      · have hb : (xs[j] == ys[j]) = false := by simpa using h
        generalize List.drop (j + 1) xs = A
        generalize List.drop (j + 1) ys = B
        simp only [hb, Bool.not_false, if_true, Sem.run_pure, Result.andThen_ok]
        simp [h]
  have k0 := key n 0 (by omega)
  simp only [List.drop_zero] at k0
  rw [← k0, Op.equalIn]
  simp only [Sem.run_bind, run_underlying ht, Result.andThen_ok]
  have hsz : ∀ w, (sizeOf e).run P w = .ok 1 w := by
    intro w; unfold sizeOf typeInfo
    simp only [Sem.run_bind, Result.andThen_ok, run_program, hi, hs, Sem.run_pure]
  simp only [hsz, Result.andThen_ok]
  rw [Std.Legacy.Range.forIn_eq_forIn_range']
  simp only [Std.Legacy.Range.size]
  simp only [Nat.sub_zero, Nat.add_sub_cancel, Nat.div_one]
  congr 1
  funext a w'
  cases a.fst <;> rfl
end
theorem ints_get (k : IntKind) (zs : List Int) (i : Nat) (h : i < zs.length) : (ints k zs)[i]? = some (.int k (zs.getD i 0)) := by
  rw [ints_at]; simp [List.getD_eq_getElem?_getD, h]
theorem ints_set (k : IntKind) (zs : List Int) (i : Nat) (v : Int) : (ints k zs).setIfInBounds i (.int k v) = ints k (zs.set i v) := by
  unfold ints; simp [List.map_set]
end Go.Proofs.YthgnmpjcbicdhaaDoor

