/- The document's Text: the decimal digits. -/
import Derived.Test.YthgnmpjcbicdhaaDoorTxe
import Derived.Test.YthgnmpjcbicdhaaDoorLong
set_option linter.unusedSimpArgs false
set_option linter.unusedVariables false
namespace Go.Proofs.YthgnmpjcbicdhaaDoor
open Go Go.RowKit

theorem rdm_c (x : Nat) (hx : x < T256) (w : World) : Calls Tryd.prog 27 #[U x, U 10] w fun e w' => e = .returned (.tuple #[U (x / 10), U (x % 10), .int .i64 0]) ∧ Below w.heap.size w w' := by
  have hl : ∀ w' : World, Calls Tryd.prog 42 #[U 0, U x, U 10] w' fun e w'' => e = .returned (.tuple #[U 0, U (x / 10), U (x % 10)]) ∧ Below w'.heap.size w' w'' := by
    intro w'
    have h := long_c 0 x 10 T256_pos hx (Nat.lt_of_lt_of_le (by decide : 10 < 1024) (by decide)) (by decide) w'
    rw [Nat.zero_mul, Nat.zero_add, Nat.div_eq_of_lt (Nat.lt_of_le_of_lt (Nat.div_le_self _ _) hx), Nat.mod_eq_of_lt (Nat.lt_of_le_of_lt (Nat.div_le_self _ _) hx)] at h
    exact h
  have h10 : ∀ w : World, (Op.equal 24 (U 10) (.agg #[.int .u64 0, .int .u64 0, .int .u64 0, .int .u64 0])).run Tryd.prog w = .ok false w := fun w => eqU_ne 10 (Nat.lt_of_lt_of_le (by decide : 10 < 1024) (by decide)) (by decide) w
  refine calls_vm [.val (U x), .val (U 10)] (fn := Tryd.f27) Tryd.func27 (by kernel_rfl) (by kernel_rfl) (by kernel_rfl) (by simp [AV.okL, AV.ok]) ?_
  refine wpK_end (n := 400) (m := 0) (nx := 100) (hs := [(14, .cmp false), (21, .call (.tup [.val (U 0), .val (U (x / 10)), .val (U (x % 10))]))]) (v := .tup [.agg [.cell (.val (.int .u64 (L (x / 10) 0))), .cell (.val (.int .u64 (L (x / 10) 1))), .cell (.val (.int .u64 (L (x / 10) 2))), .cell (.val (.int .u64 (L (x / 10) 3)))], .agg [.cell (.val (.int .u64 (L (x % 10) 0))), .cell (.val (.int .u64 (L (x % 10) 1))), .cell (.val (.int .u64 (L (x % 10) 2))), .cell (.val (.int .u64 (L (x % 10) 3)))], .val (.int .i64 0)]) follows (And.intro (fun w => h10 w) (And.intro (vcall w (fun w => hl w)) (show AV.ok No (.tup [.val (U 0), .val (U (x / 10)), .val (U (x % 10))]) from ⟨trivial, trivial, trivial, trivial⟩))) (by kernel_rfl) ?_
  intro ρ w' hf; exact ⟨rfl, hf.to_below⟩
abbrev cb (v : Nat) : Vblk := ⟨[.cell (.val (.int .u64 (L v 0))), .cell (.val (.int .u64 (L v 1))), .cell (.val (.int .u64 (L v 2))), .cell (.val (.int .u64 (L v 3)))], 24, .arr⟩
abbrev cvL (t u : TypeId) (A : Addr) : Sem Next := do pure (.value (← convert t u (.slice (some A) 1 1)))
theorem cvL_run (w : World) (B : Nat) (c : UInt8) (v : Int) (hv : v = (c.toNat : Int)) (h : w.heap[B]? = some (.cells #[.int .u8 v] 5 (0, 0))) : (cvL 33 9 ⟨B, 0, none⟩).run Tryd.prog w = .ok (.value (.string ⟨#[c]⟩)) w := by
  have hs := run_convert_bytes_back (P := Tryd.prog) w 33 9 5 ⟨B, 0, none⟩ 1 [c] Tryd.underlying33 Tryd.underlying5 Tryd.underlying9 (fun j hj => by
    have : j = 0 := by simpa using hj
    subst this
    subst hv
    simp [World.cell?, h, add_at])
  unfold cvL
  rw [Sem.run_bind]
  erw [hs]
  rfl
def rT (x : Nat) (s : List UInt8) (i : Nat) : AS := ⟨[(1, .ptr 1 0), (3, .val (.string ⟨s.toArray⟩)), (4, .ptr 4 0), (5, .val (.int .i64 (i : Int)))], [(1, cb x), (4, cb 10)]⟩
set_option maxHeartbeats 4000000 in
theorem rt_round (w : World) (x0 : Nat) :
    ∀ (q i x : Nat) (s : List UInt8), i + q = 78 → x < 10 ^ q → x < T256 → (i = 0 ∨ x ≠ 0) → s.length = i → Lib.decDigits x ++ s = Lib.decDigits x0 ∨ (i = 0 ∧ x = x0) → wpK (ctx Tryd.prog w Tryd.f9.ntmps) Tryd.f9 (tR w (Lib.decDigits x0)) (loopAt Tryd.f9 0) (rT x s i) := by
  intro q
  induction q with
  | zero =>
    intro i x s hi hx hx2 h0 hl hd
    have : x = 0 := by simpa using hx
    omega
  | succ q ih =>
    intro i x s hi hx hx2 h0 hl hd
    have hd' : Lib.decDigits x ++ s = Lib.decDigits x0 := by
      rcases hd with h | ⟨h1, h2⟩
      · exact h
      · subst h2
        have : s = [] := List.eq_nil_of_length_eq_zero (by omega)
        rw [this, List.append_nil]
    clear hd
    have hlt : decide ((i : Int) < 78) = true := by simp; omega
    have hL0 : L (x % 10) 0 = ((x % 10 : Nat) : Int) := by
      have h1 : x % 10 < 10 := Nat.mod_lt _ (by decide)
      unfold L
      rw [Nat.mul_zero, Nat.pow_zero, Nat.div_one, Nat.mod_eq_of_lt (Nat.lt_trans h1 (by decide))]
    have h23 : IntKind.u64.wrap (48 + L (x % 10) 0) = ((48 + x % 10 : Nat) : Int) := by
      rw [hL0, dv_mod]
      have h1 : x % 10 < 10 := Nat.mod_lt _ (by decide)
      omega
    obtain ⟨c, hc⟩ : ∃ c : UInt8, c = UInt8.ofNat (48 + x % 10) := ⟨_, rfl⟩
    have hcn : ((48 + x % 10 : Nat) : Int) = (c.toNat : Int) := by
      have h1 : x % 10 < 10 := Nat.mod_lt _ (by decide)
      rw [hc, UInt8.toNat_ofNat']
      omega
    have h24 : IntKind.u8.wrap ((48 + x % 10 : Nat) : Int) = ((48 + x % 10 : Nat) : Int) := by
      have h1 : x % 10 < 10 := Nat.mod_lt _ (by decide)
      rw [IntKind.wrap_u8]
      omega
    have hcv : ∀ (ρ : Env) (w' : World), Fr No w w' → hasAll (ctx Tryd.prog w Tryd.f9.ntmps) ρ w' [(218, ⟨[.cell (.val (.int .u8 ((48 + x % 10 : Nat) : Int)))], 5, .arr⟩)] → (cvL 33 9 ⟨ρ.b 218, 0, none⟩).run Tryd.prog w' = .ok (.value (.string ⟨#[c]⟩)) w' := by
      intro ρ w' _ hh
      exact cvL_run w' _ c _ hcn hh.1.1
    have hcat : ∀ (ρ : Env) (w' : World), Fr No w w' → (catG ⟨#[c]⟩ ⟨s.toArray⟩).run Tryd.prog w' = .ok (.value (.string ⟨(c :: s).toArray⟩)) w' := by
      intro ρ w' _
      have e := ba_app [c] s
      rw [cat_run w' _ _ (by show 1 + s.toArray.size ≤ _; simp; omega)]
      exact congrArg (fun z => Result.ok (Next.value (.string z)) w') e
    have hw : IntKind.i64.wrap ((i : Int) + 1) = ((i + 1 : Nat) : Int) := by rw [IntKind.wrap_i64]; omega
    have hx10 : x / 10 < T256 := Nat.lt_of_le_of_lt (Nat.div_le_self _ _) hx2
    have hdm := rdm_c x hx2
    by_cases hz : x / 10 = 0
    · have hfin : c :: s = Lib.decDigits x0 := by
        rw [← hd', Lib.decDigits_one (by omega), hc, show x % 10 = x by omega]
        rfl
      rw [hz] at hdm
      rw [← hfin]
      refine wpK_end (n := 400) (m := 0) (nx := 200) (hs := [(11, .eq (.val (.bool true))), (17, .call (.tup [.val (U (0)), .val (U (x % 10)), .val (.int .i64 0)])), (23, .eq (.val (.int .u64 ((48 + x % 10 : Nat) : Int)))), (24, .eq (.val (.int .u8 ((48 + x % 10 : Nat) : Int)))), (26, .asR [218] (.val (.string ⟨#[c]⟩))), (28, .as (.val (.string ⟨(c :: s).toArray⟩))), (32, .cmp true)]) (v := .val (.string ⟨(c :: s).toArray⟩)) follows (And.intro (congrArg Value.bool hlt) (And.intro (vcall w (fun w => hdm w)) (And.intro (show AV.ok No (.tup [.val (U (0)), .val (U (x % 10)), .val (.int .i64 0)]) from ⟨trivial, trivial, trivial, trivial⟩) (And.intro (congrArg (Value.int .u64) h23) (And.intro (congrArg (Value.int .u8) h24) (And.intro hcv (And.intro (show ∀ D : Nat → Prop, (∀ k, k ∈ [218] → D k) → AV.ok D (.val (.string ⟨#[c]⟩)) from fun _ _ => trivial) (And.intro hcat (fun w => eqU_zz w))))))))) (by kernel_rfl) ?_
      intro ρ w' hf; exact ⟨rfl, hf.to_below⟩
    · obtain ⟨y, hy⟩ : ∃ y, y = x / 10 := ⟨_, rfl⟩
      rw [← hy] at hdm hx10 hz
      refine wpK_loop (n := 400) (m := 0) (nx := 200) (hs := [(11, .eq (.val (.bool true))), (17, .call (.tup [.val (U (y)), .val (U (x % 10)), .val (.int .i64 0)])), (23, .eq (.val (.int .u64 ((48 + x % 10 : Nat) : Int)))), (24, .eq (.val (.int .u8 ((48 + x % 10 : Nat) : Int)))), (26, .asR [218] (.val (.string ⟨#[c]⟩))), (28, .as (.val (.string ⟨(c :: s).toArray⟩))), (32, .cmp false), (13, .eq (.val (.int .i64 ((i + 1 : Nat) : Int))))]) (st' := loopAt Tryd.f9 0) (s' := rT y (c :: s) (i + 1)) follows [] [1, 3, 4, 5] [(1, 1), (4, 4)] (And.intro (congrArg Value.bool hlt) (And.intro (vcall w (fun w => hdm w)) (And.intro (show AV.ok No (.tup [.val (U (y)), .val (U (x % 10)), .val (.int .i64 0)]) from ⟨trivial, trivial, trivial, trivial⟩) (And.intro (congrArg (Value.int .u64) h23) (And.intro (congrArg (Value.int .u8) h24) (And.intro hcv (And.intro (show ∀ D : Nat → Prop, (∀ k, k ∈ [218] → D k) → AV.ok D (.val (.string ⟨#[c]⟩)) from fun _ _ => trivial) (And.intro hcat (And.intro (fun w => eqU_ne y hx10 hz w) (congrArg (Value.int .i64) hw)))))))))) (by kernel_rfl) ?_
      refine ih (i + 1) y (c :: s) (by omega) (by rw [Nat.pow_succ] at hx; omega) hx10 (.inr hz) (by simp [hl]) (.inl ?_)
      rw [← hd', dd_big x (by omega), ← hy, hc, List.append_assoc]
      rfl
theorem rtext_c (x : Nat) (hx : x < T256) (w : World) : Calls Tryd.prog 9 #[U x] w (tR w (Lib.decDigits x)) := by
  have hf : ∀ w' : World, Calls Tryd.prog 20 #[.int .u64 10] w' fun e w'' => e = .returned (U 10) ∧ Below w'.heap.size w' w'' := fun w' => rfrom_c 10 (by decide) w'
  refine calls_vm [.val (U x)] (fn := Tryd.f9) Tryd.func9 (by kernel_rfl) (by kernel_rfl) (by kernel_rfl) (by simp [AV.okL, AV.ok]) ?_
  refine wpK_loop (n := 400) (m := 0) (nx := 100) (hs := [(9, .call (.val (U 10)))]) (st' := loopAt Tryd.f9 0) (s' := rT x [] 0) follows [] [1, 3, 4, 5] [(1, 100), (4, 104)] (vcall w (fun w => hf w)) (by kernel_rfl) ?_
  exact rt_round w x 78 0 x [] rfl (Nat.lt_of_lt_of_le hx (by decide)) hx (.inl rfl) rfl (.inr ⟨rfl, rfl⟩)
end Go.Proofs.YthgnmpjcbicdhaaDoor

