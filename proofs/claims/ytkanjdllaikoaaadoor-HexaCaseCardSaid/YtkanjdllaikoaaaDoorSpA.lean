/- The sponge takes a block in. -/
import Derived.Test.YtkanjdllaikoaaaDoorKPerm
import Derived.Test.YtkanjdllaikoaaaDoorKSay
set_option linter.unusedSimpArgs false
set_option linter.unusedVariables false
namespace Go.Proofs.YtkanjdllaikoaaaDoor
open Go Go.RowKit

/-- A sponge's variable. -/
abbrev spRow (kind : Int) (a : Nat → B64) (part : List Int) (held long : Int) : List Seg := [.cell (.val (.int .i64 kind)), .ints .u64 25 (lanesI a), .ints .u8 136 part, .cell (.val (.int .i64 held)), .cell (.val (.int .i64 long))]
abbrev spB (kind : Int) (a : Nat → B64) (part : List Int) (held long : Int) : Vblk := ⟨spRow kind a part held long, 108, .arr⟩
def At (B : Nat) : Env := ⟨fun _ => B, fun _ => 0⟩
theorem spOk (kind : Int) (a : Nat → B64) (part : List Int) (held long : Int) (h : part.length = 136) : Seg.ok No (spRow kind a part held long) := ⟨⟨rfl, trivial⟩, rfl, h, ⟨rfl, trivial⟩, ⟨rfl, trivial⟩, trivial⟩
theorem spSits {ρ ρ' : Env} {w : World} {k k' : Nat} {kind : Int} {a : Nat → B64} {part : List Int} {held long : Int} (e : ρ.b k = ρ'.b k') (h : Sits ρ w k (spB kind a part held long)) : Sits ρ' w k' (spB kind a part held long) := by
  unfold Sits at h ⊢
  simp only at h ⊢
  rw [← e]
  exact h
theorem permuteI_c (a : Nat → B64) (w : World) : Calls Tryd.prog 91 #[.agg ((lanesI a).map (Value.int .u64) ++ []).toArray] w fun e w' => e = .returned (.agg ((lanesI (permN a 24)).map (Value.int .u64) ++ []).toArray) ∧ Below w.heap.size w w' := permute_c a w
theorem k_xor2 {x y : Int} (a b : B64) (hx : x = bv a) (hy : y = bv b) : IntKind.u64.wrap ((BitVec.ofInt IntKind.u64.bits x ^^^ BitVec.ofInt IntKind.u64.bits y).toNat : Int) = bv (a ^^^ b) := by
  subst hx hy; exact k_xor a b
theorem vcallF (F : Nat → Prop) (w : World) {p : World → Prop} (h : ∀ w, p w) : ∀ (w' : World), Fr F w w' → p w' := fun w' _ => h w'
theorem lanesI_ok (a : Nat → B64) : (AV.agg [.ints .u64 25 (lanesI a)]).ok No := ⟨rfl, trivial⟩
def abS (kind : Int) (a : Nat → B64) (part : List Int) (held long : Int) (i : Int) : AS := ⟨[(0, .ptr 0 0), (7, .agg [.ints .u8 136 part]), (8, .val (.int .i64 i))], [(0, spB kind a part held long)]⟩
def abP (w : World) (B : Nat) (kind : Int) (a : Nat → B64) (part : List Int) (long : Int) (e : Ending) (w' : World) : Prop :=
  e = .returned (.tuple #[]) ∧ Fr (fun k => k = B) w w' ∧ Sits (At B) w' 0 (spB kind (permN (inL a (fun i => part.getD i 0) 136) 24) part 0 long)
set_option maxHeartbeats 4000000 in
theorem absorb_round (w : World) (B : Nat) (kind : Int) (a : Nat → B64) (part : List Int) (held long : Int) (hp : part.length = 136) :
    ∀ (q i : Nat), i + q = 136 → wpK (ctxF Tryd.prog w (fun k => k = B) (At B) 1 Tryd.f79.ntmps) Tryd.f79 (abP w B kind a part long) (loopAt Tryd.f79 0) (abS kind (inL a (fun i => part.getD i 0) i) part held long (i : Int)) := by
  have pc := fun a w => permuteI_c a w
  intro q
  induction q with
  | zero =>
    intro i hi
    obtain rfl : i = 136 := by omega
    have hlt : decide (((136 : Nat) : Int) < 136) = false := by simp
    unfold abP
    generalize inL a (fun i => part.getD i 0) 136 = a'
    refine wpK_endF (n := 400) (m := 0) (nx := 0) (hs := [(9, .eq (.val (.bool false))), (35, .call (.agg [.ints .u64 25 (lanesI (permN a' 24))]))]) (v := .tup []) (bs := [(0, spB kind (permN a' 24) part 0 long)]) follows [0] (And.intro (congrArg Value.bool hlt) (And.intro (vcallF (fun k => k = B) w (fun w => pc a' w)) (lanesI_ok (permN a' 24)))) (by kernel_rfl) ?_
    intro ρ w' hf hx hh
    exact ⟨rfl, hf, spSits (hx 0 Nat.zero_lt_one).1 hh.1.1⟩
  | succ q ih =>
    intro i hi
    have hlt : decide ((i : Int) < 136) = true := by simp; omega
    have hin : i < 136 := by omega
    have hi8 : i / 8 < 25 := by omega
    have hw : IntKind.i64.wrap ((i : Int) + 1) = ((i + 1 : Nat) : Int) := by rw [IntKind.wrap_i64]; omega
    have h1 : IntKind.i64.wrap ((i : Int).tdiv 8) = ((i / 8 : Nat) : Int) := by rw [Int.tdiv_eq_ediv_of_nonneg (by omega), IntKind.wrap_i64]; omega
    have h2 : (i : Int).tmod 8 = ((i % 8 : Nat) : Int) := by rw [Int.tmod_eq_emod_of_nonneg (by omega)]; omega
    have h3 : IntKind.i64.wrap (8 * ((i % 8 : Nat) : Int)) = ((8 * (i % 8) : Nat) : Int) := by rw [IntKind.wrap_i64]; omega
    have ih := ih (i + 1) (by omega)
    generalize hb : inL a (fun i => part.getD i 0) i = b at ⊢
    have hl := lanesI_at b (i / 8) hi8
    refine wpK_loop (n := 400) (m := 0) (nx := 300) (hs := [(9, .eq (.val (.bool true))), (11, .ix (i)), (14, .eq (.val (.int .i64 ((i / 8 : Nat) : Int)))), (17, .ix (i / 8)), (20, .eq (.val (.int .u64 (bv (bl64 (part.getD i 0)))))), (22, .eq (.val (.int .i64 ((i % 8 : Nat) : Int)))), (23, .eq (.val (.int .i64 ((8 * (i % 8) : Nat) : Int)))), (24, .eq (.val (.int .u64 (bv (bl64 (part.getD i 0) <<< (8 * (i % 8))))))), (25, .eq (.val (.int .u64 (bv (b (i / 8) ^^^ (bl64 (part.getD i 0) <<< (8 * (i % 8)))))))), (28, .ix (i / 8)), (29, .eq (.val (.int .i64 ((i + 1 : Nat) : Int))))]) (st' := loopAt Tryd.f79 0) (s' := ⟨[(0, .ptr 0 0), (7, .agg [.ints .u8 136 part]), (8, .val (.int .i64 ((i + 1 : Nat) : Int)))], [(0, ⟨[.cell (.val (.int .i64 kind)), .ints .u64 25 ((lanesI b).set (i / 8) (bv (b (i / 8) ^^^ (bl64 (part.getD i 0) <<< (8 * (i % 8)))))), .ints .u8 136 part, .cell (.val (.int .i64 held)), .cell (.val (.int .i64 long))], 108, .arr⟩)]⟩) follows [] [0, 7, 8] [(0, 0)] (And.intro (congrArg Value.bool hlt) (And.intro (rfl : ((i : Nat) : Int) = ((i : Nat) : Int)) (And.intro hin (And.intro hin (And.intro (congrArg (Value.int .i64) h1) (And.intro (rfl : ((i / 8 : Nat) : Int) = ((i / 8 : Nat) : Int)) (And.intro hi8 (And.intro hi8 (And.intro (congrArg (Value.int .u64) (wrap_bl (part.getD i 0))) (And.intro (congrArg (Value.int .i64) h2) (And.intro (congrArg (Value.int .i64) h3) (And.intro (congrArg (Value.int .u64) (k_shl' (bl64 (part.getD i 0)) (8 * (i % 8)) (by omega))) (And.intro (congrArg (Value.int .u64) (k_xor2 (b (i / 8)) (bl64 (part.getD i 0) <<< (8 * (i % 8))) hl rfl)) (And.intro (rfl : ((i / 8 : Nat) : Int) = ((i / 8 : Nat) : Int)) (And.intro hi8 (And.intro hi8 (congrArg (Value.int .i64) hw))))))))))))))))) (by kernel_rfl) ?_
    rw [← hb, inL_succ a (fun i => part.getD i 0) i hin]
    exact ih
theorem absorb_c (w : World) (B : Nat) (kind : Int) (a : Nat → B64) (part : List Int) (held long : Int) (hp : part.length = 136) (hs : Sits (At B) w 0 (spB kind a part held long)) :
    Calls Tryd.prog 79 #[.pointer (some ⟨B, 0, none⟩)] w (abP w B kind a part long) := by
  refine calls_vmF (F := fun k => k = B) (ρ0 := At B) (n0 := 1) [(0, spB kind a part held long)] [.ptr 0 0] (fn := Tryd.f79) Tryd.func79 (by kernel_rfl) (by kernel_rfl) (by kernel_rfl) (relM_one hs (spOk kind a part held long hp)) ⟨rfl, trivial⟩ ?_
  refine wpK_loop (n := 400) (m := 0) (nx := 0) (hs := []) (st' := loopAt Tryd.f79 0) (s' := abS kind (inL a (fun i => part.getD i 0) 0) part held long ((0 : Nat) : Int)) follows [] [0, 7, 8] [(0, 0)] trivial (by kernel_rfl) ?_
  exact absorb_round w B kind a part held long hp 136 0 (by omega)
end Go.Proofs.YtkanjdllaikoaaaDoor

