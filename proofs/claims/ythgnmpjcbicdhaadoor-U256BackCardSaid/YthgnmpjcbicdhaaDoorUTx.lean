/- The law U256Texts walked. -/
import Derived.Test.YthgnmpjcbicdhaaDoorPse
import Derived.Test.YthgnmpjcbicdhaaDoorRPs
import Derived.Test.YthgnmpjcbicdhaaDoorRTx
import Derived.Test.YthgnmpjcbicdhaaDoorCmp
set_option linter.unusedSimpArgs false
set_option linter.unusedVariables false
namespace Go.Proofs.YthgnmpjcbicdhaaDoor
open Go Go.RowKit

theorem eqU_self (x : Nat) (hx : x < T256) (w : World) : (Op.equal 24 (U x) (U x)).run Tryd.prog w = .ok true w := by
  have e := run_eq_U hx hx w
  rwa [decide_eq_true rfl] at e
theorem pV_lt (l : List UInt8) : pV l < T256 := by
  by_cases h : pE l = 0
  · rw [pV_ok h]
    unfold pE at h
    split at h
    · cases h
    · split at h
      · cases h
      · split at h
        · assumption
        · cases h
  · rw [pV_bad h]; exact T256_pos
theorem str_same (s : ByteArray) : (s.toList == s.toList) = true := by simp
theorem num_e (v : Int) (w : World) : Calls Tryd.prog 7 #[.int .i64 v] w fun e w' => e = .returned (.int .i64 v) ∧ Below w.heap.size w w' := by
  refine (num_c v w).mono ?_
  rintro e w' ⟨rfl, rfl⟩
  exact ⟨rfl, Below.refl _ _⟩
set_option maxHeartbeats 4000000 in
theorem walkU256Texts (w : World) (x : Nat) (hx : x < T256) (l : List UInt8) (hn : l.length ≤ 9223372036854775807) (hT : TensIn w) (htab : Lib.TabIs Tryd.prog w "internal/strconv.uint64pow10" .u64 Lib.pow10Tab) :
    Calls Tryd.prog 3 #[U x, .string ⟨l.toArray⟩] w fun e w' => e = .returned (.bool true) ∧ Below w.heap.size w w' := by
  have p1 := fun (w' : World) (hf : Fr No w w') => parse_c w' (hT.fr hf) l hn
  have p2 := fun (w' : World) => rparse_c w' l hn
  have t1 := fun (w' : World) (hf : Fr No w w') => text_c x hx w' (hT.fr hf) (tabIs_fr htab hf)
  have t2 := fun (w' : World) => rtext_c x hx w'
  unfold PR at p1 p2
  unfold tR at t1 t2
  have hv := pV_lt l
  generalize pV l = v at *
  generalize pE l = e at *
  have he : (e == e) = true := by simp
  have hd := str_same ⟨(Lib.decDigits x).toArray⟩
  generalize (⟨(Lib.decDigits x).toArray⟩ : ByteArray) = d at *
  refine calls_vm [.val (U x), .val (.string ⟨l.toArray⟩)] (fn := Tryd.f3) Tryd.func3 (by kernel_rfl) (by kernel_rfl) (by kernel_rfl) (by simp [AV.okL, AV.ok]) ?_
  refine wpK_end (n := 400) (m := 0) (nx := 100) (hs := [(11, .call (.tup [.val (U v), .val (.int .i64 e)])), (16, .call (.tup [.val (U v), .val (.int .i64 e)])), (21, .cmp true), (24, .call (.val (.int .i64 e))), (26, .eq (.val (.bool true))), (30, .call (.val (.string d))), (32, .call (.val (.string d))), (33, .eq (.val (.bool true)))]) (v := .val (.bool true)) follows (And.intro (fun w' hf => p1 w' hf) (And.intro (show AV.ok No (.tup [.val (U v), .val (.int .i64 e)]) from ⟨trivial, trivial, trivial⟩) (And.intro (vcall w (fun w => p2 w)) (And.intro (show AV.ok No (.tup [.val (U v), .val (.int .i64 e)]) from ⟨trivial, trivial, trivial⟩) (And.intro (fun w => eqU_self v hv w) (And.intro (vcall w (fun w => num_e e w)) (And.intro (congrArg Value.bool he) (And.intro (fun w' hf => t1 w' hf) (And.intro (vcall w (fun w => t2 w)) (congrArg Value.bool hd)))))))))) (by kernel_rfl) ?_
  intro ρ w' hf; exact ⟨rfl, hf.to_below⟩
end Go.Proofs.YthgnmpjcbicdhaaDoor

