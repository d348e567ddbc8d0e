/- u256.Parse: what a decimal text tells. -/
import Derived.Test.YthgnmpjcbicdhaaDoorPrs
set_option linter.unusedSimpArgs false
set_option linter.unusedVariables false
namespace Go.Proofs.YthgnmpjcbicdhaaDoor
open Go Go.RowKit

theorem str_nil (l : List UInt8) (h : l ≠ []) : ((⟨l.toArray⟩ : ByteArray).toList == (⟨#[]⟩ : ByteArray).toList) = false := by
  rw [ByteArray.toList_eq, ByteArray.toList_eq]
  simpa using h
theorem str_nil0 : ((⟨([] : List UInt8).toArray⟩ : ByteArray).toList == (⟨#[]⟩ : ByteArray).toList) = true := by simp
theorem qz_start (w : World) (hT : TensIn w) (l : List UInt8) (ha : allDg l) (h0 : l ≠ []) (hlead : ¬ (1 < l.length ∧ l.getD 0 0 = 48)) : wpK (ctx Tryd.prog w Tryd.f5.ntmps) Tryd.f5 (PR w l) (loopAt Tryd.f5 1) (⟨[(0, .val (.string ⟨l.toArray⟩)), (2, .ptr 2 0), (3, .val (.int .i64 0)), (5, .ptr 5 0)], [(2, zb), (5, zb)]⟩ : AS) := by
  have h := pc_round w hT l ha h0 hlead l.length 0 (by omega) (by rw [List.take_zero, dvL_nil]; exact T256_pos)
  rw [List.drop_zero, List.take_zero, dvL_nil] at h
  have e : qS l 0 = (⟨[(0, .val (.string ⟨l.toArray⟩)), (2, .ptr 2 0), (3, .val (.int .i64 0)), (5, .ptr 5 0)], [(2, zb), (5, zb)]⟩ : AS) := by
    have z : ∀ i, L 0 i = 0 := fun i => by simp [L]
    unfold qS
    simp only [cb, zb, z]
  rw [← e]
  exact h
set_option maxHeartbeats 4000000 in
theorem parse_c (w : World) (hT : TensIn w) (l : List UInt8) (hn : l.length ≤ 9223372036854775807) : Calls Tryd.prog 5 #[.string ⟨l.toArray⟩] w (PR w l) := by
  have hsz : ((⟨l.toArray⟩ : ByteArray).size : Int) = (l.length : Int) := by rw [sz_eq]
  refine calls_vm [.val (.string ⟨l.toArray⟩)] (fn := Tryd.f5) Tryd.func5 (by kernel_rfl) (by kernel_rfl) (by kernel_rfl) (by simp [AV.okL, AV.ok]) ?_
  refine wpK_loop (n := 400) (m := 0) (nx := 100) (hs := [(13, .eq (.val (.int .i64 (l.length : Int))))]) (st' := loopAt Tryd.f5 0) (s' := pS l ((0 : Nat) : Int)) follows [] [0, 2, 3, 13, 14] [(2, 100)] (congrArg (Value.int .i64) hsz) (by kernel_rfl) ?_
  refine pd_round w l hn (fun ha => ?_) l.length 0 (by omega) (fun j hj => by omega)
  by_cases h0 : l = []
  · subst h0
    have h31 := str_nil0
    refine wpK_end (n := 400) (m := 0) (nx := 200) (hs := [(31, .eq (.val (.bool true)))]) (v := .tup [.agg [.cell (.val (.int .u64 0)), .cell (.val (.int .u64 0)), .cell (.val (.int .u64 0)), .cell (.val (.int .u64 0))], .val (.int .i64 12)]) follows (congrArg Value.bool h31) (by kernel_rfl) ?_
    intro ρ w' hf; exact pr_bad (e := 12) (pE_bad (.inl rfl)) (by decide) hf
  · have h31 := str_nil l h0
    have hl1 : 0 < l.length := List.length_pos_iff.2 h0
    have hix : ∀ (ρ : Env) (w' : World), Fr No w w' → (siS 9 l ((0 : Nat) : Int)).run Tryd.prog w' = .ok (.value (.int .u8 ((l.getD 0 0).toNat : Int))) w' := fun ρ w' _ => si_runL l 0 hl1 w'
    obtain ⟨c, hc⟩ : ∃ c, c = l.getD 0 0 := ⟨_, rfl⟩
    rw [← hc] at hix
    by_cases h1 : 1 < l.length
    · have hg1 : decide ((l.length : Int) > 1) = true := by simp; omega
      by_cases h48 : c.toNat = 48
      · have hq : ((c.toNat : Int) == 48) = true := by simp; omega
        have hE := pE_lead h0 ha h1 (hc ▸ UInt8.toNat_inj.1 h48)
        refine wpK_end (n := 400) (m := 0) (nx := 200) (hs := [(31, .eq (.val (.bool false))), (35, .eq (.val (.int .i64 (l.length : Int)))), (36, .eq (.val (.bool true))), (39, .as (.val (.int .u8 (c.toNat : Int)))), (40, .eq (.val (.bool true)))]) (v := .tup [.agg [.cell (.val (.int .u64 0)), .cell (.val (.int .u64 0)), .cell (.val (.int .u64 0)), .cell (.val (.int .u64 0))], .val (.int .i64 13)]) follows (And.intro (congrArg Value.bool h31) (And.intro (congrArg (Value.int .i64) hsz) (And.intro (congrArg Value.bool hg1) (And.intro hix (congrArg Value.bool hq))))) (by kernel_rfl) ?_
        intro ρ w' hf; exact pr_bad (e := 13) hE (by decide) hf
      · have hq : ((c.toNat : Int) == 48) = false := by simp; omega
        have hlead : ¬ (1 < l.length ∧ l.getD 0 0 = 48) := fun h => h48 (by rw [hc, h.2]; rfl)
        by_cases h78 : 78 < l.length
        · have hg2 : decide ((l.length : Int) > 78) = true := by simp; omega
          have hE := pE_long h0 ha hlead (long_big ha h78 hlead)
          refine wpK_end (n := 400) (m := 0) (nx := 200) (hs := [(31, .eq (.val (.bool false))), (35, .eq (.val (.int .i64 (l.length : Int)))), (36, .eq (.val (.bool true))), (39, .as (.val (.int .u8 (c.toNat : Int)))), (40, .eq (.val (.bool false))), (45, .eq (.val (.int .i64 (l.length : Int)))), (46, .eq (.val (.bool true)))]) (v := .tup [.agg [.cell (.val (.int .u64 0)), .cell (.val (.int .u64 0)), .cell (.val (.int .u64 0)), .cell (.val (.int .u64 0))], .val (.int .i64 11)]) follows (And.intro (congrArg Value.bool h31) (And.intro (congrArg (Value.int .i64) hsz) (And.intro (congrArg Value.bool hg1) (And.intro hix (And.intro (congrArg Value.bool hq) (And.intro (congrArg (Value.int .i64) hsz) (congrArg Value.bool hg2))))))) (by kernel_rfl) ?_
          intro ρ w' hf; exact pr_bad (e := 11) hE (by decide) hf
        · have hg2 : decide ((l.length : Int) > 78) = false := by simp; omega
          refine wpK_loop (n := 400) (m := 0) (nx := 200) (hs := [(31, .eq (.val (.bool false))), (35, .eq (.val (.int .i64 (l.length : Int)))), (36, .eq (.val (.bool true))), (39, .as (.val (.int .u8 (c.toNat : Int)))), (40, .eq (.val (.bool false))), (45, .eq (.val (.int .i64 (l.length : Int)))), (46, .eq (.val (.bool false)))]) (st' := loopAt Tryd.f5 1) (s' := ⟨[(0, .val (.string ⟨l.toArray⟩)), (2, .ptr 2 0), (3, .val (.int .i64 0)), (5, .ptr 5 0)], [(2, zb), (5, zb)]⟩) follows [] [0, 2, 3, 5] [(2, 2), (5, 216)] (And.intro (congrArg Value.bool h31) (And.intro (congrArg (Value.int .i64) hsz) (And.intro (congrArg Value.bool hg1) (And.intro hix (And.intro (congrArg Value.bool hq) (And.intro (congrArg (Value.int .i64) hsz) (congrArg Value.bool hg2))))))) (by kernel_rfl) ?_
          exact qz_start w hT l ha h0 hlead
    · have hg1 : decide ((l.length : Int) > 1) = false := by simp; omega
      have hg2 : decide ((l.length : Int) > 78) = false := by simp; omega
      have hlead : ¬ (1 < l.length ∧ l.getD 0 0 = 48) := fun h => h1 h.1
      refine wpK_loop (n := 400) (m := 0) (nx := 200) (hs := [(31, .eq (.val (.bool false))), (35, .eq (.val (.int .i64 (l.length : Int)))), (36, .eq (.val (.bool false))), (45, .eq (.val (.int .i64 (l.length : Int)))), (46, .eq (.val (.bool false)))]) (st' := loopAt Tryd.f5 1) (s' := ⟨[(0, .val (.string ⟨l.toArray⟩)), (2, .ptr 2 0), (3, .val (.int .i64 0)), (5, .ptr 5 0)], [(2, zb), (5, zb)]⟩) follows [] [0, 2, 3, 5] [(2, 2), (5, 216)] (And.intro (congrArg Value.bool h31) (And.intro (congrArg (Value.int .i64) hsz) (And.intro (congrArg Value.bool hg1) (And.intro (congrArg (Value.int .i64) hsz) (congrArg Value.bool hg2))))) (by kernel_rfl) ?_
      exact qz_start w hT l ha h0 hlead
end Go.Proofs.YthgnmpjcbicdhaaDoor

