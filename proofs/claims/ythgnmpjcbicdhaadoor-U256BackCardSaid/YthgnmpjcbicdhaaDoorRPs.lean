/- The document's Parse: what a decimal text tells. -/
import Derived.Test.YthgnmpjcbicdhaaDoorPrs
import Derived.Test.YthgnmpjcbicdhaaDoorRMul
import Derived.Test.YthgnmpjcbicdhaaDoorRDig
set_option linter.unusedSimpArgs false
set_option linter.unusedVariables false
namespace Go.Proofs.YthgnmpjcbicdhaaDoor
open Go Go.RowKit

def rS (l : List UInt8) (i : Int) : AS := ⟨[(0, .val (.string ⟨l.toArray⟩)), (2, .ptr 2 0), (3, .val (.int .i64 0)), (4, .ptr 4 0), (5, .val (.int .i64 i))], [(2, zb), (4, zb)]⟩
def rS2 (l : List UInt8) : AS := ⟨[(0, .val (.string ⟨l.toArray⟩)), (2, .ptr 2 0), (3, .val (.int .i64 0)), (4, .ptr 4 0)], [(2, zb), (4, zb)]⟩
def rS3 (l : List UInt8) (x : Vblk) (i : Nat) : AS := ⟨[(0, .val (.string ⟨l.toArray⟩)), (2, .ptr 2 0), (3, .val (.int .i64 0)), (4, .ptr 4 0), (6, .ptr 6 0), (7, .val (.int .i64 (i : Int)))], [(2, zb), (4, zb), (6, x)]⟩
set_option maxHeartbeats 4000000 in
theorem rpd_round (w : World) (l : List UInt8) (hn : l.length ≤ 9223372036854775807) (hk : allDg l → wpK (ctx Tryd.prog w Tryd.f6.ntmps) Tryd.f6 (PR w l) (regAt Tryd.f6 9) (rS2 l)) :
    ∀ (q i : Nat), i + q = l.length → (∀ j, j < i → isD (l.getD j 0)) → wpK (ctx Tryd.prog w Tryd.f6.ntmps) Tryd.f6 (PR w l) (loopAt Tryd.f6 0) (rS l (i : Int)) := by
  have hsz : ((⟨l.toArray⟩ : ByteArray).size : Int) = (l.length : Int) := by rw [sz_eq]
  intro q
  induction q with
  | zero =>
    intro i hi hd
    have hlt : decide ((i : Int) < (l.length : Int)) = false := by simp; omega
    refine wpK_loop (n := 400) (m := 0) (nx := 0) (hs := [(19, .eq (.val (.int .i64 (l.length : Int)))), (20, .eq (.val (.bool false))), (88888, .subE)]) (st' := regAt Tryd.f6 9) (s' := rS2 l) follows [] [0, 2, 3, 4] [(2, 2), (4, 4)] (And.intro (congrArg (Value.int .i64) hsz) (congrArg Value.bool hlt)) (by kernel_rfl) ?_
    exact hk (fun j hj => hd j (by omega))
  | succ q ih =>
    intro i hi hd
    have hlt : decide ((i : Int) < (l.length : Int)) = true := by simp; omega
    have hil : i < l.length := by omega
    have hw : IntKind.i64.wrap ((i : Int) + 1) = ((i + 1 : Nat) : Int) := by rw [IntKind.wrap_i64]; omega
    have hix : ∀ (ρ : Env) (w' : World), Fr No w w' → (siS 9 l (i : Int)).run Tryd.prog w' = .ok (.value (.int .u8 ((l.getD i 0).toNat : Int))) w' := fun ρ w' _ => si_runL l i hil w'
    obtain ⟨c, hc⟩ : ∃ c, c = l.getD i 0 := ⟨_, rfl⟩
    rw [← hc] at hix
    have hbad : ¬ isD c → pE l = 12 := fun h => pE_bad (.inr fun ha => h (hc ▸ ha i hil))
    unfold isD at hbad
    by_cases h48 : c.toNat < 48
    · have hg : decide ((c.toNat : Int) < 48) = true := by simp; omega
      refine wpK_end (n := 400) (m := 0) (nx := 200) (hs := [(19, .eq (.val (.int .i64 (l.length : Int)))), (20, .eq (.val (.bool true))), (25, .as (.val (.int .u8 (c.toNat : Int)))), (26, .eq (.val (.bool true)))]) (v := .tup [.agg [.cell (.val (.int .u64 0)), .cell (.val (.int .u64 0)), .cell (.val (.int .u64 0)), .cell (.val (.int .u64 0))], .val (.int .i64 12)]) follows (And.intro (congrArg (Value.int .i64) hsz) (And.intro (congrArg Value.bool hlt) (And.intro hix (congrArg Value.bool hg)))) (by kernel_rfl) ?_
      intro ρ w' hf; exact pr_bad (e := 12) (hbad (by omega)) (by decide) hf
    · have hg : decide ((c.toNat : Int) < 48) = false := by simp; omega
      by_cases h57 : 57 < c.toNat
      · have hg2 : decide ((c.toNat : Int) > 57) = true := by simp; omega
        refine wpK_end (n := 400) (m := 0) (nx := 200) (hs := [(19, .eq (.val (.int .i64 (l.length : Int)))), (20, .eq (.val (.bool true))), (25, .as (.val (.int .u8 (c.toNat : Int)))), (26, .eq (.val (.bool false))), (30, .as (.val (.int .u8 (c.toNat : Int)))), (31, .eq (.val (.bool true)))]) (v := .tup [.agg [.cell (.val (.int .u64 0)), .cell (.val (.int .u64 0)), .cell (.val (.int .u64 0)), .cell (.val (.int .u64 0))], .val (.int .i64 12)]) follows (And.intro (congrArg (Value.int .i64) hsz) (And.intro (congrArg Value.bool hlt) (And.intro hix (And.intro (congrArg Value.bool hg) (And.intro hix (congrArg Value.bool hg2)))))) (by kernel_rfl) ?_
        intro ρ w' hf; exact pr_bad (e := 12) (hbad (by omega)) (by decide) hf
      · have hg2 : decide ((c.toNat : Int) > 57) = false := by simp; omega
        refine wpK_loop (n := 400) (m := 0) (nx := 200) (hs := [(19, .eq (.val (.int .i64 (l.length : Int)))), (20, .eq (.val (.bool true))), (25, .as (.val (.int .u8 (c.toNat : Int)))), (26, .eq (.val (.bool false))), (30, .as (.val (.int .u8 (c.toNat : Int)))), (31, .eq (.val (.bool false))), (22, .eq (.val (.int .i64 ((i + 1 : Nat) : Int))))]) (st' := loopAt Tryd.f6 0) (s' := rS l ((i + 1 : Nat) : Int)) follows [] [0, 2, 3, 4, 5] [(2, 2), (4, 4)] (And.intro (congrArg (Value.int .i64) hsz) (And.intro (congrArg Value.bool hlt) (And.intro hix (And.intro (congrArg Value.bool hg) (And.intro hix (And.intro (congrArg Value.bool hg2) (congrArg (Value.int .i64) hw))))))) (by kernel_rfl) ?_
        refine ih (i + 1) (by omega) (fun j hj => ?_)
        rcases Nat.lt_or_ge j i with h | h
        · exact hd j h
        · obtain rfl : j = i := by omega
          rw [← hc]
          exact ⟨by omega, by omega⟩
set_option maxHeartbeats 8000000 in
theorem rpc_round (w : World) (l : List UInt8) (hn : l.length ≤ 9223372036854775807) (ha : allDg l) (h0 : l ≠ []) (hlead : ¬ (1 < l.length ∧ l.getD 0 0 = 48)) :
    ∀ (q k : Nat), k + q = l.length → dvL 0 (l.take k) < T256 → wpK (ctx Tryd.prog w Tryd.f6.ntmps) Tryd.f6 (PR w l) (loopAt Tryd.f6 1) (rS3 l (cb (dvL 0 (l.take k))) k) := by
  have hsz : ((⟨l.toArray⟩ : ByteArray).size : Int) = (l.length : Int) := by rw [sz_eq]
  intro q
  induction q with
  | zero =>
    intro k hk hx
    obtain ⟨x, hxe⟩ : ∃ x, x = dvL 0 (l.take k) := ⟨_, rfl⟩
    rw [← hxe] at hx ⊢
    have hlt : decide ((k : Int) < (l.length : Int)) = false := by simp; omega
    have hfull : l.take k = l := List.take_of_length_le (by omega)
    have hE : pE l = 0 := pE_ok h0 ha hlead (by rw [← hfull, ← hxe]; exact hx)
    have hVx : pV l = x := by rw [pV_ok hE, hxe, hfull]
    refine wpK_end (n := 400) (m := 0) (nx := 200) (hs := [(46, .eq (.val (.int .i64 (l.length : Int)))), (47, .eq (.val (.bool false)))]) (v := .tup [.agg [.cell (.val (.int .u64 (L x 0))), .cell (.val (.int .u64 (L x 1))), .cell (.val (.int .u64 (L x 2))), .cell (.val (.int .u64 (L x 3)))], .val (.int .i64 0)]) follows (And.intro (congrArg (Value.int .i64) hsz) (congrArg Value.bool hlt)) (by kernel_rfl) ?_
    intro ρ w' hf
    refine ⟨?_, hf.to_below⟩
    rw [hVx, hE]
    rfl
  | succ q ih =>
    intro k hk hx
    obtain ⟨x, hxe⟩ : ∃ x, x = dvL 0 (l.take k) := ⟨_, rfl⟩
    rw [← hxe] at hx ⊢
    have hlt : decide ((k : Int) < (l.length : Int)) = true := by simp; omega
    have hkl : k < l.length := by omega
    have hw : IntKind.i64.wrap ((k : Int) + 1) = ((k + 1 : Nat) : Int) := by rw [IntKind.wrap_i64]; omega
    have hix : ∀ (ρ : Env) (w' : World), Fr No w w' → (siS 9 l (k : Int)).run Tryd.prog w' = .ok (.value (.int .u8 ((l.getD k 0).toNat : Int))) w' := fun ρ w' _ => si_runL l k hkl w'
    obtain ⟨c, hc⟩ : ∃ c, c = l.getD k 0 := ⟨_, rfl⟩
    rw [← hc] at hix
    have hcd : isD c := hc ▸ ha k hkl
    unfold isD at hcd
    obtain ⟨v, hv⟩ : ∃ v, v = c.toNat - 48 := ⟨_, rfl⟩
    have h61 : IntKind.u8.wrap ((c.toNat : Int) - 48) = ((v : Nat) : Int) := by rw [IntKind.wrap_u8]; omega
    have h62 : IntKind.u64.wrap ((v : Nat) : Int) = ((v : Nat) : Int) := by rw [dv_mod]; omega
    have hv64 : v < 18446744073709551616 := by omega
    have hvT : v < T256 := Nat.lt_trans hv64 (by decide)
    have h10T : 10 < T256 := by decide
    have hf1 := fun w' => rfrom_c 10 (by decide) w'
    have hf2 := fun w' => rfrom_c v hv64 w'
    have hm := fun w' => rmul_c x 10 hx h10T w'
    obtain ⟨h, hh⟩ : ∃ h, h = x * 10 / T256 := ⟨_, rfl⟩
    obtain ⟨lo, hlo⟩ : ∃ lo, lo = x * 10 % T256 := ⟨_, rfl⟩
    have hloT : lo < T256 := hlo ▸ Nat.mod_lt _ T256_pos
    have hhT : h < T256 := hh ▸ Nat.div_lt_of_lt_mul (Nat.mul_lt_mul'' hx h10T)
    rw [← hh, ← hlo] at hm
    have had := fun w' => radd_c lo v hloT hvT w'
    obtain ⟨s, hs⟩ : ∃ s, s = (lo + v) % T256 := ⟨_, rfl⟩
    obtain ⟨cy, hcy⟩ : ∃ cy, cy = (lo + v) / T256 := ⟨_, rfl⟩
    rw [← hs, ← hcy] at had
    have hsT : s < T256 := hs ▸ Nat.mod_lt _ T256_pos
    have hval : dvL 0 (l.take (k + 1)) = x * 10 + v := by
      have e : l.take (k + 1) = l.take k ++ [c] := by
        rw [List.take_add_one, List.getElem?_eq_getElem hkl, hc, List.getD_eq_getElem?_getD, List.getElem?_eq_getElem hkl]
        rfl
      rw [e, dvL_append, ← hxe, dvL_cons, dvL_nil, hv]
    have hfull : x * 10 + v = h * T256 + cy * T256 + s := by
      have e1 : x * 10 = h * T256 + lo := by rw [hh, hlo, Nat.div_add_mod']
      have e2 : lo + v = cy * T256 + s := by rw [hcy, hs, Nat.div_add_mod']
      omega
    have hbig : ¬ dvL 0 (l.take (k + 1)) < T256 → pE l = 11 := fun hb => pE_long h0 ha hlead (fun hc => hb (Nat.lt_of_le_of_lt (dv_part l _) hc))
    by_cases hh0 : h = 0
    · subst hh0
      by_cases hc0 : cy = 0
      · subst hc0
        have hcmp : (!(((0 : Nat) : Int) == 0)) = false := by decide
        have hs3 : dvL 0 (l.take (k + 1)) = s := by rw [hval, hfull]; omega
        refine wpK_loop (n := 400) (m := 0) (nx := 200) (hs := [(46, .eq (.val (.int .i64 (l.length : Int)))), (47, .eq (.val (.bool true))), (52, .call (.val (U 10))), (53, .call (.tup [.val (U 0), .val (U lo)])), (60, .as (.val (.int .u8 (c.toNat : Int)))), (61, .eq (.val (.int .u8 ((v : Nat) : Int)))), (62, .eq (.val (.int .u64 ((v : Nat) : Int)))), (63, .call (.val (U v))), (64, .call (.tup [.val (U s), .val (.int .u64 ((0 : Nat) : Int))])), (69, .cmp true), (72, .eq (.val (.bool false))), (49, .eq (.val (.int .i64 ((k + 1 : Nat) : Int))))]) (st' := loopAt Tryd.f6 1) (s' := rS3 l (cb s) (k + 1)) follows [] [0, 2, 3, 4, 6, 7] [(2, 2), (4, 4), (6, 6)] (And.intro (congrArg (Value.int .i64) hsz) (And.intro (congrArg Value.bool hlt) (And.intro (vcall w (fun w => hf1 w)) (And.intro (vcall w (fun w => hm w)) (And.intro (show AV.ok No (.tup [.val (U 0), .val (U lo)]) from ⟨trivial, trivial, trivial⟩) (And.intro hix (And.intro (congrArg (Value.int .u8) h61) (And.intro (congrArg (Value.int .u64) h62) (And.intro (vcall w (fun w => hf2 w)) (And.intro (vcall w (fun w => had w)) (And.intro (show AV.ok No (.tup [.val (U s), .val (.int .u64 ((0 : Nat) : Int))]) from ⟨trivial, trivial, trivial⟩) (And.intro (fun w => eqU_zz w) (And.intro (congrArg Value.bool hcmp) (congrArg (Value.int .i64) hw)))))))))))))) (by kernel_rfl) ?_
        rw [← hs3]
        exact ih (k + 1) (by omega) (by rw [hs3]; exact hsT)
      · have hcmp : (!(((cy : Nat) : Int) == 0)) = true := by simp; omega
        have hov : ¬ dvL 0 (l.take (k + 1)) < T256 := by
          rw [hval, hfull]
          have : 1 * T256 ≤ cy * T256 := Nat.mul_le_mul_right _ (by omega)
          omega
        refine wpK_end (n := 400) (m := 0) (nx := 200) (hs := [(46, .eq (.val (.int .i64 (l.length : Int)))), (47, .eq (.val (.bool true))), (52, .call (.val (U 10))), (53, .call (.tup [.val (U 0), .val (U lo)])), (60, .as (.val (.int .u8 (c.toNat : Int)))), (61, .eq (.val (.int .u8 ((v : Nat) : Int)))), (62, .eq (.val (.int .u64 ((v : Nat) : Int)))), (63, .call (.val (U v))), (64, .call (.tup [.val (U s), .val (.int .u64 ((cy : Nat) : Int))])), (69, .cmp true), (72, .eq (.val (.bool true)))]) (v := .tup [.agg [.cell (.val (.int .u64 0)), .cell (.val (.int .u64 0)), .cell (.val (.int .u64 0)), .cell (.val (.int .u64 0))], .val (.int .i64 11)]) follows (And.intro (congrArg (Value.int .i64) hsz) (And.intro (congrArg Value.bool hlt) (And.intro (vcall w (fun w => hf1 w)) (And.intro (vcall w (fun w => hm w)) (And.intro (show AV.ok No (.tup [.val (U 0), .val (U lo)]) from ⟨trivial, trivial, trivial⟩) (And.intro hix (And.intro (congrArg (Value.int .u8) h61) (And.intro (congrArg (Value.int .u64) h62) (And.intro (vcall w (fun w => hf2 w)) (And.intro (vcall w (fun w => had w)) (And.intro (show AV.ok No (.tup [.val (U s), .val (.int .u64 ((cy : Nat) : Int))]) from ⟨trivial, trivial, trivial⟩) (And.intro (fun w => eqU_zz w) (congrArg Value.bool hcmp))))))))))))) (by kernel_rfl) ?_
        intro ρ w' hf; exact pr_bad (e := 11) (hbig hov) (by decide) hf
    · have hov : ¬ dvL 0 (l.take (k + 1)) < T256 := by
        rw [hval, hfull]
        have : 1 * T256 ≤ h * T256 := Nat.mul_le_mul_right _ (by omega)
        omega
      refine wpK_end (n := 400) (m := 0) (nx := 200) (hs := [(46, .eq (.val (.int .i64 (l.length : Int)))), (47, .eq (.val (.bool true))), (52, .call (.val (U 10))), (53, .call (.tup [.val (U h), .val (U lo)])), (60, .as (.val (.int .u8 (c.toNat : Int)))), (61, .eq (.val (.int .u8 ((v : Nat) : Int)))), (62, .eq (.val (.int .u64 ((v : Nat) : Int)))), (63, .call (.val (U v))), (64, .call (.tup [.val (U s), .val (.int .u64 ((cy : Nat) : Int))])), (69, .cmp false)]) (v := .tup [.agg [.cell (.val (.int .u64 0)), .cell (.val (.int .u64 0)), .cell (.val (.int .u64 0)), .cell (.val (.int .u64 0))], .val (.int .i64 11)]) follows (And.intro (congrArg (Value.int .i64) hsz) (And.intro (congrArg Value.bool hlt) (And.intro (vcall w (fun w => hf1 w)) (And.intro (vcall w (fun w => hm w)) (And.intro (show AV.ok No (.tup [.val (U h), .val (U lo)]) from ⟨trivial, trivial, trivial⟩) (And.intro hix (And.intro (congrArg (Value.int .u8) h61) (And.intro (congrArg (Value.int .u64) h62) (And.intro (vcall w (fun w => hf2 w)) (And.intro (vcall w (fun w => had w)) (And.intro (show AV.ok No (.tup [.val (U s), .val (.int .u64 ((cy : Nat) : Int))]) from ⟨trivial, trivial, trivial⟩) (fun w => eqU_ne h hhT hh0 w)))))))))))) (by kernel_rfl) ?_
      intro ρ w' hf; exact pr_bad (e := 11) (hbig hov) (by decide) hf
set_option maxHeartbeats 4000000 in
theorem rparse_c (w : World) (l : List UInt8) (hn : l.length ≤ 9223372036854775807) : Calls Tryd.prog 6 #[.string ⟨l.toArray⟩] w (PR w l) := by
  have hsz : ((⟨l.toArray⟩ : ByteArray).size : Int) = (l.length : Int) := by rw [sz_eq]
  by_cases h0 : l = []
  · have h15 : ((l.length : Int) == 0) = true := by rw [h0]; rfl
    refine calls_vm [.val (.string ⟨l.toArray⟩)] (fn := Tryd.f6) Tryd.func6 (by kernel_rfl) (by kernel_rfl) (by kernel_rfl) (by simp [AV.okL, AV.ok]) ?_
    refine wpK_end (n := 400) (m := 0) (nx := 100) (hs := [(14, .eq (.val (.int .i64 (l.length : Int)))), (15, .eq (.val (.bool true)))]) (v := .tup [.agg [.cell (.val (.int .u64 0)), .cell (.val (.int .u64 0)), .cell (.val (.int .u64 0)), .cell (.val (.int .u64 0))], .val (.int .i64 12)]) follows (And.intro (congrArg (Value.int .i64) hsz) (congrArg Value.bool h15)) (by kernel_rfl) ?_
    intro ρ w' hf; exact pr_bad (e := 12) (pE_bad (.inl h0)) (by decide) hf
  · have hl1 : 0 < l.length := List.length_pos_iff.2 h0
    have h15 : ((l.length : Int) == 0) = false := by simp; omega
    refine calls_vm [.val (.string ⟨l.toArray⟩)] (fn := Tryd.f6) Tryd.func6 (by kernel_rfl) (by kernel_rfl) (by kernel_rfl) (by simp [AV.okL, AV.ok]) ?_
    refine wpK_loop (n := 400) (m := 0) (nx := 100) (hs := [(14, .eq (.val (.int .i64 (l.length : Int)))), (15, .eq (.val (.bool false)))]) (st' := loopAt Tryd.f6 0) (s' := rS l ((0 : Nat) : Int)) follows [] [0, 2, 3, 4, 5] [(2, 100), (4, 103)] (And.intro (congrArg (Value.int .i64) hsz) (congrArg Value.bool h15)) (by kernel_rfl) ?_
    refine rpd_round w l hn (fun ha => ?_) l.length 0 (by omega) (fun j hj => by omega)
    have hix : ∀ (ρ : Env) (w' : World), Fr No w w' → (siS 9 l ((0 : Nat) : Int)).run Tryd.prog w' = .ok (.value (.int .u8 ((l.getD 0 0).toNat : Int))) w' := fun ρ w' _ => si_runL l 0 hl1 w'
    obtain ⟨c, hc⟩ : ∃ c, c = l.getD 0 0 := ⟨_, rfl⟩
    rw [← hc] at hix
    have e0 : cb (dvL 0 (l.take 0)) = zb := by
      have z : ∀ i, L 0 i = 0 := fun i => by simp [L]
      rw [List.take_zero, dvL_nil]
      simp only [cb, zb, z]
    by_cases h1 : 1 < l.length
    · have hg1 : decide ((l.length : Int) > 1) = true := by simp; omega
      by_cases h48 : c.toNat = 48
      · have hq : ((c.toNat : Int) == 48) = true := by simp; omega
        have hE := pE_lead h0 ha h1 (hc ▸ UInt8.toNat_inj.1 h48)
        refine wpK_end (n := 400) (m := 0) (nx := 200) (hs := [(35, .eq (.val (.int .i64 (l.length : Int)))), (36, .eq (.val (.bool true))), (39, .as (.val (.int .u8 (c.toNat : Int)))), (40, .eq (.val (.bool true)))]) (v := .tup [.agg [.cell (.val (.int .u64 0)), .cell (.val (.int .u64 0)), .cell (.val (.int .u64 0)), .cell (.val (.int .u64 0))], .val (.int .i64 13)]) follows (And.intro (congrArg (Value.int .i64) hsz) (And.intro (congrArg Value.bool hg1) (And.intro hix (congrArg Value.bool hq)))) (by kernel_rfl) ?_
        intro ρ w' hf; exact pr_bad (e := 13) hE (by decide) hf
      · have hq : ((c.toNat : Int) == 48) = false := by simp; omega
        have hlead : ¬ (1 < l.length ∧ l.getD 0 0 = 48) := fun h => h48 (by rw [hc, h.2]; rfl)
        have hst := rpc_round w l hn ha h0 hlead l.length 0 (by omega) (by rw [List.take_zero, dvL_nil]; exact T256_pos)
        rw [e0] at hst
        refine wpK_loop (n := 400) (m := 0) (nx := 200) (hs := [(35, .eq (.val (.int .i64 (l.length : Int)))), (36, .eq (.val (.bool true))), (39, .as (.val (.int .u8 (c.toNat : Int)))), (40, .eq (.val (.bool false)))]) (st' := loopAt Tryd.f6 1) (s' := rS3 l zb 0) follows [] [0, 2, 3, 4, 6, 7] [(2, 2), (4, 4), (6, 209)] (And.intro (congrArg (Value.int .i64) hsz) (And.intro (congrArg Value.bool hg1) (And.intro hix (congrArg Value.bool hq)))) (by kernel_rfl) ?_
        exact hst
    · have hg1 : decide ((l.length : Int) > 1) = false := by simp; omega
      have hlead : ¬ (1 < l.length ∧ l.getD 0 0 = 48) := fun h => h1 h.1
      have hst := rpc_round w l hn ha h0 hlead l.length 0 (by omega) (by rw [List.take_zero, dvL_nil]; exact T256_pos)
      rw [e0] at hst
      refine wpK_loop (n := 400) (m := 0) (nx := 200) (hs := [(35, .eq (.val (.int .i64 (l.length : Int)))), (36, .eq (.val (.bool false)))]) (st' := loopAt Tryd.f6 1) (s' := rS3 l zb 0) follows [] [0, 2, 3, 4, 6, 7] [(2, 2), (4, 4), (6, 209)] (And.intro (congrArg (Value.int .i64) hsz) (congrArg Value.bool hg1)) (by kernel_rfl) ?_
      exact hst
end Go.Proofs.YthgnmpjcbicdhaaDoor

