/- The law U256Back walked. -/
import Derived.Test.YthgnmpjcbicdhaaDoorUBy
import Derived.Test.YthgnmpjcbicdhaaDoorUGt
import Derived.Test.YthgnmpjcbicdhaaDoorPsm
import Derived.Test.YthgnmpjcbicdhaaDoorPse
import Derived.Test.YthgnmpjcbicdhaaDoorRTx
import Derived.Test.YthgnmpjcbicdhaaDoorUTx
set_option linter.unusedSimpArgs false
set_option linter.unusedVariables false
namespace Go.Proofs.YthgnmpjcbicdhaaDoor
open Go Go.RowKit

/-- Just m bytes of a number. -/
def bsL : Nat → Nat → List Int
  | 0, _ => []
  | m + 1, x => bsL m (x / 256) ++ [((x % 256 : Nat) : Int)]
theorem bsL_len : ∀ m x, (bsL m x).length = m
  | 0, _ => rfl
  | m + 1, x => by rw [bsL, List.length_append, bsL_len m]; rfl
theorem bsL_range : ∀ m x, bsL m x = (List.range m).map fun j => ((x / 2 ^ (8 * (m - 1 - j)) % 256 : Nat) : Int)
  | 0, _ => rfl
  | m + 1, x => by
    rw [bsL, List.range_succ, List.map_append, bsL_range m]
    congr 1
    · refine List.map_congr_left fun j hj => ?_
      have hj : j < m := List.mem_range.1 hj
      rw [Nat.div_div_eq_div_mul, show (256 : Nat) = 2 ^ 8 from rfl, ← Nat.pow_add]
      congr 4
      omega
    · simp
theorem putA_bs (x : Nat) : putA x 32 = bsL 32 x := by
  rw [bsL_range]
  unfold putA
  refine List.map_congr_left fun j hj => ?_
  have hj : j < 32 := List.mem_range.1 hj
  rw [if_pos (by omega)]
  unfold byteN
  congr 4
theorem valB_bs : ∀ m x, valB 8 (bsL m x) = x % 256 ^ m
  | 0, x => by rw [Nat.pow_zero, Nat.mod_one]; rfl
  | m + 1, x => by
    have h := Nat.mod_mul (a := 256) (b := 256 ^ m) (x := x)
    have h2 : (256 : Nat) ^ (m + 1) = 256 * 256 ^ m := by rw [Nat.pow_succ, Nat.mul_comm]
    have h3 : (2 : Nat) ^ 8 = 256 := rfl
    rw [bsL, valB_snoc, valB_bs m, Int.toNat_natCast, h2, h, h3, Nat.mul_comm, Nat.add_comm]
theorem bs_valB : ∀ (n : Nat) (l : List Int), l.length = n → ByteL l → bsL n (valB 8 l) = l
  | 0, l, hl, _ => by rw [List.eq_nil_of_length_eq_zero hl]; rfl
  | n + 1, l, hl, hb => by
    rcases (show l = [] ∨ ∃ r c, l = r ++ [c] by rcases List.eq_nil_or_concat l with h | ⟨r, c, h⟩; exact .inl h; exact .inr ⟨r, c, by rw [h, List.concat_eq_append]⟩) with rfl | ⟨r, c, rfl⟩
    · simp at hl
    · rw [List.length_append] at hl
      have hr : r.length = n := by simpa using hl
      have hc := hb c (by simp)
      have hrb : ByteL r := fun x hx => hb x (by simp [hx])
      rw [valB_snoc, bsL]
      have e : (2 : Nat) ^ 8 = 256 := rfl
      have e1 : (valB 8 r * 2 ^ 8 + c.toNat) / 256 = valB 8 r := by rw [e]; omega
      have e2 : (valB 8 r * 2 ^ 8 + c.toNat) % 256 = c.toNat := by rw [e]; omega
      rw [e1, e2, bs_valB n r hr hrb, Int.toNat_of_nonneg hc.1]
theorem valB_pad : ∀ (k : Nat) (l : List Int), valB 8 (List.replicate k 0 ++ l) = valB 8 l
  | 0, l => by simp
  | k + 1, l => by
    rw [List.replicate_succ, List.cons_append]
    exact valB_pad k l
theorem strip_pad : ∀ (k : Nat) (l : List Int), strip (List.replicate k 0 ++ l) = strip l
  | 0, l => by simp
  | k + 1, l => by
    rw [List.replicate_succ, List.cons_append, strip, if_pos rfl]
    exact strip_pad k l
theorem valB_strip : ∀ l : List Int, valB 8 (strip l) = valB 8 l
  | [] => rfl
  | x :: r => by
    rw [strip]
    split
    · rename_i h
      subst h
      rw [valB_strip r]
      rfl
    · rfl
theorem strip_head : ∀ l : List Int, 0 < (strip l).length → (strip l).getD 0 0 ≠ 0
  | [], h => by simp [strip] at h
  | x :: r, h => by
    rw [strip] at h ⊢
    split
    · rename_i hx
      rw [if_pos hx] at h
      exact strip_head r h
    · rename_i hx
      simpa using hx
theorem strip_of {l : List Int} (h : ¬ (0 < l.length ∧ l.getD 0 0 = 0)) : strip l = l := by
  cases l with
  | nil => rfl
  | cons x r =>
    rw [strip, if_neg]
    intro e
    apply h
    simp [e]
theorem T256_256 : T256 = 256 ^ 32 := by decide
theorem put_val (x : Nat) (hx : x < T256) : valB 8 (putA x 32) = x := by rw [putA_bs, valB_bs, ← T256_256, Nat.mod_eq_of_lt hx]
theorem by_val (x : Nat) (hx : x < T256) : valB 8 (bytesOf x) = x := by unfold bytesOf; rw [valB_strip, put_val x hx]
theorem by_sE (x : Nat) : sE (bytesOf x) = 0 := by
  unfold sE bytesOf
  have h := strip_len (putA x 32)
  rw [putA_len] at h
  rw [if_neg (by omega), if_neg (fun h => strip_head _ h.1 h.2)]
theorem by_sV (x : Nat) (hx : x < T256) : sV (bytesOf x) = x := by unfold sV; rw [if_pos (by_sE x), by_val x hx]
theorem bytes_byte (x : Nat) : ByteL (putA x 32) := by
  rw [putA_bs]
  have : ∀ m x, ByteL (bsL m x) := by
    intro m
    induction m with
    | zero => intro x c hc; simp [bsL] at hc
    | succ m ih =>
      intro x c hc
      rw [bsL] at hc
      rcases List.mem_append.1 hc with h | h
      · exact ih _ c h
      · simp only [List.mem_singleton] at h
        subst h
        omega
  exact this 32 x
theorem strip_byte : ∀ {l : List Int}, ByteL l → ByteL (strip l)
  | [], h => h
  | x :: r, h => by
    rw [strip]
    split
    · exact strip_byte (fun y hy => h y (by simp [hy]))
    · exact h
theorem by_byte (x : Nat) : ByteL (bytesOf x) := strip_byte (bytes_byte x)
theorem sV_lt (l : List Int) (hb : ByteL l) : sV l < T256 := by
  unfold sV
  split
  · rename_i h
    have h32 : l.length ≤ 32 := by
      unfold sE at h
      split at h
      · cases h
      · omega
    have := valB_lt 8 l (fun x hx => ⟨(hb x hx).1, (hb x hx).2⟩)
    refine Nat.lt_of_lt_of_le this ?_
    rw [show T256 = 2 ^ 256 from rfl]
    exact Nat.pow_le_pow_right (by decide) (by omega)
  · exact T256_pos
/-- What is read without zeros ahead is what is written of it. -/
theorem back_by {l : List Int} (hb : ByteL l) (h : sE l = 0) : bytesOf (sV l) = l := by
  have h32 : l.length ≤ 32 := by
    unfold sE at h
    split at h
    · cases h
    · omega
  have h0 : ¬ (0 < l.length ∧ l.getD 0 0 = 0) := by
    intro e
    unfold sE at h
    rw [if_neg (by omega), if_pos e] at h
    cases h
  unfold sV bytesOf
  rw [if_pos h, putA_bs, ← valB_pad (32 - l.length) l, bs_valB 32 _ (by rw [List.length_append, List.length_replicate]; omega) ?_, strip_pad, strip_of h0]
  intro x hx
  rcases List.mem_append.1 hx with h | h
  · rw [List.eq_of_mem_replicate h]; decide
  · exact hb x h
theorem dd_dig : ∀ (u : Nat), allDg (Lib.decDigits u) := by
  intro u
  induction u using Nat.strongRecOn with
  | _ u ih =>
    intro i hi
    by_cases h : u < 10
    · rw [Lib.decDigits_one h] at hi ⊢
      have : i = 0 := by simpa using hi
      subst this
      show isD (UInt8.ofNat (48 + u))
      unfold isD
      rw [UInt8.toNat_ofNat']
      omega
    · rw [dd_big u h] at hi ⊢
      rcases Nat.lt_or_ge i (Lib.decDigits (u / 10)).length with h1 | h1
      · rw [List.getD_eq_getElem?_getD, List.getElem?_append_left h1, ← List.getD_eq_getElem?_getD]
        exact ih (u / 10) (by omega) i h1
      · rw [List.length_append] at hi
        have hi2 : i < (Lib.decDigits (u / 10)).length + 1 := hi
        have e : i - (Lib.decDigits (u / 10)).length = 0 := by omega
        rw [List.getD_eq_getElem?_getD, List.getElem?_append_right h1, e]
        show isD (UInt8.ofNat (48 + u % 10))
        unfold isD
        rw [UInt8.toNat_ofNat']
        omega
theorem dd_val : ∀ (u : Nat), dvL 0 (Lib.decDigits u) = u := by
  intro u
  induction u using Nat.strongRecOn with
  | _ u ih =>
    by_cases h : u < 10
    · rw [Lib.decDigits_one h, dvL_cons, dvL_nil, UInt8.toNat_ofNat']
      omega
    · rw [dd_big u h, dvL_append, ih (u / 10) (by omega), dvL_cons, dvL_nil, UInt8.toNat_ofNat']
      omega
theorem dd_ne (u : Nat) : Lib.decDigits u ≠ [] := by
  intro e
  have h := Lib.decDigits_length u
  rw [e] at h
  have := Lib.nDigits_pos u
  simp at h
  omega
theorem dd_lead : ∀ (u : Nat), ¬ (1 < (Lib.decDigits u).length ∧ (Lib.decDigits u).getD 0 0 = 48) := by
  intro u
  induction u using Nat.strongRecOn with
  | _ u ih =>
    by_cases h : u < 10
    · rw [Lib.decDigits_one h]; simp
    · rw [dd_big u h]
      rintro ⟨_, h2⟩
      have hne := List.length_pos_iff.2 (dd_ne (u / 10))
      rw [List.getD_eq_getElem?_getD, List.getElem?_append_left hne, ← List.getD_eq_getElem?_getD] at h2
      by_cases h3 : u / 10 < 10
      · rw [Lib.decDigits_one h3] at h2
        have h4 : UInt8.ofNat (48 + u / 10) = 48 := h2
        have h5 := congrArg UInt8.toNat h4
        rw [UInt8.toNat_ofNat'] at h5
        have : (48 : UInt8).toNat = 48 := rfl
        omega
      · refine ih (u / 10) (by omega) ⟨?_, h2⟩
        rw [dd_big _ h3, List.length_append]
        have := List.length_pos_iff.2 (dd_ne (u / 10 / 10))
        simp
        omega
theorem dd_pE (x : Nat) (hx : x < T256) : pE (Lib.decDigits x) = 0 := pE_ok (dd_ne x) (dd_dig x) (dd_lead x) (by rw [dd_val]; exact hx)
theorem dd_pV (x : Nat) (hx : x < T256) : pV (Lib.decDigits x) = x := by rw [pV_ok (dd_pE x hx), dd_val]
theorem dd_dv : ∀ (n : Nat) (l : List UInt8), l.length = n → l ≠ [] → allDg l → ¬ (1 < l.length ∧ l.getD 0 0 = 48) → Lib.decDigits (dvL 0 l) = l := by
  intro n
  induction n with
  | zero => intro l hl h0; exact absurd (List.eq_nil_of_length_eq_zero hl) h0
  | succ n ih =>
    intro l hl h0 hd hz
    rcases (show l = [] ∨ ∃ r c, l = r ++ [c] by rcases List.eq_nil_or_concat l with h | ⟨r, c, h⟩; exact .inl h; exact .inr ⟨r, c, by rw [h, List.concat_eq_append]⟩) with rfl | ⟨r, c, rfl⟩
    · simp at hl
    · have hr : r.length = n := by rw [List.length_append] at hl; simpa using hl
      have hc : isD c := by
        have := hd r.length (by simp)
        rwa [List.getD_eq_getElem?_getD, List.getElem?_append_right (Nat.le_refl _), Nat.sub_self] at this
      unfold isD at hc
      have hcr : UInt8.ofNat (48 + (c.toNat - 48)) = c := by
        apply UInt8.toNat_inj.1
        rw [UInt8.toNat_ofNat']
        have := c.toNat_lt
        omega
      rw [dvL_append, dvL_cons, dvL_nil]
      by_cases hrn : r = []
      · subst hrn
        rw [dvL_nil, Nat.zero_mul, Nat.zero_add, Lib.decDigits_one (by omega), hcr]
        rfl
      · have hrl := List.length_pos_iff.2 hrn
        have hg : (r ++ [c]).getD 0 0 = r.getD 0 0 := by rw [List.getD_eq_getElem?_getD, List.getElem?_append_left hrl, ← List.getD_eq_getElem?_getD]
        have hrd : allDg r := by
          intro i hi
          have := hd i (by rw [List.length_append]; omega)
          rwa [List.getD_eq_getElem?_getD, List.getElem?_append_left hi, ← List.getD_eq_getElem?_getD] at this
        have hlen : (r ++ [c]).length = r.length + 1 := by simp
        have hrz : r.getD 0 0 ≠ 48 := fun e => hz ⟨by omega, by rw [hg]; exact e⟩
        have hih := ih r hr hrn hrd (fun h => hrz h.2)
        have hpos : 0 < dvL 0 r := by
          rcases Nat.eq_zero_or_pos (dvL 0 r) with h | h
          · rw [h, Lib.decDigits_one (by decide)] at hih
            exact absurd (by rw [← hih]; rfl) hrz
          · exact h
        rw [dd_big _ (by omega)]
        have e1 : (dvL 0 r * 10 + (c.toNat - 48)) / 10 = dvL 0 r := by omega
        have e2 : (dvL 0 r * 10 + (c.toNat - 48)) % 10 = c.toNat - 48 := by omega
        rw [e1, e2, hih, hcr]
/-- Two texts without zeros ahead that tell one number are one. -/
theorem back_txt {l : List UInt8} (h : pE l = 0) : Lib.decDigits (pV l) = l := by
  have hok : l ≠ [] ∧ allDg l ∧ ¬ (1 < l.length ∧ l.getD 0 0 = 48) := by
    unfold pE at h
    split at h
    · cases h
    · rename_i h1
      split at h
      · cases h
      · rename_i h2
        exact ⟨fun e => h1 (.inl e), Classical.byContradiction fun e => h1 (.inr e), h2⟩
  rw [pV_ok h]
  exact dd_dv l.length l rfl hok.1 hok.2.1 hok.2.2
set_option maxHeartbeats 8000000 in
set_option maxRecDepth 100000 in
theorem walkU256Back (w : World) (x : Nat) (hx : x < T256) (A : Option Addr) (nb cb' : Nat) (lb' : List Int) (hSb : Sl .u8 w A nb lb') (hbb : ByteL lb') (l : List UInt8) (hn : l.length ≤ 9223372036854775807) (hT : TensIn w) (htab : Lib.TabIs Tryd.prog w "internal/strconv.uint64pow10" .u64 Lib.pow10Tab) :
    Calls Tryd.prog 4 #[U x, .slice A nb cb', .string ⟨l.toArray⟩] w fun e w' => e = .returned (.bool true) ∧ Below w.heap.size w w' := by
  have hput := fun w' => put_v x w'
  have hpl : (putA x 32).length = 32 := putA_len x 32
  have hpb := bytes_byte x
  have hpv := put_val x hx
  obtain ⟨P, hP⟩ : ∃ P, P = putA x 32 := ⟨_, rfl⟩
  rw [← hP] at hput hpl hpb hpv
  have hget : ∀ (ρ : Env) w', Fr No w w' → hasAll (ctx Tryd.prog w Tryd.f4.ntmps) ρ w' [(104, ⟨[.ints .u8 32 P], 34, .arr⟩)] → Calls Tryd.prog 11 #[AV.conc ρ (.lst 104 0 0 32 32)] w' fun e w'' => e = .returned (AV.conc ρ (.tup [.val (U x), .val (.int .i64 0)])) ∧ Below w'.heap.size w' w'' := by
    intro ρ w' hf hh
    have hS : Sl .u8 w' (some ⟨ρ.b 104, 0, none⟩) 32 P := arr_Sl hh.1.1 hpl (fun j hj => by
      simp only [Seg.cells, Seg.cell1, List.append_nil, Nat.zero_add]
      exact vals_get .u8 P j (by omega))
    have h := get_c w' _ 32 32 P hS hpb (Nat.le_refl _)
    unfold getR at h
    rw [hpv] at h
    exact h
  have hby := fun (w' : World) (_ : Fr No w w') => bytes_c x hx w'
  have hyb := by_byte x
  have hyE := by_sE x
  have hyV := by_sV x hx
  obtain ⟨Y, hY⟩ : ∃ Y, Y = bytesOf x := ⟨_, rfl⟩
  rw [← hY] at hby hyb hyE hyV
  obtain ⟨m, hm⟩ : ∃ m, m = Y.length := ⟨_, rfl⟩
  have hst : ∀ (ρ : Env) w', Fr No w w' → hasAll (ctx Tryd.prog w Tryd.f4.ntmps) ρ w' [(115, ob m Y)] → Calls Tryd.prog 12 #[AV.conc ρ (.own 115 1 0 m)] w' fun e w'' => e = .returned (AV.conc ρ (.tup [.val (U x), .val (.int .i64 0)])) ∧ Below w'.heap.size w' w'' := by
    intro ρ w' hf hh
    obtain ⟨A', c', e, hS, _⟩ := own_Sl hh.1.1 hm.symm
    rw [e]
    have h := strict_c w' A' m c' Y hS hyb
    unfold getR at h
    rw [hyE, hyV] at h
    exact h
  have ht1 := fun (w' : World) (hf : Fr No w w') => text_c x hx w' (hT.fr hf) (tabIs_fr htab hf)
  have hp1 := fun (w' : World) (hf : Fr No w w') => parse_c w' (hT.fr hf) (Lib.decDigits x) (by
    rw [Lib.decDigits_length]
    have : Lib.nDigits x ≤ 78 := nd_le (k := 77) (Nat.lt_of_lt_of_le hx (by decide))
    omega)
  unfold tR at ht1
  unfold PR at hp1
  rw [dd_pE x hx, dd_pV x hx] at hp1
  have hdl : ((⟨(Lib.decDigits x).toArray⟩ : ByteArray).size : Int) = (Lib.nDigits x : Int) := by rw [dd_size]
  have hnd := Lib.nDigits_pos x
  obtain ⟨d, hd⟩ : ∃ d, d = Lib.nDigits x := ⟨_, rfl⟩
  rw [← hd] at hdl hnd
  have hd0 : ((d : Int) == 0) = false := by simp; omega
  obtain ⟨D, hD⟩ : ∃ D : ByteArray, D = ⟨(Lib.decDigits x).toArray⟩ := ⟨_, rfl⟩
  rw [← hD] at ht1 hp1 hdl
  have hs2 := fun (w' : World) (hf : Fr No w w') => strict_c w' A nb cb' lb' (hSb.frN hf) hbb
  unfold getR at hs2
  have hzT := sV_lt lb' hbb
  have hback := back_by hbb
  have hps := fun (w' : World) (hf : Fr No w w') => parse_c w' (hT.fr hf) l hn
  unfold PR at hps
  have hkT := pV_lt l
  have htxt := back_txt (l := l)
  have hzero : (!((0 : Int) == 0)) = false := rfl
  have hqs := eqU_self x hx
  obtain ⟨z, hz⟩ : ∃ z, z = sV lb' := ⟨_, rfl⟩
  obtain ⟨h, hh⟩ : ∃ h, h = sE lb' := ⟨_, rfl⟩
  obtain ⟨t, ht⟩ : ∃ t, t = pV l := ⟨_, rfl⟩
  obtain ⟨k, hk⟩ : ∃ k, k = pE l := ⟨_, rfl⟩
  rw [← hz, ← hh] at hs2
  rw [← hz] at hzT
  rw [← hz, ← hh] at hback
  rw [← ht, ← hk] at hps
  rw [← ht] at hkT
  rw [← ht, ← hk] at htxt
  obtain ⟨S, hS⟩ : ∃ S : ByteArray, S = ⟨l.toArray⟩ := ⟨_, rfl⟩
  rw [← hS] at hps ⊢
  have hcase : ∀ (st : AS), st = ⟨[(2, .val (.string S))], []⟩ → wpK (ctx Tryd.prog w Tryd.f4.ntmps) Tryd.f4 (fun e w' => e = .returned (.bool true) ∧ Below w.heap.size w w') (regAt Tryd.f4 10) st := by
    rintro st rfl
    by_cases hk0 : k = 0
    · have hkz : (!(k == 0)) = false := by simp [hk0]
      have hS2 : (⟨(Lib.decDigits t).toArray⟩ : ByteArray) = S := by rw [htxt hk0, hS]
      have htt := fun (w' : World) (hf : Fr No w w') => text_c t hkT w' (hT.fr hf) (tabIs_fr htab hf)
      unfold tR at htt
      rw [hS2] at htt
      have heq := str_same S
      refine wpK_end (n := 400) (m := 0) (nx := 300) (hs := [(84, .call (.tup [.val (U t), .val (.int .i64 k)])), (88, .eq (.val (.bool false))), (91, .call (.val (.string S))), (93, .eq (.val (.bool true)))]) (v := .val (.bool true)) follows (And.intro (fun w' hf => hps w' hf) (And.intro (show AV.ok No (.tup [.val (U t), .val (.int .i64 k)]) from ⟨trivial, trivial, trivial⟩) (And.intro (congrArg Value.bool hkz) (And.intro (fun w' hf => htt w' hf) (congrArg Value.bool heq))))) (by kernel_rfl) ?_
      intro ρ w' hf; exact ⟨rfl, hf.to_below⟩
    · have hkz : (!(k == 0)) = true := by simp [hk0]
      refine wpK_end (n := 400) (m := 0) (nx := 300) (hs := [(84, .call (.tup [.val (U t), .val (.int .i64 k)])), (88, .eq (.val (.bool true)))]) (v := .val (.bool true)) follows (And.intro (fun w' hf => hps w' hf) (And.intro (show AV.ok No (.tup [.val (U t), .val (.int .i64 k)]) from ⟨trivial, trivial, trivial⟩) (congrArg Value.bool hkz))) (by kernel_rfl) ?_
      intro ρ w' hf; exact ⟨rfl, hf.to_below⟩
  refine calls_vm [.val (U x), .val (.slice A nb cb'), .val (.string S)] (fn := Tryd.f4) Tryd.func4 (by kernel_rfl) (by kernel_rfl) (by kernel_rfl) (by simp [AV.okL, AV.ok]) ?_
  by_cases hh0 : h = 0
  · have he : (h == 0) = true := by simp [hh0]
    have hYb := hback hh0
    have hby2 := fun (w' : World) (_ : Fr No w w') => bytes_c z hzT w'
    rw [hYb] at hby2
    have hnb : lb'.length = nb := hSb.1
    have hnb32 : nb ≤ 9223372036854775807 := by
      have h := hh.symm.trans hh0
      unfold sE at h
      split at h
      · cases h
      · omega
    have hsm : ∀ (ρ : Env) w', Fr No w w' → hasAll (ctx Tryd.prog w Tryd.f4.ntmps) ρ w' [(175, ob nb lb')] → Calls Tryd.prog 14 #[AV.conc ρ (.own 175 1 0 nb), .slice A nb cb'] w' fun e w'' => e = .returned (AV.conc ρ (.val (.bool true))) ∧ Below w'.heap.size w' w'' := by
      intro ρ w' hf hh
      obtain ⟨A', c', e, hS', hcc, _⟩ := own_Sl hh.1.1 hnb
      rw [e]
      have h := same_c w' A' A nb nb c' cb' lb' lb' hS' (hSb.frN hf) hnb32
      unfold smR at h
      rw [decide_eq_true rfl] at h
      exact h
    refine wpK_loop (n := 400) (m := 0) (nx := 100) (hs := [(19, .call (bytesA P)), (22, .callM [104] (.tup [.val (U x), .val (.int .i64 0)]) none), (27, .callM [] (.own 115 1 0 m) (some (ob m Y))), (28, .callM [115] (.tup [.val (U x), .val (.int .i64 0)]) none), (33, .call (.val (.string D))), (34, .call (.tup [.val (U x), .val (.int .i64 0)])), (38, .eq (.val (.bool false))), (41, .eq (.val (.bool false))), (45, .eq (.val (.bool false))), (50, .cmp true), (55, .cmp true), (60, .cmp true), (64, .call (.val (.string D))), (65, .eq (.val (.int .i64 (d : Int)))), (66, .eq (.val (.bool false))), (70, .call (.tup [.val (U z), .val (.int .i64 h)])), (74, .eq (.val (.bool true))), (77, .callM [] (.own 175 1 0 nb) (some (ob nb lb'))), (79, .callM [175] (.val (.bool true)) none), (88888, .subE)]) (st' := regAt Tryd.f4 10) (s' := ⟨[(2, .val (.string S))], []⟩) follows [] [2] [] (And.intro (vcall w (fun w => hput w)) (And.intro (show AV.ok No (bytesA P) from ⟨hpl, trivial⟩) (And.intro hget (And.intro (show ∀ D : Nat → Prop, (∀ k, k ∈ [104] → D k) → AV.ok D (.tup [.val (U x), .val (.int .i64 0)]) from fun _ _ => ⟨trivial, trivial, trivial⟩) (And.intro (callG (w := w) Tryd.f4.ntmps 115 m hby hm.symm) (And.intro (show Seg.ok No [.ints .u8 m Y] from ⟨hm.symm, trivial⟩) (And.intro (show ∀ D : Nat → Prop, D 115 → (∀ k, k ∈ ([] : List Nat) → D k) → AV.ok D (.own 115 1 0 m) from fun _ h _ => h) (And.intro hst (And.intro (show ∀ D : Nat → Prop, (∀ k, k ∈ [115] → D k) → AV.ok D (.tup [.val (U x), .val (.int .i64 0)]) from fun _ _ => ⟨trivial, trivial, trivial⟩) (And.intro (fun w' hf => ht1 w' hf) (And.intro (fun w' hf => hp1 w' hf) (And.intro (show AV.ok No (.tup [.val (U x), .val (.int .i64 0)]) from ⟨trivial, trivial, trivial⟩) (And.intro (congrArg Value.bool hzero) (And.intro (congrArg Value.bool hzero) (And.intro (congrArg Value.bool hzero) (And.intro (fun w => hqs w) (And.intro (fun w => hqs w) (And.intro (fun w => hqs w) (And.intro (fun w' hf => ht1 w' hf) (And.intro (congrArg (Value.int .i64) hdl) (And.intro (congrArg Value.bool hd0) (And.intro (fun w' hf => hs2 w' hf) (And.intro (show AV.ok No (.tup [.val (U z), .val (.int .i64 h)]) from ⟨trivial, trivial, trivial⟩) (And.intro (congrArg Value.bool he) (And.intro (callG (w := w) Tryd.f4.ntmps 175 nb hby2 hnb) (And.intro (show Seg.ok No [.ints .u8 nb lb'] from ⟨hnb, trivial⟩) (And.intro (show ∀ D : Nat → Prop, D 175 → (∀ k, k ∈ ([] : List Nat) → D k) → AV.ok D (.own 175 1 0 nb) from fun _ h _ => h) (And.intro hsm (show ∀ D : Nat → Prop, (∀ k, k ∈ [175] → D k) → AV.ok D (.val (.bool true)) from fun _ _ => trivial))))))))))))))))))))))))))))) (by kernel_rfl) ?_
    exact hcase _ rfl
  · have he : (h == 0) = false := by simp [hh0]
    refine wpK_loop (n := 400) (m := 0) (nx := 100) (hs := [(19, .call (bytesA P)), (22, .callM [104] (.tup [.val (U x), .val (.int .i64 0)]) none), (27, .callM [] (.own 115 1 0 m) (some (ob m Y))), (28, .callM [115] (.tup [.val (U x), .val (.int .i64 0)]) none), (33, .call (.val (.string D))), (34, .call (.tup [.val (U x), .val (.int .i64 0)])), (38, .eq (.val (.bool false))), (41, .eq (.val (.bool false))), (45, .eq (.val (.bool false))), (50, .cmp true), (55, .cmp true), (60, .cmp true), (64, .call (.val (.string D))), (65, .eq (.val (.int .i64 (d : Int)))), (66, .eq (.val (.bool false))), (70, .call (.tup [.val (U z), .val (.int .i64 h)])), (74, .eq (.val (.bool false))), (88888, .subE)]) (st' := regAt Tryd.f4 10) (s' := ⟨[(2, .val (.string S))], []⟩) follows [] [2] [] (And.intro (vcall w (fun w => hput w)) (And.intro (show AV.ok No (bytesA P) from ⟨hpl, trivial⟩) (And.intro hget (And.intro (show ∀ D : Nat → Prop, (∀ k, k ∈ [104] → D k) → AV.ok D (.tup [.val (U x), .val (.int .i64 0)]) from fun _ _ => ⟨trivial, trivial, trivial⟩) (And.intro (callG (w := w) Tryd.f4.ntmps 115 m hby hm.symm) (And.intro (show Seg.ok No [.ints .u8 m Y] from ⟨hm.symm, trivial⟩) (And.intro (show ∀ D : Nat → Prop, D 115 → (∀ k, k ∈ ([] : List Nat) → D k) → AV.ok D (.own 115 1 0 m) from fun _ h _ => h) (And.intro hst (And.intro (show ∀ D : Nat → Prop, (∀ k, k ∈ [115] → D k) → AV.ok D (.tup [.val (U x), .val (.int .i64 0)]) from fun _ _ => ⟨trivial, trivial, trivial⟩) (And.intro (fun w' hf => ht1 w' hf) (And.intro (fun w' hf => hp1 w' hf) (And.intro (show AV.ok No (.tup [.val (U x), .val (.int .i64 0)]) from ⟨trivial, trivial, trivial⟩) (And.intro (congrArg Value.bool hzero) (And.intro (congrArg Value.bool hzero) (And.intro (congrArg Value.bool hzero) (And.intro (fun w => hqs w) (And.intro (fun w => hqs w) (And.intro (fun w => hqs w) (And.intro (fun w' hf => ht1 w' hf) (And.intro (congrArg (Value.int .i64) hdl) (And.intro (congrArg Value.bool hd0) (And.intro (fun w' hf => hs2 w' hf) (And.intro (show AV.ok No (.tup [.val (U z), .val (.int .i64 h)]) from ⟨trivial, trivial, trivial⟩) (congrArg Value.bool he)))))))))))))))))))))))) (by kernel_rfl) ?_
    exact hcase _ rfl
end Go.Proofs.YthgnmpjcbicdhaaDoor

