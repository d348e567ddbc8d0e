/- The sponge takes a text in. -/
import Derived.Test.YtkanjdllaikoaaaDoorSpA
import Derived.Test.YtkanjdllaikoaaaDoorSl
set_option linter.unusedSimpArgs false
set_option linter.unusedVariables false
namespace Go.Proofs.YtkanjdllaikoaaaDoor
open Go Go.RowKit

def wrS (A : Option Addr) (n c : Nat) (kind : Int) (a : Nat → B64) (part : List Int) (held : Nat) (long : Int) : AS := ⟨[(0, .ptr 0 0), (1, .val (.slice A n c))], [(0, spB kind a part (held : Int) long)]⟩
/-- What a sponge holds: lanes, part, held. -/
abbrev SpT := (Nat → B64) × List Int × Nat
abbrev spS (kind : Int) (s : SpT) (long : Int) : Vblk := spB kind s.1 s.2.1 (s.2.2 : Int) long
def wrF : Nat → SpT → List Int → SpT
  | 0, s, _ => s
  | m + 1, s, l => if l.length = 0 then s else
    if s.2.2 + min l.length (136 - s.2.2) = 136 then wrF m (permN (inL s.1 (fun i => (putAt s.2.1 s.2.2 (l.take (min l.length (136 - s.2.2)))).getD i 0) 136) 24, putAt s.2.1 s.2.2 (l.take (min l.length (136 - s.2.2))), 0) (l.drop (min l.length (136 - s.2.2)))
    else wrF m (s.1, putAt s.2.1 s.2.2 (l.take (min l.length (136 - s.2.2))), s.2.2 + min l.length (136 - s.2.2)) (l.drop (min l.length (136 - s.2.2)))
/-- It holds the text, and the new one behind. -/
theorem wrF_spo : ∀ (m : Nat) (t : List Int) (s : SpT) (l : List Int), l.length ≤ m → Spo t s.1 s.2.1 s.2.2 → Spo (t ++ l) (wrF m s l).1 (wrF m s l).2.1 (wrF m s l).2.2
  | 0, t, s, l, hm, h => by
    obtain rfl : l = [] := List.eq_nil_of_length_eq_zero (by omega)
    rw [List.append_nil]; exact h
  | m + 1, t, s, l, hm, h => by
    unfold wrF
    by_cases h0 : l.length = 0
    · obtain rfl : l = [] := List.eq_nil_of_length_eq_zero h0
      simp only [List.length_nil, if_true, List.append_nil]
      exact h
    · rw [if_neg h0]
      have hh := h.hh
      obtain ⟨q, hq⟩ : ∃ q, q = min l.length (136 - s.2.2) := ⟨_, rfl⟩
      rw [← hq]
      have hyl : (l.take q).length = q := by rw [List.length_take]; omega
      have e : t ++ l = (t ++ l.take q) ++ l.drop q := by rw [List.append_assoc, List.take_append_drop]
      rw [e]
      by_cases hf : s.2.2 + q = 136
      · rw [if_pos hf]
        exact wrF_spo m _ _ _ (by rw [List.length_drop]; omega) (h.full (l.take q) (by rw [hyl]; exact hf))
      · rw [if_neg hf]
        refine wrF_spo m _ _ _ (by rw [List.length_drop]; omega) ?_
        have := h.more (l.take q) (by rw [hyl]; omega)
        rw [hyl] at this
        exact this
def wrP (w : World) (B : Nat) (kind : Int) (s : SpT) (long : Int) (e : Ending) (w' : World) : Prop :=
  e = .returned (.tuple #[]) ∧ Fr (fun k => k = B) w w' ∧ Sits (At B) w' 0 (spS kind s long)
theorem info8 : (Tryd.prog.info? 5).map (·.size) = some 1 := by kernel_rfl
set_option maxHeartbeats 4000000 in
theorem write_round (w : World) (B : Nat) (kind : Int) (long : Int) :
    ∀ (m n : Nat), n ≤ m → ∀ (A : Option Addr) (c : Nat) (l t : List Int) (a : Nat → B64) (part : List Int) (held : Nat), n ≤ c → (∀ w', Fr (fun k => k = B) w w' → Sl .u8 w' A n l) → Spo t a part held →
    wpK (ctxF Tryd.prog w (fun k => k = B) (At B) 1 Tryd.f66.ntmps) Tryd.f66 (wrP w B kind (wrF m (a, part, held) l) long) (loopAt Tryd.f66 0) (wrS A n c kind a part held long) := by
  intro m
  induction m with
  | zero =>
    intro n hnm A c l t a part held hc hS hP
    obtain rfl : n = 0 := by omega
    have hl : l = [] := by have := (hS w (Fr.refl _ _)).1; exact List.eq_nil_of_length_eq_zero this
    subst hl
    have hgt : decide (((0 : Nat) : Int) > 0) = false := by simp
    refine wpK_endF (n := 400) (m := 0) (nx := 0) (hs := [(18, .eq (.val (.bool false)))]) (v := .tup []) (bs := [(0, spB kind a part (held : Int) long)]) follows [0] (congrArg Value.bool hgt) (by kernel_rfl) ?_
    intro ρ w' hf hx hh
    exact ⟨rfl, hf, spSits (hx 0 Nat.zero_lt_one).1 hh.1.1⟩
  | succ m ih =>
    intro n hnm A c l t a part held hc hS hP
    rcases Nat.eq_zero_or_pos n with h0 | hpos
    · subst h0
      have hl := (hS w (Fr.refl _ _)).1
      have := ih 0 (by omega) A c l t a part held hc hS hP
      have e : ∀ m, wrF m (a, part, held) l = (a, part, held) := by
        intro m
        cases m with
        | zero => rfl
        | succ m => unfold wrF; rw [if_pos hl]
      rw [e] at this ⊢
      exact this
    obtain ⟨ad, rfl⟩ := (hS w (Fr.refl _ _)).has hpos
    have hll : l.length = n := (hS w (Fr.refl _ _)).1
    have hgt : decide ((n : Int) > 0) = true := by simp; omega
    have hhd := hP.hh
    have hh136 : held < 136 := by omega
    obtain ⟨q, hq⟩ : ∃ q, q = Nat.min n (136 - held) := ⟨_, rfl⟩
    have hqm : q = min n (136 - held) := hq
    have hqn : q ≤ n := by omega
    have hqh : held + q ≤ 136 := by omega
    have hq0 : 0 < q := by omega
    obtain ⟨ys, hys⟩ : ∃ ys, ys = l.take q := ⟨_, rfl⟩
    have hyl : ys.length = q := by rw [hys, List.length_take]; omega
    obtain ⟨xs, hxs⟩ : ∃ xs, xs = putAt part held ys := ⟨_, rfl⟩
    have hcp : xs = part.take held ++ (ys ++ part.drop (held + q)) := by rw [hxs, ← hyl]; rfl
    have hsrc : ∀ w', Fr (fun k => k = B) w w' → 0 < ys.length → ∃ ad', some ad = some ad' ∧ ∀ j v, (ys.map (Value.int .u8))[j]? = some v → w'.cell? (ad'.add j) = some v := by
      intro w' hf
      rw [hys]
      exact (hS w' hf).src q hqn
    have htl : t ++ l = (t ++ ys) ++ l.drop q := by rw [hys, List.append_assoc, List.take_append_drop]
    have hS' : ∀ w', Fr (fun k => k = B) w w' → Sl .u8 w' (some (if c = q then ad else ad.add q)) (n - q) (l.drop q) := fun w' hf => (hS w' hf).dropC q hc
    have hw : IntKind.i64.wrap ((held : Int) + (q : Int)) = ((held + q : Nat) : Int) := by rw [IntKind.wrap_i64]; omega
    have hwf : wrF (m + 1) (a, part, held) l = if held + q = 136 then wrF m (permN (inL a (fun i => xs.getD i 0) 136) 24, xs, 0) (l.drop q) else wrF m (a, xs, held + q) (l.drop q) := by
      conv => lhs; unfold wrF
      have hqm' : min l.length (136 - held) = q := by rw [hll]; exact hqm.symm
      simp only
      rw [if_neg (by omega), hqm', hxs, hys]
    rw [hwf]
    by_cases hfull : held + q = 136
    · rw [if_pos hfull]
      have h136 : decide (((held + q : Nat) : Int) = 136) = true := by simp; omega
      have hx136 : xs.length = 136 := by rw [hxs, putAt_len _ _ _ (by rw [hP.hl]; omega), hP.hl]
      have hP' := hP.full ys (by rw [hyl]; exact hfull)
      rw [← hxs] at hP'
      have hab : ∀ (ρ : Env) w', Fr (fun k => k = B) w w' → hasAll (ctxF Tryd.prog w (fun k => k = B) (At B) 1 Tryd.f66.ntmps) ρ w' [(0, spB kind a xs ((held + q : Nat) : Int) long)] → Calls Tryd.prog 79 #[.pointer (some ⟨ρ.b 0, 0, none⟩)] w' fun e w'' => e = .returned (AV.conc ρ (.tup [])) ∧ Fr (fun b => b = ρ.b 0 ∧ (spB kind a xs ((held + q : Nat) : Int) long).alive ρ 0) w' w'' ∧ Sits ρ w'' 0 (spB kind (permN (inL a (fun i => xs.getD i 0) 136) 24) xs 0 long) ∧ ((spB kind (permN (inL a (fun i => xs.getD i 0) 136) 24) xs 0 long).alive ρ 0 → (spB kind a xs ((held + q : Nat) : Int) long).alive ρ 0) := by
        intro ρ w' hf hh
        refine (absorb_c w' (ρ.b 0) kind a xs ((held + q : Nat) : Int) long hx136 (spSits rfl hh.1.1)).mono ?_
        rintro e w'' ⟨rfl, h2, h3⟩
        refine ⟨rfl, ⟨h2.os, h2.tape, h2.output, h2.size, fun k hk hF => h2.block k hk fun e => hF ⟨e, trivial⟩⟩, spSits rfl h3, fun _ => trivial⟩
      refine wpK_loop (n := 400) (m := 0) (nx := 300) (hs := [(18, .eq (.val (.bool true))), (26, .sub held 136), (28, .copy ys xs q), (31, .as (.val (.slice (some (if c = q then ad else ad.add q)) (n - q) (c - q)))), (37, .eq (.val (.int .i64 ((held + q : Nat) : Int)))), (44, .eq (.val (.bool true))), (46, .callW [] 0 (spB kind (permN (inL a (fun i => xs.getD i 0) 136) 24) xs 0 long) (.tup []))]) (st' := loopAt Tryd.f66 0) (s' := wrS (some (if c = q then ad else ad.add q)) (n - q) (c - q) kind (permN (inL a (fun i => xs.getD i 0) 136) 24) xs 0 long) follows [] [0, 1] [(0, 0)] (And.intro (congrArg Value.bool hgt) (And.intro (rfl : (held : Int) = (held : Int)) (And.intro (rfl : (136 : Nat) = 136) (And.intro (show held ≤ 136 by omega) (And.intro (Nat.le_refl 136) (And.intro (show held < 136 by omega) (And.intro hq (And.intro hyl (And.intro hqh (And.intro hcp (And.intro hsrc (And.intro (sl_lo (F := (fun k => k = B)) (w := w) (A := ad) (k := .i64) Tryd.underlying22 info8 hqn hc) (And.intro (congrArg (Value.int .i64) hw) (And.intro (congrArg Value.bool h136) (And.intro hab (And.intro (okN (k := 0) (rd := []) (spOk kind (permN (inL a (fun i => xs.getD i 0) 136) 24) xs 0 long hx136)) (show ∀ D : Nat → Prop, D 0 → (∀ k, k ∈ ([] : List Nat) → D k) → AV.ok D (.tup []) from fun _ _ _ => trivial))))))))))))))))) (by kernel_rfl) ?_
      exact ih (n - q) (by omega) _ _ _ _ _ _ _ (by omega) hS' hP'
    · rw [if_neg hfull]
      have h136 : decide (((held + q : Nat) : Int) = 136) = false := by simp; omega
      have hP' := hP.more ys (by rw [hyl]; omega)
      rw [← hxs, hyl] at hP'
      refine wpK_loop (n := 400) (m := 0) (nx := 300) (hs := [(18, .eq (.val (.bool true))), (26, .sub held 136), (28, .copy ys xs q), (31, .as (.val (.slice (some (if c = q then ad else ad.add q)) (n - q) (c - q)))), (37, .eq (.val (.int .i64 ((held + q : Nat) : Int)))), (44, .eq (.val (.bool false)))]) (st' := loopAt Tryd.f66 0) (s' := wrS (some (if c = q then ad else ad.add q)) (n - q) (c - q) kind a xs (held + q) long) follows [] [0, 1] [(0, 0)] (And.intro (congrArg Value.bool hgt) (And.intro (rfl : (held : Int) = (held : Int)) (And.intro (rfl : (136 : Nat) = 136) (And.intro (show held ≤ 136 by omega) (And.intro (Nat.le_refl 136) (And.intro (show held < 136 by omega) (And.intro hq (And.intro hyl (And.intro hqh (And.intro hcp (And.intro hsrc (And.intro (sl_lo (F := (fun k => k = B)) (w := w) (A := ad) (k := .i64) Tryd.underlying22 info8 hqn hc) (And.intro (congrArg (Value.int .i64) hw) (congrArg Value.bool h136)))))))))))))) (by kernel_rfl) ?_
      exact ih (n - q) (by omega) _ _ _ _ _ _ _ (by omega) hS' hP'
theorem write_c (w : World) (B : Nat) (kind : Int) (t : List Int) (long : Int) (s : SpT) (hP : Spo t s.1 s.2.1 s.2.2) (A : Option Addr) (n c : Nat) (l : List Int) (hc : n ≤ c) (hS : ∀ w', Fr (fun k => k = B) w w' → Sl .u8 w' A n l) (hs : Sits (At B) w 0 (spS kind s long)) :
    Calls Tryd.prog 66 #[.pointer (some ⟨B, 0, none⟩), .slice A n c] w (wrP w B kind (wrF n s l) (IntKind.i64.wrap (long + (n : Int)))) := by
  obtain ⟨a, part, held⟩ := s
  refine calls_vmF (F := (fun k => k = B)) (ρ0 := At B) (n0 := 1) [(0, spB kind a part (held : Int) long)] [.ptr 0 0, .val (.slice A n c)] (fn := Tryd.f66) Tryd.func66 (by kernel_rfl) (by kernel_rfl) (by kernel_rfl) (relM_one hs (spOk kind a part (held : Int) long hP.hl)) ⟨rfl, trivial, trivial⟩ ?_
  refine wpK_loop (n := 400) (m := 0) (nx := 0) (hs := [(6, .as (.val (.bool false)))]) (st' := loopAt Tryd.f66 0) (s' := wrS A n c kind a part held (IntKind.i64.wrap (long + (n : Int)))) follows [] [0, 1] [(0, 0)] (ptr_eqNil (F := (fun k => k = B)) (w := w) Tryd.underlying120 0 0) (by kernel_rfl) ?_
  exact write_round w B kind _ n n (Nat.le_refl n) A c l t a part held hc hS hP
end Go.Proofs.YtkanjdllaikoaaaDoor

