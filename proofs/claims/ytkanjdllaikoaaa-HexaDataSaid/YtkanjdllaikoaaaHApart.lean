/- apart: two lists that are alive at one time share no memory. -/
import Derived.Test.YtkanjdllaikoaaaProg
import Derived.Test.YtkanjdllaikoaaaBase
import Derived.Test.YtkanjdllaikoaaaApp
import Derived.Test.YtkanjdllaikoaaaWMore
set_option linter.unusedSimpArgs false
set_option linter.unusedVariables false
namespace Go.Proofs.Ytkanjdllaikoaaa
open Go Go.RowKit Go.Proofs.YtkanjdllaikoaaaW.PrintWords Go.Proofs.YtkanjdllaikoaaaW.PrintLast Go.Proofs.YtkanjdllaikoaaaW.PrintMore

theorem info8 : (Try.prog.info? 5).map (fun i => (i.zero, i.size, i.bytes)) = some (some (.int .u8 0), 1, 1) := by kernel_rfl
abbrev Own (W : World) (base : Nat) (v : Value) (n : Nat) (xs : List Int) : Prop := W.ownsRow base 5 1 v n (nums .u8 xs)
def sep (v u : Value) : Prop := v.ownBlock = none ∨ v.ownBlock ≠ u.ownBlock
theorem sep.comm {v u : Value} (h : sep v u) : sep u v := by
  unfold sep at *
  rcases h with h | h
  · cases e : u.ownBlock with
    | none => exact .inl rfl
    | some k => exact .inr (by rw [h]; simp)
  · exact .inr (fun e => h e.symm)
theorem own_elem {W : World} {base n k c : Nat} {A : Option Addr} {xs : List Int} (ho : Own W base (.slice A n c) n xs) (hk : k < n) :
    ∃ b, A = some ⟨b, 0, none⟩ ∧ W.cell? ⟨b, k, none⟩ = some (.int .u8 (xs.getD k 0)) ∧ W.frozen? ⟨b, k, none⟩ = false ∧ b < W.heap.size ∧ base ≤ b ∧
      ∀ x : Int, Own (W.setCell ⟨b, k, none⟩ (.int .u8 x)) base (.slice A n c) n (xs.set k x) := by
  have hl : xs.length = n := by have := ho.1; simp [nums] at this; exact this
  rcases ho.2 with ⟨e1, h0⟩ | ⟨b, cap, cur, e1, hb, hh, hnc, hcm, hsz, htk⟩
  · omega
  · simp only [Value.slice.injEq] at e1
    obtain ⟨rfl, _, rfl⟩ := e1
    have hlt : b < W.heap.size := (Array.getElem?_eq_some_iff.1 hh).1
    refine ⟨b, rfl, ?_, ?_, hlt, hb, fun x => ?_⟩
    · have := ho.cells (g := b) rfl k (.int .u8 (xs.getD k 0)) (by simp [nums, hl, hk])
      rwa [Addr.add_lit, Nat.zero_add] at this
    · simp [World.frozen?, hh]
    · refine ⟨by simp [nums, hl], .inr ⟨b, c, cur.setIfInBounds k (.int .u8 x), rfl, hb, ?_, hnc, hcm, by simpa using hsz, ?_⟩⟩
      · simp [World.setCell, Array.getElem?_modify, hh]
      · rw [Array.toList_setIfInBounds, List.take_set, htk]
        simp [nums, List.map_set]
def fill (c : Int) (k : Nat) (xs : List Int) : List Int := List.replicate k c ++ xs.drop k
theorem fill_step (c : Int) (k : Nat) (xs : List Int) (h : k < xs.length) : (fill c k xs).set k c = fill c (k + 1) xs := by
  unfold fill
  rw [List.set_append_right _ _ (by simp)]
  simp only [List.length_replicate, Nat.sub_self]
  rw [List.drop_eq_getElem_cons h, List.set_cons_zero, List.replicate_succ']
  simp
theorem fill_full (c : Int) (xs : List Int) : fill c xs.length xs = List.replicate xs.length c := by simp [fill]
theorem fill_zero (c : Int) (xs : List Int) : fill c 0 xs = xs := by simp [fill]
theorem fill_len (c : Int) (k : Nat) (xs : List Int) (h : k ≤ xs.length) : (fill c k xs).length = xs.length := by simp [fill]; omega

/-- The two lists. -/
structure Pair (w0 w W : World) (va vb : Value) (na nb : Nat) (xa xb : List Int) : Prop where
  bel : Below w0.heap.size w0 W
  oa : Own W w0.heap.size va na xa
  ob : Own W w0.heap.size vb nb xb
  ab : sep va vb
  fr : ∀ k, k < w.heap.size → va.ownBlock ≠ some k → vb.ownBlock ≠ some k → W.heap[k]? = w.heap[k]?
  sz : w.heap.size ≤ W.heap.size
theorem Pair.swap {w0 w W : World} {va vb : Value} {na nb : Nat} {xa xb : List Int} (h : Pair w0 w W va vb na nb xa xb) : Pair w0 w W vb va nb na xb xa :=
  ⟨h.bel, h.ob, h.oa, h.ab.comm, fun k hk h1 h2 => h.fr k hk h2 h1, h.sz⟩
theorem Pair.put {w0 w W : World} {b c : Nat} {vb : Value} {na nb k : Nat} {xa xb ys : List Int} {x : Int} (h : Pair w0 w W (.slice (some ⟨b, 0, none⟩) na c) vb na nb xa xb)
    (hy : Own (W.setCell ⟨b, k, none⟩ (.int .u8 x)) w0.heap.size (.slice (some ⟨b, 0, none⟩) na c) na ys) (hb : w0.heap.size ≤ b) :
    Pair w0 w (W.setCell ⟨b, k, none⟩ (.int .u8 x)) (.slice (some ⟨b, 0, none⟩) na c) vb na nb ys xb := by
  have hg := grownBy_setCell W b k (.int .u8 x)
  refine ⟨h.bel.setCell hb _, hy, h.ob.kept hg h.ab.comm, h.ab, fun q hq h1 h2 => ?_, by simpa using h.sz⟩
  rw [hg.block q (Nat.lt_of_lt_of_le hq h.sz) (fun e => h1 e.symm)]
  exact h.fr q hq h1 h2
/-- The two lists, and what is appended to them. -/
structure Quad (w0 w W : World) (va vb vc vd : Value) (na nb nc nd : Nat) (xa xb ec ed : List Int) : Prop where
  p : Pair w0 w W va vb na nb xa xb
  oc : Own W w0.heap.size vc nc (xa ++ ec)
  od : Own W w0.heap.size vd nd (xb ++ ed)
  cb : sep vc vb
  da : sep vd va
  cd : sep vc vd
  la : (∃ b c c', va = .slice (some ⟨b, 0, none⟩) na c ∧ vc = .slice (some ⟨b, 0, none⟩) nc c') ∨ (sep va vc ∧ (∀ k, vc.ownBlock = some k → w.heap.size ≤ k))
  lb : (∃ b c c', vb = .slice (some ⟨b, 0, none⟩) nb c ∧ vd = .slice (some ⟨b, 0, none⟩) nd c') ∨ (sep vb vd ∧ (∀ k, vd.ownBlock = some k → w.heap.size ≤ k))
theorem Quad.swap {w0 w W : World} {va vb vc vd : Value} {na nb nc nd : Nat} {xa xb ec ed : List Int} (h : Quad w0 w W va vb vc vd na nb nc nd xa xb ec ed) : Quad w0 w W vb va vd vc nb na nd nc xb xa ed ec :=
  ⟨h.p.swap, h.od, h.oc, h.da, h.cb, h.cd.comm, h.lb, h.la⟩
theorem Quad.start {w0 w W : World} {va vb : Value} {na nb : Nat} {xa xb : List Int} (h : Pair w0 w W va vb na nb xa xb) : Quad w0 w W va vb va vb na nb na nb xa xb [] [] := by
  refine ⟨h, by simpa using h.oa, by simpa using h.ob, h.ab, h.ab.comm, h.ab, ?_, ?_⟩
  · rcases h.oa.2 with ⟨e1, h0⟩ | ⟨b, cap, cur, e1, _⟩
    · exact .inr ⟨.inl (by rw [e1]; rfl), fun k e => by rw [e1] at e; simp [Value.ownBlock] at e⟩
    · exact .inl ⟨b, cap, cap, e1, e1⟩
  · rcases h.ob.2 with ⟨e1, h0⟩ | ⟨b, cap, cur, e1, _⟩
    · exact .inr ⟨.inl (by rw [e1]; rfl), fun k e => by rw [e1] at e; simp [Value.ownBlock] at e⟩
    · exact .inl ⟨b, cap, cap, e1, e1⟩
theorem Quad.next {w0 w W W' : World} {va vb vc vd vc' : Value} {na nb nc nd : Nat} {xa xb ec ed : List Int} {u : Int} (h : Quad w0 w W va vb vc vd na nb nc nd xa xb ec ed)
    (hown : W'.ownsRow w0.heap.size 5 1 vc' (nc + 1) (nums .u8 (xa ++ ec) ++ [.int .u8 u]))
    (halt : (∃ b cap, vc = .slice (some ⟨b, 0, none⟩) nc cap ∧ vc' = .slice (some ⟨b, 0, none⟩) (nc + 1) cap ∧ W.grownBy W' (some b)) ∨ (∃ b, vc'.ownBlock = some b ∧ W.heap.size ≤ b ∧ W.grownBy W' none)) :
    Quad w0 w W' va vb vc' vd na nb (nc + 1) nd xa xb (ec ++ [u]) ed := by
  have e0 : nums .u8 (xa ++ ec) ++ [.int .u8 u] = nums .u8 (xa ++ (ec ++ [u])) := by simp [nums]
  rw [e0] at hown
  have hbs : w0.heap.size ≤ W.heap.size := h.p.bel.size
  have hxa : xa.length = na := by have := h.p.oa.1; simp [nums] at this; exact this
  rcases halt with ⟨b, cap, rfl, rfl, hg⟩ | ⟨b, hb, hbs', hg⟩
  · have hbel : Below w0.heap.size w0 W' := h.p.bel.grown hg hbs (fun k hk => by cases hk; exact own_base h.oc b rfl)
    have hob : Own W' w0.heap.size vb nb xb := h.p.ob.kept hg h.cb.comm
    have hod : Own W' w0.heap.size vd nd (xb ++ ed) := h.od.kept hg h.cd.comm
    have hln : na ≤ nc := by have := h.oc.1; simp [nums] at this; omega
    rcases h.la with ⟨b', c, c', e1, e2⟩ | ⟨hs, hf⟩
    · simp only [Value.slice.injEq, Option.some.injEq, Addr.mk.injEq] at e2
      obtain ⟨⟨rfl, _, _⟩, _, rfl⟩ := e2
      subst e1
      have hcap : c = cap := owns_cap h.p.oa h.oc
      subst hcap
      have hoa : Own W' w0.heap.size (.slice (some ⟨b, 0, none⟩) na c) na xa := by
        refine owns_prefix (n' := nc + 1) (ys := nums .u8 (ec ++ [u])) ?_ (by simp [nums, hxa]) (by omega)
        rw [← nums_append]; exact hown
      refine ⟨⟨hbel, hoa, hob, h.p.ab, fun k hk h1 h2 => ?_, Nat.le_trans h.p.sz hg.size⟩, hown, hod, h.cb, h.da, h.cd, .inl ⟨b, c, c, rfl, rfl⟩, h.lb⟩
      rw [hg.block k (Nat.lt_of_lt_of_le hk h.p.sz) (fun e => h1 e.symm)]
      exact h.p.fr k hk h1 h2
    · refine ⟨⟨hbel, h.p.oa.kept hg hs, hob, h.p.ab, fun k hk h1 h2 => ?_, Nat.le_trans h.p.sz hg.size⟩, hown, hod, h.cb, h.da, h.cd, .inr ⟨hs, hf⟩, h.lb⟩
      rw [hg.block k (Nat.lt_of_lt_of_le hk h.p.sz) (fun e => by have := hf b rfl; simp at e; omega)]
      exact h.p.fr k hk h1 h2
  · have hnew : ∀ {v : Value} {n : Nat} {xs : List Int}, Own W w0.heap.size v n xs → sep vc' v := fun {v n xs} ho => by
      unfold sep; right; rw [hb]; intro e; have := own_lt ho b e.symm; omega
    have keep : ∀ {v : Value} {n : Nat} {xs : List Int}, Own W w0.heap.size v n xs → Own W' w0.heap.size v n xs := fun {v n xs} ho => ho.kept hg (by cases v.ownBlock <;> simp)
    refine ⟨⟨h.p.bel.grown hg hbs (fun k hk => by cases hk), keep h.p.oa, keep h.p.ob, h.p.ab, fun k hk h1 h2 => ?_, Nat.le_trans h.p.sz hg.size⟩, hown, keep h.od, hnew h.p.ob, h.da, hnew h.od, .inr ⟨(hnew h.p.oa).comm, fun k e => ?_⟩, h.lb⟩
    · rw [hg.block k (Nat.lt_of_lt_of_le hk h.p.sz) (by simp)]; exact h.p.fr k hk h1 h2
    · rw [hb] at e; cases e; exact Nat.le_trans h.p.sz hbs'
theorem Quad.re {w0 w W : World} {va vb vc vd : Value} {na nb nc nd nc' nd' : Nat} {xa xb ec ed ec' ed' : List Int} (h : Quad w0 w W va vb vc vd na nb nc nd xa xb ec ed) (e1 : nc = nc') (e2 : nd = nd') (e3 : ec = ec') (e4 : ed = ed') : Quad w0 w W va vb vc vd na nb nc' nd' xa xb ec' ed' := by
  subst e1; subst e2; subst e3; subst e4; exact h
theorem Quad.alloc {w0 w W : World} {va vb vc vd : Value} {na nb nc nd : Nat} {xa xb ec ed : List Int} (h : Quad w0 w W va vb vc vd na nb nc nd xa xb ec ed) : w0.heap.size ≤ W.heap.size := h.p.bel.size

set_option maxHeartbeats 4000000 in
set_option maxRecDepth 100000 in
theorem apart_c (w0 w : World) (A B : Option Addr) (ca cb na nb : Nat) (xa xb : List Int) (hP : Pair w0 w w (.slice A na ca) (.slice B nb cb) na nb xa xb) (hla : na ≤ 140737488351232) (hlb : nb ≤ 140737488351232) :
    Calls Try.prog 9 #[.slice A na ca, .slice B nb cb] w fun e w' => e = .returned (.bool true) ∧ Below w0.heap.size w0 w' ∧ (∀ k, k < w.heap.size → (Value.slice A na ca).ownBlock ≠ some k → (Value.slice B nb cb).ownBlock ≠ some k → w'.heap[k]? = w.heap[k]?) := by
  have hxa : xa.length = na := by have := hP.oa.1; simp [nums] at this; exact this
  have hxb : xb.length = nb := by have := hP.ob.1; simp [nums] at this; exact this
  have HXA := Lib.hid hxa; have HXB := Lib.hid hxb
  have hnI : (na : Int) ≤ 140737488351232 := by omega
  have hmI : (nb : Int) ≤ 140737488351232 := by omega
  clear hxa hxb hla hlb
  go_enter Try.func9, Try.ntmps9
  go_wp2_with fail
  go_loopw [5] (fun i wr => ∃ k : Nat, k ≤ na ∧ i = .int .i64 (k : Int) ∧ Pair w0 w wr (.slice A na ca) (.slice B nb cb) na nb (fill 1 k xa) xb) (fun i _ => (na - intOf i).toNat)
  case atStart => exact ⟨0, by omega, rfl, by rw [fill_zero]; exact hP⟩
  case round =>
    clear hP
    obtain ⟨k, hk, rfl, hP⟩ := hrel
    by_cases hlt : k < na
    · obtain ⟨b, hA, hcb, hfb, hbl, hbb, hown⟩ := own_elem hP.oa hlt
      subst hA
      have hput := hP.put (hown 1) hbb
      rw [fill_step _ _ _ (by rw [HXA.out]; exact hlt)] at hput
      have HP := Lib.hid hput
      clear hput hown hP hbb
      go_wp2_with fail
      go_roundw
      case rel => exact ⟨k + 1, by omega, by go_num, HP.out⟩
      case measure => simp [intOf]; omega
    · obtain rfl : na = k := by omega
      have hfull : fill 1 na xa = List.replicate na 1 := by rw [← HXA.out]; exact fill_full 1 xa
      rw [hfull] at hP
      have HP := Lib.hid hP
      clear hP hfull
      go_wp2_with fail
      go_loopw [6] (fun i wr => ∃ k : Nat, k ≤ nb ∧ i = .int .i64 (k : Int) ∧ Pair w0 w wr (.slice A na ca) (.slice B nb cb) na nb (List.replicate na 1) (fill 2 k xb)) (fun i _ => (nb - intOf i).toNat)
      case atStart => exact ⟨0, by omega, rfl, by rw [fill_zero]; exact HP.out⟩
      case round =>
        clear HP
        obtain ⟨k, hk, rfl, hP⟩ := hrel
        by_cases hlt : k < nb
        · obtain ⟨b, hA, hcb, hfb, hbl, hbb, hown⟩ := own_elem hP.ob hlt
          subst hA
          have hput := hP.swap.put (hown 2) hbb
          rw [fill_step _ _ _ (by rw [HXB.out]; exact hlt)] at hput
          have HP := Lib.hid hput.swap
          clear hput hown hP hbb
          go_wp2_with fail
          go_roundw
          case rel => exact ⟨k + 1, by omega, by go_num, HP.out⟩
          case measure => simp [intOf]; omega
        · obtain rfl : nb = k := by omega
          have hfull : fill 2 nb xb = List.replicate nb 2 := by rw [← HXB.out]; exact fill_full 2 xb
          rw [hfull] at hP
          obtain ⟨ya, hya⟩ : ∃ y, y = List.replicate na (1 : Int) := ⟨_, rfl⟩
          obtain ⟨yb, hyb⟩ : ∃ y, y = List.replicate nb (2 : Int) := ⟨_, rfl⟩
          rw [← hya, ← hyb] at hP
          have HQ := Lib.hid (Quad.start hP)
          have HYA := Lib.hid hya; have HYB := Lib.hid hyb
          clear hP hfull hya hyb
          go_wp2_with (first | ((with_reducible refine gate_builtin (b := .append) (xs := #[.tmp 30, .tmp 31]) rfl ?_); refine wpList_append_two _ rfl (.tmp 30) (.tmp 31) 22 5 (.int .u8 0) 1 rfl Try.underlying22 info8 rfl (by decide) (.slice A na ca) na _ (.int .u8 3) rfl rfl rfl w0.heap.size HQ.out.oc HQ.out.p.bel.size (by omega) ?_; intro v1 W1 hown1 halt1; have HQ1 := Lib.hid (HQ.out.next hown1 halt1); clear hown1 halt1; obtain ⟨A1, c1, e1⟩ := own_slice HQ1.out.oc; subst e1) | ((with_reducible refine gate_builtin (b := .append) (xs := #[.tmp 33, .tmp 34]) rfl ?_); refine wpList_append_two _ rfl (.tmp 33) (.tmp 34) 22 5 (.int .u8 0) 1 rfl Try.underlying22 info8 rfl (by decide) (.slice B nb cb) nb _ (.int .u8 4) rfl rfl rfl w0.heap.size HQ1.out.od HQ1.out.p.bel.size (by omega) ?_; intro v2 W2 hown2 halt2; have HQ2 := Lib.hid (HQ1.out.swap.next hown2 halt2).swap; clear hown2 halt2; obtain ⟨A2, c2, e2⟩ := own_slice HQ2.out.od; subst e2))
          go_loopw [7, 8, 9] (fun c d i wr => ∃ (k : Nat) (ec ed : List Int), k ≤ 99 ∧ i = .int .i64 (k : Int) ∧ Quad w0 w wr (.slice A na ca) (.slice B nb cb) c d na nb (na + 1 + k) (nb + 1 + k) ya yb (3 :: ec) (4 :: ed)) (fun c d i _ => (99 - intOf i).toNat)
          case atStart => exact ⟨0, [], [], by omega, rfl, HQ2.out⟩
          case round =>
            clear HQ HQ1 HQ2
            obtain ⟨k, ec, ed, hk, rfl, hQ⟩ := hrel
            obtain ⟨A3, c3, e3⟩ := own_slice hQ.oc; subst e3
            obtain ⟨A4, c4, e4⟩ := own_slice hQ.od; subst e4
            by_cases hlt : k < 99
            · have HQ := Lib.hid hQ; clear hQ
              go_wp2_with (first | ((with_reducible refine gate_builtin (b := .append) (xs := #[.tmp 40, .tmp 41]) rfl ?_); refine wpList_append_two _ rfl (.tmp 40) (.tmp 41) 22 5 (.int .u8 0) 1 rfl Try.underlying22 info8 rfl (by decide) (.slice A3 (na + 1 + k) c3) (na + 1 + k) _ (.int .u8 3) rfl rfl rfl w0.heap.size HQ.out.oc HQ.out.p.bel.size (by omega) ?_; intro v1 W1 hown1 halt1; have HQ1 := Lib.hid (HQ.out.next hown1 halt1); clear hown1 halt1; obtain ⟨A1, c1, e1⟩ := own_slice HQ1.out.oc; subst e1) | ((with_reducible refine gate_builtin (b := .append) (xs := #[.tmp 43, .tmp 44]) rfl ?_); refine wpList_append_two _ rfl (.tmp 43) (.tmp 44) 22 5 (.int .u8 0) 1 rfl Try.underlying22 info8 rfl (by decide) (.slice A4 (nb + 1 + k) c4) (nb + 1 + k) _ (.int .u8 4) rfl rfl rfl w0.heap.size HQ1.out.od HQ1.out.p.bel.size (by omega) ?_; intro v2 W2 hown2 halt2; have HQ2 := Lib.hid (HQ1.out.swap.next hown2 halt2).swap; clear hown2 halt2; obtain ⟨A2, c2, e2⟩ := own_slice HQ2.out.od; subst e2))
              go_roundw
              case rel => exact ⟨k + 1, ec ++ [3], ed ++ [4], by omega, by go_num, HQ2.out.re (by omega) (by omega) rfl rfl⟩
              case measure => simp [intOf]; omega
            · obtain rfl : k = 99 := by omega
              have HQ := Lib.hid hQ; clear hQ
              go_wp2_with fail
              go_loopw [10] (fun i wr => ∃ k : Nat, k ≤ na ∧ i = .int .i64 (k : Int) ∧ Quad w0 w wr (.slice A na ca) (.slice B nb cb) (.slice A3 (na + 1 + 99) c3) (.slice A4 (nb + 1 + 99) c4) na nb (na + 1 + 99) (nb + 1 + 99) ya yb (3 :: ec) (4 :: ed)) (fun i _ => (na - intOf i).toNat)
              case atStart => exact ⟨0, by omega, rfl, HQ.out⟩
              case round =>
                clear HQ
                obtain ⟨k, hk, rfl, hQ⟩ := hrel
                by_cases hlt : k < na
                · obtain ⟨b, hA, hcb, hfb, hbl, hbb, hown⟩ := own_elem hQ.p.oa hlt
                  have hv : ya.getD k 0 = 1 := by rw [HYA.out]; simp [hlt]
                  rw [hv] at hcb
                  have HQ := Lib.hid hQ; clear hQ hown hv; subst hA
                  go_wp2_with fail
                  go_roundw
                  case rel => exact ⟨k + 1, by omega, by go_num, HQ.out⟩
                  case measure => simp [intOf]; omega
                · obtain rfl : na = k := by omega
                  have HQ := Lib.hid hQ; clear hQ
                  go_wp2_with fail
                  go_loopw [11] (fun i wr => ∃ k : Nat, k ≤ nb ∧ i = .int .i64 (k : Int) ∧ Quad w0 w wr (.slice A na ca) (.slice B nb cb) (.slice A3 (na + 1 + 99) c3) (.slice A4 (nb + 1 + 99) c4) na nb (na + 1 + 99) (nb + 1 + 99) ya yb (3 :: ec) (4 :: ed)) (fun i _ => (nb - intOf i).toNat)
                  case atStart => exact ⟨0, by omega, rfl, HQ.out⟩
                  case round =>
                    clear HQ
                    obtain ⟨k, hk, rfl, hQ⟩ := hrel
                    by_cases hlt : k < nb
                    · obtain ⟨b, hA, hcb, hfb, hbl, hbb, hown⟩ := own_elem hQ.p.ob hlt
                      have hv : yb.getD k 0 = 2 := by rw [HYB.out]; simp [hlt]
                      rw [hv] at hcb
                      have HQ := Lib.hid hQ; clear hQ hown hv; subst hA
                      go_wp2_with fail
                      go_roundw
                      case rel => exact ⟨k + 1, by omega, by go_num, HQ.out⟩
                      case measure => simp [intOf]; omega
                    · obtain rfl : nb = k := by omega
                      obtain ⟨b3, hA3, hc3, hf3, hbl3, hbb3, hown3⟩ := own_elem (k := na) hQ.oc (by omega)
                      obtain ⟨b4, hA4, hc4, hf4, hbl4, hbb4, hown4⟩ := own_elem (k := nb) hQ.od (by omega)
                      have hv3 : (ya ++ 3 :: ec).getD na 0 = 3 := by rw [HYA.out]; simp
                      have hv4 : (yb ++ 4 :: ed).getD nb 0 = 4 := by rw [HYB.out]; simp
                      rw [hv3] at hc3; rw [hv4] at hc4
                      have HQ := Lib.hid hQ; clear hQ hown3 hown4 hv3 hv4; subst hA3; subst hA4
                      go_wp2_with fail
                      go_ret
                      exact ⟨rfl, HQ.out.p.bel, HQ.out.p.fr⟩
end Go.Proofs.Ytkanjdllaikoaaa
