/-
  The reference's machine, changed in place: l2Write, l5Go. The machine is valid.
-/
import Derived.Test.YtgedfcccflobmaaStw
import Derived.Laws.AppendOwnNone
namespace Go.Proofs.Ytgedfcccflobmaa
open Go.RowKit
set_option linter.unusedVariables false
set_option linter.unusedSimpArgs false
attribute [local go_sem ↓] Go.wp_at_zero Go.wp_at_succ
set_option maxRecDepth 4000 in
/-- append of a list, nil or not, to an own row, at a step of a region that draws. -/
theorem step_copyX {ops : Array Oper} {o : Oper} {a : Act} {K : Act → World → Prop} {Q : Exit → Act → World → Prop} {E : Prop} {w : World} (hgd : o.guard = none) (s x : Operand)
    (ho : o.op = .call { callee := .builtin .append, args := #[s, x], argTypes := #[23, 23] })
    (base n c m d B : Nat) (A X : Option Addr) (xs ys : List Int) (hs : a.eval s = .slice A n c) (hx : a.eval x = .slice X m d)
    (hown : w.ownsRow base 3 1 (.slice A n c) n (iv xs)) (hy : Ints w B X m ys) (hd : X = none → d = 0) (hn : n + m ≤ 1000000000) (hb : base ≤ w.heap.size)
    (h : ∀ A' c' w', w'.ownsRow base 3 1 (.slice A' (n + m) c') (n + m) (iv (xs ++ ys)) → Below base w w' → w.grownBy w' (Value.slice A n c).ownBlock → K (a.put o.dst (.slice A' (n + m) c')) w') :
    if Region.wanted o (yielded ops a.tmps) = true then Oper.wp Try.prog o a w K Q else E := by
  have hw : Region.wanted o (yielded ops a.tmps) = true := by simp [Region.wanted, hgd]
  rw [if_pos hw]
  obtain ⟨i0, hi0, hz0, hz1, hz2⟩ := info_parts int_info
  cases X with
  | none =>
    have hm : m = 0 := by
      rcases Nat.eq_zero_or_pos m with h0 | h0
      · exact h0
      · obtain ⟨ad, e, _⟩ := hy.2 h0; cases e
    subst hm
    have hd := hd rfl
    subst hd
    have hl : ys = [] := List.length_eq_zero_iff.1 hy.len
    subst hl
    have hrun := run_append_owned_none (P := Try.prog) (w := w) base 23 o.type 3 i0 1 Try.underlying23 hi0 _ n (iv xs) hown
    unfold Oper.wp
    simp only [execOp, ho, resolve, invoke, builtin, Sem.run_bind, Sem.run_pure, Result.andThen_ok, List.map_toArray, List.map_cons, List.map_nil, hs, hx, hrun]
    have := h A c w (by simpa using hown) (Below.refl _ _) (World.grownBy.refl _ _)
    simp only [Nat.add_zero] at this
    exact this
  | some ad =>
    have hnews : ∀ j u, (iv ys)[j]? = some u → w.cell? (ad.add j) = some u := by
      intro j u hj
      have hm : 0 < m := by
        obtain ⟨hk, _⟩ := iv_get hj
        have := hy.len; omega
      obtain ⟨ad', e, _, hc⟩ := hy.2 hm
      injection e with e
      subst e
      exact hc j u hj
    have h1 : ∀ u ∈ iv ys, u.oneCell' = true := by
      intro u hu
      simp only [iv, List.mem_map] at hu
      obtain ⟨z, _, rfl⟩ := hu
      rfl
    obtain ⟨v', w', hr, h2, h3, h4, h5⟩ := run_append_own_at (P := Try.prog) w base 23 o.type 3 i0 (.int .i64 0) 1 8 Try.underlying23 hi0 hz0 hz1 hz2 rfl (by omega) _ n (iv xs) hown ad m d (iv ys) hy.1 hnews h1 (by simp only [maxLen]; omega) (by omega) hb
    unfold Oper.wp execOp
    simp only [ho, resolve, invoke, builtin, Sem.run_bind, Sem.run_pure, Result.andThen_ok, List.map_toArray, List.map_cons, List.map_nil, hs, hx, hr]
    obtain ⟨A', c', rfl⟩ := own_form h2
    rw [← iv_append] at h2
    exact h A' c' w' h2 (below_of_grown h3 hb fun k hk => (hown.lt k hk).1) h3
set_option maxRecDepth 4000 in
set_option maxHeartbeats 1000000 in
theorem write_spec (lo h1 h2 b : Nat) (x : Mch) (vs : List Value) (at_ v : Int) (w : World) (h : MSt lo h1 h2 b x vs w) (f : FormP x.pm) (t0 : 0 ≤ at_) (t1 : at_ ≤ 1023) (v0 : 0 ≤ v) (v1 : v ≤ 255) :
    Calls Try.prog 86 #[.pointer (some ⟨b, 0, none⟩), .int .i64 at_, .int .i64 v] w (Did lo h1 h2 b x vs w (pokeP x.pm at_ v)) := by
  have hn := h.n f
  have HX := Lib.hid h
  obtain ⟨⟨c0, c1, c2⟩, -⟩ := h.box.all
  have f2 := h.blk.frozen 2
  obtain ⟨-, ⟨r3, r4⟩, -⟩ := mem_facts f.m
  have r3 : 1 ≤ x.rows.length := r3
  have r4 : x.rows.length ≤ 4 := r4
  have hrl := h.rl
  by_cases hA : at_ < 512
  · obtain ⟨j, hj⟩ : ∃ j : Nat, at_ % 256 = (j : Int) := ⟨(at_ % 256).toNat, by omega⟩
    have ht : at_.tmod 256 = (j : Int) := (Int.tmod_eq_emod_of_nonneg t0).trans hj
    rcases own_block' h.ram with ⟨_, h0, _⟩ | ⟨g, eA, _⟩
    · omega
    have hjn : j < x.n := by omega
    have hcell : ∃ u, w.cell? ⟨g, j, none⟩ = some u := by
      have := h.ram
      rw [eA] at this
      exact ⟨_, (this.cellAt j (by omega)).trans (List.getElem?_eq_getElem (by have := this.1; omega))⟩
    obtain ⟨u0, k0⟩ := hcell
    have k1 : w.frozen? ⟨g, j, none⟩ = false := by
      have := h.ram
      rw [eA] at this
      exact this.frozenAt j
    have q0 : (0 : Int) ≤ (j : Int) := by omega
    have q1 : (j : Int) < (x.n : Int) := by omega
    have HR := Lib.hid (show pokeP x.pm at_ v = { x.pm with rs := x.rs.set j v } by unfold pokeP; rw [if_pos hA, hj, Int.toNat_natCast]; rfl)
    rw [eA] at c0
    replace eA := Lib.hid eA
    replace hj := Lib.hid hj
    clear h r3 r4 hrl hn
    go_enter Try.func86, Try.ntmps86
    go_wp2_with fail
    refine bodyPost_end (results_none (by rfl) _ _ _) rfl ?_
    obtain ⟨r1, r2⟩ := HX.out.ramSet eA.out j v
    exact ⟨_, rfl, r1, HR.out.symm, r2⟩
  by_cases hB : 768 ≤ at_
  · have hl0 : (x.rn : Int) ≠ 0 := by omega
    have ht : v.tmod (x.rn : Int) = v % x.rn := Int.tmod_eq_emod_of_nonneg v0
    have hz : ((x.rn : Int) == 0) = false := by simp; omega
    have m0 := Int.emod_nonneg v hl0
    have m1 := Int.emod_lt_of_pos v (show (0 : Int) < x.rn by omega)
    have HR := Lib.hid (show pokeP x.pm at_ v = { x.pm with bank := v % x.rn } by unfold pokeP; rw [if_neg hA, if_pos hB, hrl]; rfl)
    clear h r3 r4 hrl hn
    go_enter Try.func86, Try.ntmps86
    go_wp2_with fail
    refine bodyPost_end (results_none (by rfl) _ _ _) rfl ?_
    obtain ⟨r1, r2⟩ := HX.out.field 2 (.int .i64 (v % x.rn)) { x with bank := v % x.rn } rfl rfl rfl rfl
    exact ⟨_, rfl, r1, HR.out.symm, r2⟩
  · have HR := Lib.hid (show pokeP x.pm at_ v = x.pm by unfold pokeP; rw [if_neg hA, if_neg hB])
    clear h r3 r4 hrl hn
    go_enter Try.func86, Try.ntmps86
    go_wp2_with fail
    refine bodyPost_end (results_none (by rfl) _ _ _) rfl ?_
    exact ⟨_, rfl, HX.out, HR.out.symm, MFr.of_below (Below.refl _ _)⟩
set_option maxRecDepth 4000 in
set_option maxHeartbeats 4000000 in
theorem l5Go_10 (lo h1 h2 b : Nat) (x : Mch) (vs : List Value) (arg : Int) (w : World) (h : MSt lo h1 h2 b x vs w) (f : FormP x.pm) :
    Calls Try.prog 91 #[.pointer (some ⟨b, 0, none⟩), .agg #[.int .i64 10, .int .i64 arg]] w (Did lo h1 h2 b x vs w (goP x.pm 10 arg)) := by
  have hb0 : Below w.heap.size w (w.alloc (.cells #[.int .i64 10, .int .i64 arg] 84)) := (Below.refl _ _).alloc (Nat.le_refl _) _
  refine Calls.mono (R := Did lo h1 h2 b x vs (w.alloc (.cells #[.int .i64 10, .int .i64 arg] 84)) (goP x.pm 10 arg)) ?_ (fun e w' hd => Did.via hb0 hd)
  have g := h.below hb0
  have HX := Lib.hid g
  obtain ⟨⟨c0, c1, c2⟩, c3, c4, c5, c6, c7, c8⟩ := g.box.all
  have f3 := g.blk.frozen 3
  have f4 := g.blk.frozen 4
  have f5 := g.blk.frozen 5
  have f6 := g.blk.frozen 6
  have f7 := g.blk.frozen 7
  have hbl := g.blk.lt
  clear hb0 g
  go_enter Try.func91, Try.ntmps91
  go_wp2_with fail
  refine bodyPost_end (results_none (by rfl) _ _ _) rfl ?_
  obtain ⟨r1, r2⟩ := HX.out.field 4 (.int .i64 arg) { x with pc := arg } rfl rfl rfl rfl
  exact ⟨_, rfl, r1, by unfold goP; rw [if_pos (.inl rfl)]; rfl, r2⟩
set_option maxRecDepth 4000 in
set_option maxHeartbeats 4000000 in
theorem l5Go_0 (lo h1 h2 b : Nat) (x : Mch) (vs : List Value) (arg : Int) (w : World) (h : MSt lo h1 h2 b x vs w) (f : FormP x.pm) :
    Calls Try.prog 91 #[.pointer (some ⟨b, 0, none⟩), .agg #[.int .i64 0, .int .i64 arg]] w (Did lo h1 h2 b x vs w (goP x.pm 0 arg)) := by
  have hb0 : Below w.heap.size w (w.alloc (.cells #[.int .i64 0, .int .i64 arg] 84)) := (Below.refl _ _).alloc (Nat.le_refl _) _
  refine Calls.mono (R := Did lo h1 h2 b x vs (w.alloc (.cells #[.int .i64 0, .int .i64 arg] 84)) (goP x.pm 0 arg)) ?_ (fun e w' hd => Did.via hb0 hd)
  have g := h.below hb0
  have HX := Lib.hid g
  obtain ⟨⟨c0, c1, c2⟩, c3, c4, c5, c6, c7, c8⟩ := g.box.all
  have f3 := g.blk.frozen 3
  have f4 := g.blk.frozen 4
  have f5 := g.blk.frozen 5
  have f6 := g.blk.frozen 6
  have f7 := g.blk.frozen 7
  have hbl := g.blk.lt
  clear hb0 g
  go_enter Try.func91, Try.ntmps91
  go_wp2_with fail
  refine bodyPost_end (results_none (by rfl) _ _ _) rfl ?_
  exact ⟨_, rfl, HX.out, by unfold goP; simp, MFr.of_below (Below.refl _ _)⟩
set_option maxRecDepth 4000 in
set_option maxHeartbeats 4000000 in
theorem l5Go_15 (lo h1 h2 b : Nat) (x : Mch) (vs : List Value) (arg : Int) (w : World) (h : MSt lo h1 h2 b x vs w) (f : FormP x.pm) :
    Calls Try.prog 91 #[.pointer (some ⟨b, 0, none⟩), .agg #[.int .i64 15, .int .i64 arg]] w (Did lo h1 h2 b x vs w (goP x.pm 15 arg)) := by
  have hb0 : Below w.heap.size w (w.alloc (.cells #[.int .i64 15, .int .i64 arg] 84)) := (Below.refl _ _).alloc (Nat.le_refl _) _
  refine Calls.mono (R := Did lo h1 h2 b x vs (w.alloc (.cells #[.int .i64 15, .int .i64 arg] 84)) (goP x.pm 15 arg)) ?_ (fun e w' hd => Did.via hb0 hd)
  have g := h.below hb0
  have HX := Lib.hid g
  obtain ⟨⟨c0, c1, c2⟩, c3, c4, c5, c6, c7, c8⟩ := g.box.all
  have f3 := g.blk.frozen 3
  have f4 := g.blk.frozen 4
  have f5 := g.blk.frozen 5
  have f6 := g.blk.frozen 6
  have f7 := g.blk.frozen 7
  have hbl := g.blk.lt
  clear hb0 g
  go_enter Try.func91, Try.ntmps91
  go_wp2_with fail
  refine bodyPost_end (results_none (by rfl) _ _ _) rfl ?_
  obtain ⟨r1, r2⟩ := HX.out.field 7 (.bool true) { x with st := true } rfl rfl rfl rfl
  exact ⟨_, rfl, r1, by unfold goP; rw [if_neg (by omega), if_pos (.inr (.inr rfl))]; rfl, r2⟩
set_option maxRecDepth 4000 in
set_option maxHeartbeats 4000000 in
theorem l5Go_11 (lo h1 h2 b : Nat) (x : Mch) (vs : List Value) (arg : Int) (w : World) (h : MSt lo h1 h2 b x vs w) (f : FormP x.pm) :
    Calls Try.prog 91 #[.pointer (some ⟨b, 0, none⟩), .agg #[.int .i64 11, .int .i64 arg]] w (Did lo h1 h2 b x vs w (goP x.pm 11 arg)) := by
  by_cases hz : x.a = 0
  · have hz1 : (x.a == 0) = true := by simpa using hz
    replace hz := Lib.hid hz
    have hb0 : Below w.heap.size w (w.alloc (.cells #[.int .i64 11, .int .i64 arg] 84)) := (Below.refl _ _).alloc (Nat.le_refl _) _
    refine Calls.mono (R := Did lo h1 h2 b x vs (w.alloc (.cells #[.int .i64 11, .int .i64 arg] 84)) (goP x.pm 11 arg)) ?_ (fun e w' hd => Did.via hb0 hd)
    have g := h.below hb0
    have HX := Lib.hid g
    obtain ⟨⟨c0, c1, c2⟩, c3, c4, c5, c6, c7, c8⟩ := g.box.all
    have f3 := g.blk.frozen 3
    have f4 := g.blk.frozen 4
    have f5 := g.blk.frozen 5
    have f6 := g.blk.frozen 6
    have f7 := g.blk.frozen 7
    have hbl := g.blk.lt
    clear hb0 g
    go_enter Try.func91, Try.ntmps91
    go_wp2_with fail
    refine bodyPost_end (results_none (by rfl) _ _ _) rfl ?_
    obtain ⟨r1, r2⟩ := HX.out.field 4 (.int .i64 arg) { x with pc := arg } rfl rfl rfl rfl
    exact ⟨_, rfl, r1, by unfold goP; rw [if_pos (.inr (.inl ⟨rfl, hz.out⟩))]; rfl, r2⟩
  · have hz1 : (x.a == 0) = false := by simpa using hz
    replace hz := Lib.hid hz
    have hb0 : Below w.heap.size w (w.alloc (.cells #[.int .i64 11, .int .i64 arg] 84)) := (Below.refl _ _).alloc (Nat.le_refl _) _
    refine Calls.mono (R := Did lo h1 h2 b x vs (w.alloc (.cells #[.int .i64 11, .int .i64 arg] 84)) (goP x.pm 11 arg)) ?_ (fun e w' hd => Did.via hb0 hd)
    have g := h.below hb0
    have HX := Lib.hid g
    obtain ⟨⟨c0, c1, c2⟩, c3, c4, c5, c6, c7, c8⟩ := g.box.all
    have f3 := g.blk.frozen 3
    have f4 := g.blk.frozen 4
    have f5 := g.blk.frozen 5
    have f6 := g.blk.frozen 6
    have f7 := g.blk.frozen 7
    have hbl := g.blk.lt
    clear hb0 g
    go_enter Try.func91, Try.ntmps91
    go_wp2_with fail
    refine bodyPost_end (results_none (by rfl) _ _ _) rfl ?_
    exact ⟨_, rfl, HX.out, by unfold goP; rw [if_neg (by rintro (q | ⟨_, q⟩ | ⟨q, _⟩) <;> first | omega | exact hz.out q)]; simp, MFr.of_below (Below.refl _ _)⟩
set_option maxRecDepth 4000 in
set_option maxHeartbeats 4000000 in
theorem l5Go_12 (lo h1 h2 b : Nat) (x : Mch) (vs : List Value) (arg : Int) (w : World) (h : MSt lo h1 h2 b x vs w) (f : FormP x.pm) :
    Calls Try.prog 91 #[.pointer (some ⟨b, 0, none⟩), .agg #[.int .i64 12, .int .i64 arg]] w (Did lo h1 h2 b x vs w (goP x.pm 12 arg)) := by
  cases hz : x.cy
  · have hb0 : Below w.heap.size w (w.alloc (.cells #[.int .i64 12, .int .i64 arg] 84)) := (Below.refl _ _).alloc (Nat.le_refl _) _
    refine Calls.mono (R := Did lo h1 h2 b x vs (w.alloc (.cells #[.int .i64 12, .int .i64 arg] 84)) (goP x.pm 12 arg)) ?_ (fun e w' hd => Did.via hb0 hd)
    have g := h.below hb0
    have HX := Lib.hid g
    obtain ⟨⟨c0, c1, c2⟩, c3, c4, c5, c6, c7, c8⟩ := g.box.all
    have f3 := g.blk.frozen 3
    have f4 := g.blk.frozen 4
    have f5 := g.blk.frozen 5
    have f6 := g.blk.frozen 6
    have f7 := g.blk.frozen 7
    have hbl := g.blk.lt
    clear hb0 g
    rw [hz] at c5
    go_enter Try.func91, Try.ntmps91
    go_wp2_with fail
    refine bodyPost_end (results_none (by rfl) _ _ _) rfl ?_
    exact ⟨_, rfl, HX.out, by unfold goP; rw [if_neg (by rintro (q | ⟨q, _⟩ | ⟨_, q⟩) <;> first | omega | (have q : x.cy = true := q; rw [hz] at q; cases q))]; simp, MFr.of_below (Below.refl _ _)⟩
  · have hb0 : Below w.heap.size w (w.alloc (.cells #[.int .i64 12, .int .i64 arg] 84)) := (Below.refl _ _).alloc (Nat.le_refl _) _
    refine Calls.mono (R := Did lo h1 h2 b x vs (w.alloc (.cells #[.int .i64 12, .int .i64 arg] 84)) (goP x.pm 12 arg)) ?_ (fun e w' hd => Did.via hb0 hd)
    have g := h.below hb0
    have HX := Lib.hid g
    obtain ⟨⟨c0, c1, c2⟩, c3, c4, c5, c6, c7, c8⟩ := g.box.all
    have f3 := g.blk.frozen 3
    have f4 := g.blk.frozen 4
    have f5 := g.blk.frozen 5
    have f6 := g.blk.frozen 6
    have f7 := g.blk.frozen 7
    have hbl := g.blk.lt
    clear hb0 g
    rw [hz] at c5
    go_enter Try.func91, Try.ntmps91
    go_wp2_with fail
    refine bodyPost_end (results_none (by rfl) _ _ _) rfl ?_
    obtain ⟨r1, r2⟩ := HX.out.field 4 (.int .i64 arg) { x with pc := arg } rfl rfl rfl rfl
    exact ⟨_, rfl, r1, by unfold goP; rw [if_pos (.inr (.inr ⟨rfl, hz⟩))]; rfl, r2⟩
set_option maxRecDepth 4000 in
set_option maxHeartbeats 4000000 in
theorem l5Go_13 (lo h1 h2 b : Nat) (x : Mch) (vs : List Value) (arg : Int) (w : World) (h : MSt lo h1 h2 b x vs w) (f : FormP x.pm) :
    Calls Try.prog 91 #[.pointer (some ⟨b, 0, none⟩), .agg #[.int .i64 13, .int .i64 arg]] w (Did lo h1 h2 b x vs w (goP x.pm 13 arg)) := by
  have hbn := h.bn
  have b8 : x.bs.length ≤ 8 := f.b8
  by_cases h8 : x.bn = 8
  · have h8' : ((x.bn : Int) == 8) = true := by simp; omega
    have hl8 : x.bs.length = 8 := by omega
    replace h8 := Lib.hid h8
    replace hbn := Lib.hid hbn
    replace hl8 := Lib.hid hl8
    have hb0 : Below w.heap.size w (w.alloc (.cells #[.int .i64 13, .int .i64 arg] 84)) := (Below.refl _ _).alloc (Nat.le_refl _) _
    refine Calls.mono (R := Did lo h1 h2 b x vs (w.alloc (.cells #[.int .i64 13, .int .i64 arg] 84)) (goP x.pm 13 arg)) ?_ (fun e w' hd => Did.via hb0 hd)
    have g := h.below hb0
    have HX := Lib.hid g
    obtain ⟨⟨c0, c1, c2⟩, c3, c4, c5, c6, c7, c8⟩ := g.box.all
    have f3 := g.blk.frozen 3
    have f4 := g.blk.frozen 4
    have f5 := g.blk.frozen 5
    have f6 := g.blk.frozen 6
    have f7 := g.blk.frozen 7
    have hbl := g.blk.lt
    clear hb0 g
    go_enter Try.func91, Try.ntmps91
    go_wp2_with fail
    refine bodyPost_end (results_none (by rfl) _ _ _) rfl ?_
    obtain ⟨r1, r2⟩ := HX.out.field 7 (.bool true) { x with st := true } rfl rfl rfl rfl
    exact ⟨_, rfl, r1, by unfold goP; rw [if_neg (by omega), if_pos (.inl ⟨rfl, hl8.out⟩)]; rfl, r2⟩
  · have h8' : ((x.bn : Int) == 8) = false := by simp; omega
    have hl8 : ¬ x.bs.length = 8 := by omega
    have hbn8 : x.bn ≤ 8 := by omega
    have hnil := Lib.hid (own_nilc h.back)
    replace h8 := Lib.hid h8
    replace hbn := Lib.hid hbn
    replace hl8 := Lib.hid hl8
    have hb0 : Below w.heap.size w (w.alloc (.cells #[.int .i64 13, .int .i64 arg] 84)) := (Below.refl _ _).alloc (Nat.le_refl _) _
    refine Calls.mono (R := Did lo h1 h2 b x vs (w.alloc (.cells #[.int .i64 13, .int .i64 arg] 84)) (goP x.pm 13 arg)) ?_ (fun e w' hd => Did.via hb0 hd)
    have g := h.below hb0
    have HX := Lib.hid g
    obtain ⟨⟨c0, c1, c2⟩, c3, c4, c5, c6, c7, c8⟩ := g.box.all
    have f3 := g.blk.frozen 3
    have f4 := g.blk.frozen 4
    have f5 := g.blk.frozen 5
    have f6 := g.blk.frozen 6
    have f7 := g.blk.frozen 7
    have hbl := g.blk.lt
    clear hb0 g
    have hw0 : (w.alloc (.cells #[.int .i64 13, .int .i64 arg] 84)).heap.size = w.heap.size + 1 := by simp
    have hc1 := Lib.hid (show (w.alloc (.cells #[.int .i64 13, .int .i64 arg] 84)).cell? ⟨w.heap.size, 1, none⟩ = some (.int .i64 arg) from cell_new _ _ _ 1)
    have hE : ((w.alloc (.cells #[.int .i64 13, .int .i64 arg] 84)).alloc (.cells #[] 3)).ownsRow (w.heap.size + 1) 3 1 (.slice (some ⟨w.heap.size + 1, 0, none⟩) 0 0) 0 (iv []) := by
      have this : ((w.alloc (.cells #[.int .i64 13, .int .i64 arg] 84)).alloc (.cells #[] 3)).ownsRow (w.alloc (.cells #[.int .i64 13, .int .i64 arg] 84)).heap.size 3 1 (.slice (some ⟨(w.alloc (.cells #[.int .i64 13, .int .i64 arg] 84)).heap.size, 0, none⟩) 0 0) 0 (iv []) := World.ownsRow_lit (w.alloc (.cells #[.int .i64 13, .int .i64 arg] 84)) #[] 0 (Nat.le_refl _) (by simp [maxLen]) rfl
      rw [hw0] at this
      exact this
    have hF : (((w.alloc (.cells #[.int .i64 13, .int .i64 arg] 84)).alloc (.cells #[.int .i64 x.pc] 3)).alloc (.cells #[] 3)).ownsRow (w.heap.size + 1) 3 1 (.slice (some ⟨w.heap.size + 2, 0, none⟩) 0 0) 0 (iv []) := by
      have this : (((w.alloc (.cells #[.int .i64 13, .int .i64 arg] 84)).alloc (.cells #[.int .i64 x.pc] 3)).alloc (.cells #[] 3)).ownsRow ((w.alloc (.cells #[.int .i64 13, .int .i64 arg] 84)).alloc (.cells #[.int .i64 x.pc] 3)).heap.size 3 1 (.slice (some ⟨((w.alloc (.cells #[.int .i64 13, .int .i64 arg] 84)).alloc (.cells #[.int .i64 x.pc] 3)).heap.size, 0, none⟩) 0 0) 0 (iv []) := World.ownsRow_lit ((w.alloc (.cells #[.int .i64 13, .int .i64 arg] 84)).alloc (.cells #[.int .i64 x.pc] 3)) #[] 0 (Nat.le_refl _) (by simp [maxLen]) rfl
      rw [show ((w.alloc (.cells #[.int .i64 13, .int .i64 arg] 84)).alloc (.cells #[.int .i64 x.pc] 3)).heap.size = w.heap.size + 2 by simp] at this
      exact own_base this (by omega)
    have B1 := Lib.hid (show Below (w.heap.size + 1) (w.alloc (.cells #[.int .i64 13, .int .i64 arg] 84)) ((w.alloc (.cells #[.int .i64 13, .int .i64 arg] 84)).alloc (.cells #[] 3)) from (Below.refl _ _).alloc (by omega) _)
    have B2 := Lib.hid (show Below (w.heap.size + 1) (w.alloc (.cells #[.int .i64 13, .int .i64 arg] 84)) (((w.alloc (.cells #[.int .i64 13, .int .i64 arg] 84)).alloc (.cells #[] 3)).alloc (.cells #[.int .i64 x.pc] 3)) from ((Below.refl _ _).alloc (by omega) _).alloc (by simp) _)
    have B3 := Lib.hid (show Below (w.heap.size + 1) (w.alloc (.cells #[.int .i64 13, .int .i64 arg] 84)) (((w.alloc (.cells #[.int .i64 13, .int .i64 arg] 84)).alloc (.cells #[.int .i64 x.pc] 3)).alloc (.cells #[] 3)) from ((Below.refl _ _).alloc (by omega) _).alloc (by simp) _)
    have O1 := Lib.hid hE
    have O2 := Lib.hid (own_below hE ((Below.refl _ _).alloc (Nat.le_refl _) (.cells #[.int .i64 x.pc] 3)))
    have O3 := Lib.hid hF
    have hbase : h2 ≤ w.heap.size := by have := h.o2; have := h.blk.lt; omega
    have B4 := Lib.hid (show Below (w.heap.size + 1) (w.alloc (.cells #[.int .i64 13, .int .i64 arg] 84)) ((w.alloc (.cells #[.int .i64 13, .int .i64 arg] 84)).alloc (.cells #[.int .i64 x.pc] 3)) from (Below.refl _ _).alloc (by omega) _)
    rw [← hw0] at B1 B2 B3 B4
    have k16 := (HX.out.below B1.out).box.c6
    have k14 := (HX.out.below B1.out).box.c4
    have k26 := (HX.out.below B2.out).box.c6
    have k24 := (HX.out.below B2.out).box.c4
    have k36 := (HX.out.below B3.out).box.c6
    have k34 := (HX.out.below B3.out).box.c4
    have k46 := (HX.out.below B4.out).box.c6
    have k44 := (HX.out.below B4.out).box.c4
    clear hE hF h
    have Q2 := Lib.hid (show (((w.alloc (.cells #[.int .i64 13, .int .i64 arg] 84)).alloc (.cells #[] 3)).alloc (.cells #[.int .i64 x.pc] 3)).cell? ⟨w.heap.size + 2, 0, none⟩ = some (.int .i64 x.pc) by
      have := cell_new ((w.alloc (.cells #[.int .i64 13, .int .i64 arg] 84)).alloc (.cells #[] 3)) #[.int .i64 x.pc] 3 0
      rwa [show ((w.alloc (.cells #[.int .i64 13, .int .i64 arg] 84)).alloc (.cells #[] 3)).heap.size = w.heap.size + 2 by simp] at this)
    have Q3 := Lib.hid (show (((w.alloc (.cells #[.int .i64 13, .int .i64 arg] 84)).alloc (.cells #[.int .i64 x.pc] 3)).alloc (.cells #[] 3)).cell? ⟨w.heap.size + 1, 0, none⟩ = some (.int .i64 x.pc) from (World.cell?_alloc_lt _ _ _ (by simp)).trans (by
      have := cell_new (w.alloc (.cells #[.int .i64 13, .int .i64 arg] 84)) #[.int .i64 x.pc] 3 0
      rwa [hw0] at this))
    go_enter Try.func91, Try.ntmps91
    go_wp2_with fail
    go_region_law ((first | (refine step_copyX (by rfl) _ _ (by rfl) (w.heap.size + 1) 0 0 x.bn x.bc _ (some ⟨w.heap.size + 1, 0, none⟩) x.B [] x.bs (by rfl) (by rfl) O1.out (own_ints (HX.out.below B1.out).back) hnil.out (by omega) (by first | (simp; done) | (simp; omega)) ?_; intro A5 c5 w5 o5 b5 g5; rw [List.nil_append, Nat.zero_add] at o5; have z5 := b5.size; have HB5 := Lib.hid ((B1.out.drew).trans (b5.mono (by omega))); have y5 : w.heap.size + 1 ≤ w5.heap.size := (by rw [← hw0]; exact HB5.out.size); have M5 := Lib.hid (HX.out.below HB5.out); have hbl5 := M5.out.blk.lt; have d1 := (HB5.out.cell (p := ⟨w.heap.size, 1, none⟩) (by simp)).trans hc1.out; have d4 := M5.out.box.c4; have d6 := M5.out.box.c6; have e4 := M5.out.blk.frozen 4; have e6 := M5.out.blk.frozen 6; replace o5 := Lib.hid o5; clear b5; have hpc := Lib.hid (trivial); clear g5; rw [Nat.zero_add]) | (refine step_copyX (by rfl) _ _ (by rfl) (w.heap.size + 1) 0 0 x.bn x.bc _ (some ⟨w.heap.size + 1, 0, none⟩) x.B [] x.bs (by rfl) (by rfl) O2.out (own_ints (HX.out.below B2.out).back) hnil.out (by omega) (by first | (simp; done) | (simp; omega)) ?_; intro A5 c5 w5 o5 b5 g5; rw [List.nil_append, Nat.zero_add] at o5; have z5 := b5.size; have HB5 := Lib.hid ((B2.out.drew).trans (b5.mono (by omega))); have y5 : w.heap.size + 1 ≤ w5.heap.size := (by rw [← hw0]; exact HB5.out.size); have M5 := Lib.hid (HX.out.below HB5.out); have hbl5 := M5.out.blk.lt; have d1 := (HB5.out.cell (p := ⟨w.heap.size, 1, none⟩) (by simp)).trans hc1.out; have d4 := M5.out.box.c4; have d6 := M5.out.box.c6; have e4 := M5.out.blk.frozen 4; have e6 := M5.out.blk.frozen 6; replace o5 := Lib.hid o5; clear b5; have hpc := Lib.hid ((World.cell?_of_block (g5.block (w.heap.size + 2) (by simp) (by show some _ ≠ some _; simp))).trans Q2.out); clear g5; rw [Nat.zero_add]) | (refine step_copyX (by rfl) _ _ (by rfl) (w.heap.size + 1) 0 0 x.bn x.bc _ (some ⟨w.heap.size + 2, 0, none⟩) x.B [] x.bs (by rfl) (by rfl) O3.out (own_ints (HX.out.below B3.out).back) hnil.out (by omega) (by first | (simp; done) | (simp; omega)) ?_; intro A5 c5 w5 o5 b5 g5; rw [List.nil_append, Nat.zero_add] at o5; have z5 := b5.size; have HB5 := Lib.hid ((B3.out.drew).trans (b5.mono (by omega))); have y5 : w.heap.size + 1 ≤ w5.heap.size := (by rw [← hw0]; exact HB5.out.size); have M5 := Lib.hid (HX.out.below HB5.out); have hbl5 := M5.out.blk.lt; have d1 := (HB5.out.cell (p := ⟨w.heap.size, 1, none⟩) (by simp)).trans hc1.out; have d4 := M5.out.box.c4; have d6 := M5.out.box.c6; have e4 := M5.out.blk.frozen 4; have e6 := M5.out.blk.frozen 6; replace o5 := Lib.hid o5; clear b5; have hpc := Lib.hid ((World.cell?_of_block (g5.block (w.heap.size + 1) (by simp) (by show some _ ≠ some _; simp))).trans Q3.out); clear g5; rw [Nat.zero_add]) | (refine step_pushM (by rfl) _ _ (by rfl) (w.heap.size + 1) x.bn c5 (w5.heap.size) 1 A5 x.bs x.pc (by rfl) (by rfl) (own_below o5.out ((Below.refl _ _).alloc (Nat.le_refl _) _)) (cell_new _ _ _ 0) (by omega) (by first | omega | (simp; omega)) ?_; intro A6 c6 w6 o6 g6 k6; have z6 := g6.size; have b6 := below_of_grown (B := w.heap.size + 1) g6 (by first | omega | (simp; omega)) (fun k hk => (o5.out.lt k hk).1); have HB6 := Lib.hid ((HB5.out.alloc HB5.out.size _).trans (b6.mono (by omega))); have y6 : w.heap.size + 1 ≤ w6.heap.size := (by rw [← hw0]; exact HB6.out.size); have M6 := Lib.hid (HX.out.below HB6.out); have hbl6 := M6.out.blk.lt; have d1 := (HB6.out.cell (p := ⟨w.heap.size, 1, none⟩) (by simp)).trans hc1.out; have d4 : w6.cell? ⟨b, 4, none⟩ = some (.int .i64 x.pc) := M6.out.box.c4; have d6 := M6.out.box.c6; have e4 := M6.out.blk.frozen 4; have e6 := M6.out.blk.frozen 6; replace o6 := Lib.hid o6; clear b6 g6 k6) | (refine step_pushM (by rfl) _ _ (by rfl) (w.heap.size + 1) x.bn c5 (w.heap.size + 2) 1 A5 x.bs x.pc (by rfl) (by rfl) (o5.out) (hpc.out) (by omega) (by first | omega | (simp; omega)) ?_; intro A6 c6 w6 o6 g6 k6; have z6 := g6.size; have b6 := below_of_grown (B := w.heap.size + 1) g6 (by first | omega | (simp; omega)) (fun k hk => (o5.out.lt k hk).1); have HB6 := Lib.hid ((HB5.out).trans (b6.mono (by omega))); have y6 : w.heap.size + 1 ≤ w6.heap.size := (by rw [← hw0]; exact HB6.out.size); have M6 := Lib.hid (HX.out.below HB6.out); have hbl6 := M6.out.blk.lt; have d1 := (HB6.out.cell (p := ⟨w.heap.size, 1, none⟩) (by simp)).trans hc1.out; have d4 : w6.cell? ⟨b, 4, none⟩ = some (.int .i64 x.pc) := M6.out.box.c4; have d6 := M6.out.box.c6; have e4 := M6.out.blk.frozen 4; have e6 := M6.out.blk.frozen 6; replace o6 := Lib.hid o6; clear b6 g6 k6) | (refine step_pushM (by rfl) _ _ (by rfl) (w.heap.size + 1) x.bn c5 (w.heap.size + 1) 1 A5 x.bs x.pc (by rfl) (by rfl) (o5.out) (hpc.out) (by omega) (by first | omega | (simp; omega)) ?_; intro A6 c6 w6 o6 g6 k6; have z6 := g6.size; have b6 := below_of_grown (B := w.heap.size + 1) g6 (by first | omega | (simp; omega)) (fun k hk => (o5.out.lt k hk).1); have HB6 := Lib.hid ((HB5.out).trans (b6.mono (by omega))); have y6 : w.heap.size + 1 ≤ w6.heap.size := (by rw [← hw0]; exact HB6.out.size); have M6 := Lib.hid (HX.out.below HB6.out); have hbl6 := M6.out.blk.lt; have d1 := (HB6.out.cell (p := ⟨w.heap.size, 1, none⟩) (by simp)).trans hc1.out; have d4 : w6.cell? ⟨b, 4, none⟩ = some (.int .i64 x.pc) := M6.out.box.c4; have d6 := M6.out.box.c6; have e4 := M6.out.blk.frozen 4; have e6 := M6.out.blk.frozen 6; replace o6 := Lib.hid o6; clear b6 g6 k6)))
    all_goals (
      go_wp2_with fail
      refine bodyPost_end (results_none (by rfl) _ _ _) rfl ?_
      obtain ⟨r1, r2⟩ := HX.out.newBack (own_base o6.out (by omega)) (grown_of_below HB6.out _) (.inr fun i hi => by have := (o6.out.lt i hi).1; omega)
      obtain ⟨s1, s2⟩ := r1.field 4 (.int .i64 arg) { x with B := A6, bn := x.bn + 1, bc := c6, bs := x.bs ++ [x.pc], pc := arg } rfl rfl rfl rfl
      exact ⟨_, rfl, s1, by unfold goP; rw [if_neg (by omega), if_neg (by rintro (⟨_, q⟩ | ⟨q, _⟩ | q) <;> first | omega | exact hl8.out q), if_pos rfl]; rfl, r2.trans s2⟩)
end Go.Proofs.Ytgedfcccflobmaa
