/-
  One step of a machine: the walks of the program's functions. The machine is valid.
-/
import Derived.Test.YtgedfcccflobmaaStp
import Derived.StillTailTactics
import Derived.Deep.RegionWith
import Derived.Deep.RegionLaw
namespace Go.Proofs.Ytgedfcccflobmaa
open Go.RowKit
set_option linter.unusedVariables false
set_option linter.unusedSimpArgs false
attribute [local go_sem ↓] Go.wp_at_zero Go.wp_at_succ
/-- A machine has been changed in place. -/
def Did (lo h1 h2 b : Nat) (x : Mch) (vs : List Value) (w : World) (p : PM) (e : Ending) (w' : World) : Prop :=
  ∃ x', e = .returned (.tuple #[]) ∧ MSt lo h1 h2 b x' vs w' ∧ x'.pm = p ∧ MFr w w' b x x'
set_option maxRecDepth 4000 in
set_option maxHeartbeats 1000000 in
theorem poke_impl (lo h1 h2 b : Nat) (x : Mch) (vs : List Value) (at_ v : Int) (w : World) (h : MSt lo h1 h2 b x vs w) (f : FormP x.pm) (t0 : 0 ≤ at_) (t1 : at_ ≤ 1023) (v0 : 0 ≤ v) (v1 : v ≤ 255) :
    Calls Try.prog 78 #[.pointer (some ⟨b, 0, none⟩), .int .i64 at_, .int .i64 v] w (Did lo h1 h2 b x vs w (pokeP x.pm at_ v)) := by
  have hn := h.n f
  have HX := Lib.hid h
  obtain ⟨⟨c0, c1, c2⟩, -⟩ := h.box.all
  have f2 := h.blk.frozen 2
  obtain ⟨-, ⟨r3, r4⟩, -⟩ := mem_facts f.m
  have r3 : 1 ≤ x.rows.length := r3
  have r4 : x.rows.length ≤ 4 := r4
  have hrl := h.rl
  by_cases hA : at_ < 512
  · obtain ⟨j, hj⟩ : ∃ j : Nat, at_ % 256 = (j : Int) := ⟨(at_ % 256).toNat, by omega⟩
    have ht : at_.tmod 256 = (j : Int) := (Int.tmod_eq_emod_of_nonneg t0).trans hj
    rcases own_block' h.ram with ⟨_, h0, _⟩ | ⟨g, eA, _⟩
    · omega
    have hjn : j < x.n := by omega
    have hcell : ∃ u, w.cell? ⟨g, j, none⟩ = some u := by
      have := h.ram
      rw [eA] at this
      exact ⟨_, (this.cellAt j (by omega)).trans (List.getElem?_eq_getElem (by have := this.1; omega))⟩
    obtain ⟨u0, k0⟩ := hcell
    have k1 : w.frozen? ⟨g, j, none⟩ = false := by
      have := h.ram
      rw [eA] at this
      exact this.frozenAt j
    have q0 : (0 : Int) ≤ (j : Int) := by omega
    have q1 : (j : Int) < (x.n : Int) := by omega
    have HR := Lib.hid (show pokeP x.pm at_ v = { x.pm with rs := x.rs.set j v } by unfold pokeP; rw [if_pos hA, hj, Int.toNat_natCast]; rfl)
    rw [eA] at c0
    replace eA := Lib.hid eA
    replace hj := Lib.hid hj
    clear h r3 r4 hrl hn
    go_enter Try.func78, Try.ntmps78
    go_wp2_with fail
    refine bodyPost_end (results_none (by rfl) _ _ _) rfl ?_
    obtain ⟨r1, r2⟩ := HX.out.ramSet eA.out j v
    exact ⟨_, rfl, r1, HR.out.symm, r2⟩
  by_cases hB : 768 ≤ at_
  · have hl0 : (x.rn : Int) ≠ 0 := by omega
    have ht : v.tmod (x.rn : Int) = v % x.rn := Int.tmod_eq_emod_of_nonneg v0
    have hz : ((x.rn : Int) == 0) = false := by simp; omega
    have m0 := Int.emod_nonneg v hl0
    have m1 := Int.emod_lt_of_pos v (show (0 : Int) < x.rn by omega)
    have HR := Lib.hid (show pokeP x.pm at_ v = { x.pm with bank := v % x.rn } by unfold pokeP; rw [if_neg hA, if_pos hB, hrl]; rfl)
    clear h r3 r4 hrl hn
    go_enter Try.func78, Try.ntmps78
    go_wp2_with fail
    refine bodyPost_end (results_none (by rfl) _ _ _) rfl ?_
    obtain ⟨r1, r2⟩ := HX.out.field 2 (.int .i64 (v % x.rn)) { x with bank := v % x.rn } rfl rfl rfl rfl
    exact ⟨_, rfl, r1, HR.out.symm, r2⟩
  · have HR := Lib.hid (show pokeP x.pm at_ v = x.pm by unfold pokeP; rw [if_neg hA, if_neg hB])
    clear h r3 r4 hrl hn
    go_enter Try.func78, Try.ntmps78
    go_wp2_with fail
    refine bodyPost_end (results_none (by rfl) _ _ _) rfl ?_
    exact ⟨_, rfl, HX.out, HR.out.symm, MFr.of_below (Below.refl _ _)⟩
/-- append of one number, at a step of a region that draws. -/
theorem step_pushM {ops : Array Oper} {o : Oper} {a : Act} {K : Act → World → Prop} {Q : Exit → Act → World → Prop} {E : Prop} {w : World} (hgd : o.guard = none) (s x : Operand)
    (ho : o.op = .call { callee := .builtin .append, args := #[s, x], argTypes := #[23, 23] })
    (base n c H d : Nat) (A : Option Addr) (xs : List Int) (y : Int) (hs : a.eval s = .slice A n c) (hx : a.eval x = .slice (some ⟨H, 0, none⟩) 1 d)
    (hown : w.ownsRow base 3 1 (.slice A n c) n (iv xs)) (hc : w.cell? ⟨H, 0, none⟩ = some (.int .i64 y)) (hn : n ≤ 1000000000) (hb : base ≤ w.heap.size)
    (h : ∀ A' c' w', w'.ownsRow base 3 1 (.slice A' (n + 1) c') (n + 1) (iv (xs ++ [y])) → w.grownBy w' (Value.slice A n c).ownBlock → ((Value.slice A' (n + 1) c').ownBlock = (Value.slice A n c).ownBlock ∨ (Value.slice A' (n + 1) c').ownBlock = some w.heap.size) → K (a.put o.dst (.slice A' (n + 1) c')) w') :
    if Region.wanted o (yielded ops a.tmps) = true then Oper.wp Try.prog o a w K Q else E := by
  have hw : Region.wanted o (yielded ops a.tmps) = true := by simp [Region.wanted, hgd]
  rw [if_pos hw]
  obtain ⟨i0, hi0, hz0, hz1, hz2⟩ := info_parts int_info
  obtain ⟨v', w', hr, h2, h3, h4, h5⟩ := run_append_own_at (P := Try.prog) w base 23 o.type 3 i0 (.int .i64 0) 1 8 Try.underlying23 hi0 hz0 hz1 hz2 rfl (by omega) _ n (iv xs) hown ⟨H, 0, none⟩ 1 d [.int .i64 y] rfl
    (by intro j u hj; match j, hj with | 0, hj => simp at hj; subst hj; simpa [Addr.add] using hc) (by intro u hu; simp at hu; subst hu; rfl) (by simp only [maxLen]; omega) (by omega) hb
  unfold Oper.wp execOp
  simp only [ho, resolve, invoke, builtin, Sem.run_bind, Sem.run_pure, Result.andThen_ok, List.map_toArray, List.map_cons, List.map_nil, hs, hx, hr]
  obtain ⟨A', c', rfl⟩ := own_form h2
  exact h A' c' w' (by rw [iv_snoc]; exact h2) h3 h5
theorem Did.via {lo h1 h2 b : Nat} {x : Mch} {vs : List Value} {w w0 : World} {p : PM} {e : Ending} {w' : World} (d : Below w.heap.size w w0) (h : Did lo h1 h2 b x vs w0 p e w') : Did lo h1 h2 b x vs w p e w' := by
  obtain ⟨x', he, hs, hp, hf⟩ := h
  exact ⟨x', he, hs, hp, (MFr.of_below d).trans hf⟩
set_option maxRecDepth 4000 in
set_option maxHeartbeats 2000000 in
theorem branch_jump (lo h1 h2 b : Nat) (x : Mch) (vs : List Value) (arg : Int) (w : World) (h : MSt lo h1 h2 b x vs w) :
    Calls Try.prog 83 #[.pointer (some ⟨b, 0, none⟩), .agg #[.int .i64 10, .int .i64 arg]] w (Did lo h1 h2 b x vs w (goP x.pm 10 arg)) := by
  have hb0 : Below w.heap.size w (w.alloc (.cells #[.int .i64 10, .int .i64 arg] 84)) := (Below.refl _ _).alloc (Nat.le_refl _) _
  refine Calls.mono (R := Did lo h1 h2 b x vs (w.alloc (.cells #[.int .i64 10, .int .i64 arg] 84)) (goP x.pm 10 arg)) ?_ (fun e w' hd => Did.via hb0 hd)
  have g := h.below hb0
  have HX := Lib.hid g
  obtain ⟨⟨c0, c1, c2⟩, c3, c4, c5, c6, c7, c8⟩ := g.box.all
  have f3 := g.blk.frozen 3
  have f4 := g.blk.frozen 4
  have f5 := g.blk.frozen 5
  have f6 := g.blk.frozen 6
  have f7 := g.blk.frozen 7
  have hbl := g.blk.lt
  clear hb0 g
  go_enter Try.func83, Try.ntmps83
  go_wp2_with fail
  refine bodyPost_end (results_none (by rfl) _ _ _) rfl ?_
  obtain ⟨r1, r2⟩ := HX.out.field 4 (.int .i64 arg) { x with pc := arg } rfl rfl rfl rfl
  exact ⟨_, rfl, r1, by unfold goP; rw [if_pos (.inl rfl)]; rfl, r2⟩
set_option maxRecDepth 4000 in
set_option maxHeartbeats 2000000 in
theorem branch_wait (lo h1 h2 b : Nat) (x : Mch) (vs : List Value) (arg : Int) (w : World) (h : MSt lo h1 h2 b x vs w) :
    Calls Try.prog 83 #[.pointer (some ⟨b, 0, none⟩), .agg #[.int .i64 0, .int .i64 arg]] w (Did lo h1 h2 b x vs w (goP x.pm 0 arg)) := by
  have hb0 : Below w.heap.size w (w.alloc (.cells #[.int .i64 0, .int .i64 arg] 84)) := (Below.refl _ _).alloc (Nat.le_refl _) _
  refine Calls.mono (R := Did lo h1 h2 b x vs (w.alloc (.cells #[.int .i64 0, .int .i64 arg] 84)) (goP x.pm 0 arg)) ?_ (fun e w' hd => Did.via hb0 hd)
  have g := h.below hb0
  have HX := Lib.hid g
  obtain ⟨⟨c0, c1, c2⟩, c3, c4, c5, c6, c7, c8⟩ := g.box.all
  have f3 := g.blk.frozen 3
  have f4 := g.blk.frozen 4
  have f5 := g.blk.frozen 5
  have f6 := g.blk.frozen 6
  have f7 := g.blk.frozen 7
  have hbl := g.blk.lt
  clear hb0 g
  go_enter Try.func83, Try.ntmps83
  go_wp2_with fail
  refine bodyPost_end (results_none (by rfl) _ _ _) rfl ?_
  exact ⟨_, rfl, HX.out, by unfold goP; simp, MFr.of_below (Below.refl _ _)⟩
set_option maxRecDepth 4000 in
set_option maxHeartbeats 2000000 in
theorem branch_zero (lo h1 h2 b : Nat) (x : Mch) (vs : List Value) (arg : Int) (w : World) (h : MSt lo h1 h2 b x vs w) :
    Calls Try.prog 83 #[.pointer (some ⟨b, 0, none⟩), .agg #[.int .i64 11, .int .i64 arg]] w (Did lo h1 h2 b x vs w (goP x.pm 11 arg)) := by
  by_cases hz : x.a = 0
  · have hz1 : (x.a == 0) = true := by simpa using hz
    replace hz := Lib.hid hz
    have hb0 : Below w.heap.size w (w.alloc (.cells #[.int .i64 11, .int .i64 arg] 84)) := (Below.refl _ _).alloc (Nat.le_refl _) _
    refine Calls.mono (R := Did lo h1 h2 b x vs (w.alloc (.cells #[.int .i64 11, .int .i64 arg] 84)) (goP x.pm 11 arg)) ?_ (fun e w' hd => Did.via hb0 hd)
    have g := h.below hb0
    have HX := Lib.hid g
    obtain ⟨⟨c0, c1, c2⟩, c3, c4, c5, c6, c7, c8⟩ := g.box.all
    have f3 := g.blk.frozen 3
    have f4 := g.blk.frozen 4
    have f5 := g.blk.frozen 5
    have f6 := g.blk.frozen 6
    have f7 := g.blk.frozen 7
    have hbl := g.blk.lt
    clear hb0 g
    go_enter Try.func83, Try.ntmps83
    go_wp2_with fail
    refine bodyPost_end (results_none (by rfl) _ _ _) rfl ?_
    obtain ⟨r1, r2⟩ := HX.out.field 4 (.int .i64 arg) { x with pc := arg } rfl rfl rfl rfl
    exact ⟨_, rfl, r1, by unfold goP; rw [if_pos (.inr (.inl ⟨rfl, hz.out⟩))]; rfl, r2⟩
  · have hz1 : (x.a == 0) = false := by simpa using hz
    replace hz := Lib.hid hz
    have hb0 : Below w.heap.size w (w.alloc (.cells #[.int .i64 11, .int .i64 arg] 84)) := (Below.refl _ _).alloc (Nat.le_refl _) _
    refine Calls.mono (R := Did lo h1 h2 b x vs (w.alloc (.cells #[.int .i64 11, .int .i64 arg] 84)) (goP x.pm 11 arg)) ?_ (fun e w' hd => Did.via hb0 hd)
    have g := h.below hb0
    have HX := Lib.hid g
    obtain ⟨⟨c0, c1, c2⟩, c3, c4, c5, c6, c7, c8⟩ := g.box.all
    have f3 := g.blk.frozen 3
    have f4 := g.blk.frozen 4
    have f5 := g.blk.frozen 5
    have f6 := g.blk.frozen 6
    have f7 := g.blk.frozen 7
    have hbl := g.blk.lt
    clear hb0 g
    go_enter Try.func83, Try.ntmps83
    go_wp2_with fail
    refine bodyPost_end (results_none (by rfl) _ _ _) rfl ?_
    exact ⟨_, rfl, HX.out, by unfold goP; rw [if_neg (by rintro (q | ⟨_, q⟩ | ⟨q, _⟩) <;> first | omega | exact hz.out q)]; simp, MFr.of_below (Below.refl _ _)⟩
set_option maxRecDepth 4000 in
set_option maxHeartbeats 2000000 in
theorem branch_carry (lo h1 h2 b : Nat) (x : Mch) (vs : List Value) (arg : Int) (w : World) (h : MSt lo h1 h2 b x vs w) :
    Calls Try.prog 83 #[.pointer (some ⟨b, 0, none⟩), .agg #[.int .i64 12, .int .i64 arg]] w (Did lo h1 h2 b x vs w (goP x.pm 12 arg)) := by
  cases hz : x.cy
  · have hb0 : Below w.heap.size w (w.alloc (.cells #[.int .i64 12, .int .i64 arg] 84)) := (Below.refl _ _).alloc (Nat.le_refl _) _
    refine Calls.mono (R := Did lo h1 h2 b x vs (w.alloc (.cells #[.int .i64 12, .int .i64 arg] 84)) (goP x.pm 12 arg)) ?_ (fun e w' hd => Did.via hb0 hd)
    have g := h.below hb0
    have HX := Lib.hid g
    obtain ⟨⟨c0, c1, c2⟩, c3, c4, c5, c6, c7, c8⟩ := g.box.all
    have f3 := g.blk.frozen 3
    have f4 := g.blk.frozen 4
    have f5 := g.blk.frozen 5
    have f6 := g.blk.frozen 6
    have f7 := g.blk.frozen 7
    have hbl := g.blk.lt
    clear hb0 g
    rw [hz] at c5
    go_enter Try.func83, Try.ntmps83
    go_wp2_with fail
    refine bodyPost_end (results_none (by rfl) _ _ _) rfl ?_
    exact ⟨_, rfl, HX.out, by unfold goP; rw [if_neg (by rintro (q | ⟨q, _⟩ | ⟨_, q⟩) <;> first | omega | (have q : x.cy = true := q; rw [hz] at q; cases q))]; simp, MFr.of_below (Below.refl _ _)⟩
  · have hb0 : Below w.heap.size w (w.alloc (.cells #[.int .i64 12, .int .i64 arg] 84)) := (Below.refl _ _).alloc (Nat.le_refl _) _
    refine Calls.mono (R := Did lo h1 h2 b x vs (w.alloc (.cells #[.int .i64 12, .int .i64 arg] 84)) (goP x.pm 12 arg)) ?_ (fun e w' hd => Did.via hb0 hd)
    have g := h.below hb0
    have HX := Lib.hid g
    obtain ⟨⟨c0, c1, c2⟩, c3, c4, c5, c6, c7, c8⟩ := g.box.all
    have f3 := g.blk.frozen 3
    have f4 := g.blk.frozen 4
    have f5 := g.blk.frozen 5
    have f6 := g.blk.frozen 6
    have f7 := g.blk.frozen 7
    have hbl := g.blk.lt
    clear hb0 g
    rw [hz] at c5
    go_enter Try.func83, Try.ntmps83
    go_wp2_with fail
    refine bodyPost_end (results_none (by rfl) _ _ _) rfl ?_
    obtain ⟨r1, r2⟩ := HX.out.field 4 (.int .i64 arg) { x with pc := arg } rfl rfl rfl rfl
    exact ⟨_, rfl, r1, by unfold goP; rw [if_pos (.inr (.inr ⟨rfl, hz⟩))]; rfl, r2⟩
set_option maxRecDepth 4000 in
set_option maxHeartbeats 4000000 in
theorem branch_call (lo h1 h2 b : Nat) (x : Mch) (vs : List Value) (arg : Int) (w : World) (h : MSt lo h1 h2 b x vs w) (f : FormP x.pm) :
    Calls Try.prog 83 #[.pointer (some ⟨b, 0, none⟩), .agg #[.int .i64 13, .int .i64 arg]] w (Did lo h1 h2 b x vs w (goP x.pm 13 arg)) := by
  have hbn := h.bn
  have b8 : x.bs.length ≤ 8 := f.b8
  by_cases h8 : x.bn = 8
  · have h8' : ((x.bn : Int) == 8) = true := by simp; omega
    have hl8 : x.bs.length = 8 := by omega
    replace h8 := Lib.hid h8
    replace hbn := Lib.hid hbn
    replace hl8 := Lib.hid hl8
    have hb0 : Below w.heap.size w (w.alloc (.cells #[.int .i64 13, .int .i64 arg] 84)) := (Below.refl _ _).alloc (Nat.le_refl _) _
    refine Calls.mono (R := Did lo h1 h2 b x vs (w.alloc (.cells #[.int .i64 13, .int .i64 arg] 84)) (goP x.pm 13 arg)) ?_ (fun e w' hd => Did.via hb0 hd)
    have g := h.below hb0
    have HX := Lib.hid g
    obtain ⟨⟨c0, c1, c2⟩, c3, c4, c5, c6, c7, c8⟩ := g.box.all
    have f3 := g.blk.frozen 3
    have f4 := g.blk.frozen 4
    have f5 := g.blk.frozen 5
    have f6 := g.blk.frozen 6
    have f7 := g.blk.frozen 7
    have hbl := g.blk.lt
    clear hb0 g
    go_enter Try.func83, Try.ntmps83
    go_wp2_with fail
    refine bodyPost_end (results_none (by rfl) _ _ _) rfl ?_
    obtain ⟨r1, r2⟩ := HX.out.field 7 (.bool true) { x with st := true } rfl rfl rfl rfl
    exact ⟨_, rfl, r1, by unfold goP; rw [if_neg (by omega), if_pos (.inl ⟨rfl, hl8.out⟩)]; rfl, r2⟩
  · have h8' : ((x.bn : Int) == 8) = false := by simp; omega
    have hl8 : ¬ x.bs.length = 8 := by omega
    have hbn8 : x.bn ≤ 8 := by omega
    replace h8 := Lib.hid h8
    replace hbn := Lib.hid hbn
    replace hl8 := Lib.hid hl8
    have hb0 : Below w.heap.size w (w.alloc (.cells #[.int .i64 13, .int .i64 arg] 84)) := (Below.refl _ _).alloc (Nat.le_refl _) _
    refine Calls.mono (R := Did lo h1 h2 b x vs (w.alloc (.cells #[.int .i64 13, .int .i64 arg] 84)) (goP x.pm 13 arg)) ?_ (fun e w' hd => Did.via hb0 hd)
    have g := h.below hb0
    have HX := Lib.hid g
    obtain ⟨⟨c0, c1, c2⟩, c3, c4, c5, c6, c7, c8⟩ := g.box.all
    have f3 := g.blk.frozen 3
    have f4 := g.blk.frozen 4
    have f5 := g.blk.frozen 5
    have f6 := g.blk.frozen 6
    have f7 := g.blk.frozen 7
    have hbl := g.blk.lt
    clear hb0 g
    have hbx : b ≠ w.heap.size := by have := h.blk.lt; omega
    have hb1 : Below (w.alloc (.cells #[.int .i64 13, .int .i64 arg] 84)).heap.size (w.alloc (.cells #[.int .i64 13, .int .i64 arg] 84)) ((w.alloc (.cells #[.int .i64 13, .int .i64 arg] 84)).alloc (.cells #[.int .i64 x.pc] 3)).drew := ((Below.refl (w.alloc (.cells #[.int .i64 13, .int .i64 arg] 84)).heap.size (w.alloc (.cells #[.int .i64 13, .int .i64 arg] 84))).alloc (Nat.le_refl _) _).drew
    have HX2 := Lib.hid (HX.out.below hb1)
    have hc9 := Lib.hid (show ((w.alloc (.cells #[.int .i64 13, .int .i64 arg] 84)).alloc (.cells #[.int .i64 x.pc] 3)).drew.cell? ⟨w.heap.size + 1, 0, none⟩ = some (.int .i64 x.pc) by
      simp)
    have hc1 := Lib.hid (show ((w.alloc (.cells #[.int .i64 13, .int .i64 arg] 84)).alloc (.cells #[.int .i64 x.pc] 3)).drew.cell? ⟨w.heap.size, 1, none⟩ = some (.int .i64 arg) from (hb1.cell (p := ⟨w.heap.size, 1, none⟩) (by simp)).trans (cell_new _ _ _ 1))
    have c6' : ((w.alloc (.cells #[.int .i64 13, .int .i64 arg] 84)).alloc (.cells #[.int .i64 x.pc] 3)).cell? ⟨b, 6, none⟩ = some (.slice x.B x.bn x.bc) := HX2.out.blk.cell 6
    have hnw := Lib.hid (show some w.heap.size ≠ (Value.slice x.B x.bn x.bc).ownBlock from fun e => by have := (h.back.lt _ e.symm).2; omega)
    have HB1 := Lib.hid hb1
    have hbase : h2 ≤ w.heap.size := by have := h.o2; have := h.blk.lt; omega
    clear hb1 h
    go_enter Try.func83, Try.ntmps83
    go_wp2_with fail
    go_region_law ((refine step_pushM (by rfl) _ _ (by rfl) h2 x.bn x.bc (w.heap.size + 1) 1 x.B x.bs x.pc (by rfl) (by rfl) HX2.out.back hc9.out (by omega) (by simp; omega) ?_; intro A5 c5' w5 o5 g5 k5; have B1 := HX2.out.blk.grown g5 (Ne.symm HX2.out.ne_back); have c6 : w5.cell? ⟨b, 6, none⟩ = some (.slice x.B x.bn x.bc) := B1.cell 6; have f6 := B1.frozen 6; have c4 : w5.cell? ⟨b, 4, none⟩ = some (.int .i64 x.pc) := B1.cell 4; have f4 := B1.frozen 4; have hka := (World.cell?_of_block (g5.block w.heap.size (by simp; omega) hnw.out)).trans hc1.out; replace o5 := Lib.hid o5; replace g5 := Lib.hid g5; replace k5 := Lib.hid k5; clear B1))
    all_goals (
      go_wp2_with fail
      refine bodyPost_end (results_none (by rfl) _ _ _) rfl ?_
      obtain ⟨r1, r2⟩ := HX2.out.newBack o5.out g5.out (k5.out.imp_right fun e i hi => by rw [e] at hi; injection hi with hi; omega)
      obtain ⟨s1, s2⟩ := r1.field 4 (.int .i64 arg) { x with B := A5, bn := x.bn + 1, bc := c5', bs := x.bs ++ [x.pc], pc := arg } rfl rfl rfl rfl
      exact ⟨_, rfl, s1, by unfold goP; rw [if_neg (by omega), if_neg (by rintro (⟨_, q⟩ | ⟨q, _⟩ | q) <;> first | omega | exact hl8.out q), if_pos rfl]; rfl, ((MFr.of_below HB1.out).trans r2).trans s2⟩)
set_option maxRecDepth 4000 in
set_option maxHeartbeats 2000000 in
theorem branch_return (lo h1 h2 b : Nat) (x : Mch) (vs : List Value) (arg : Int) (w : World) (h : MSt lo h1 h2 b x vs w) (f : FormP x.pm) :
    Calls Try.prog 83 #[.pointer (some ⟨b, 0, none⟩), .agg #[.int .i64 14, .int .i64 arg]] w (Did lo h1 h2 b x vs w (goP x.pm 14 arg)) := by
  have hbn := h.bn
  by_cases h8 : x.bn = 0
  · have h8' : ((x.bn : Int) == 0) = true := by simp; omega
    have hl8 : x.bs.length = 0 := by omega
    replace h8 := Lib.hid h8
    replace hbn := Lib.hid hbn
    replace hl8 := Lib.hid hl8
    have hb0 : Below w.heap.size w (w.alloc (.cells #[.int .i64 14, .int .i64 arg] 84)) := (Below.refl _ _).alloc (Nat.le_refl _) _
    refine Calls.mono (R := Did lo h1 h2 b x vs (w.alloc (.cells #[.int .i64 14, .int .i64 arg] 84)) (goP x.pm 14 arg)) ?_ (fun e w' hd => Did.via hb0 hd)
    have g := h.below hb0
    have HX := Lib.hid g
    obtain ⟨⟨c0, c1, c2⟩, c3, c4, c5, c6, c7, c8⟩ := g.box.all
    have f3 := g.blk.frozen 3
    have f4 := g.blk.frozen 4
    have f5 := g.blk.frozen 5
    have f6 := g.blk.frozen 6
    have f7 := g.blk.frozen 7
    have hbl := g.blk.lt
    clear hb0 g
    go_enter Try.func83, Try.ntmps83
    go_wp2_with fail
    refine bodyPost_end (results_none (by rfl) _ _ _) rfl ?_
    obtain ⟨r1, r2⟩ := HX.out.field 7 (.bool true) { x with st := true } rfl rfl rfl rfl
    exact ⟨_, rfl, r1, by unfold goP; rw [if_neg (by omega), if_pos (.inr (.inl ⟨rfl, hl8.out⟩))]; rfl, r2⟩
  · have h8' : ((x.bn : Int) == 0) = false := by simp; omega
    have hl8 : ¬ x.bs.length = 0 := by omega
    have hb0 : Below w.heap.size w (w.alloc (.cells #[.int .i64 14, .int .i64 arg] 84)) := (Below.refl _ _).alloc (Nat.le_refl _) _
    refine Calls.mono (R := Did lo h1 h2 b x vs (w.alloc (.cells #[.int .i64 14, .int .i64 arg] 84)) (goP x.pm 14 arg)) ?_ (fun e w' hd => Did.via hb0 hd)
    have g := h.below hb0
    have HX := Lib.hid g
    obtain ⟨⟨c0, c1, c2⟩, c3, c4, c5, c6, c7, c8⟩ := g.box.all
    have f3 := g.blk.frozen 3
    have f4 := g.blk.frozen 4
    have f5 := g.blk.frozen 5
    have f6 := g.blk.frozen 6
    have f7 := g.blk.frozen 7
    have hbl := g.blk.lt
    clear hb0 g
    obtain ⟨n, hn⟩ : ∃ n : Nat, x.bn = n + 1 := ⟨x.bn - 1, by omega⟩
    have hlast : (x.bn : Int) - 1 = (n : Int) := by omega
    rcases own_block' HX.out.back with ⟨_, h0, _⟩ | ⟨g, eB, _⟩
    · omega
    have hcell : (w.alloc (.cells #[.int .i64 14, .int .i64 arg] 84)).cell? ⟨g, n, none⟩ = some (.int .i64 (x.bs.getD n 0)) := by
      have := HX.out.back
      rw [eB] at this
      refine (this.cellAt n (by omega)).trans ?_
      rw [iv, List.getElem?_map, List.getD_eq_getElem?_getD, List.getElem?_eq_getElem (by omega)]
      rfl
    have q0 : (0 : Int) ≤ (n : Int) := by omega
    have q1 : (n : Int) < (x.bn : Int) := by omega
    have b8 : x.bs.length ≤ 8 := f.b8
    have q3 : (n : Int) ≤ 8 := by omega
    have q2 : (n : Int) ≤ (x.bc : Int) := by
      have := own_cap HX.out.back
      omega
    have hs1 : x.bs.length = n + 1 := by omega
    rw [eB] at c6
    replace eB := Lib.hid eB
    replace h8 := Lib.hid h8
    replace hbn := Lib.hid hbn
    replace hl8 := Lib.hid hl8
    replace hn := Lib.hid hn
    replace hs1 := Lib.hid hs1
    clear h
    go_enter Try.func83, Try.ntmps83
    go_wp2_with fail
    refine bodyPost_end (results_none (by rfl) _ _ _) rfl ?_
    obtain ⟨r1, r2⟩ := HX.out.field 4 (.int .i64 (x.bs.getD n 0)) { x with pc := x.bs.getD n 0 } rfl rfl rfl rfl
    have ow := own_shrink (m := n) r1.back (by rw [hn.out]; exact Nat.le_succ n)
    rw [show (iv x.bs).take (n * 1) = iv (x.bs.take n) by simp [iv, List.map_take]] at ow
    simp only [eB.out] at ow
    obtain ⟨s1, s2⟩ := r1.newBack ow (World.grownBy.refl _ _) (.inl (by show _ = (Value.slice x.B x.bn x.bc).ownBlock; rw [eB.out]; rfl))
    exact ⟨_, rfl, s1, by unfold goP; rw [if_neg (by omega), if_neg (by rintro (⟨q, _⟩ | ⟨_, q⟩ | q) <;> first | omega | exact hl8.out q), if_neg (by omega), if_pos rfl]; simp only [Mch.pm, hs1.out, Nat.add_sub_cancel], r2.trans s2⟩
set_option maxHeartbeats 1000000 in
theorem branch_impl (lo h1 h2 b : Nat) (x : Mch) (vs : List Value) (op arg : Int) (w : World) (h : MSt lo h1 h2 b x vs w) (f : FormP x.pm) (ho : op = 0 ∨ (10 ≤ op ∧ op ≤ 14)) :
    Calls Try.prog 83 #[.pointer (some ⟨b, 0, none⟩), .agg #[.int .i64 op, .int .i64 arg]] w (Did lo h1 h2 b x vs w (goP x.pm op arg)) := by
  obtain rfl | rfl | rfl | rfl | rfl | rfl : op = 0 ∨ op = 10 ∨ op = 11 ∨ op = 12 ∨ op = 13 ∨ op = 14 := by omega
  · exact branch_wait lo h1 h2 b x vs arg w h
  · exact branch_jump lo h1 h2 b x vs arg w h
  · exact branch_zero lo h1 h2 b x vs arg w h
  · exact branch_carry lo h1 h2 b x vs arg w h
  · exact branch_call lo h1 h2 b x vs arg w h f
  · exact branch_return lo h1 h2 b x vs arg w h f
end Go.Proofs.Ytgedfcccflobmaa
