/-
  The law FnExactSceneLine: the same line, in memory of its own; arguments unmodified.
-/
import Derived.Test.YtkcabllnlbcgdaaScY
import Derived.Test.YtkcabllnlbcgdaaMrkL
namespace Go.Proofs.Ytkcabllnlbcgdaa
open Go.RowKit
set_option linter.unusedVariables false
set_option linter.unusedSimpArgs false
theorem Zones.hi_le {w0 w : World} {L : List Zn} (h : Zones w0 w L) (i : Nat) {lo hi : Nat} {P : World → Prop} (hr : L[i]? = some ⟨lo, hi, P⟩) : hi ≤ w.heap.size := (h.row _ (List.mem_of_getElem? hr)).2.2.2
/-- A scene's rows, by themselves. -/
def ZS (lo hi : Nat) (f : Fld) (A : Option Addr) (n c : Nat) (ss : List Spr) (w : World) : Prop :=
  SOwn w lo f A n c ss ∧ (∀ k, (Value.slice f.A f.n f.c).ownBlock = some k → k < hi) ∧ (∀ k, (Value.slice f.T f.tn f.tc).ownBlock = some k → k < hi) ∧ ∀ k, (Value.slice A n c).ownBlock = some k → k < hi
theorem ZS.new {w : World} {lo : Nat} {f : Fld} {A : Option Addr} {n c : Nat} {ss : List Spr} (h : SOwn w lo f A n c ss) : ZS lo w.heap.size f A n c ss w :=
  ⟨h, fun k hk => (h.f.m.lt k hk).2, fun k hk => (h.f.t.lt k hk).2, fun k hk => (h.s.lt k hk).2⟩
theorem local_ZS (lo hi : Nat) (f : Fld) (A : Option Addr) (n c : Nat) (ss : List Spr) : Local lo hi (ZS lo hi f A n c ss) := fun w w' p hs hk =>
  ⟨⟨⟨own_same p.1.f.m fun g hg => hk g (p.1.f.m.lt g hg).1 (p.2.1 g hg), own_same p.1.f.t fun g hg => hk g (p.1.f.t.lt g hg).1 (p.2.2.1 g hg), p.1.f.l⟩, own_same p.1.s fun g hg => hk g (p.1.s.lt g hg).1 (p.2.2.2 g hg)⟩, p.2⟩
theorem local_SBox (b hi : Nat) (hb : b < hi) (f : Fld) (A : Option Addr) (n c : Nat) : Local b hi (fun w => SBox w b f A n c) := fun w w' p hs hk => by
  have e : w'.heap[b]? = w.heap[b]? := hk b (Nat.le_refl _) hb
  exact ⟨Nat.lt_of_lt_of_le p.lt hs, (World.cell?_of_block e).trans p.c0, (World.cell?_of_block e).trans p.c1, (World.cell?_of_block e).trans p.c2, (World.cell?_of_block e).trans p.c3, (World.cell?_of_block e).trans p.c4, (World.cell?_of_block e).trans p.c5⟩
theorem local_true (lo hi : Nat) : Local lo hi (fun _ => True) := fun _ _ _ _ _ => trivial
theorem scLineR_len (f : Fld) (ss : List Spr) (y : Int) : (scLineR f ss y).length ≤ 32 := by
  unfold scLineR
  split
  · rw [scLine_len]; omega
  · simp
set_option maxRecDepth 20000 in
set_option maxHeartbeats 4000000 in
theorem fnExactSceneLine_walk (w : World) (f : Fld) (A : Option Addr) (n c : Nat) (ss : List Spr) (h : FRd0 w f) (hs : SpRd w w.heap.size A n ss) (hn : n ≤ 9223372036854775807) (y : Int) (hy : (Lit.int .i64 y).wf = true) :
    Calls Try.prog 6 #[scV f A n c, .int .i64 y] w fun e w' => e = .returned (.bool true) ∧ Below w.heap.size w w' := by
  clear hy
  have hb0 : Below w.heap.size w (w.alloc (.cells (scCs f A n c) 56)) := (Below.refl _ _).alloc (Nat.le_refl _) _
  have X0 := Lib.hid (SBox.new w f A n c 56)
  have HZ := Lib.hid (szScene_any f A n c 1048576 (w.alloc (.cells (scCs f A n c) 56)) (by omega) (by omega) h.hn h.ht hn)
  by_cases hlong : szSV 1048576 f.n f.tn n < 0
  · generalize szSV 1048576 f.n f.tn n = v at HZ hlong
    have HBW := Lib.hid hb0
    clear h hs hb0
    unfold scCs at *
    unfold scV at *
    go_enter Try.func6, Try.ntmps6
    go_wp2_with fail
    refine (HZ.out).mono ?_
    rintro e w1 ⟨rfl, b⟩
    replace HBW := Lib.hid (below_step HBW.out b HBW.out.size)
    clear b
    go_wp2_with fail
    go_ret
    exact ⟨rfl, HBW.out⟩
  obtain ⟨q1, q2, q3⟩ := szSV_ok hlong
  have hn8 : n ≤ 100000000 := by omega
  have hfn : f.n ≤ 100000000 := by omega
  have hft : f.tn ≤ 100000000 := by omega
  have HQ := Lib.hid (show n ≤ 2000000 ∧ f.n ≤ 2000000 ∧ f.tn ≤ 2000000 from ⟨by omega, by omega, by omega⟩)
  have HF := Lib.hid ((FRd.mk h.map h.tiles hfn hft).below hb0)
  have HS := Lib.hid ((hs.below hb0).more hb0.size)
  have HBW := Lib.hid hb0
  generalize szSV 1048576 f.n f.tn n = v at HZ hlong
  clear h hs hb0 q1 q2 q3 hn
  unfold scCs at *
  unfold scV at HZ ⊢
  go_enter Try.func6, Try.ntmps6
  go_wp2_with fail
  refine (HZ.out).mono ?_
  rintro e w1 ⟨rfl, b⟩
  have HB := Lib.hid b
  clear b HZ
  obtain ⟨-, c0, c1, c2, c3, c4, c5⟩ := X0.out.below HB.out
  go_wp2_with fail
  refine (toScene_to f A n c ss _ (HF.out.below HB.out) ((HS.out.below HB.out).more HB.out.size) hn8).mono ?_
  rintro e w2 ⟨f2, S2, sc2, rfl, fs2, ⟨o2, R2, P2⟩, b⟩
  have E2 := Lib.hid fs2
  replace HB := Lib.hid (below_step HB.out b HB.out.size)
  replace R2 := Lib.hid R2
  replace P2 := Lib.hid P2
  clear b o2 fs2 c0 c1 c2 c3 c4 c5
  unfold scV
  go_wp2_with fail
  have hZ := Lib.hid ((Zones.start _).below HB.out)
  obtain ⟨xs, hxs⟩ : ∃ xs, scLineR f ss y = xs := ⟨_, rfl⟩
  have hxl : xs.length ≤ 32 := by rw [← hxs]; exact scLineR_len f ss y
  replace hxs := Lib.hid hxs
  refine (sceneLine_spec _ _ _ _ ss y _ R2.out P2.out hn8).mono ?_
  rw [scLineR_at E2.out, hxs.out]
  rintro e w3 ⟨A0, c0', rfl, o, b⟩
  replace hZ := Lib.hid (hZ.out.pushI o b)
  replace HB := Lib.hid hZ.out.bel
  clear o b R2 P2 E2
  obtain ⟨-, c0, c1, c2, c3, c4, c5⟩ := X0.out.below HB.out
  go_wp2_with fail
  refine (toScene_to f A n c ss _ (HF.out.below HB.out) ((HS.out.below HB.out).more HB.out.size) hn8).mono ?_
  rintro e w4 ⟨f4, S4, sc4, rfl, fs4, ⟨o4, R4, P4⟩, b⟩
  have E4 := Lib.hid fs4
  replace hZ := Lib.hid (hZ.out.push (ZS.new o4) (local_ZS _ _ _ _ _ _ _) b)
  clear b fs4 o4 R4 P4 c0 c1 c2 c3 c4 c5
  have hb4 : Below w4.heap.size w4 (w4.alloc (.cells (scCs f4 S4 n sc4) 61)) := (Below.refl _ _).alloc (Nat.le_refl _) _
  have X4' := SBox.new w4 f4 S4 n sc4 61
  replace hZ := Lib.hid (hZ.out.push X4' (local_SBox w4.heap.size _ (by simp) f4 S4 n sc4) hb4)
  clear hb4 X4'
  unfold scCs at *
  unfold scV
  go_wp2_with fail
  have Z1 := (hZ.out.at_ 1 rfl : ZS _ _ f4 S4 n sc4 ss _).1
  refine (sceneLine_impl _ _ _ _ ss y _ (Z1.f.rd (E4.out.nums.1 ▸ hfn) (E4.out.nums.2.1 ▸ hft)) Z1.sp hn8).mono ?_
  clear Z1
  rw [scLineR_at E4.out, hxs.out]
  rintro e w5 ⟨A5, c5', rfl, o, b⟩
  replace hZ := Lib.hid (hZ.out.pushI o b)
  clear o b
  go_wp2_with fail
  refine (eqIntS_same _ _ _ _ _ _ _ (hZ.out.ints 0 rfl) (hZ.out.ints 3 rfl) (by omega)).mono ?_
  rintro e w' ⟨rfl, b⟩
  replace hZ := Lib.hid (hZ.out.below b)
  clear b
  replace HB := Lib.hid hZ.out.bel
  have X4 := Lib.hid (hZ.out.at_ 1 rfl : SBox _ w4.heap.size f4 S4 n sc4)
  have Z1 := (hZ.out.at_ 2 rfl : ZS _ _ f4 S4 n sc4 ss _).1
  have R4 := Lib.hid (Z1.f.rd (E4.out.nums.1 ▸ hfn) (E4.out.nums.2.1 ▸ hft))
  have P4 := Lib.hid Z1.sp
  clear Z1
  obtain ⟨-, c0, c1, c2, c3, c4, c5⟩ := X0.out.below HB.out
  obtain ⟨-, d0, d1, d2, d3, d4, d5⟩ := X4.out
  have x0l := Nat.lt_of_lt_of_le X0.out.lt HB.out.size
  have x4l := X4.out.lt
  go_wp2_with fail
  go_region_held3 (fun w' => (w'.cell? ⟨w.heap.size, 0, none⟩ = some (.int .i64 f.W) ∧ w'.cell? ⟨w.heap.size, 1, none⟩ = some (.slice f.A f.n f.c) ∧ w'.cell? ⟨w.heap.size, 2, none⟩ = some (.slice f.T f.tn f.tc) ∧ w'.cell? ⟨w.heap.size, 3, none⟩ = some (.int .i64 f.sx) ∧ w'.cell? ⟨w.heap.size, 4, none⟩ = some (.int .i64 f.sy) ∧ w'.cell? ⟨w.heap.size, 5, none⟩ = some (.slice A n c)) ∧ (w'.cell? ⟨w4.heap.size, 0, none⟩ = some (.int .i64 f4.W) ∧ w'.cell? ⟨w4.heap.size, 1, none⟩ = some (.slice f4.A f4.n f4.c) ∧ w'.cell? ⟨w4.heap.size, 2, none⟩ = some (.slice f4.T f4.tn f4.tc) ∧ w'.cell? ⟨w4.heap.size, 3, none⟩ = some (.int .i64 f4.sx) ∧ w'.cell? ⟨w4.heap.size, 4, none⟩ = some (.int .i64 f4.sy) ∧ w'.cell? ⟨w4.heap.size, 5, none⟩ = some (.slice S4 n sc4))) (first | exact ⟨⟨c0, c1, c2, c3, c4, c5⟩, d0, d1, d2, d3, d4, d5⟩ | exact ⟨⟨(b6.cell x0l).trans c0, (b6.cell x0l).trans c1, (b6.cell x0l).trans c2, (b6.cell x0l).trans c3, (b6.cell x0l).trans c4, (b6.cell x0l).trans c5⟩, (b6.cell x4l).trans d0, (b6.cell x4l).trans d1, (b6.cell x4l).trans d2, (b6.cell x4l).trans d3, (b6.cell x4l).trans d4, (b6.cell x4l).trans d5⟩ | exact ⟨⟨(b7.cell x0l).trans c0, (b7.cell x0l).trans c1, (b7.cell x0l).trans c2, (b7.cell x0l).trans c3, (b7.cell x0l).trans c4, (b7.cell x0l).trans c5⟩, (b7.cell x4l).trans d0, (b7.cell x4l).trans d1, (b7.cell x4l).trans d2, (b7.cell x4l).trans d3, (b7.cell x4l).trans d4, (b7.cell x4l).trans d5⟩) ((first | (go_at_call 33; refine (toScene_to f A n c ss _ (HF.out.below HB.out.drew) ((HS.out.below HB.out.drew).more HB.out.drew.size) hn8).mono ?_; rintro e w6 ⟨f6, S6, sc6, rfl, fs6, ⟨o6, R6, P6⟩, b6⟩; replace fs6 := Lib.hid fs6; replace R6 := Lib.hid R6; replace P6 := Lib.hid P6; have HB6 := Lib.hid (below_step HB.out.drew b6 HB.out.drew.size); clear o6; unfold scV) | (go_at_call 35; refine (eqScene_two f f4 f6 S4 sc4 S6 sc6 n ss _ E4.out fs6.out (R4.out.drew.below b6) ((P4.out.drew.below b6).more b6.size) R6.out P6.out hn8).mono ?_; rintro e w7 ⟨rfl, b7'⟩; have HB7 := Lib.hid (below_step HB6.out b7' HB6.out.size); have b7 := below_step b6 b7' b6.size; clear b7')))
  replace hZ := Lib.hid (hZ.out.below ((Below.refl _ _).drew.trans b7))
  clear b6 b7 c0 c1 c2 c3 c4 c5 d0 d1 d2 d3 d4 d5 x0l x4l HB7 HB6 R4 P4 X4 R6 P6 fs6
  obtain ⟨-, d0, d1, d2, d3, d4, d5⟩ := (hZ.out.at_ 1 rfl : SBox _ w4.heap.size f4 S4 n sc4)
  have Z1 := (hZ.out.at_ 2 rfl : ZS _ _ f4 S4 n sc4 ss _)
  have e1 := Lib.hid E4.out.nums.1
  have e2 := Lib.hid E4.out.nums.2.1
  go_wp2_with fail
  refine (markScene_any f4 S4 n sc4 ss _ _ 1 _ Z1.1 Z1.2.1 Z1.2.2.1 Z1.2.2.2 (hZ.out.hi_le 2 rfl) (by omega) (by omega) (by have := e1.out; have := HQ.out; omega) (by have := e2.out; have := HQ.out; omega) HQ.out.1).mono ?_
  rintro e w8 ⟨rfl, t⟩
  replace hZ := Lib.hid (hZ.out.mark 2 rfl (P' := fun _ => True) trivial (local_true _ _) t)
  clear t Z1 d0 d1 d2 d3 d4 d5
  go_wp2_with fail
  refine (eqIntS_same _ _ _ _ _ _ _ (hZ.out.ints 0 rfl) (hZ.out.ints 3 rfl) (by omega)).mono ?_
  rintro e w' ⟨rfl, b⟩
  replace hZ := Lib.hid (hZ.out.below b)
  clear b
  go_wp2_with fail
  refine (markIntS_own _ _ _ _ _ 1 _ (hZ.out.own 0 rfl) (by omega) (by omega) (by omega)).mono ?_
  rintro e w' ⟨rfl, o, g⟩
  replace hZ := Lib.hid (hZ.out.markI 0 rfl o g)
  clear o g
  go_wp2_with fail
  refine (heldIntS_marks _ _ _ 1 _ (hZ.out.ints 0 rfl) (by omega) (by omega) (by omega)).mono ?_
  rintro e w' ⟨rfl, b⟩
  replace hZ := Lib.hid (hZ.out.below b)
  clear b
  replace HB := Lib.hid hZ.out.bel
  obtain ⟨-, c0, c1, c2, c3, c4, c5⟩ := X0.out.below HB.out
  go_wp2_with fail
  refine (toScene_to f A n c ss _ (HF.out.below HB.out) ((HS.out.below HB.out).more HB.out.size) hn8).mono ?_
  rintro e w9 ⟨f9, S9, sc9, rfl, fs9, ⟨o9, R9, P9⟩, b⟩
  have E9 := Lib.hid fs9
  replace R9 := Lib.hid R9
  replace P9 := Lib.hid P9
  replace hZ := Lib.hid (hZ.out.below b)
  clear b fs9 o9 c0 c1 c2 c3 c4 c5
  unfold scV
  go_wp2_with fail
  refine (sceneLine_impl _ _ _ _ ss y _ R9.out P9.out hn8).mono ?_
  rw [scLineR_at E9.out, hxs.out]
  rintro e w10 ⟨A10, c10, rfl, o, b⟩
  replace hZ := Lib.hid (hZ.out.pushI o b)
  clear o b
  go_wp2_with fail
  refine (eqIntS_same _ _ _ _ _ _ _ (hZ.out.ints 0 rfl) (hZ.out.ints 4 rfl) (by omega)).mono ?_
  rintro e w' ⟨rfl, b⟩
  replace hZ := Lib.hid (hZ.out.below b)
  clear b
  go_wp2_with fail
  refine (heldIntS_marks _ _ _ 1 _ (hZ.out.ints 1 rfl) (by omega) (by omega) (by omega)).mono ?_
  rintro e w' ⟨rfl, b⟩
  replace hZ := Lib.hid (hZ.out.below b)
  clear b
  go_wp2_with fail
  go_ret
  exact ⟨rfl, below_step HBW.out hZ.out.bel HBW.out.size⟩
end Go.Proofs.Ytkcabllnlbcgdaa
