/-
  Laws on scenes: ScenePixel, SceneHash.
-/
import Derived.Test.YtkcabllnlbcgdaaScX
import Derived.Test.YtkcabllnlbcgdaaScn
namespace Go.Proofs.Ytkcabllnlbcgdaa
open Go.RowKit
set_option linter.unusedVariables false
set_option linter.unusedSimpArgs false
theorem scLine_at {f g : Fld} (h : Fsame f g) (ss : List Spr) (y : Int) : scLine g ss y = scLine f ss y := by
  obtain ⟨A, c, T, tc, rfl⟩ := h
  rfl
theorem sceneB_at {f g : Fld} (h : Fsame f g) (ss : List Spr) : sceneB g ss = sceneB f ss := by
  obtain ⟨A, c, T, tc, rfl⟩ := h
  rfl
theorem scPixR_at {f g : Fld} (h : Fsame f g) (ss : List Spr) (x y : Int) : scPixR g ss x y = scPixR f ss x y := by
  obtain ⟨A, c, T, tc, rfl⟩ := h
  rfl
theorem scLineR_at {f g : Fld} (h : Fsame f g) (ss : List Spr) (y : Int) : scLineR g ss y = scLineR f ss y := by
  unfold scLineR
  rw [scLine_at h, sceneB_at h]
theorem hashL_at {f g : Fld} (h : Fsame f g) (ss : List Spr) : ∀ y, hashL g ss y = hashL f ss y
  | 0 => rfl
  | y + 1 => by unfold hashL; rw [scLine_at h, hashL_at h ss y]
theorem hashR_at {f g : Fld} (h : Fsame f g) (ss : List Spr) : hashR g ss = hashR f ss := by
  unfold hashR
  rw [sceneB_at h, hashL_at h]
set_option maxRecDepth 20000 in
set_option maxHeartbeats 4000000 in
theorem fnExactScenePixel_walk (w : World) (f : Fld) (A : Option Addr) (n c : Nat) (ss : List Spr) (h : FRd0 w f) (hs : SpRd w w.heap.size A n ss) (hn : n ≤ 9223372036854775807) (x : Int) (hx : (Lit.int .i64 x).wf = true) (y : Int) (hy : (Lit.int .i64 y).wf = true) :
    Calls Try.prog 9 #[scV f A n c, .int .i64 x, .int .i64 y] w fun e w' => e = .returned (.bool true) ∧ Below w.heap.size w w' := by
  clear hx hy
  have hb0 : Below w.heap.size w (w.alloc (.cells (scCs f A n c) 56)) := (Below.refl _ _).alloc (Nat.le_refl _) _
  have X0 := Lib.hid (SBox.new w f A n c 56)
  have HZ := Lib.hid (szScene_any f A n c 1048576 (w.alloc (.cells (scCs f A n c) 56)) (by omega) (by omega) h.hn h.ht hn)
  by_cases hlong : szSV 1048576 f.n f.tn n < 0
  · generalize szSV 1048576 f.n f.tn n = v at HZ hlong
    have HBW := Lib.hid hb0
    clear h hs hb0
    unfold scCs at *
    unfold scV at *
    go_enter Try.func9, Try.ntmps9
    go_wp2_with fail
    refine (HZ.out).mono ?_
    rintro e w1 ⟨rfl, b⟩
    replace HBW := Lib.hid (below_step HBW.out b HBW.out.size)
    clear b
    go_wp2_with fail
    go_ret
    exact ⟨rfl, HBW.out⟩
  obtain ⟨q1, q2, q3⟩ := szSV_ok hlong
  have hn8 : n ≤ 100000000 := by omega
  have hfn : f.n ≤ 100000000 := by omega
  have hft : f.tn ≤ 100000000 := by omega
  have HQ := Lib.hid (show n ≤ 2000000 ∧ f.n ≤ 2000000 ∧ f.tn ≤ 2000000 from ⟨by omega, by omega, by omega⟩)
  have HF := Lib.hid ((FRd.mk h.map h.tiles hfn hft).below hb0)
  have HS := Lib.hid ((hs.below hb0).more hb0.size)
  have HBW := Lib.hid hb0
  generalize szSV 1048576 f.n f.tn n = v at HZ hlong
  clear h hs hb0 q1 q2 q3 hn
  unfold scCs at *
  unfold scV at HZ ⊢
  go_enter Try.func9, Try.ntmps9
  go_wp2_with fail
  refine (HZ.out).mono ?_
  rintro e w1 ⟨rfl, b⟩
  have HB := Lib.hid b
  clear b HZ
  obtain ⟨-, c0, c1, c2, c3, c4, c5⟩ := X0.out.below HB.out
  go_wp2_with fail
  refine (toScene_to f A n c ss _ (HF.out.below HB.out) ((HS.out.below HB.out).more HB.out.size) hn8).mono ?_
  rintro e w2 ⟨f2, S2, sc2, rfl, fs2, ⟨o2, R2, P2⟩, b⟩
  have E2 := Lib.hid fs2
  replace HB := Lib.hid (below_step HB.out b HB.out.size)
  replace R2 := Lib.hid R2
  replace P2 := Lib.hid P2
  clear b o2 fs2 c0 c1 c2 c3 c4 c5
  unfold scV
  go_wp2_with fail
  refine (scenePixel_spec _ _ _ _ ss x y _ R2.out P2.out hn8).mono ?_
  rintro e w3 ⟨rfl, b⟩
  rw [scPixR_at E2.out]
  replace HB := Lib.hid (below_step HB.out b HB.out.size)
  clear b R2 P2
  have hq : (scPixR f ss x y != scPixR f ss x y) = false := by simp
  obtain ⟨q, hqq⟩ : ∃ q, scPixR f ss x y = q := ⟨_, rfl⟩
  rw [hqq] at hq ⊢
  replace hqq := Lib.hid hqq
  obtain ⟨-, c0, c1, c2, c3, c4, c5⟩ := X0.out.below HB.out
  go_wp2_with fail
  refine (toScene_to f A n c ss _ (HF.out.below HB.out) ((HS.out.below HB.out).more HB.out.size) hn8).mono ?_
  rintro e w4 ⟨f4, S4, sc4, rfl, fs4, ⟨o4, R4, P4⟩, b⟩
  have E4 := Lib.hid fs4
  replace HB := Lib.hid (below_step HB.out b HB.out.size)
  clear b fs4 c0 c1 c2 c3 c4 c5
  have hb4 : Below w4.heap.size w4 (w4.alloc (.cells (scCs f4 S4 n sc4) 61)) := (Below.refl _ _).alloc (Nat.le_refl _) _
  have X4 := Lib.hid (SBox.new w4 f4 S4 n sc4 61)
  replace HB := Lib.hid (below_step HB.out hb4 HB.out.size)
  replace R4 := Lib.hid (R4.below hb4)
  replace P4 := Lib.hid ((P4.below hb4).more hb4.size)
  clear hb4 o4
  unfold scCs at *
  unfold scV
  go_wp2_with fail
  refine (scenePixel_impl _ _ _ _ ss x y _ R4.out P4.out hn8).mono ?_
  rintro e w5 ⟨rfl, b⟩
  rw [scPixR_at E4.out, hqq.out]
  replace HB := Lib.hid (below_step HB.out b HB.out.size)
  replace X4 := Lib.hid (X4.out.below b)
  replace R4 := Lib.hid (R4.out.below b)
  replace P4 := Lib.hid ((P4.out.below b).more b.size)
  clear b
  obtain ⟨-, c0, c1, c2, c3, c4, c5⟩ := X0.out.below HB.out
  obtain ⟨-, d0, d1, d2, d3, d4, d5⟩ := X4.out
  have x0l := Nat.lt_of_lt_of_le X0.out.lt HB.out.size
  have x4l := X4.out.lt
  go_wp2_with fail
  go_region_held3 (fun w' => (w'.cell? ⟨w.heap.size, 0, none⟩ = some (.int .i64 f.W) ∧ w'.cell? ⟨w.heap.size, 1, none⟩ = some (.slice f.A f.n f.c) ∧ w'.cell? ⟨w.heap.size, 2, none⟩ = some (.slice f.T f.tn f.tc) ∧ w'.cell? ⟨w.heap.size, 3, none⟩ = some (.int .i64 f.sx) ∧ w'.cell? ⟨w.heap.size, 4, none⟩ = some (.int .i64 f.sy) ∧ w'.cell? ⟨w.heap.size, 5, none⟩ = some (.slice A n c)) ∧ (w'.cell? ⟨w4.heap.size, 0, none⟩ = some (.int .i64 f4.W) ∧ w'.cell? ⟨w4.heap.size, 1, none⟩ = some (.slice f4.A f4.n f4.c) ∧ w'.cell? ⟨w4.heap.size, 2, none⟩ = some (.slice f4.T f4.tn f4.tc) ∧ w'.cell? ⟨w4.heap.size, 3, none⟩ = some (.int .i64 f4.sx) ∧ w'.cell? ⟨w4.heap.size, 4, none⟩ = some (.int .i64 f4.sy) ∧ w'.cell? ⟨w4.heap.size, 5, none⟩ = some (.slice S4 n sc4))) (first | exact ⟨⟨c0, c1, c2, c3, c4, c5⟩, d0, d1, d2, d3, d4, d5⟩ | exact ⟨⟨(b6.cell x0l).trans c0, (b6.cell x0l).trans c1, (b6.cell x0l).trans c2, (b6.cell x0l).trans c3, (b6.cell x0l).trans c4, (b6.cell x0l).trans c5⟩, (b6.cell x4l).trans d0, (b6.cell x4l).trans d1, (b6.cell x4l).trans d2, (b6.cell x4l).trans d3, (b6.cell x4l).trans d4, (b6.cell x4l).trans d5⟩ | exact ⟨⟨(b7.cell x0l).trans c0, (b7.cell x0l).trans c1, (b7.cell x0l).trans c2, (b7.cell x0l).trans c3, (b7.cell x0l).trans c4, (b7.cell x0l).trans c5⟩, (b7.cell x4l).trans d0, (b7.cell x4l).trans d1, (b7.cell x4l).trans d2, (b7.cell x4l).trans d3, (b7.cell x4l).trans d4, (b7.cell x4l).trans d5⟩) ((first | (go_at_call 33; refine (toScene_to f A n c ss _ (HF.out.below HB.out.drew) ((HS.out.below HB.out.drew).more HB.out.drew.size) hn8).mono ?_; rintro e w6 ⟨f6, S6, sc6, rfl, fs6, ⟨o6, R6, P6⟩, b6⟩; replace fs6 := Lib.hid fs6; replace R6 := Lib.hid R6; replace P6 := Lib.hid P6; have HB6 := Lib.hid (below_step HB.out.drew b6 HB.out.drew.size); clear o6; unfold scV) | (go_at_call 35; refine (eqScene_two f f4 f6 S4 sc4 S6 sc6 n ss _ E4.out fs6.out (R4.out.drew.below b6) ((P4.out.drew.below b6).more b6.size) R6.out P6.out hn8).mono ?_; rintro e w7 ⟨rfl, b7'⟩; have HB7 := Lib.hid (below_step HB6.out b7' HB6.out.size); have b7 := below_step b6 b7' b6.size; clear b7')))
  go_wp2_with fail
  go_ret
  exact ⟨rfl, below_step HBW.out HB7.out HBW.out.size⟩
set_option maxRecDepth 20000 in
set_option maxHeartbeats 4000000 in
theorem fnExactSceneHash_walk (w : World) (f : Fld) (A : Option Addr) (n c : Nat) (ss : List Spr) (h : FRd0 w f) (hs : SpRd w w.heap.size A n ss) (hn : n ≤ 9223372036854775807) :
    Calls Try.prog 10 #[scV f A n c] w fun e w' => e = .returned (.bool true) ∧ Below w.heap.size w w' := by
  have hb0 : Below w.heap.size w (w.alloc (.cells (scCs f A n c) 56)) := (Below.refl _ _).alloc (Nat.le_refl _) _
  have X0 := Lib.hid (SBox.new w f A n c 56)
  have HZ := Lib.hid (szScene_any f A n c 1048576 (w.alloc (.cells (scCs f A n c) 56)) (by omega) (by omega) h.hn h.ht hn)
  by_cases hlong : szSV 1048576 f.n f.tn n < 0
  · generalize szSV 1048576 f.n f.tn n = v at HZ hlong
    have HBW := Lib.hid hb0
    clear h hs hb0
    unfold scCs at *
    unfold scV at *
    go_enter Try.func10, Try.ntmps10
    go_wp2_with fail
    refine (HZ.out).mono ?_
    rintro e w1 ⟨rfl, b⟩
    replace HBW := Lib.hid (below_step HBW.out b HBW.out.size)
    clear b
    go_wp2_with fail
    go_ret
    exact ⟨rfl, HBW.out⟩
  obtain ⟨q1, q2, q3⟩ := szSV_ok hlong
  have hn8 : n ≤ 100000000 := by omega
  have hfn : f.n ≤ 100000000 := by omega
  have hft : f.tn ≤ 100000000 := by omega
  have HQ := Lib.hid (show n ≤ 2000000 ∧ f.n ≤ 2000000 ∧ f.tn ≤ 2000000 from ⟨by omega, by omega, by omega⟩)
  have HF := Lib.hid ((FRd.mk h.map h.tiles hfn hft).below hb0)
  have HS := Lib.hid ((hs.below hb0).more hb0.size)
  have HBW := Lib.hid hb0
  generalize szSV 1048576 f.n f.tn n = v at HZ hlong
  clear h hs hb0 q1 q2 q3 hn
  unfold scCs at *
  unfold scV at HZ ⊢
  go_enter Try.func10, Try.ntmps10
  go_wp2_with fail
  refine (HZ.out).mono ?_
  rintro e w1 ⟨rfl, b⟩
  have HB := Lib.hid b
  clear b HZ
  obtain ⟨-, c0, c1, c2, c3, c4, c5⟩ := X0.out.below HB.out
  go_wp2_with fail
  refine (toScene_to f A n c ss _ (HF.out.below HB.out) ((HS.out.below HB.out).more HB.out.size) hn8).mono ?_
  rintro e w2 ⟨f2, S2, sc2, rfl, fs2, ⟨o2, R2, P2⟩, b⟩
  have E2 := Lib.hid fs2
  replace HB := Lib.hid (below_step HB.out b HB.out.size)
  replace R2 := Lib.hid R2
  replace P2 := Lib.hid P2
  clear b o2 fs2 c0 c1 c2 c3 c4 c5
  unfold scV
  go_wp2_with fail
  refine (sceneHash_spec _ _ _ _ ss _ R2.out P2.out hn8).mono ?_
  rintro e w3 ⟨rfl, b⟩
  rw [hashR_at E2.out]
  replace HB := Lib.hid (below_step HB.out b HB.out.size)
  clear b R2 P2
  have hq : (hashR f ss != hashR f ss) = false := by simp
  obtain ⟨q, hqq⟩ : ∃ q, hashR f ss = q := ⟨_, rfl⟩
  rw [hqq] at hq ⊢
  replace hqq := Lib.hid hqq
  obtain ⟨-, c0, c1, c2, c3, c4, c5⟩ := X0.out.below HB.out
  go_wp2_with fail
  refine (toScene_to f A n c ss _ (HF.out.below HB.out) ((HS.out.below HB.out).more HB.out.size) hn8).mono ?_
  rintro e w4 ⟨f4, S4, sc4, rfl, fs4, ⟨o4, R4, P4⟩, b⟩
  have E4 := Lib.hid fs4
  replace HB := Lib.hid (below_step HB.out b HB.out.size)
  clear b fs4 c0 c1 c2 c3 c4 c5
  have hb4 : Below w4.heap.size w4 (w4.alloc (.cells (scCs f4 S4 n sc4) 61)) := (Below.refl _ _).alloc (Nat.le_refl _) _
  have X4 := Lib.hid (SBox.new w4 f4 S4 n sc4 61)
  replace HB := Lib.hid (below_step HB.out hb4 HB.out.size)
  replace R4 := Lib.hid (R4.below hb4)
  replace P4 := Lib.hid ((P4.below hb4).more hb4.size)
  clear hb4 o4
  unfold scCs at *
  unfold scV
  go_wp2_with fail
  refine (sceneHash_impl _ _ _ _ ss _ R4.out P4.out hn8).mono ?_
  rintro e w5 ⟨rfl, b⟩
  rw [hashR_at E4.out, hqq.out]
  replace HB := Lib.hid (below_step HB.out b HB.out.size)
  replace X4 := Lib.hid (X4.out.below b)
  replace R4 := Lib.hid (R4.out.below b)
  replace P4 := Lib.hid ((P4.out.below b).more b.size)
  clear b
  obtain ⟨-, c0, c1, c2, c3, c4, c5⟩ := X0.out.below HB.out
  obtain ⟨-, d0, d1, d2, d3, d4, d5⟩ := X4.out
  have x0l := Nat.lt_of_lt_of_le X0.out.lt HB.out.size
  have x4l := X4.out.lt
  go_wp2_with fail
  go_region_held3 (fun w' => (w'.cell? ⟨w.heap.size, 0, none⟩ = some (.int .i64 f.W) ∧ w'.cell? ⟨w.heap.size, 1, none⟩ = some (.slice f.A f.n f.c) ∧ w'.cell? ⟨w.heap.size, 2, none⟩ = some (.slice f.T f.tn f.tc) ∧ w'.cell? ⟨w.heap.size, 3, none⟩ = some (.int .i64 f.sx) ∧ w'.cell? ⟨w.heap.size, 4, none⟩ = some (.int .i64 f.sy) ∧ w'.cell? ⟨w.heap.size, 5, none⟩ = some (.slice A n c)) ∧ (w'.cell? ⟨w4.heap.size, 0, none⟩ = some (.int .i64 f4.W) ∧ w'.cell? ⟨w4.heap.size, 1, none⟩ = some (.slice f4.A f4.n f4.c) ∧ w'.cell? ⟨w4.heap.size, 2, none⟩ = some (.slice f4.T f4.tn f4.tc) ∧ w'.cell? ⟨w4.heap.size, 3, none⟩ = some (.int .i64 f4.sx) ∧ w'.cell? ⟨w4.heap.size, 4, none⟩ = some (.int .i64 f4.sy) ∧ w'.cell? ⟨w4.heap.size, 5, none⟩ = some (.slice S4 n sc4))) (first | exact ⟨⟨c0, c1, c2, c3, c4, c5⟩, d0, d1, d2, d3, d4, d5⟩ | exact ⟨⟨(b6.cell x0l).trans c0, (b6.cell x0l).trans c1, (b6.cell x0l).trans c2, (b6.cell x0l).trans c3, (b6.cell x0l).trans c4, (b6.cell x0l).trans c5⟩, (b6.cell x4l).trans d0, (b6.cell x4l).trans d1, (b6.cell x4l).trans d2, (b6.cell x4l).trans d3, (b6.cell x4l).trans d4, (b6.cell x4l).trans d5⟩ | exact ⟨⟨(b7.cell x0l).trans c0, (b7.cell x0l).trans c1, (b7.cell x0l).trans c2, (b7.cell x0l).trans c3, (b7.cell x0l).trans c4, (b7.cell x0l).trans c5⟩, (b7.cell x4l).trans d0, (b7.cell x4l).trans d1, (b7.cell x4l).trans d2, (b7.cell x4l).trans d3, (b7.cell x4l).trans d4, (b7.cell x4l).trans d5⟩) ((first | (go_at_call 33; refine (toScene_to f A n c ss _ (HF.out.below HB.out.drew) ((HS.out.below HB.out.drew).more HB.out.drew.size) hn8).mono ?_; rintro e w6 ⟨f6, S6, sc6, rfl, fs6, ⟨o6, R6, P6⟩, b6⟩; replace fs6 := Lib.hid fs6; replace R6 := Lib.hid R6; replace P6 := Lib.hid P6; have HB6 := Lib.hid (below_step HB.out.drew b6 HB.out.drew.size); clear o6; unfold scV) | (go_at_call 35; refine (eqScene_two f f4 f6 S4 sc4 S6 sc6 n ss _ E4.out fs6.out (R4.out.drew.below b6) ((P4.out.drew.below b6).more b6.size) R6.out P6.out hn8).mono ?_; rintro e w7 ⟨rfl, b7'⟩; have HB7 := Lib.hid (below_step HB6.out b7' HB6.out.size); have b7 := below_step b6 b7' b6.size; clear b7')))
  go_wp2_with fail
  go_ret
  exact ⟨rfl, below_step HBW.out HB7.out HBW.out.size⟩
end Go.Proofs.Ytkcabllnlbcgdaa
