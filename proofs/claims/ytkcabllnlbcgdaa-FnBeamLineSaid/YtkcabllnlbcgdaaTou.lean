/-
  FirstTouch of both packages. No condition but that lengths stay in range.
-/
import Derived.Test.YtkcabllnlbcgdaaSce
import Derived.Test.YtkcabllnlbcgdaaFam
namespace Go.Proofs.Ytkcabllnlbcgdaa
open Go.RowKit
set_option linter.unusedVariables false
set_option linter.unusedSimpArgs false
def touchP (f : Fld) (s : Spr) (x y : Int) : Bool := decide (spV f.ts s x y ≠ 0) && decide (pxAt f f.sx f.sy x y ≠ 0)
def touchK (f : Fld) (s : Spr) (k : Nat) : Bool := touchP f s ((k % 32 : Nat) : Int) ((k / 32 : Nat) : Int)
def touchR (f : Fld) (ss : List Spr) : Int :=
  if sceneB f ss = true ∧ ss.length ≠ 0 then (match (List.range 512).find? (touchK f (ss.getD 0 Spr.z)) with | some k => (k : Int) | none => -1) else -1
theorem touch_none {f : Fld} {ss : List Spr} (h : ∀ i, i < 512 → touchK f (ss.getD 0 Spr.z) i = false) : touchR f ss = -1 := by
  unfold touchR
  split
  · rw [List.find?_eq_none.2 (fun x hx => by rw [h x (List.mem_range.1 hx)]; simp)]
  · rfl
theorem touch_some {f : Fld} {ss : List Spr} {k : Nat} (hb : sceneB f ss = true) (hl : ss.length ≠ 0) (hk : k < 512) (h : ∀ i, i < k → touchK f (ss.getD 0 Spr.z) i = false) (ht : touchK f (ss.getD 0 Spr.z) k = true) : touchR f ss = (k : Int) := by
  unfold touchR
  rw [if_pos ⟨hb, hl⟩, List.find?_range_eq_some.2 ⟨ht, List.mem_range.2 hk, fun j hj => by rw [h j hj]; rfl⟩]
theorem touch_next {f : Fld} {s : Spr} {k : Nat} (h : ∀ i, i < k → touchK f s i = false) (ht : touchK f s k = false) : ∀ i, i < k + 1 → touchK f s i = false := fun i hi => by
  rcases Nat.lt_or_ge i k with h1 | h1
  · exact h i h1
  · obtain rfl : i = k := by omega
    exact ht
set_option maxRecDepth 20000 in
set_option maxHeartbeats 2000000 in
theorem firstTouch_spec (f : Fld) (A : Option Addr) (n c : Nat) (ss : List Spr) (w : World) (h : FRd w f) (hs : SpRd w w.heap.size A n ss) (hn : n ≤ 100000000) :
    Calls Try.prog 41 #[scV f A n c] w fun e w' => e = .returned (.int .i64 (touchR f ss)) ∧ Below w.heap.size w w' := by
  have hb0 : Below w.heap.size w (w.alloc (.cells #[.int .i64 f.W, .slice f.A f.n f.c, .slice f.T f.tn f.tc, .int .i64 f.sx, .int .i64 f.sy, .slice A n c] 61)) := (Below.refl _ _).alloc (Nat.le_refl _) _
  have HB := Lib.hid (SBox.new w f A n c 61)
  have HF := Lib.hid (h.below hb0)
  have HS := Lib.hid ((hs.below hb0).more hb0.size)
  have HB0 := Lib.hid hb0
  have hsl := hs.1
  clear h hs hb0
  unfold scV
  cases hsb : sceneB f ss
  · rw [show touchR f ss = -1 by unfold touchR; rw [if_neg]; simp [hsb]]
    go_enter Try.func41, Try.ntmps41
    go_wp2_with (go_at_call 67; refine (sceneValid_spec f A n c ss _ HF.out HS.out hn).mono ?_; rintro e w5 ⟨rfl, b5⟩; rw [hsb]; replace b5 := Lib.hid b5)
    go_ret
    exact ⟨rfl, below_step HB0.out b5.out HB0.out.size⟩
  by_cases hl0 : n = 0
  · rw [show touchR f ss = -1 by unfold touchR; rw [if_neg]; simp; intro _; exact List.length_eq_zero_iff.1 (by omega)]
    subst hl0
    go_enter Try.func41, Try.ntmps41
    go_wp2_with (go_at_call 67; refine (sceneValid_spec f A 0 c ss _ HF.out HS.out hn).mono ?_; rintro e w5 ⟨rfl, b5⟩; rw [hsb]; have c5 := (HB.out.below b5).c5; replace b5 := Lib.hid b5)
    go_ret
    exact ⟨rfl, below_step HB0.out b5.out HB0.out.size⟩
  have hsc := hsb
  unfold sceneB at hsc
  rw [Bool.and_eq_true] at hsc
  obtain ⟨hf, hsp⟩ := hsc
  obtain ⟨sl, -, sf⟩ := spr_facts hsp
  obtain ⟨sX, sY, sN⟩ := sf 0 (by omega)
  obtain ⟨s0, hs0⟩ : ∃ s0, ss.getD 0 Spr.z = s0 := ⟨_, rfl⟩
  rw [hs0] at sX sY sN
  clear sf hsp
  have n0 : (0 : Int) < (n : Int) := by omega
  have n00 : ((n : Int) == 0) = false := by simpa using hl0
  replace hsl := Lib.hid hsl
  replace hf := Lib.hid hf
  replace hsb := Lib.hid hsb
  replace sX := Lib.hid sX
  replace sY := Lib.hid sY
  replace sN := Lib.hid sN
  replace sl := Lib.hid sl
  go_enter Try.func41, Try.ntmps41
  go_wp2_with (go_at_call 67; refine (sceneValid_spec f A n c ss _ HF.out HS.out hn).mono ?_; rintro e w5 ⟨rfl, b5⟩; rw [hsb.out]; have c5 := (HB.out.below b5).c5; replace b5 := Lib.hid b5)
  replace HB := Lib.hid (HB.out.below b5.out)
  replace HF := Lib.hid (HF.out.below b5.out)
  replace HS := Lib.hid ((HS.out.below b5.out).more b5.out.size)
  replace HB0 := Lib.hid (below_step HB0.out b5.out HB0.out.size)
  clear b5 c5
  go_loopw [3] (fun i wr => ∃ k : Nat, k ≤ 512 ∧ i = .int .i64 k ∧ (∀ i, i < k → touchK f s0 i = false) ∧ Below w5.heap.size w5 wr) (fun i _ => 512 - (intOf i).toNat)
  case atStart => exact ⟨0, Nat.zero_le _, rfl, fun i hi => by omega, Below.refl _ _⟩
  case round =>
    obtain ⟨k, hk, rfl, hall, hb⟩ := hrel
    by_cases hlt : k < 512
    · obtain ⟨x, hx⟩ : ∃ x, k % 32 = x := ⟨_, rfl⟩
      obtain ⟨y, hy⟩ : ∃ y, k / 32 = y := ⟨_, rfl⟩
      have x0 : (0 : Int) ≤ (x : Int) ∧ (x : Int) ≤ 32 := by omega
      have y0 : (0 : Int) ≤ (y : Int) ∧ (y : Int) < 16 := by omega
      have ex : (k : Int) % 32 = (x : Int) := by omega
      have ey : (k : Int) / 32 = (y : Int) := by omega
      have ex' : (k : Int).tmod 32 = (x : Int) := by rw [Int.tmod_eq_emod_of_nonneg (by omega)]; exact ex
      have ey' : (k : Int).tdiv 32 = (y : Int) := by rw [Int.tdiv_eq_ediv_of_nonneg (by omega)]; exact ey
      have k0 : (0 : Int) ≤ (k : Int) := by omega
      have k5 : (k : Int) < 512 := by omega
      have kp : touchK f s0 k = (decide (spV f.ts s0 x y ≠ 0) && decide (pxAt f f.sx f.sy x y ≠ 0)) := by unfold touchK touchP; rw [hx, hy]
      obtain ⟨sb, so, hA, sbl, src⟩ := (HS.out.below hb).spot (k := 0) (by omega)
      rw [hs0, Nat.zero_mul, Nat.add_zero] at src
      obtain ⟨u0, u1, u2, u3, u4, u5⟩ := spc_of src
      have HBX := Lib.hid (HB.out.below hb)
      have HFX := Lib.hid (HF.out.below hb)
      obtain ⟨ι, hne, G, hall2, hsur⟩ := fam_of wr
      have g0 : ∀ i, (G i).cell? ⟨w.heap.size, 0, none⟩ = some (.int .i64 f.W) := fun i => (HBX.out.below (hall2 i)).c0
      have g1 : ∀ i, (G i).cell? ⟨w.heap.size, 1, none⟩ = some (.slice f.A f.n f.c) := fun i => (HBX.out.below (hall2 i)).c1
      have g2 : ∀ i, (G i).cell? ⟨w.heap.size, 2, none⟩ = some (.slice f.T f.tn f.tc) := fun i => (HBX.out.below (hall2 i)).c2
      have g3 : ∀ i, (G i).cell? ⟨w.heap.size, 3, none⟩ = some (.int .i64 f.sx) := fun i => (HBX.out.below (hall2 i)).c3
      have g4 : ∀ i, (G i).cell? ⟨w.heap.size, 4, none⟩ = some (.int .i64 f.sy) := fun i => (HBX.out.below (hall2 i)).c4
      have g5 : ∀ i, (G i).cell? ⟨w.heap.size, 5, none⟩ = some (.slice A n c) := fun i => (HBX.out.below (hall2 i)).c5
      have g6 : ∀ i, (G i).cell? ⟨sb, so, none⟩ = some (.int .i64 s0.X) := fun i => ((hall2 i).cell (Nat.lt_of_lt_of_le sbl hb.size)).trans u0
      have g7 : ∀ i, (G i).cell? ⟨sb, so + 1, none⟩ = some (.int .i64 s0.Y) := fun i => ((hall2 i).cell (Nat.lt_of_lt_of_le sbl hb.size)).trans u1
      have g8 : ∀ i, (G i).cell? ⟨sb, so + 2, none⟩ = some (.int .i64 s0.N) := fun i => ((hall2 i).cell (Nat.lt_of_lt_of_le sbl hb.size)).trans u2
      have g9 : ∀ i, (G i).cell? ⟨sb, so + 3, none⟩ = some (.bool s0.ac) := fun i => ((hall2 i).cell (Nat.lt_of_lt_of_le sbl hb.size)).trans u3
      have g10 : ∀ i, (G i).cell? ⟨sb, so + 4, none⟩ = some (.bool s0.dn) := fun i => ((hall2 i).cell (Nat.lt_of_lt_of_le sbl hb.size)).trans u4
      have g11 : ∀ i, (G i).cell? ⟨sb, so + 5, none⟩ = some (.bool s0.be) := fun i => ((hall2 i).cell (Nat.lt_of_lt_of_le sbl hb.size)).trans u5
      subst hA
      clear u0 u1 u2 u3 u4 u5 src
      replace x0 := Lib.hid x0
      replace y0 := Lib.hid y0
      replace hall := Lib.hid hall
      replace kp := Lib.hid kp
      replace hsb := hsb
      have HBL := Lib.hid hb
      have H2 := Lib.hid hall2
      clear hb
      clear hx hy
      obtain ⟨v, hv⟩ : ∃ v, spV f.ts s0 x y = v := ⟨_, rfl⟩
      obtain ⟨p, hp⟩ : ∃ p, pxAt f f.sx f.sy x y = p := ⟨_, rfl⟩
      by_cases v0 : v = 0
      · subst v0
        have kf := Lib.hid (show touchK f s0 k = false by rw [kp.out, hv]; simp)
        go_wp2_with fail
        refine wp_region_fam G (by kernel_rfl) (by kernel_rfl) (hsur _ (Below.refl _ _).drew) ?_
        repeat (go_big_quiet_step ((first | (go_at_call 78; exact fam_int hall2 hsur _ (l11Value_any s0 f.T f.tn f.tc f.ts x y _ ((HFX.out.below (hall2 _)).tiles) sN.out sX.out sY.out x0.out y0.out) hv) | (go_at_call 57; exact fam_int hall2 hsur _ (l10Pixel_any f x y _ (HFX.out.below (hall2 _)) hf.out x0.out y0.out) hp))))
        refine wpQuiet_nil ?_
        rintro _ ⟨nq, rfl⟩
        go_wp2_with fail
        go_roundw
        case rel => exact ⟨k + 1, by omega, by go_num, touch_next hall.out kf.out, below_step HBL.out (H2.out nq) HBL.out.size⟩
        case measure => simp [intOf]; omega
      have v1 : (v != 0) = true := by simpa using v0
      by_cases p0 : p = 0
      · subst p0
        have kf := Lib.hid (show touchK f s0 k = false by rw [kp.out, hp]; simp)
        go_wp2_with fail
        refine wp_region_fam G (by kernel_rfl) (by kernel_rfl) (hsur _ (Below.refl _ _).drew) ?_
        repeat (go_big_quiet_step ((first | (go_at_call 78; exact fam_int hall2 hsur _ (l11Value_any s0 f.T f.tn f.tc f.ts x y _ ((HFX.out.below (hall2 _)).tiles) sN.out sX.out sY.out x0.out y0.out) hv) | (go_at_call 57; exact fam_int hall2 hsur _ (l10Pixel_any f x y _ (HFX.out.below (hall2 _)) hf.out x0.out y0.out) hp))))
        refine wpQuiet_nil ?_
        rintro _ ⟨nq, rfl⟩
        go_wp2_with fail
        go_roundw
        case rel => exact ⟨k + 1, by omega, by go_num, touch_next hall.out kf.out, below_step HBL.out (H2.out nq) HBL.out.size⟩
        case measure => simp [intOf]; omega
      have p1 : (p != 0) = true := by simpa using p0
      have kt := Lib.hid (show touchK f s0 k = true by rw [kp.out, hp, hv]; simp [v0, p0])
      go_wp2_with fail
      refine wp_region_fam G (by kernel_rfl) (by kernel_rfl) (hsur _ (Below.refl _ _).drew) ?_
      repeat (go_big_quiet_step ((first | (go_at_call 78; exact fam_int hall2 hsur _ (l11Value_any s0 f.T f.tn f.tc f.ts x y _ ((HFX.out.below (hall2 _)).tiles) sN.out sX.out sY.out x0.out y0.out) hv) | (go_at_call 57; exact fam_int hall2 hsur _ (l10Pixel_any f x y _ (HFX.out.below (hall2 _)) hf.out x0.out y0.out) hp))))
      refine wpQuiet_nil ?_
      rintro _ ⟨nq, rfl⟩
      go_wp2_with fail
      go_ret
      rw [touch_some hsb.out (by have := hsl.out; omega) hlt (by rw [hs0]; exact hall.out) (by rw [hs0]; exact kt.out)]
      exact ⟨rfl, below_step HB0.out (below_step HBL.out (H2.out nq) HBL.out.size) HB0.out.size⟩
    · obtain rfl : k = 512 := by omega
      have hg := Lib.hid (touch_none (f := f) (ss := ss) (by rw [hs0]; exact hall))
      clear hall
      go_wp2_with fail
      go_ret
      rw [hg.out]
      exact ⟨rfl, below_step HB0.out hb HB0.out.size⟩
theorem SpC.below {w w' : World} {b o B : Nat} {s : Spr} (h : SpC w b o s) (d : Below B w w') (hb : b < B) : SpC w' b o s :=
  ⟨(d.cell hb).trans h.c0, (d.cell hb).trans h.c1, (d.cell hb).trans h.c2, (d.cell hb).trans h.c3, (d.cell hb).trans h.c4, (d.cell hb).trans h.c5⟩
theorem touch_xy {f : Fld} {s : Spr} {x y : Nat} (hx : x < 32) : touchK f s (32 * y + x) = (decide (spV f.ts s x y ≠ 0) && decide (pxAt f f.sx f.sy x y ≠ 0)) := by
  unfold touchK touchP
  rw [show (32 * y + x) % 32 = x by omega, show (32 * y + x) / 32 = y by omega]
set_option maxRecDepth 20000 in
set_option maxHeartbeats 2000000 in
theorem firstTouch_impl (f : Fld) (A : Option Addr) (n c : Nat) (ss : List Spr) (w : World) (h : FRd w f) (hs : SpRd w w.heap.size A n ss) (hn : n ≤ 100000000) :
    Calls Try.prog 42 #[scV f A n c] w fun e w' => e = .returned (.int .i64 (touchR f ss)) ∧ Below w.heap.size w w' := by
  have hb0 : Below w.heap.size w (w.alloc (.cells #[.int .i64 f.W, .slice f.A f.n f.c, .slice f.T f.tn f.tc, .int .i64 f.sx, .int .i64 f.sy, .slice A n c] 61)) := (Below.refl _ _).alloc (Nat.le_refl _) _
  have HB := Lib.hid (SBox.new w f A n c 61)
  have HF := Lib.hid (h.below hb0)
  have HS := Lib.hid ((hs.below hb0).more hb0.size)
  have HB0 := Lib.hid hb0
  have hsl := hs.1
  clear h hs hb0
  unfold scV
  cases hsb : sceneB f ss
  · rw [show touchR f ss = -1 by unfold touchR; rw [if_neg]; simp [hsb]]
    go_enter Try.func42, Try.ntmps42
    go_wp2_with (go_at_call 71; refine (sceneValid_impl f A n c ss _ HF.out HS.out hn).mono ?_; rintro e w5 ⟨rfl, b5⟩; rw [hsb]; replace b5 := Lib.hid b5)
    go_ret
    exact ⟨rfl, below_step HB0.out b5.out HB0.out.size⟩
  by_cases hl0 : n = 0
  · rw [show touchR f ss = -1 by unfold touchR; rw [if_neg]; simp; intro _; exact List.length_eq_zero_iff.1 (by omega)]
    subst hl0
    go_enter Try.func42, Try.ntmps42
    go_wp2_with (go_at_call 71; refine (sceneValid_impl f A 0 c ss _ HF.out HS.out hn).mono ?_; rintro e w5 ⟨rfl, b5⟩; rw [hsb]; have c5 := (HB.out.below b5).c5; replace b5 := Lib.hid b5)
    go_ret
    exact ⟨rfl, below_step HB0.out b5.out HB0.out.size⟩
  have hsc := hsb
  unfold sceneB at hsc
  rw [Bool.and_eq_true] at hsc
  obtain ⟨hf, hsp⟩ := hsc
  obtain ⟨sl, -, sf⟩ := spr_facts hsp
  obtain ⟨sX, sY, sN⟩ := sf 0 (by omega)
  obtain ⟨s0, hs0⟩ : ∃ s0, ss.getD 0 Spr.z = s0 := ⟨_, rfl⟩
  rw [hs0] at sX sY sN
  clear sf hsp
  have n0 : (0 : Int) < (n : Int) := by omega
  have n00 : ((n : Int) == 0) = false := by simpa using hl0
  replace hsl := Lib.hid hsl
  replace hf := Lib.hid hf
  replace hsb := Lib.hid hsb
  replace sX := Lib.hid sX
  replace sY := Lib.hid sY
  replace sN := Lib.hid sN
  replace sl := Lib.hid sl
  have hsx := Lib.hid (field_facts hf.out).2.2.2.2.1
  have hsy := Lib.hid (field_facts hf.out).2.2.2.2.2.1
  obtain ⟨sb, so, rfl, sbl, src⟩ := HS.out.spot (k := 0) (by omega)
  rw [hs0, Nat.zero_mul, Nat.add_zero] at src
  have US := Lib.hid (spc_of src)
  clear src
  go_enter Try.func42, Try.ntmps42
  go_wp2_with (go_at_call 71; refine (sceneValid_impl f _ n c ss _ HF.out HS.out hn).mono ?_; rintro e w5 ⟨rfl, b5⟩; rw [hsb.out]; have c5 := (HB.out.below b5).c5; obtain ⟨u0, u1, u2, u3, u4, u5⟩ := (US.out.below b5 sbl); replace b5 := Lib.hid b5)
  have hb1 : Below w5.heap.size w5 (w5.alloc (.cells #[.int .i64 s0.X, .int .i64 s0.Y, .int .i64 s0.N, .bool s0.ac, .bool s0.dn, .bool s0.be] 70)) := (Below.refl _ _).alloc (Nat.le_refl _) _
  have HP := Lib.hid (PBox.new w5 s0 70)
  replace HB := Lib.hid ((HB.out.below b5.out).below hb1)
  replace HF := Lib.hid ((HF.out.below b5.out).below hb1)
  replace HB0 := Lib.hid (below_step (below_step HB0.out b5.out HB0.out.size) hb1 (Nat.le_trans HB0.out.size b5.out.size))
  clear b5 c5 u0 u1 u2 u3 u4 u5 US HS hb1
  obtain ⟨W0, hW0⟩ : ∃ W0, W0 = w5.alloc (.cells #[.int .i64 s0.X, .int .i64 s0.Y, .int .i64 s0.N, .bool s0.ac, .bool s0.dn, .bool s0.be] 70) := ⟨_, rfl⟩
  rw [← hW0] at HP HB HF HB0 ⊢
  replace hW0 := Lib.hid hW0
  go_loopw [19] (fun i wr => ∃ y : Nat, y ≤ 16 ∧ i = .int .i64 y ∧ (∀ i, i < 32 * y → touchK f s0 i = false) ∧ Below W0.heap.size W0 wr) (fun i _ => 16 - (intOf i).toNat)
  case atStart => exact ⟨0, Nat.zero_le _, rfl, fun i hi => by omega, Below.refl _ _⟩
  case round =>
    obtain ⟨y, hy, rfl, hall, hb⟩ := hrel
    by_cases hlt : y < 16
    · have y0 := Lib.hid (show (0 : Int) ≤ (y : Int) ∧ (y : Int) < 16 by omega)
      have y1 : (y : Int) < 16 := by omega
      have y2 : (0 : Int) ≤ (y : Int) := by omega
      have hall1 := Lib.hid hall
      have HBL1 := Lib.hid hb
      clear hall hb
      go_wp2_with fail
      go_loopw [22] (fun i wr => ∃ x : Nat, x ≤ 32 ∧ i = .int .i64 x ∧ (∀ i, i < 32 * y + x → touchK f s0 i = false) ∧ Below W0.heap.size W0 wr) (fun i _ => 32 - (intOf i).toNat)
      case atStart => exact ⟨0, Nat.zero_le _, rfl, fun i hi => hall1.out i (by omega), HBL1.out⟩
      case round =>
        clear hall1 HBL1
        obtain ⟨x, hx, rfl, hall, hb⟩ := hrel
        by_cases hlt2 : x < 32
        · have x0 := Lib.hid (show (0 : Int) ≤ (x : Int) ∧ (x : Int) ≤ 32 by omega)
          have x1 : (x : Int) < 32 := by omega
          have x2 : (0 : Int) ≤ (x : Int) := by omega
          have HBX := Lib.hid (HB.out.below hb)
          have HFX := Lib.hid (HF.out.below hb)
          obtain ⟨-, p0, p1, p2, p3, p4, p5⟩ := HP.out.below hb
          have c2 := HBX.out.c2
          have kp := Lib.hid (touch_xy (f := f) (s := s0) (y := y) hlt2)
          replace hall := Lib.hid hall
          have HBL := Lib.hid hb
          clear hb
          obtain ⟨v, hv⟩ : ∃ v, spV f.ts s0 x y = v := ⟨_, rfl⟩
          obtain ⟨p, hp⟩ : ∃ p, pxAt f f.sx f.sy x y = p := ⟨_, rfl⟩
          by_cases v0 : v = 0
          · subst v0
            have kf := Lib.hid (show touchK f s0 (32 * y + x) = false by rw [kp.out, hv]; simp)
            go_wp2_with (first | (go_at_call 79; refine (spritePixel_any s0 f.T f.tn f.tc f.ts x y _ HFX.out.tiles sN.out sX.out sY.out x0.out y0.out).mono ?_; rintro e w6 ⟨rfl, b6⟩; rw [hv]; have d3 := (HBX.out.below b6).c3; have d4 := (HBX.out.below b6).c4; replace b6 := Lib.hid b6) | (go_at_call 80; refine (fieldPixel_any f w.heap.size f.sx f.sy x y w6 (HFX.out.below b6.out) (HBX.out.below b6.out).back hf.out hsx.out hsy.out x0.out y0.out).mono ?_; rintro e w7 ⟨rfl, b7⟩; rw [hp]; replace b7 := Lib.hid b7))
            go_roundw
            case rel => exact ⟨x + 1, by omega, by go_num, touch_next hall.out kf.out, below_step HBL.out b6.out HBL.out.size⟩
            case measure => simp [intOf]; omega
          have v1 : (v != 0) = true := by simpa using v0
          by_cases p0 : p = 0
          · subst p0
            have kf := Lib.hid (show touchK f s0 (32 * y + x) = false by rw [kp.out, hp]; simp)
            go_wp2_with (first | (go_at_call 79; refine (spritePixel_any s0 f.T f.tn f.tc f.ts x y _ HFX.out.tiles sN.out sX.out sY.out x0.out y0.out).mono ?_; rintro e w6 ⟨rfl, b6⟩; rw [hv]; have d3 := (HBX.out.below b6).c3; have d4 := (HBX.out.below b6).c4; replace b6 := Lib.hid b6) | (go_at_call 80; refine (fieldPixel_any f w.heap.size f.sx f.sy x y w6 (HFX.out.below b6.out) (HBX.out.below b6.out).back hf.out hsx.out hsy.out x0.out y0.out).mono ?_; rintro e w7 ⟨rfl, b7⟩; rw [hp]; replace b7 := Lib.hid b7))
            go_roundw
            case rel => exact ⟨x + 1, by omega, by go_num, touch_next hall.out kf.out, below_step (below_step HBL.out b6.out HBL.out.size) b7.out (Nat.le_trans HBL.out.size b6.out.size)⟩
            case measure => simp [intOf]; omega
          have p1 : (p != 0) = true := by simpa using p0
          have kt := Lib.hid (show touchK f s0 (32 * y + x) = true by rw [kp.out, hp, hv]; simp [v0, p0])
          go_wp2_with (first | (go_at_call 79; refine (spritePixel_any s0 f.T f.tn f.tc f.ts x y _ HFX.out.tiles sN.out sX.out sY.out x0.out y0.out).mono ?_; rintro e w6 ⟨rfl, b6⟩; rw [hv]; have d3 := (HBX.out.below b6).c3; have d4 := (HBX.out.below b6).c4; replace b6 := Lib.hid b6) | (go_at_call 80; refine (fieldPixel_any f w.heap.size f.sx f.sy x y w6 (HFX.out.below b6.out) (HBX.out.below b6.out).back hf.out hsx.out hsy.out x0.out y0.out).mono ?_; rintro e w7 ⟨rfl, b7⟩; rw [hp]; replace b7 := Lib.hid b7))
          go_ret
          rw [touch_some (k := 32 * y + x) hsb.out (by have := hsl.out; omega) (by omega) (by rw [hs0]; exact hall.out) (by rw [hs0]; exact kt.out)]
          refine ⟨by go_num, below_step HB0.out (below_step (below_step HBL.out b6.out HBL.out.size) b7.out (Nat.le_trans HBL.out.size b6.out.size)) HB0.out.size⟩
        · obtain rfl : x = 32 := by omega
          have hall1 := Lib.hid hall
          have HBL1 := Lib.hid hb
          clear hall hb
          go_wp2_with fail
          go_roundw
          case rel => exact ⟨y + 1, by omega, by go_num, fun i hi => hall1.out i (by omega), HBL1.out⟩
          case measure => simp [intOf]; omega
    · obtain rfl : y = 16 := by omega
      have hg := Lib.hid (touch_none (f := f) (ss := ss) (by rw [hs0]; exact hall))
      clear hall
      replace hb := Lib.hid hb
      go_wp2_with fail
      go_ret
      rw [hg.out]
      exact ⟨rfl, below_step HB0.out hb.out HB0.out.size⟩
end Go.Proofs.Ytkcabllnlbcgdaa
