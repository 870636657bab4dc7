/-
  FnBeamFirst: the law. FieldLine of the program.
-/
import Derived.Test.YtkcabllnlbcgdaaBeaW
import Derived.Test.YtkcabllnlbcgdaaDrk
import Derived.Deep.RegionHeld3
namespace Go.Proofs.Ytkcabllnlbcgdaa
open Go.RowKit
set_option linter.unusedVariables false
set_option linter.unusedSimpArgs false
set_option maxHeartbeats 400000 in
theorem aliveB (w : World) : Calls Try.prog 14 #[] w fun e w' => e = .returned (.bool true) ∧ w = w' := by
  have e8 : wrap64 (IntKind.i8.wrap 255) = -1 := by
    rw [show IntKind.i8.wrap 255 = -1 by decide]
    exact IntWalk.wrap64_in _ (by omega)
  go_enter Try.func14, Try.ntmps14
  go_wp2_with (first | (go_at_call 53; refine (within_any _ _ _ _).mono ?_; rintro e w' ⟨rfl, rfl⟩; rw [show inB 255 0 255 = true from rfl]) | go_in)
  go_ret
  exact ⟨rfl, rfl⟩
/-- FieldLine, in plain words. -/
def flR (f : Fld) (y : Int) : List Int := if fieldB f && inB y 0 15 then lineP f f.sx f.sy y 0 32 else []
theorem flR_len (f : Fld) (y : Int) : (flR f y).length ≤ 32 := by
  unfold flR
  split
  · rw [lineP_len]; omega
  · simp
set_option maxRecDepth 20000 in
set_option maxHeartbeats 2000000 in
theorem fieldLine_impl (f : Fld) (y : Int) (w : World) (h : FRd w f) :
    Calls Try.prog 17 #[f.val, .int .i64 y] w (Gives w (flR f y)) := by
  have hb0 : Below w.heap.size w (w.alloc (.cells f.cs 26)) := (Below.refl _ _).alloc (Nat.le_refl _) _
  have X0 := Lib.hid (fbox_new w f 26)
  have HF := Lib.hid (h.below hb0)
  have HBW := Lib.hid hb0
  have hbx : w.heap.size < (w.alloc (.cells f.cs 26)).heap.size := by simp
  clear h hb0
  unfold Fld.cs at *
  unfold Fld.val Fld.cs
  cases hfb : fieldB f
  · rw [show flR f y = [] by unfold flR; rw [hfb]; rfl]
    go_enter Try.func17, Try.ntmps17
    go_wp2_with (go_at_call 52; refine (fieldValid_impl f _ HF.out).mono ?_; rintro e w5 ⟨rfl, b5⟩; rw [hfb]; replace b5 := Lib.hid b5)
    go_ret
    exact ⟨_, _, rfl, World.ownsRow_nil _ _ _ _, below_step HBW.out b5.out HBW.out.size⟩
  cases hy : inB y 0 15
  · rw [show flR f y = [] by unfold flR; rw [hfb, hy]; rfl]
    go_enter Try.func17, Try.ntmps17
    go_wp2_with (first | (go_at_call 52; refine (fieldValid_impl f _ HF.out).mono ?_; rintro e w5 ⟨rfl, b5⟩; rw [hfb]; replace b5 := Lib.hid b5) | (go_at_call 53; refine (within_any _ _ _ _).mono ?_; rintro e w' ⟨rfl, rfl⟩; rw [hy]))
    go_ret
    exact ⟨_, _, rfl, World.ownsRow_nil _ _ _ _, below_step HBW.out b5.out HBW.out.size⟩
  rw [show flR f y = lineP f f.sx f.sy y 0 32 by unfold flR; rw [hfb, hy]; rfl]
  have H1 := Lib.hid (show 0 ≤ y ∧ y < 16 by have := inB_iff.1 hy; omega)
  have HSX := Lib.hid (field_facts hfb).2.2.2.2.1
  have HSY := Lib.hid (field_facts hfb).2.2.2.2.2.1
  have HFB := Lib.hid hfb
  go_enter Try.func17, Try.ntmps17
  go_wp2_with (first | (go_at_call 52; refine (fieldValid_impl f _ HF.out).mono ?_; rintro e w5 ⟨rfl, b5⟩; rw [hfb]; replace b5 := Lib.hid b5) | (go_at_call 53; refine (within_any _ _ _ _).mono ?_; rintro e w' ⟨rfl, rfl⟩; rw [hy]))
  have HB5 := Lib.hid (below_step HBW.out b5.out HBW.out.size)
  have X5 := Lib.hid (X0.out.below b5.out)
  have HF5 := Lib.hid ((HF.out.below b5.out).at)
  have hb5 : w.heap.size < w5.heap.size := Nat.lt_of_lt_of_le hbx b5.out.size
  obtain ⟨-, c0, c1, c2, c3, c4⟩ := X5.out
  clear hfb hy HF b5
  go_region_held3 (fun w' => (w'.cell? ⟨w.heap.size, 3, none⟩ = some (.int .i64 f.sx) ∧ w'.cell? ⟨w.heap.size, 4, none⟩ = some (.int .i64 f.sy))) (first | exact ⟨c3, c4⟩ | exact ⟨(b6.cell hb5).trans c3, (b6.cell hb5).trans c4⟩) ((first | (refine step_make32 _ _ _ (by rfl) (by rfl) (by rfl) ?_; intro w6 o6 b6'; have b6 : Below w5.heap.size w5 w6 := (Below.refl _ _).drew.trans b6'; clear b6'; replace o6 := Lib.hid o6; have D6 := Lib.hid (HF5.out.below b6); have XB := Lib.hid (X5.out.below b6); have hz6 := Lib.hid b6.size) | (go_at_call 55; refine (drawLine32 f w.heap.size f.sx f.sy y w5.heap.size 32 (some ⟨w5.heap.size, 0, none⟩) w6 D6.out XB.out hb5 HFB.out HSX.out HSY.out H1.out o6.out hz6.out).mono ?_; rintro e w7 ⟨A7, c7, rfl, o7, b7⟩; replace o7 := Lib.hid o7; have b8 := b6.trans b7; clear b6; have b6 := b8; clear b8)))
  have B7 := Lib.hid b6
  clear b6 c0 c1 c2 c3 c4
  go_wp2_with fail
  go_ret
  exact ⟨A7, c7, rfl, own_base o7.out (Nat.le_of_lt hb5), below_step HB5.out B7.out HB5.out.size⟩
set_option maxRecDepth 20000 in
set_option maxHeartbeats 4000000 in
theorem fnBeamFirst_walk (w : World) (A : Option Addr) (n c : Nat) (zs : List Int) (h : IsRow .u8 w A n c zs) :
    Calls Try.prog 3 #[.slice A n c] w fun e w' => e = .returned (.bool true) ∧ Below w.heap.size w w' := by
  by_cases hlong : 1048576 < n
  · go_enter Try.func3, Try.ntmps3
    go_wp2_with fail
    go_ret
    exact ⟨rfl, Below.refl _ _⟩
  have HI := Lib.hid h
  clear h
  go_enter Try.func3, Try.ntmps3
  go_wp2_with fail
  refine (drawBeamLine_any A n c zs _ HI.out).mono ?_
  rintro e w1 ⟨x, Y, A7, C7, ts, g, rfl, ⟨hs, hok⟩, ⟨hy0, hy1⟩, ⟨hcap, hcn⟩, ht, htl, hb⟩
  have hb2 : Below w1.heap.size w1 (w1.alloc (.cells x.cs 26)) := (Below.refl _ _).alloc (Nat.le_refl _) _
  have HF := Lib.hid (hs _ (Keep.of_below hb2))
  have BX := Lib.hid (fbox_new w1 x 26)
  have HT := Lib.hid ((ht.below hb2).more hb2.size)
  have HB := Lib.hid (below_step hb hb2 hb.size)
  clear hs hb hb2 ht
  obtain ⟨-, c0, c1, c2, c3, c4⟩ := BX.out
  unfold Fld.cs at *
  unfold Fld.val Fld.cs
  go_wp2_with fail
  refine (fieldValid_spec x _ HF.out).mono ?_
  rintro e w3 ⟨rfl, b3⟩
  replace BX := Lib.hid (BX.out.below b3)
  replace HF := Lib.hid (HF.out.below b3)
  replace HT := Lib.hid ((HT.out.below b3).more (b3).size)
  replace HB := Lib.hid (below_step HB.out b3 HB.out.size)
  clear c0 c1 c2 c3 c4
  obtain ⟨-, c0, c1, c2, c3, c4⟩ := BX.out
  clear b3
  cases hf : fieldB x
  · go_wp2_with (first | (go_at_call 14; refine (aliveB _).mono ?_; rintro e w' ⟨rfl, rfl⟩) | (go_at_call 13; refine (changesValid_spec A7 _ C7 ts _ HT.out (by omega)).mono ?_; rintro e w7 ⟨rfl, b7⟩; rw [hc]; replace HB := Lib.hid (below_step HB.out b7 HB.out.size); clear b7))
    go_ret
    exact ⟨rfl, HB.out⟩
  by_cases y0 : Y < 0
  · go_wp2_with (first | (go_at_call 14; refine (aliveB _).mono ?_; rintro e w' ⟨rfl, rfl⟩) | (go_at_call 13; refine (changesValid_spec A7 _ C7 ts _ HT.out (by omega)).mono ?_; rintro e w7 ⟨rfl, b7⟩; rw [hc]; replace HB := Lib.hid (below_step HB.out b7 HB.out.size); clear b7))
    go_ret
    exact ⟨rfl, HB.out⟩
  by_cases y1 : Y ≥ 16
  · go_wp2_with (first | (go_at_call 14; refine (aliveB _).mono ?_; rintro e w' ⟨rfl, rfl⟩) | (go_at_call 13; refine (changesValid_spec A7 _ C7 ts _ HT.out (by omega)).mono ?_; rintro e w7 ⟨rfl, b7⟩; rw [hc]; replace HB := Lib.hid (below_step HB.out b7 HB.out.size); clear b7))
    go_ret
    exact ⟨rfl, HB.out⟩
  by_cases h0 : ts.length = 0
  · have h1 : ((ts.length : Int) == 0) = true := beq_iff_eq.2 (by omega)
    go_wp2_with (first | (go_at_call 14; refine (aliveB _).mono ?_; rintro e w' ⟨rfl, rfl⟩) | (go_at_call 13; refine (changesValid_spec A7 _ C7 ts _ HT.out (by omega)).mono ?_; rintro e w7 ⟨rfl, b7⟩; rw [hc]; replace HB := Lib.hid (below_step HB.out b7 HB.out.size); clear b7))
    go_ret
    exact ⟨rfl, HB.out⟩
  have h1 : ((ts.length : Int) == 0) = false := beq_eq_false_iff_ne.2 (by omega)
  cases hc : chgB ts
  · go_wp2_with (first | (go_at_call 14; refine (aliveB _).mono ?_; rintro e w' ⟨rfl, rfl⟩) | (go_at_call 13; refine (changesValid_spec A7 _ C7 ts _ HT.out (by omega)).mono ?_; rintro e w7 ⟨rfl, b7⟩; rw [hc]; replace HB := Lib.hid (below_step HB.out b7 HB.out.size); clear b7))
    go_ret
    exact ⟨rfl, HB.out⟩
  go_wp2_with fail
  refine (changesValid_spec A7 _ C7 ts _ HT.out (by omega)).mono ?_
  rintro e w4 ⟨rfl, b4⟩
  rw [hc]
  replace BX := Lib.hid (BX.out.below b4)
  replace HF := Lib.hid (HF.out.below b4)
  replace HT := Lib.hid ((HT.out.below b4).more (b4).size)
  replace HB := Lib.hid (below_step HB.out b4 HB.out.size)
  clear c0 c1 c2 c3 c4
  obtain ⟨-, c0, c1, c2, c3, c4⟩ := BX.out
  clear b4
  replace hf := Lib.hid hf
  obtain ⟨b, off, e1, hbl, t0, t1, t2⟩ := Tri.spot HT.out (show 0 < ts.length by omega)
  have HCA := Lib.hid (chg_at ts 0 0 (chgB_from hc) (by omega)).2
  replace hc := Lib.hid hc
  subst e1
  obtain ⟨⟨u0, u1, u2⟩, hT⟩ : ∃ t, t = ts.getD 0 (0, 0, 0) := ⟨_, rfl⟩
  rw [← hT] at t0 t1 t2 HCA
  simp only [Nat.zero_mul, Nat.add_zero] at t0 t1 t2 HCA
  have q0 : (0 : Int) < (ts.length : Int) := by omega
  have q00 : 0 < ts.length := by omega
  replace hT := Lib.hid hT
  go_wp2_with fail
  go_region_held3 (fun w' => w'.cell? ⟨b, off + 1, none⟩ = some (.int .i64 u1) ∧ w'.cell? ⟨b, off + 2, none⟩ = some (.int .i64 u2)) (first | exact ⟨t1, t2⟩ | exact ⟨(World.cell?_alloc_lt _ _ _ hbl).trans t1, (World.cell?_alloc_lt _ _ _ hbl).trans t2⟩) (fail)
  clear t0 t1 t2
  obtain ⟨W5, hW5⟩ : ∃ W5, W5 = (w4.alloc (.cells #[.int .i64 0, .int .i64 u1, .int .i64 u2] 34)).drew := ⟨_, rfl⟩
  rw [← hW5]
  have b5 : Below w4.heap.size w4 W5 := by rw [hW5]; exact ((Below.refl _ _).alloc (Nat.le_refl _) _).drew
  have e0 : W5.cell? ⟨w4.heap.size, 0, none⟩ = some (.int .i64 0) := by rw [hW5]; exact cell_new _ _ _ 0
  have e1 : W5.cell? ⟨w4.heap.size, 1, none⟩ = some (.int .i64 u1) := by rw [hW5]; exact cell_new _ _ _ 1
  have e2 : W5.cell? ⟨w4.heap.size, 2, none⟩ = some (.int .i64 u2) := by rw [hW5]; exact cell_new _ _ _ 2
  have l5 : w4.heap.size < W5.heap.size := by rw [hW5]; show w4.heap.size < (w4.alloc _).heap.size; simp
  replace hW5 := Lib.hid hW5
  replace BX := Lib.hid (BX.out.below b5)
  replace HF := Lib.hid (HF.out.below b5)
  replace HT := Lib.hid ((HT.out.below b5).more (b5).size)
  replace HB := Lib.hid (below_step HB.out b5 HB.out.size)
  clear c0 c1 c2 c3 c4
  obtain ⟨-, c0, c1, c2, c3, c4⟩ := BX.out
  clear b5
  have bxl := BX.out.lt
  go_wp2_with fail
  obtain ⟨W6, hW6⟩ : ∃ W6, W6 = (W5.alloc (.cells #[.int .i64 x.W, .slice x.A x.n x.c, .slice x.T x.tn x.tc, .int .i64 u1, .int .i64 u2] 26)).alloc (.cells #[.int .i64 0, .int .i64 u1, .int .i64 u2] 34) := ⟨_, rfl⟩
  rw [← hW6]
  have b6 : Below W5.heap.size W5 W6 := by rw [hW6]; exact ((Below.refl _ _).alloc (Nat.le_refl _) _).alloc (by simp) _
  have BD := Lib.hid (show FBox W6 W5.heap.size (x.sh u1 u2) by
    have h1 := (fbox_new W5 (x.sh u1 u2) 26).below ((Below.refl _ _).alloc (Nat.le_refl _) (.cells #[.int .i64 0, .int .i64 u1, .int .i64 u2] 34))
    rw [hW6]; exact h1)
  have hs6 : (W5.alloc (.cells #[.int .i64 x.W, .slice x.A x.n x.c, .slice x.T x.tn x.tc, .int .i64 u1, .int .i64 u2] 26)).heap.size = W5.heap.size + 1 := by simp
  have HL := Lib.hid (show Reads W6 W6.heap.size 3 (some ⟨W5.heap.size + 1, 0, none⟩) 1 (iv (fl3 [(0, u1, u2)])) by
    rw [hW6, ← hs6]
    exact LitT.reads (g := 0) (by simp) (cell_new _ _ _ 0) (cell_new _ _ _ 1) (cell_new _ _ _ 2))
  replace hW6 := Lib.hid hW6
  clear hs6
  obtain ⟨hc1, hc2⟩ := HCA.out
  have hc3 : chgB [(0, u1, u2)] = true := by
    unfold chgB chgFrom chgFrom
    rw [inB_iff.2 (show (0 : Int) ≤ 0 ∧ (0 : Int) ≤ 31 by omega), inB_iff.2 hc1, inB_iff.2 hc2]; rfl
  obtain ⟨L, hL⟩ : ∃ L, L = lineP x u1 u2 Y 0 32 := ⟨_, rfl⟩
  have hLn := Lib.hid (show L.length = 32 by rw [hL, lineP_len])
  have hyB : inB Y 0 15 = true := inB_iff.2 (by omega)
  have hbr := Lib.hid (show beamR x Y [(0, u1, u2)] = L by rw [beamR_good hf.out hyB hc3, hL]; rfl)
  have hfl := Lib.hid (show flR (x.sh u1 u2) Y = L by unfold flR; rw [fieldB_sh hf.out hc1 hc2, hyB, hL]; rfl)
  replace hL := Lib.hid hL
  clear hc3 hyB hc1 hc2
  replace BX := Lib.hid (BX.out.below b6)
  replace HF := Lib.hid (HF.out.below b6)
  replace HT := Lib.hid ((HT.out.below b6).more (b6).size)
  replace HB := Lib.hid (below_step HB.out b6 HB.out.size)
  clear c0 c1 c2 c3 c4
  obtain ⟨-, c0, c1, c2, c3, c4⟩ := BX.out
  replace e0 := ((b6).cell l5).trans e0
  replace e1 := ((b6).cell l5).trans e1
  replace e2 := ((b6).cell l5).trans e2
  replace l5 := Nat.lt_of_lt_of_le l5 (b6).size
  clear b6
  refine (beamLine_impl x Y (some ⟨W5.heap.size + 1, 0, none⟩) 1 1 [(0, u1, u2)] W6 HF.out HL.out (by omega)).mono ?_
  rintro e w7 ⟨A8, c8, rfl, o7, b7⟩
  rw [hbr.out] at o7 ⊢
  replace BX := Lib.hid (BX.out.below b7)
  replace HF := Lib.hid (HF.out.below b7)
  replace HT := Lib.hid ((HT.out.below b7).more (b7).size)
  replace HB := Lib.hid (below_step HB.out b7 HB.out.size)
  clear c0 c1 c2 c3 c4
  obtain ⟨-, c0, c1, c2, c3, c4⟩ := BX.out
  replace e0 := ((b7).cell l5).trans e0
  replace e1 := ((b7).cell l5).trans e1
  replace e2 := ((b7).cell l5).trans e2
  replace l5 := Nat.lt_of_lt_of_le l5 (b7).size
  have HO := Lib.hid o7
  replace BD := Lib.hid (BD.out.below b7)
  obtain ⟨-, d0, d1, d2, d3, d4⟩ := BD.out
  clear b7 o7 HL
  go_wp2_with fail
  refine (fieldLine_impl (x.sh u1 u2) Y _ (HF.out.sh u1 u2)).mono ?_
  rintro e w8 ⟨A9, c9, rfl, o8, b8⟩
  rw [hfl.out] at o8 ⊢
  replace BX := Lib.hid (BX.out.below b8)
  replace HF := Lib.hid (HF.out.below b8)
  replace HT := Lib.hid ((HT.out.below b8).more (b8).size)
  replace HB := Lib.hid (below_step HB.out b8 HB.out.size)
  clear c0 c1 c2 c3 c4
  obtain ⟨-, c0, c1, c2, c3, c4⟩ := BX.out
  replace e0 := ((b8).cell l5).trans e0
  replace e1 := ((b8).cell l5).trans e1
  replace e2 := ((b8).cell l5).trans e2
  replace l5 := Nat.lt_of_lt_of_le l5 (b8).size
  replace HO := Lib.hid (own_below HO.out b8)
  replace o8 := Lib.hid o8
  clear b8 d0 d1 d2 d3 d4 BD
  go_wp2_with fail
  refine (sameInts_same _ _ _ _ _ L _ (own_ints HO.out) (own_ints o8.out) (by rw [hLn.out]; omega)).mono ?_
  rintro e w9 ⟨rfl, b9⟩
  replace BX := Lib.hid (BX.out.below b9)
  replace HF := Lib.hid (HF.out.below b9)
  replace HT := Lib.hid ((HT.out.below b9).more (b9).size)
  replace HB := Lib.hid (below_step HB.out b9 HB.out.size)
  clear c0 c1 c2 c3 c4
  obtain ⟨-, c0, c1, c2, c3, c4⟩ := BX.out
  replace e0 := ((b9).cell l5).trans e0
  replace e1 := ((b9).cell l5).trans e1
  replace e2 := ((b9).cell l5).trans e2
  replace l5 := Nat.lt_of_lt_of_le l5 (b9).size
  replace HO := Lib.hid (own_below HO.out b9)
  clear b9 o8
  go_wp2_with fail
  have b10 : Below w9.heap.size w9 (w9.alloc (.cells #[.int .i64 0, .int .i64 u1, .int .i64 u2] 34)) := (Below.refl _ _).alloc (Nat.le_refl _) _
  have HL := Lib.hid (show Reads (w9.alloc (.cells #[.int .i64 0, .int .i64 u1, .int .i64 u2] 34)) (w9.alloc (.cells #[.int .i64 0, .int .i64 u1, .int .i64 u2] 34)).heap.size 3 (some ⟨w9.heap.size, 0, none⟩) 1 (iv (fl3 [(0, u1, u2)])) from
    LitT.reads (g := 0) (by simp) (cell_new _ _ _ 0) (cell_new _ _ _ 1) (cell_new _ _ _ 2))
  replace BX := Lib.hid (BX.out.below b10)
  replace HF := Lib.hid (HF.out.below b10)
  replace HT := Lib.hid ((HT.out.below b10).more (b10).size)
  replace HB := Lib.hid (below_step HB.out b10 HB.out.size)
  clear c0 c1 c2 c3 c4
  obtain ⟨-, c0, c1, c2, c3, c4⟩ := BX.out
  replace HO := Lib.hid (own_below HO.out b10)
  clear b10 c0 c1 c2 c3 c4
  refine (beamLine_spec x Y (some ⟨w9.heap.size, 0, none⟩) 1 1 [(0, u1, u2)] _ HF.out HL.out (by omega)).mono ?_
  rintro e w11 ⟨A10, c10, rfl, o11, b11⟩
  rw [hbr.out] at o11 ⊢
  replace HO := Lib.hid (own_below HO.out b11)
  replace HB := Lib.hid (below_step HB.out b11 HB.out.size)
  replace o11 := Lib.hid o11
  clear b11
  go_wp2_with fail
  refine (sameInts_same _ _ _ _ _ L _ (own_ints HO.out) (own_ints o11.out) (by rw [hLn.out]; omega)).mono ?_
  rintro e w12 ⟨rfl, b12⟩
  replace HB := Lib.hid (below_step HB.out b12 HB.out.size)
  clear b12
  go_wp2_with fail
  go_ret
  exact ⟨rfl, HB.out⟩
end Go.Proofs.Ytkcabllnlbcgdaa
