/-
  The program's ShiftField at valid backgrounds. No condition but on lengths.
-/
import Derived.Test.YtkcabllnlbcgdaaSceP
import Derived.Test.YtkcabllnlbcgdaaDrs3
import Derived.Deep.RegionHeld3
namespace Go.Proofs.Ytkcabllnlbcgdaa
open Go.RowKit
set_option linter.unusedVariables false
set_option linter.unusedSimpArgs false
theorem modulo_nn (x y : Int) (x0 : 0 ≤ x) (x1 : x ≤ 100000) (y0 : 1 ≤ y) (y1 : y ≤ 100000) (w : World) :
    Calls Try.prog 77 #[.int .i64 x, .int .i64 y] w fun e w' => e = .returned (.int .i64 (x % y)) ∧ w = w' := by
  have hz : (y == 0) = false := beq_eq_false_iff_ne.2 (by omega)
  have h1 : x.tmod y = x % y := Int.tmod_eq_emod_of_nonneg x0
  have r0 := Int.emod_nonneg x (show y ≠ 0 by omega)
  have r1 := Int.emod_lt_of_pos x (show 0 < y by omega)
  obtain ⟨r, hr⟩ : ∃ r, x % y = r := ⟨_, rfl⟩
  rw [hr] at h1 r0 r1
  have h2 : (r + y).tmod y = r := by
    rw [Int.tmod_eq_emod_of_nonneg (by omega), Int.add_emod_right, ← hr, Int.emod_emod_of_dvd _ (Int.dvd_refl y)]
  rw [hr]
  replace hr := Lib.hid hr
  go_enter Try.func77, Try.ntmps77
  go_wp2
  go_ret
  exact ⟨rfl, rfl⟩
theorem fl64_one (ts : List (List Int)) : ∀ u ∈ fl64 ts, u.oneCell' = true := fun u hu => by
  simp only [fl64, List.mem_flatten, List.mem_map] at hu
  obtain ⟨l, ⟨s, _, rfl⟩, hu⟩ := hu
  simp only [iv, List.mem_map] at hu
  obtain ⟨z, _, rfl⟩ := hu
  rfl
/-- A copied background. -/
def GivesCF (f : Fld) (w : World) (e : Ending) (w' : World) : Prop := ∃ (A : Option Addr) (c : Nat) (T : Option Addr) (tc : Nat), e = .returned (Fld.val { f with A := A, c := c, T := T, tc := tc }) ∧ (∀ w2 : World, w'.heap.size ≤ w2.heap.size → (∀ k, w.heap.size ≤ k → k < w'.heap.size → w2.heap[k]? = w'.heap[k]?) → FRd w2 { f with A := A, c := c, T := T, tc := tc }) ∧ Below w.heap.size w w'
set_option maxRecDepth 20000 in
set_option maxHeartbeats 2000000 in
theorem copyField_any (f : Fld) (w : World) (h : FRd w f) (hok : FldOk f) : Calls Try.prog 76 #[f.val] w (GivesCF f w) := by
  obtain ⟨k1, k2, k3, k4, -, -⟩ := hok
  obtain ⟨W0, hW0⟩ : ∃ W0, W0 = (w.alloc (.cells f.cs 26)).alloc (.cells zeroF 26) := ⟨_, rfl⟩
  have hb0 : Below w.heap.size w W0 := by rw [hW0]; exact ((Below.refl _ _).alloc (Nat.le_refl _) _).alloc (by simp) _
  have HX := Lib.hid (show Blk W0 w.heap.size 26 f.cs by rw [hW0]; exact (Blk.new _ _ _).alloc _)
  have HR := Lib.hid (show Blk W0 (w.heap.size + 1) 26 zeroF by
    rw [hW0]
    have h := Blk.new (w.alloc (.cells f.cs 26)) 26 zeroF
    rwa [show (w.alloc (.cells f.cs 26)).heap.size = w.heap.size + 1 by simp] at h)
  have HF := Lib.hid (h.below hb0)
  have HB := Lib.hid hb0
  have l0 : w.heap.size + 1 < W0.heap.size := HR.out.lt
  have x1 : W0.cell? ⟨w.heap.size, 1, none⟩ = some (.slice f.A f.n f.c) := HX.out.cell 1
  have f1 := HX.out.frozen 1
  replace hW0 := Lib.hid hW0
  have H0 := Lib.hid h
  clear h hb0
  unfold Fld.val Fld.cs
  go_enter Try.func76, Try.ntmps76
  go_upto_region 1 with (fail)
  change Code.wp _ _ _ _ ((w.alloc (.cells f.cs 26)).alloc (.cells zeroF 26))
  rw [← hW0.out]
  go_upto_region 2 with (at_builtin; refine push_cells W0 rfl _ _ 23 3 (.int .i64 0) 1 8 rfl int_info Try.underlying23 rfl (by decide) (by decide) W0.heap.size 0 0 f.n f.c W0.heap.size none f.A [] (iv f.ms) rfl rfl (World.ownsRow_nil _ _ _ _) HF.out.map (fun u hu => by simp only [iv, List.mem_map] at hu; obtain ⟨z, _, rfl⟩ := hu; rfl) k1 (by omega) (Nat.le_refl _) ?_; intro A1 c1 w1 o1 g1; rw [Nat.zero_add, List.nil_append] at o1; rw [Nat.zero_add]; replace o1 := Lib.hid o1; have B1 := Lib.hid (below_of_grown g1 (Nat.le_refl _) (by intro k hk; cases hk)); clear g1; have x1 : w1.cell? ⟨w.heap.size, 1, none⟩ = some (.slice f.A f.n f.c) := (HX.out.below B1.out HX.out.lt).cell 1; have f1 : w1.frozen? ⟨w.heap.size, 1, none⟩ = false := (HX.out.below B1.out HX.out.lt).frozen 1)
  obtain ⟨W2, hW2⟩ : ∃ W2, W2 = w1.setCell ⟨w.heap.size, 1, none⟩ (.slice A1 f.n c1) := ⟨_, rfl⟩
  rw [← hW2]
  replace HX := Lib.hid (show Blk W2 w.heap.size 26 #[.int .i64 f.W, .slice A1 f.n c1, .slice f.T f.tn f.tc, .int .i64 f.sx, .int .i64 f.sy] by rw [hW2]; exact (HX.out.below B1.out HX.out.lt).set_ 1 _)
  replace HR := Lib.hid (show Blk W2 (w.heap.size + 1) 26 zeroF by rw [hW2]; exact (HR.out.below B1.out HR.out.lt).far (by show w.heap.size + 1 ≠ w.heap.size; omega) _)
  replace HB := Lib.hid (show Below w.heap.size w W2 by rw [hW2]; exact (below_step HB.out B1.out HB.out.size).setCell (Nat.le_refl _) _)
  have hsz2 : W0.heap.size ≤ W2.heap.size := by rw [hW2]; have := B1.out.size; simp [World.setCell]; omega
  replace o1 := Lib.hid (show W2.ownsRow W0.heap.size 3 1 (.slice A1 f.n c1) f.n (iv f.ms) by rw [hW2]; exact own_same o1.out fun q hq => Below.heap_setCell w1 ⟨w.heap.size, 1, none⟩ _ q (show q ≠ w.heap.size by have := (o1.out.lt q hq).1; omega))
  have HF2 := Lib.hid (H0.out.below HB.out)
  clear x1 f1 hW2 B1 HF
  have x2 : W2.cell? ⟨w.heap.size, 2, none⟩ = some (.slice f.T f.tn f.tc) := HX.out.cell 2
  have f2 := HX.out.frozen 2
  go_upto_region 3 with (at_builtin; refine push_cells W2 rfl _ _ 24 83 (.agg (iv z64).toArray) 64 512 rfl tile_infoZ Try.underlying24 rfl (by decide) (by decide) W0.heap.size 0 0 f.tn f.tc W2.heap.size none f.T [] (fl64 f.ts) rfl rfl (World.ownsRow_nil _ _ _ _) HF2.out.tiles.2.2 (fl64_one _) k2 (by omega) hsz2 ?_; intro A2 c2 w2 o2 g2; rw [Nat.zero_add, List.nil_append] at o2; rw [Nat.zero_add]; replace o2 := Lib.hid o2; have B2 := Lib.hid (below_of_grown g2 (Nat.le_refl _) (by intro k hk; cases hk)); clear g2; have x2 : w2.cell? ⟨w.heap.size, 2, none⟩ = some (.slice f.T f.tn f.tc) := (HX.out.below B2.out HX.out.lt).cell 2; have f2 : w2.frozen? ⟨w.heap.size, 2, none⟩ = false := (HX.out.below B2.out HX.out.lt).frozen 2)
  obtain ⟨W3, hW3⟩ : ∃ W3, W3 = w2.setCell ⟨w.heap.size, 2, none⟩ (.slice A2 f.tn c2) := ⟨_, rfl⟩
  rw [← hW3]
  replace HX := Lib.hid (show Blk W3 w.heap.size 26 #[.int .i64 f.W, .slice A1 f.n c1, .slice A2 f.tn c2, .int .i64 f.sx, .int .i64 f.sy] by rw [hW3]; exact (HX.out.below B2.out HX.out.lt).set_ 2 _)
  replace HR := Lib.hid (show Blk W3 (w.heap.size + 1) 26 zeroF by rw [hW3]; exact (HR.out.below B2.out HR.out.lt).far (by show w.heap.size + 1 ≠ w.heap.size; omega) _)
  replace HB := Lib.hid (show Below w.heap.size w W3 by rw [hW3]; exact (below_step HB.out B2.out HB.out.size).setCell (Nat.le_refl _) _)
  replace o1 := Lib.hid (show W3.ownsRow W0.heap.size 3 1 (.slice A1 f.n c1) f.n (iv f.ms) by rw [hW3]; exact own_same (own_below o1.out B2.out) fun q hq => Below.heap_setCell w2 ⟨w.heap.size, 2, none⟩ _ q (show q ≠ w.heap.size by have := (o1.out.lt q hq).1; omega))
  replace o2 := Lib.hid (show W3.ownsRow W0.heap.size 83 64 (.slice A2 f.tn c2) f.tn (fl64 f.ts) by rw [hW3]; exact own_same o2.out fun q hq => Below.heap_setCell w2 ⟨w.heap.size, 2, none⟩ _ q (show q ≠ w.heap.size by have := (o2.out.lt q hq).1; omega))
  clear x2 f2 hW3 B2
  have x0 : W3.cell? ⟨w.heap.size, 0, none⟩ = some (.int .i64 f.W) := HX.out.cell 0
  have x1 : W3.cell? ⟨w.heap.size, 1, none⟩ = some (.slice A1 f.n c1) := HX.out.cell 1
  have x2 : W3.cell? ⟨w.heap.size, 2, none⟩ = some (.slice A2 f.tn c2) := HX.out.cell 2
  have x3 : W3.cell? ⟨w.heap.size, 3, none⟩ = some (.int .i64 f.sx) := HX.out.cell 3
  have x4 : W3.cell? ⟨w.heap.size, 4, none⟩ = some (.int .i64 f.sy) := HX.out.cell 4
  have v0 : W3.cell? ⟨w.heap.size + 1, 0, none⟩ = some (.int .i64 0) := HR.out.cell 0
  have v1 : W3.cell? ⟨w.heap.size + 1, 1, none⟩ = some (.slice none 0 0) := HR.out.cell 1
  have v2 : W3.cell? ⟨w.heap.size + 1, 2, none⟩ = some (.slice none 0 0) := HR.out.cell 2
  have v3 : W3.cell? ⟨w.heap.size + 1, 3, none⟩ = some (.int .i64 0) := HR.out.cell 3
  have v4 : W3.cell? ⟨w.heap.size + 1, 4, none⟩ = some (.int .i64 0) := HR.out.cell 4
  have t0 := HR.out.frozen 0
  have t1 := HR.out.frozen 1
  have t2 := HR.out.frozen 2
  have t3 := HR.out.frozen 3
  have t4 := HR.out.frozen 4
  go_wp2_with fail
  have hbk := setN_blk [.int .i64 f.W, .slice A1 f.n c1, .slice A2 f.tn c2, .int .i64 f.sx, .int .i64 f.sy] 0 _ _ HR.out
  simp only [setA, zeroF, List.setIfInBounds_toArray, List.set_cons_zero, List.set_cons_succ, Nat.zero_add, Nat.reduceAdd] at hbk
  refine bodyPost_ret (results_cell_row Try.results76 _ _ (w.heap.size + 1) 26 #[.int .i64 f.W, .slice A1 f.n c1, .slice A2 f.tn c2, .int .i64 f.sx, .int .i64 f.sy] (0, 0) _ rfl hbk Try.underlying26 rfl rfl) rfl ?_
  have O1 := own_same o1.out fun q hq => setN_heap (b := w.heap.size + 1) (show q ≠ w.heap.size + 1 by have := (o1.out.lt q hq).1; omega) [.int .i64 f.W, .slice A1 f.n c1, .slice A2 f.tn c2, .int .i64 f.sx, .int .i64 f.sy] 0 W3
  have O2 := own_same o2.out fun q hq => setN_heap (b := w.heap.size + 1) (show q ≠ w.heap.size + 1 by have := (o2.out.lt q hq).1; omega) [.int .i64 f.W, .slice A1 f.n c1, .slice A2 f.tn c2, .int .i64 f.sx, .int .i64 f.sy] 0 W3
  exact ⟨A1, c1, A2, c2, rfl, fun w2 _ hk => by
    have P1 := own_same O1 fun q hq => hk q (by have := (O1.lt q hq).1; omega) (O1.lt q hq).2
    have P2 := own_same O2 fun q hq => hk q (by have := (O2.lt q hq).1; omega) (O2.lt q hq).2
    exact ⟨own_ints P1, ti_of_own P2 H0.out.tiles.2.1, H0.out.hn, H0.out.ht⟩, setN_below (Nat.le_succ _) [.int .i64 f.W, .slice A1 f.n c1, .slice A2 f.tn c2, .int .i64 f.sx, .int .i64 f.sy] 0 _ _ HB.out⟩
def GivesSF (f : Fld) (dx dy : Int) (w : World) (e : Ending) (w' : World) : Prop := ∃ (A : Option Addr) (c : Nat) (T : Option Addr) (tc : Nat), e = .returned (fShift f A c T tc dx dy).val ∧ (∀ w2 : World, w'.heap.size ≤ w2.heap.size → (∀ k, w.heap.size ≤ k → k < w'.heap.size → w2.heap[k]? = w'.heap[k]?) → FRd w2 (fShift f A c T tc dx dy)) ∧ Below w.heap.size w w'
set_option maxRecDepth 20000 in
set_option maxHeartbeats 2000000 in
theorem shiftField_any (f : Fld) (dx dy : Int) (w : World) (h : FRd w f) (hok : FldOk f) (hfb : fieldB f = true) (x0 : 0 ≤ dx) (x1 : dx ≤ 255) (y0 : 0 ≤ dy) (y1 : dy ≤ 255) : Calls Try.prog 40 #[f.val, .int .i64 dx, .int .i64 dy] w (GivesSF f dx dy w) := by
  obtain ⟨W0, hW0⟩ : ∃ W0, W0 = (w.alloc (.cells f.cs 26)).alloc (.cells zeroF 26) := ⟨_, rfl⟩
  have hb0 : Below w.heap.size w W0 := by rw [hW0]; exact ((Below.refl _ _).alloc (Nat.le_refl _) _).alloc (by simp) _
  have HX := Lib.hid (show Blk W0 w.heap.size 26 f.cs by rw [hW0]; exact (Blk.new _ _ _).alloc _)
  have HR := Lib.hid (show Blk W0 (w.heap.size + 1) 26 zeroF by
    rw [hW0]
    have h := Blk.new (w.alloc (.cells f.cs 26)) 26 zeroF
    rwa [show (w.alloc (.cells f.cs 26)).heap.size = w.heap.size + 1 by simp] at h)
  have HF := Lib.hid (h.below hb0)
  have HB := Lib.hid hb0
  have HOK := Lib.hid hok
  have HFB := Lib.hid hfb
  obtain ⟨⟨w1, w2⟩, r0, ⟨r1, r2⟩, -, ⟨s1, s2⟩, ⟨s3, s4⟩, -⟩ := field_facts hfb
  have hdx : inB dx (-255) 255 = true := inB_iff.2 (by omega)
  have hdy : inB dy (-255) 255 = true := inB_iff.2 (by omega)
  have c0 : W0.cell? ⟨w.heap.size, 0, none⟩ = some (.int .i64 f.W) := HX.out.cell 0
  have c1 : W0.cell? ⟨w.heap.size, 1, none⟩ = some (.slice f.A f.n f.c) := HX.out.cell 1
  have c2 : W0.cell? ⟨w.heap.size, 2, none⟩ = some (.slice f.T f.tn f.tc) := HX.out.cell 2
  have c3 : W0.cell? ⟨w.heap.size, 3, none⟩ = some (.int .i64 f.sx) := HX.out.cell 3
  have c4 : W0.cell? ⟨w.heap.size, 4, none⟩ = some (.int .i64 f.sy) := HX.out.cell 4
  replace hW0 := Lib.hid hW0
  clear h hb0 hok
  unfold Fld.val Fld.cs
  go_enter Try.func40, Try.ntmps40
  go_upto_region 1 with (fail)
  change Code.wp _ _ _ _ ((w.alloc (.cells f.cs 26)).alloc (.cells zeroF 26))
  rw [← hW0.out]
  go_wp2_with (first | (go_at_call 52; refine (fieldValid_impl f _ HF.out).mono ?_; rintro e w5 ⟨rfl, b5⟩; rw [hfb]; replace HX := Lib.hid (HX.out.below b5 HX.out.lt); replace HR := Lib.hid (HR.out.below b5 HR.out.lt); replace HF := Lib.hid (HF.out.below b5); replace HB := Lib.hid (below_step HB.out b5 HB.out.size); clear b5 c0 c1 c2 c3 c4; have c0 : w5.cell? ⟨w.heap.size, 0, none⟩ = some (.int .i64 f.W) := HX.out.cell 0; have c1 : w5.cell? ⟨w.heap.size, 1, none⟩ = some (.slice f.A f.n f.c) := HX.out.cell 1; have c2 : w5.cell? ⟨w.heap.size, 2, none⟩ = some (.slice f.T f.tn f.tc) := HX.out.cell 2; have c3 : w5.cell? ⟨w.heap.size, 3, none⟩ = some (.int .i64 f.sx) := HX.out.cell 3; have c4 : w5.cell? ⟨w.heap.size, 4, none⟩ = some (.int .i64 f.sy) := HX.out.cell 4) | (go_at_call 53; refine (within_any _ _ _ _).mono ?_; rintro e w' ⟨rfl, rfl⟩; first | rw [hdx] | rw [hdy]))
  have l5r := HR.out.lt
  refine (copyField_any f _ HF.out HOK.out).mono ?_
  rintro e w6 ⟨A, c, T, tc, rfl, hfr, b6⟩
  replace HX := Lib.hid (HX.out.below b6 HX.out.lt)
  replace HR := Lib.hid (HR.out.below b6 HR.out.lt)
  replace HB := Lib.hid (below_step HB.out b6 HB.out.size)
  have hnl := Lib.hid (show f.n = f.ms.length from (HF.out.map.len).symm)
  have HFR := Lib.hid hfr
  have lr5 : w.heap.size + 1 < w5.heap.size := l5r
  clear b6 hfr HF c0 c1 c2 c3 c4
  have hb7 : Below w6.heap.size w6 (w6.alloc (.cells (Fld.cs { f with A := A, c := c, T := T, tc := tc }) 26)) := (Below.refl _ _).alloc (Nat.le_refl _) _
  replace HX := Lib.hid (HX.out.below hb7 HX.out.lt)
  have lr : w.heap.size + 1 < w6.heap.size := HR.out.lt
  replace HR := Lib.hid (HR.out.below hb7 HR.out.lt)
  replace HB := Lib.hid (below_step HB.out hb7 HB.out.size)
  have HC := Lib.hid hb7
  have HY := Lib.hid (Blk.new w6 26 (Fld.cs { f with A := A, c := c, T := T, tc := tc }))
  obtain ⟨W7, hW7⟩ : ∃ W7, W7 = w6.alloc (.cells (Fld.cs { f with A := A, c := c, T := T, tc := tc }) 26) := ⟨_, rfl⟩
  obtain ⟨b7, hb⟩ : ∃ b7, b7 = w6.heap.size := ⟨_, rfl⟩
  rw [← hW7] at HX HR HB HC HY
  unfold Fld.val Fld.cs
  simp only []
  go_upto_region 4 with (fail)
  change Code.wp _ _ _ _ (w6.alloc (.cells (Fld.cs { f with A := A, c := c, T := T, tc := tc }) 26))
  rw [← hW7]
  rw [← hb] at HY lr HC HFR ⊢
  have HB7 := Lib.hid hb
  clear hW7 hb hb7
  have lrx := HX.out.lt
  have hbx : w.heap.size ≠ b7 := by omega
  have c0 : W7.cell? ⟨w.heap.size, 0, none⟩ = some (.int .i64 f.W) := HX.out.cell 0
  have c3 : W7.cell? ⟨w.heap.size, 3, none⟩ = some (.int .i64 f.sx) := HX.out.cell 3
  have d3 : W7.cell? ⟨b7, 3, none⟩ = some (.int .i64 f.sx) := HY.out.cell 3
  have g3 := HY.out.frozen 3
  have m1 : IntKind.i64.wrap (f.sx + dx) = f.sx + dx := IntWalk.i64_in _ (by omega)
  have m2 : IntKind.i64.wrap (8 * f.W) = 8 * f.W := IntWalk.i64_in _ (by omega)
  go_upto_region 5 with (go_at_call 77; refine (modulo_nn (f.sx + dx) (8 * f.W) (by omega) (by omega) (by omega) (by omega) _).mono ?_; rintro e w' ⟨rfl, rfl⟩)
  clear c0 c3 d3 g3 m1 m2
  obtain ⟨W8, hW8⟩ : ∃ W8, W8 = W7.setCell ⟨b7, 3, none⟩ (.int .i64 ((f.sx + dx) % (8 * f.W))) := ⟨_, rfl⟩
  rw [← hW8]
  replace HX := Lib.hid (show Blk W8 w.heap.size 26 f.cs by rw [hW8]; exact HX.out.far hbx _)
  replace HR := Lib.hid (show Blk W8 (w.heap.size + 1) 26 zeroF by rw [hW8]; exact HR.out.far (by show w.heap.size + 1 ≠ b7; omega) _)
  replace HB := Lib.hid (show Below w.heap.size w W8 by rw [hW8]; exact HB.out.setCell (by show w.heap.size ≤ b7; omega) _)
  replace HC := Lib.hid (show Below b7 w6 W8 by rw [hW8]; exact HC.out.setCell (Nat.le_refl _) _)
  replace HY := Lib.hid (show Blk W8 b7 26 #[.int .i64 f.W, .slice A f.n c, .slice T f.tn tc, .int .i64 ((f.sx + dx) % (8 * f.W)), .int .i64 f.sy] by rw [hW8]; exact HY.out.set_ 3 _)
  clear hW8
  obtain ⟨X, hX⟩ : ∃ X, (f.sx + dx) % (8 * f.W) = X := ⟨_, rfl⟩
  obtain ⟨R, hR⟩ : ∃ R, (f.ms.length : Int) / f.W = R := ⟨_, rfl⟩
  have HGS := Lib.hid (show (fShift f A c T tc dx dy).val = .agg #[.int .i64 f.W, .slice A f.n c, .slice T f.tn tc, .int .i64 X, .int .i64 ((f.sy + dy) % (8 * R))] by rw [← hX, ← hR]; rfl)
  rw [hX] at HY
  rw [hR] at r1 r2
  have hq : (f.n : Int).tdiv f.W = R := by rw [hnl.out, Int.tdiv_eq_ediv_of_nonneg (by omega)]; exact hR
  replace hX := Lib.hid hX
  replace hR := Lib.hid hR
  have hz : (f.W == 0) = false := beq_eq_false_iff_ne.2 (by omega)
  have hz2 : ¬ f.W = 0 := by omega
  have lW := HX.out.lt
  have c0 : W8.cell? ⟨w.heap.size, 0, none⟩ = some (.int .i64 f.W) := HX.out.cell 0
  have c1 : W8.cell? ⟨w.heap.size, 1, none⟩ = some (.slice f.A f.n f.c) := HX.out.cell 1
  have c4 : W8.cell? ⟨w.heap.size, 4, none⟩ = some (.int .i64 f.sy) := HX.out.cell 4
  have d4 : W8.drew.cell? ⟨b7, 4, none⟩ = some (.int .i64 f.sy) := HY.out.cell 4
  have g4 : W8.drew.frozen? ⟨b7, 4, none⟩ = false := HY.out.frozen 4
  have m1 : IntKind.i64.wrap (f.sy + dy) = f.sy + dy := IntWalk.i64_in _ (by omega)
  have m2 : IntKind.i64.wrap (8 * R) = 8 * R := IntWalk.i64_in _ (by omega)
  have m3 : IntKind.i64.wrap R = R := IntWalk.i64_in _ (by omega)
  go_region_held3 (fun w' => w'.cell? ⟨w.heap.size, 0, none⟩ = some (.int .i64 f.W) ∧ w'.cell? ⟨w.heap.size, 1, none⟩ = some (.slice f.A f.n f.c) ∧ w'.cell? ⟨w.heap.size, 4, none⟩ = some (.int .i64 f.sy)) (first | exact ⟨c0, c1, c4⟩ | exact ⟨(HX.out.far (p := ⟨b7, 4, none⟩) hbx _).cell 0, (HX.out.far (p := ⟨b7, 4, none⟩) hbx _).cell 1, (HX.out.far (p := ⟨b7, 4, none⟩) hbx _).cell 4⟩) ((go_at_call 77; refine (modulo_nn (f.sy + dy) (8 * R) (by omega) (by omega) (by omega) (by omega) _).mono ?_; rintro e w' ⟨rfl, rfl⟩))
  clear c0 c1 c4 d4 g4 m1 m2 m3
  obtain ⟨V, hV⟩ : ∃ V, (f.sy + dy) % (8 * R) = V := ⟨_, rfl⟩
  rw [hV] at HGS ⊢
  obtain ⟨W9, hW9⟩ : ∃ W9, W9 = (W8.setCell ⟨b7, 4, none⟩ (.int .i64 V)).drew := ⟨_, rfl⟩
  rw [← hW9]
  replace HY := Lib.hid (show Blk W9 b7 26 #[.int .i64 f.W, .slice A f.n c, .slice T f.tn tc, .int .i64 X, .int .i64 V] by rw [hW9]; exact HY.out.set_ 4 _)
  replace HR := Lib.hid (show Blk W9 (w.heap.size + 1) 26 zeroF by rw [hW9]; exact (HR.out.far (p := ⟨b7, 4, none⟩) (by show w.heap.size + 1 ≠ b7; omega) (.int .i64 V)).drew)
  replace HB := Lib.hid (show Below w.heap.size w W9 by rw [hW9]; exact (HB.out.setCell (p := ⟨b7, 4, none⟩) (by show w.heap.size ≤ b7; omega) _).drew)
  replace HC := Lib.hid (show Below b7 w6 W9 by rw [hW9]; exact (HC.out.setCell (p := ⟨b7, 4, none⟩) (Nat.le_refl _) _).drew)
  replace hV := Lib.hid hV
  clear hW9 HX
  have d0 : W9.cell? ⟨b7, 0, none⟩ = some (.int .i64 f.W) := HY.out.cell 0
  have d1 : W9.cell? ⟨b7, 1, none⟩ = some (.slice A f.n c) := HY.out.cell 1
  have d2 : W9.cell? ⟨b7, 2, none⟩ = some (.slice T f.tn tc) := HY.out.cell 2
  have d3 : W9.cell? ⟨b7, 3, none⟩ = some (.int .i64 X) := HY.out.cell 3
  have d4 : W9.cell? ⟨b7, 4, none⟩ = some (.int .i64 V) := HY.out.cell 4
  have v0 : W9.cell? ⟨w.heap.size + 1, 0, none⟩ = some (.int .i64 0) := HR.out.cell 0
  have v1 : W9.cell? ⟨w.heap.size + 1, 1, none⟩ = some (.slice none 0 0) := HR.out.cell 1
  have v2 : W9.cell? ⟨w.heap.size + 1, 2, none⟩ = some (.slice none 0 0) := HR.out.cell 2
  have v3 : W9.cell? ⟨w.heap.size + 1, 3, none⟩ = some (.int .i64 0) := HR.out.cell 3
  have v4 : W9.cell? ⟨w.heap.size + 1, 4, none⟩ = some (.int .i64 0) := HR.out.cell 4
  have t0 := HR.out.frozen 0
  have t1 := HR.out.frozen 1
  have t2 := HR.out.frozen 2
  have t3 := HR.out.frozen 3
  have t4 := HR.out.frozen 4
  go_wp2_with fail
  have hbk := setN_blk [.int .i64 f.W, .slice A f.n c, .slice T f.tn tc, .int .i64 X, .int .i64 V] 0 _ _ HR.out
  simp only [setA, zeroF, List.setIfInBounds_toArray, List.set_cons_zero, List.set_cons_succ, Nat.zero_add, Nat.reduceAdd] at hbk
  refine bodyPost_ret (results_cell_row Try.results40 _ _ (w.heap.size + 1) 26 #[.int .i64 f.W, .slice A f.n c, .slice T f.tn tc, .int .i64 X, .int .i64 V] (0, 0) _ rfl hbk Try.underlying26 rfl rfl) rfl ?_
  have hsz := HC.out.size
  have hwz : w.heap.size ≤ w5.heap.size := by omega
  refine ⟨A, c, T, tc, by rw [HGS.out], fun w2 hz2 hk2 => ?_, setN_below (Nat.le_succ _) [.int .i64 f.W, .slice A f.n c, .slice T f.tn tc, .int .i64 X, .int .i64 V] 0 _ _ HB.out⟩
  have hz3 : W9.heap.size ≤ w2.heap.size := by have := setN_size (b := w.heap.size + 1) [.int .i64 f.W, .slice A f.n c, .slice T f.tn tc, .int .i64 X, .int .i64 V] 0 W9; exact Nat.le_trans (Nat.le_of_eq this.symm) hz2
  have hz4 : b7 ≤ W9.heap.size := by rw [HB7.out]; exact hsz
  have hfin := HFR.out w2 (by omega) (fun k h1 h2 => by
    have e1 := hk2 k (by omega) (by have := setN_size (b := w.heap.size + 1) [.int .i64 f.W, .slice A f.n c, .slice T f.tn tc, .int .i64 X, .int .i64 V] 0 W9; exact Nat.lt_of_lt_of_le (Nat.lt_of_lt_of_le h2 hz4) (Nat.le_of_eq this.symm))
    refine e1.trans ?_
    refine (setN_heap (b := w.heap.size + 1) (show k ≠ w.heap.size + 1 by omega) [.int .i64 f.W, .slice A f.n c, .slice T f.tn tc, .int .i64 X, .int .i64 V] 0 W9).trans ?_
    exact HC.out.block k h2)
  exact ⟨hfin.map, hfin.tiles, hfin.hn, hfin.ht⟩
end Go.Proofs.Ytkcabllnlbcgdaa
