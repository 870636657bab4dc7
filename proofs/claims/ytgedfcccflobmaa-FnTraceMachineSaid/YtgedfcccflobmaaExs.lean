/-
  One instruction, executed in place: the reference's walk. The machine is valid.
-/
import Derived.Test.YtgedfcccflobmaaExe
import Derived.Test.YtgedfcccflobmaaSgr
namespace Go.Proofs.Ytgedfcccflobmaa
open Go.RowKit
set_option linter.unusedVariables false
set_option linter.unusedSimpArgs false
attribute [local go_sem ↓] Go.wp_at_zero Go.wp_at_succ
set_option maxRecDepth 4000 in
set_option maxHeartbeats 4000000 in
theorem l5Do_1 (lo h1 h2 b : Nat) (x : Mch) (vs : List Value) (arg : Int) (w : World) (h : MSt lo h1 h2 b x vs w) (f : FormP x.pm) (t0 : 0 ≤ arg) (t1 : arg ≤ 1023) :
    Calls Try.prog 61 #[.pointer (some ⟨b, 0, none⟩), .agg #[.int .i64 1, .int .i64 arg]] w (Did lo h1 h2 b x vs w (exeP x.pm 1 arg)) := by
  have hb0 : Below w.heap.size w (w.alloc (.cells #[.int .i64 1, .int .i64 arg] 84)) := (Below.refl _ _).alloc (Nat.le_refl _) _
  refine Calls.mono (R := Did lo h1 h2 b x vs (w.alloc (.cells #[.int .i64 1, .int .i64 arg] 84)) (exeP x.pm 1 arg)) ?_ (fun e w' hd => Did.via hb0 hd)
  have g := h.below hb0
  have HX := Lib.hid g
  have HD := Lib.hid (g.below (Below.refl (w.alloc (.cells #[.int .i64 1, .int .i64 arg] 84)).heap.size (w.alloc (.cells #[.int .i64 1, .int .i64 arg] 84))).drew)
  obtain ⟨⟨c0, c1, c2⟩, c3, c4, c5, c6, c7, c8⟩ := g.box.all
  have f3 := g.blk.frozen 3
  have f5 := g.blk.frozen 5
  have f7 := g.blk.frozen 7
  have hbl := g.blk.lt
  obtain ⟨g1, g2⟩ := f.pk t0 t1
  have ha0 : inB x.a 0 255 = true := inB_iff.2 ⟨f.a0, f.a1⟩
  have hk0 : inB (x.pm.pk arg) 0 255 = true := inB_iff.2 ⟨g1, g2⟩
  replace ha0 := Lib.hid ha0
  replace hk0 := Lib.hid hk0
  clear hb0 g h g1 g2
  go_enter Try.func61, Try.ntmps61
  go_wp2_with fail
  refine bodyPost_end (results_none (by rfl) _ _ _) rfl ?_
  obtain ⟨r1, r2⟩ := HX.out.field 3 (.int .i64 arg) { x with a := arg } rfl rfl rfl rfl
  exact ⟨_, rfl, r1, by rw [exe_1]; rfl, r2⟩
set_option maxRecDepth 4000 in
set_option maxHeartbeats 4000000 in
theorem l5Do_2 (lo h1 h2 b : Nat) (x : Mch) (vs : List Value) (arg : Int) (w : World) (h : MSt lo h1 h2 b x vs w) (f : FormP x.pm) (t0 : 0 ≤ arg) (t1 : arg ≤ 1023) :
    Calls Try.prog 61 #[.pointer (some ⟨b, 0, none⟩), .agg #[.int .i64 2, .int .i64 arg]] w (Did lo h1 h2 b x vs w (exeP x.pm 2 arg)) := by
  have hb0 : Below w.heap.size w (w.alloc (.cells #[.int .i64 2, .int .i64 arg] 84)) := (Below.refl _ _).alloc (Nat.le_refl _) _
  refine Calls.mono (R := Did lo h1 h2 b x vs (w.alloc (.cells #[.int .i64 2, .int .i64 arg] 84)) (exeP x.pm 2 arg)) ?_ (fun e w' hd => Did.via hb0 hd)
  have g := h.below hb0
  have HX := Lib.hid g
  have HD := Lib.hid (g.below (Below.refl (w.alloc (.cells #[.int .i64 2, .int .i64 arg] 84)).heap.size (w.alloc (.cells #[.int .i64 2, .int .i64 arg] 84))).drew)
  obtain ⟨⟨c0, c1, c2⟩, c3, c4, c5, c6, c7, c8⟩ := g.box.all
  have f3 := g.blk.frozen 3
  have f5 := g.blk.frozen 5
  have f7 := g.blk.frozen 7
  have hbl := g.blk.lt
  obtain ⟨g1, g2⟩ := f.pk t0 t1
  have ha0 : inB x.a 0 255 = true := inB_iff.2 ⟨f.a0, f.a1⟩
  have hk0 : inB (x.pm.pk arg) 0 255 = true := inB_iff.2 ⟨g1, g2⟩
  replace ha0 := Lib.hid ha0
  replace hk0 := Lib.hid hk0
  clear hb0 g h g1 g2
  go_enter Try.func61, Try.ntmps61
  go_wp2_with fail
  go_region_with ((go_at_call 73; refine (l2Read_any _ _ _ _ _ _ _ _ _ arg _ (HD.out.rd f).m f.m t0 t1).mono ?_; rintro e W8 ⟨rfl, hq⟩; have B8 : Below (w.alloc (.cells #[.int .i64 2, .int .i64 arg] 84)).heap.size (w.alloc (.cells #[.int .i64 2, .int .i64 arg] 84)) W8 := (Below.refl _ _).drew.trans hq; have H8 := Lib.hid (HX.out.below B8); obtain ⟨⟨d0, d1, d2⟩, d3, d4, d5, d6, d7, d8⟩ := H8.out.box.all; have e3 := H8.out.blk.frozen 3; have e5 := H8.out.blk.frozen 5; clear hq; replace B8 := Lib.hid B8))
  all_goals (
    go_wp2_with fail
    refine bodyPost_end (results_none (by rfl) _ _ _) rfl ?_
    obtain ⟨r1, r2⟩ := H8.out.field 3 (.int .i64 (x.pm.pk arg)) { x with a := x.pm.pk arg } rfl rfl rfl rfl
    exact ⟨_, rfl, r1, by rw [exe_2]; rfl, (MFr.of_below B8.out).trans r2⟩
    done)
set_option maxRecDepth 4000 in
set_option maxHeartbeats 4000000 in
theorem l5Do_4 (lo h1 h2 b : Nat) (x : Mch) (vs : List Value) (arg : Int) (w : World) (h : MSt lo h1 h2 b x vs w) (f : FormP x.pm) (t0 : 0 ≤ arg) (t1 : arg ≤ 1023) :
    Calls Try.prog 61 #[.pointer (some ⟨b, 0, none⟩), .agg #[.int .i64 4, .int .i64 arg]] w (Did lo h1 h2 b x vs w (exeP x.pm 4 arg)) := by
  have hb0 : Below w.heap.size w (w.alloc (.cells #[.int .i64 4, .int .i64 arg] 84)) := (Below.refl _ _).alloc (Nat.le_refl _) _
  refine Calls.mono (R := Did lo h1 h2 b x vs (w.alloc (.cells #[.int .i64 4, .int .i64 arg] 84)) (exeP x.pm 4 arg)) ?_ (fun e w' hd => Did.via hb0 hd)
  have g := h.below hb0
  have HX := Lib.hid g
  have HD := Lib.hid (g.below (Below.refl (w.alloc (.cells #[.int .i64 4, .int .i64 arg] 84)).heap.size (w.alloc (.cells #[.int .i64 4, .int .i64 arg] 84))).drew)
  obtain ⟨⟨c0, c1, c2⟩, c3, c4, c5, c6, c7, c8⟩ := g.box.all
  have f3 := g.blk.frozen 3
  have f5 := g.blk.frozen 5
  have f7 := g.blk.frozen 7
  have hbl := g.blk.lt
  obtain ⟨g1, g2⟩ := f.pk t0 t1
  have ha0 : inB x.a 0 255 = true := inB_iff.2 ⟨f.a0, f.a1⟩
  have hk0 : inB (x.pm.pk arg) 0 255 = true := inB_iff.2 ⟨g1, g2⟩
  replace ha0 := Lib.hid ha0
  replace hk0 := Lib.hid hk0
  clear hb0 g h g1 g2
  go_enter Try.func61, Try.ntmps61
  go_wp2_with fail
  go_region_with (first | (go_at_call 73; refine (l2Read_any _ _ _ _ _ _ _ _ _ arg _ (HD.out.rd f).m f.m t0 t1).mono ?_; rintro e W8 ⟨rfl, hq⟩; have B8 : Below (w.alloc (.cells #[.int .i64 4, .int .i64 arg] 84)).heap.size (w.alloc (.cells #[.int .i64 4, .int .i64 arg] 84)) W8 := (Below.refl _ _).drew.trans hq; have H8 := Lib.hid (HX.out.below B8); obtain ⟨⟨d0, d1, d2⟩, d3, d4, d5, d6, d7, d8⟩ := H8.out.box.all; have e3 := H8.out.blk.frozen 3; have e5 := H8.out.blk.frozen 5; clear hq; replace B8 := Lib.hid B8) | (go_at_call 87; refine (addBytes_spec x.a (x.pm.pk arg) x.cy _ ha0.out hk0.out).mono ?_; rintro e w' ⟨v, rfl, rfl⟩))
  all_goals (
    go_wp2_with fail
    refine bodyPost_end (results_none (by rfl) _ _ _) rfl ?_
    first
      | (obtain ⟨r1, r2⟩ := H8.out.field 3 (.int .i64 ((x.a + x.pm.pk arg + oneI x.cy) % 256)) { x with a := (x.a + x.pm.pk arg + oneI x.cy) % 256 } rfl rfl rfl rfl; obtain ⟨s1, s2⟩ := r1.field 5 (.bool (decide (x.a + x.pm.pk arg + oneI x.cy > 255))) { x with a := (x.a + x.pm.pk arg + oneI x.cy) % 256, cy := decide (x.a + x.pm.pk arg + oneI x.cy > 255) } rfl rfl rfl rfl; exact ⟨_, rfl, s1, by rw [exe_4]; rfl, ((MFr.of_below B8.out).trans r2).trans s2⟩)
      | (obtain ⟨r1, r2⟩ := H8.out.field 5 (.bool (decide (x.a + x.pm.pk arg + oneI x.cy > 255))) { x with cy := decide (x.a + x.pm.pk arg + oneI x.cy > 255) } rfl rfl rfl rfl; obtain ⟨s1, s2⟩ := r1.field 3 (.int .i64 ((x.a + x.pm.pk arg + oneI x.cy) % 256)) { x with a := (x.a + x.pm.pk arg + oneI x.cy) % 256, cy := decide (x.a + x.pm.pk arg + oneI x.cy > 255) } rfl rfl rfl rfl; exact ⟨_, rfl, s1, by rw [exe_4]; rfl, ((MFr.of_below B8.out).trans r2).trans s2⟩)
    done)
set_option maxRecDepth 4000 in
set_option maxHeartbeats 4000000 in
theorem l5Do_5 (lo h1 h2 b : Nat) (x : Mch) (vs : List Value) (arg : Int) (w : World) (h : MSt lo h1 h2 b x vs w) (f : FormP x.pm) (t0 : 0 ≤ arg) (t1 : arg ≤ 1023) :
    Calls Try.prog 61 #[.pointer (some ⟨b, 0, none⟩), .agg #[.int .i64 5, .int .i64 arg]] w (Did lo h1 h2 b x vs w (exeP x.pm 5 arg)) := by
  have hb0 : Below w.heap.size w (w.alloc (.cells #[.int .i64 5, .int .i64 arg] 84)) := (Below.refl _ _).alloc (Nat.le_refl _) _
  refine Calls.mono (R := Did lo h1 h2 b x vs (w.alloc (.cells #[.int .i64 5, .int .i64 arg] 84)) (exeP x.pm 5 arg)) ?_ (fun e w' hd => Did.via hb0 hd)
  have g := h.below hb0
  have HX := Lib.hid g
  have HD := Lib.hid (g.below (Below.refl (w.alloc (.cells #[.int .i64 5, .int .i64 arg] 84)).heap.size (w.alloc (.cells #[.int .i64 5, .int .i64 arg] 84))).drew)
  obtain ⟨⟨c0, c1, c2⟩, c3, c4, c5, c6, c7, c8⟩ := g.box.all
  have f3 := g.blk.frozen 3
  have f5 := g.blk.frozen 5
  have f7 := g.blk.frozen 7
  have hbl := g.blk.lt
  obtain ⟨g1, g2⟩ := f.pk t0 t1
  have ha0 : inB x.a 0 255 = true := inB_iff.2 ⟨f.a0, f.a1⟩
  have hk0 : inB (x.pm.pk arg) 0 255 = true := inB_iff.2 ⟨g1, g2⟩
  replace ha0 := Lib.hid ha0
  replace hk0 := Lib.hid hk0
  clear hb0 g h g1 g2
  go_enter Try.func61, Try.ntmps61
  go_wp2_with fail
  go_region_with (first | (go_at_call 73; refine (l2Read_any _ _ _ _ _ _ _ _ _ arg _ (HD.out.rd f).m f.m t0 t1).mono ?_; rintro e W8 ⟨rfl, hq⟩; have B8 : Below (w.alloc (.cells #[.int .i64 5, .int .i64 arg] 84)).heap.size (w.alloc (.cells #[.int .i64 5, .int .i64 arg] 84)) W8 := (Below.refl _ _).drew.trans hq; have H8 := Lib.hid (HX.out.below B8); obtain ⟨⟨d0, d1, d2⟩, d3, d4, d5, d6, d7, d8⟩ := H8.out.box.all; have e3 := H8.out.blk.frozen 3; have e5 := H8.out.blk.frozen 5; clear hq; replace B8 := Lib.hid B8) | (go_at_call 88; refine (subBytes_spec x.a (x.pm.pk arg) x.cy _ ha0.out hk0.out).mono ?_; rintro e w' ⟨rfl, rfl⟩))
  all_goals (
    go_wp2_with fail
    refine bodyPost_end (results_none (by rfl) _ _ _) rfl ?_
    first
      | (obtain ⟨r1, r2⟩ := H8.out.field 3 (.int .i64 ((x.a - x.pm.pk arg - oneI x.cy) % 256)) { x with a := (x.a - x.pm.pk arg - oneI x.cy) % 256 } rfl rfl rfl rfl; obtain ⟨s1, s2⟩ := r1.field 5 (.bool (decide (x.a - x.pm.pk arg - oneI x.cy < 0))) { x with a := (x.a - x.pm.pk arg - oneI x.cy) % 256, cy := decide (x.a - x.pm.pk arg - oneI x.cy < 0) } rfl rfl rfl rfl; exact ⟨_, rfl, s1, by rw [exe_5]; rfl, ((MFr.of_below B8.out).trans r2).trans s2⟩)
      | (obtain ⟨r1, r2⟩ := H8.out.field 5 (.bool (decide (x.a - x.pm.pk arg - oneI x.cy < 0))) { x with cy := decide (x.a - x.pm.pk arg - oneI x.cy < 0) } rfl rfl rfl rfl; obtain ⟨s1, s2⟩ := r1.field 3 (.int .i64 ((x.a - x.pm.pk arg - oneI x.cy) % 256)) { x with a := (x.a - x.pm.pk arg - oneI x.cy) % 256, cy := decide (x.a - x.pm.pk arg - oneI x.cy < 0) } rfl rfl rfl rfl; exact ⟨_, rfl, s1, by rw [exe_5]; rfl, ((MFr.of_below B8.out).trans r2).trans s2⟩)
    done)
set_option maxRecDepth 4000 in
set_option maxHeartbeats 4000000 in
theorem l5Do_6 (lo h1 h2 b : Nat) (x : Mch) (vs : List Value) (arg : Int) (w : World) (h : MSt lo h1 h2 b x vs w) (f : FormP x.pm) (t0 : 0 ≤ arg) (t1 : arg ≤ 1023) :
    Calls Try.prog 61 #[.pointer (some ⟨b, 0, none⟩), .agg #[.int .i64 6, .int .i64 arg]] w (Did lo h1 h2 b x vs w (exeP x.pm 6 arg)) := by
  have hb0 : Below w.heap.size w (w.alloc (.cells #[.int .i64 6, .int .i64 arg] 84)) := (Below.refl _ _).alloc (Nat.le_refl _) _
  refine Calls.mono (R := Did lo h1 h2 b x vs (w.alloc (.cells #[.int .i64 6, .int .i64 arg] 84)) (exeP x.pm 6 arg)) ?_ (fun e w' hd => Did.via hb0 hd)
  have g := h.below hb0
  have HX := Lib.hid g
  have HD := Lib.hid (g.below (Below.refl (w.alloc (.cells #[.int .i64 6, .int .i64 arg] 84)).heap.size (w.alloc (.cells #[.int .i64 6, .int .i64 arg] 84))).drew)
  obtain ⟨⟨c0, c1, c2⟩, c3, c4, c5, c6, c7, c8⟩ := g.box.all
  have f3 := g.blk.frozen 3
  have f5 := g.blk.frozen 5
  have f7 := g.blk.frozen 7
  have hbl := g.blk.lt
  obtain ⟨g1, g2⟩ := f.pk t0 t1
  have ha0 : inB x.a 0 255 = true := inB_iff.2 ⟨f.a0, f.a1⟩
  have hk0 : inB (x.pm.pk arg) 0 255 = true := inB_iff.2 ⟨g1, g2⟩
  replace ha0 := Lib.hid ha0
  replace hk0 := Lib.hid hk0
  clear hb0 g h g1 g2
  go_enter Try.func61, Try.ntmps61
  go_wp2_with fail
  go_region_with ((go_at_call 73; refine (l2Read_any _ _ _ _ _ _ _ _ _ arg _ (HD.out.rd f).m f.m t0 t1).mono ?_; rintro e W8 ⟨rfl, hq⟩; have B8 : Below (w.alloc (.cells #[.int .i64 6, .int .i64 arg] 84)).heap.size (w.alloc (.cells #[.int .i64 6, .int .i64 arg] 84)) W8 := (Below.refl _ _).drew.trans hq; have H8 := Lib.hid (HX.out.below B8); obtain ⟨⟨d0, d1, d2⟩, d3, d4, d5, d6, d7, d8⟩ := H8.out.box.all; have e3 := H8.out.blk.frozen 3; have e5 := H8.out.blk.frozen 5; clear hq; replace B8 := Lib.hid B8))
  all_goals (
    go_wp2_with fail
    refine bodyPost_end (results_none (by rfl) _ _ _) rfl ?_
    obtain ⟨r1, r2⟩ := H8.out.field 3 (.int .i64 (bits .and .i64 x.a (x.pm.pk arg))) { x with a := bits .and .i64 x.a (x.pm.pk arg) } rfl rfl rfl rfl
    exact ⟨_, rfl, r1, by rw [exe_6]; rfl, (MFr.of_below B8.out).trans r2⟩
    done)
set_option maxRecDepth 4000 in
set_option maxHeartbeats 4000000 in
theorem l5Do_7 (lo h1 h2 b : Nat) (x : Mch) (vs : List Value) (arg : Int) (w : World) (h : MSt lo h1 h2 b x vs w) (f : FormP x.pm) (t0 : 0 ≤ arg) (t1 : arg ≤ 1023) :
    Calls Try.prog 61 #[.pointer (some ⟨b, 0, none⟩), .agg #[.int .i64 7, .int .i64 arg]] w (Did lo h1 h2 b x vs w (exeP x.pm 7 arg)) := by
  have hb0 : Below w.heap.size w (w.alloc (.cells #[.int .i64 7, .int .i64 arg] 84)) := (Below.refl _ _).alloc (Nat.le_refl _) _
  refine Calls.mono (R := Did lo h1 h2 b x vs (w.alloc (.cells #[.int .i64 7, .int .i64 arg] 84)) (exeP x.pm 7 arg)) ?_ (fun e w' hd => Did.via hb0 hd)
  have g := h.below hb0
  have HX := Lib.hid g
  have HD := Lib.hid (g.below (Below.refl (w.alloc (.cells #[.int .i64 7, .int .i64 arg] 84)).heap.size (w.alloc (.cells #[.int .i64 7, .int .i64 arg] 84))).drew)
  obtain ⟨⟨c0, c1, c2⟩, c3, c4, c5, c6, c7, c8⟩ := g.box.all
  have f3 := g.blk.frozen 3
  have f5 := g.blk.frozen 5
  have f7 := g.blk.frozen 7
  have hbl := g.blk.lt
  obtain ⟨g1, g2⟩ := f.pk t0 t1
  have ha0 : inB x.a 0 255 = true := inB_iff.2 ⟨f.a0, f.a1⟩
  have hk0 : inB (x.pm.pk arg) 0 255 = true := inB_iff.2 ⟨g1, g2⟩
  replace ha0 := Lib.hid ha0
  replace hk0 := Lib.hid hk0
  clear hb0 g h g1 g2
  go_enter Try.func61, Try.ntmps61
  go_wp2_with fail
  go_region_with ((go_at_call 73; refine (l2Read_any _ _ _ _ _ _ _ _ _ arg _ (HD.out.rd f).m f.m t0 t1).mono ?_; rintro e W8 ⟨rfl, hq⟩; have B8 : Below (w.alloc (.cells #[.int .i64 7, .int .i64 arg] 84)).heap.size (w.alloc (.cells #[.int .i64 7, .int .i64 arg] 84)) W8 := (Below.refl _ _).drew.trans hq; have H8 := Lib.hid (HX.out.below B8); obtain ⟨⟨d0, d1, d2⟩, d3, d4, d5, d6, d7, d8⟩ := H8.out.box.all; have e3 := H8.out.blk.frozen 3; have e5 := H8.out.blk.frozen 5; clear hq; replace B8 := Lib.hid B8))
  all_goals (
    go_wp2_with fail
    refine bodyPost_end (results_none (by rfl) _ _ _) rfl ?_
    obtain ⟨r1, r2⟩ := H8.out.field 3 (.int .i64 (bits .xor .i64 x.a (x.pm.pk arg))) { x with a := bits .xor .i64 x.a (x.pm.pk arg) } rfl rfl rfl rfl
    exact ⟨_, rfl, r1, by rw [exe_7]; rfl, (MFr.of_below B8.out).trans r2⟩
    done)
set_option maxRecDepth 4000 in
set_option maxHeartbeats 4000000 in
theorem l5Do_8 (lo h1 h2 b : Nat) (x : Mch) (vs : List Value) (arg : Int) (w : World) (h : MSt lo h1 h2 b x vs w) (f : FormP x.pm) (t0 : 0 ≤ arg) (t1 : arg ≤ 1023) :
    Calls Try.prog 61 #[.pointer (some ⟨b, 0, none⟩), .agg #[.int .i64 8, .int .i64 arg]] w (Did lo h1 h2 b x vs w (exeP x.pm 8 arg)) := by
  have hb0 : Below w.heap.size w (w.alloc (.cells #[.int .i64 8, .int .i64 arg] 84)) := (Below.refl _ _).alloc (Nat.le_refl _) _
  refine Calls.mono (R := Did lo h1 h2 b x vs (w.alloc (.cells #[.int .i64 8, .int .i64 arg] 84)) (exeP x.pm 8 arg)) ?_ (fun e w' hd => Did.via hb0 hd)
  have g := h.below hb0
  have HX := Lib.hid g
  have HD := Lib.hid (g.below (Below.refl (w.alloc (.cells #[.int .i64 8, .int .i64 arg] 84)).heap.size (w.alloc (.cells #[.int .i64 8, .int .i64 arg] 84))).drew)
  obtain ⟨⟨c0, c1, c2⟩, c3, c4, c5, c6, c7, c8⟩ := g.box.all
  have f3 := g.blk.frozen 3
  have f5 := g.blk.frozen 5
  have f7 := g.blk.frozen 7
  have hbl := g.blk.lt
  obtain ⟨g1, g2⟩ := f.pk t0 t1
  have ha0 : inB x.a 0 255 = true := inB_iff.2 ⟨f.a0, f.a1⟩
  have hk0 : inB (x.pm.pk arg) 0 255 = true := inB_iff.2 ⟨g1, g2⟩
  replace ha0 := Lib.hid ha0
  replace hk0 := Lib.hid hk0
  clear hb0 g h g1 g2
  have B8 := Lib.hid ((Below.refl (w.alloc (.cells #[.int .i64 8, .int .i64 arg] 84)).heap.size (w.alloc (.cells #[.int .i64 8, .int .i64 arg] 84))).drew)
  have H8 := HD
  go_enter Try.func61, Try.ntmps61
  go_wp2_with fail
  go_region_with ((go_at_call 89; refine (rotL_spec x.a x.cy _ ha0.out).mono ?_; rintro e w' ⟨rfl, rfl⟩))
  all_goals (
    go_wp2_with fail
    refine bodyPost_end (results_none (by rfl) _ _ _) rfl ?_
    first
      | (obtain ⟨r1, r2⟩ := H8.out.field 3 (.int .i64 ((2 * x.a + oneI x.cy) % 256)) { x with a := (2 * x.a + oneI x.cy) % 256 } rfl rfl rfl rfl; obtain ⟨s1, s2⟩ := r1.field 5 (.bool (decide (x.a ≥ 128))) { x with a := (2 * x.a + oneI x.cy) % 256, cy := decide (x.a ≥ 128) } rfl rfl rfl rfl; exact ⟨_, rfl, s1, by rw [exe_8]; rfl, ((MFr.of_below B8.out).trans r2).trans s2⟩)
      | (obtain ⟨r1, r2⟩ := H8.out.field 5 (.bool (decide (x.a ≥ 128))) { x with cy := decide (x.a ≥ 128) } rfl rfl rfl rfl; obtain ⟨s1, s2⟩ := r1.field 3 (.int .i64 ((2 * x.a + oneI x.cy) % 256)) { x with a := (2 * x.a + oneI x.cy) % 256, cy := decide (x.a ≥ 128) } rfl rfl rfl rfl; exact ⟨_, rfl, s1, by rw [exe_8]; rfl, ((MFr.of_below B8.out).trans r2).trans s2⟩)
    done)
set_option maxRecDepth 4000 in
set_option maxHeartbeats 4000000 in
theorem l5Do_9 (lo h1 h2 b : Nat) (x : Mch) (vs : List Value) (arg : Int) (w : World) (h : MSt lo h1 h2 b x vs w) (f : FormP x.pm) (t0 : 0 ≤ arg) (t1 : arg ≤ 1023) :
    Calls Try.prog 61 #[.pointer (some ⟨b, 0, none⟩), .agg #[.int .i64 9, .int .i64 arg]] w (Did lo h1 h2 b x vs w (exeP x.pm 9 arg)) := by
  have hb0 : Below w.heap.size w (w.alloc (.cells #[.int .i64 9, .int .i64 arg] 84)) := (Below.refl _ _).alloc (Nat.le_refl _) _
  refine Calls.mono (R := Did lo h1 h2 b x vs (w.alloc (.cells #[.int .i64 9, .int .i64 arg] 84)) (exeP x.pm 9 arg)) ?_ (fun e w' hd => Did.via hb0 hd)
  have g := h.below hb0
  have HX := Lib.hid g
  have HD := Lib.hid (g.below (Below.refl (w.alloc (.cells #[.int .i64 9, .int .i64 arg] 84)).heap.size (w.alloc (.cells #[.int .i64 9, .int .i64 arg] 84))).drew)
  obtain ⟨⟨c0, c1, c2⟩, c3, c4, c5, c6, c7, c8⟩ := g.box.all
  have f3 := g.blk.frozen 3
  have f5 := g.blk.frozen 5
  have f7 := g.blk.frozen 7
  have hbl := g.blk.lt
  obtain ⟨g1, g2⟩ := f.pk t0 t1
  have ha0 : inB x.a 0 255 = true := inB_iff.2 ⟨f.a0, f.a1⟩
  have hk0 : inB (x.pm.pk arg) 0 255 = true := inB_iff.2 ⟨g1, g2⟩
  replace ha0 := Lib.hid ha0
  replace hk0 := Lib.hid hk0
  clear hb0 g h g1 g2
  have B8 := Lib.hid ((Below.refl (w.alloc (.cells #[.int .i64 9, .int .i64 arg] 84)).heap.size (w.alloc (.cells #[.int .i64 9, .int .i64 arg] 84))).drew)
  have H8 := HD
  go_enter Try.func61, Try.ntmps61
  go_wp2_with fail
  go_region_with ((go_at_call 90; refine (rotR_spec x.a x.cy _ ha0.out).mono ?_; rintro e w' ⟨rfl, rfl⟩))
  all_goals (
    go_wp2_with fail
    refine bodyPost_end (results_none (by rfl) _ _ _) rfl ?_
    first
      | (obtain ⟨r1, r2⟩ := H8.out.field 3 (.int .i64 (x.a / 2 + 128 * oneI x.cy)) { x with a := x.a / 2 + 128 * oneI x.cy } rfl rfl rfl rfl; obtain ⟨s1, s2⟩ := r1.field 5 (.bool (x.a % 2 == 1)) { x with a := x.a / 2 + 128 * oneI x.cy, cy := x.a % 2 == 1 } rfl rfl rfl rfl; exact ⟨_, rfl, s1, by rw [exe_9]; rfl, ((MFr.of_below B8.out).trans r2).trans s2⟩)
      | (obtain ⟨r1, r2⟩ := H8.out.field 5 (.bool (x.a % 2 == 1)) { x with cy := x.a % 2 == 1 } rfl rfl rfl rfl; obtain ⟨s1, s2⟩ := r1.field 3 (.int .i64 (x.a / 2 + 128 * oneI x.cy)) { x with a := x.a / 2 + 128 * oneI x.cy, cy := x.a % 2 == 1 } rfl rfl rfl rfl; exact ⟨_, rfl, s1, by rw [exe_9]; rfl, ((MFr.of_below B8.out).trans r2).trans s2⟩)
    done)
set_option maxRecDepth 4000 in
set_option maxHeartbeats 4000000 in
theorem l5Do_3 (lo h1 h2 b : Nat) (x : Mch) (vs : List Value) (arg : Int) (w : World) (h : MSt lo h1 h2 b x vs w) (f : FormP x.pm) (t0 : 0 ≤ arg) (t1 : arg ≤ 1023) :
    Calls Try.prog 61 #[.pointer (some ⟨b, 0, none⟩), .agg #[.int .i64 3, .int .i64 arg]] w (Did lo h1 h2 b x vs w (exeP x.pm 3 arg)) := by
  have hb0 : Below w.heap.size w (w.alloc (.cells #[.int .i64 3, .int .i64 arg] 84)) := (Below.refl _ _).alloc (Nat.le_refl _) _
  refine Calls.mono (R := Did lo h1 h2 b x vs (w.alloc (.cells #[.int .i64 3, .int .i64 arg] 84)) (exeP x.pm 3 arg)) ?_ (fun e w' hd => Did.via hb0 hd)
  have g := h.below hb0
  have HX := Lib.hid g
  have HD := Lib.hid (g.below (Below.refl (w.alloc (.cells #[.int .i64 3, .int .i64 arg] 84)).heap.size (w.alloc (.cells #[.int .i64 3, .int .i64 arg] 84))).drew)
  obtain ⟨⟨c0, c1, c2⟩, c3, c4, c5, c6, c7, c8⟩ := g.box.all
  have f3 := g.blk.frozen 3
  have f5 := g.blk.frozen 5
  have f7 := g.blk.frozen 7
  have hbl := g.blk.lt
  obtain ⟨g1, g2⟩ := f.pk t0 t1
  have ha0 : inB x.a 0 255 = true := inB_iff.2 ⟨f.a0, f.a1⟩
  have hk0 : inB (x.pm.pk arg) 0 255 = true := inB_iff.2 ⟨g1, g2⟩
  replace ha0 := Lib.hid ha0
  replace hk0 := Lib.hid hk0
  clear hb0 g h g1 g2
  go_enter Try.func61, Try.ntmps61
  go_wp2_with fail
  go_region_with ((go_at_call 86; refine Calls.mono (write_spec lo h1 h2 b x vs arg x.a _ HD.out f t0 t1 f.a0 f.a1) ?_; rintro e W8 ⟨x', rfl, hs, hp, hf⟩; replace hs := Lib.hid hs; replace hp := Lib.hid hp; replace hf := Lib.hid hf))
  all_goals (
    go_wp2_with fail
    refine bodyPost_end (results_none (by rfl) _ _ _) rfl ?_
    exact ⟨_, rfl, hs.out, by rw [exe_3]; exact hp.out, (MFr.of_below (Below.refl _ _).drew).trans hf.out⟩)
set_option maxRecDepth 4000 in
set_option maxHeartbeats 4000000 in
theorem l5Do_go (lo h1 h2 b : Nat) (x : Mch) (vs : List Value) (op arg : Int) (w : World) (h : MSt lo h1 h2 b x vs w) (f : FormP x.pm) (ho : op = 0 ∨ (10 ≤ op ∧ op ≤ 15)) :
    Calls Try.prog 61 #[.pointer (some ⟨b, 0, none⟩), .agg #[.int .i64 op, .int .i64 arg]] w (Did lo h1 h2 b x vs w (exeP x.pm op arg)) := by
  have hb0 : Below w.heap.size w (w.alloc (.cells #[.int .i64 op, .int .i64 arg] 84)) := (Below.refl _ _).alloc (Nat.le_refl _) _
  refine Calls.mono (R := Did lo h1 h2 b x vs (w.alloc (.cells #[.int .i64 op, .int .i64 arg] 84)) (exeP x.pm op arg)) ?_ (fun e w' hd => Did.via hb0 hd)
  have g := Lib.hid (h.below hb0)
  have z1 : (op == 1) = false := by simp; omega
  have z2 : (op == 2) = false := by simp; omega
  have z3 : (op == 3) = false := by simp; omega
  have z4 : (op == 4) = false := by simp; omega
  have z5 : (op == 5) = false := by simp; omega
  have z6 : (op == 6) = false := by simp; omega
  have z7 : (op == 7) = false := by simp; omega
  have z8 : (op == 8) = false := by simp; omega
  have z9 : (op == 9) = false := by simp; omega
  rw [exe_go x.pm op arg (by omega)]
  replace ho := Lib.hid ho
  clear h hb0
  go_enter Try.func61, Try.ntmps61
  go_wp2_with (go_at_call 91; refine Calls.mono (l5Go_spec lo h1 h2 b x vs op arg _ g.out f ho.out) ?_; rintro e W8 ⟨x', rfl, hs, hp, hf⟩; replace hs := Lib.hid hs; replace hp := Lib.hid hp; replace hf := Lib.hid hf)
  refine bodyPost_end (results_none (by rfl) _ _ _) rfl ?_
  exact ⟨_, rfl, hs.out, hp.out, hf.out⟩
theorem l5Do_spec (lo h1 h2 b : Nat) (x : Mch) (vs : List Value) (op arg : Int) (w : World) (h : MSt lo h1 h2 b x vs w) (f : FormP x.pm) (ho : ordB op arg = true) :
    Calls Try.prog 61 #[.pointer (some ⟨b, 0, none⟩), .agg #[.int .i64 op, .int .i64 arg]] w (Did lo h1 h2 b x vs w (exeP x.pm op arg)) := by
  obtain ⟨⟨o0, o1⟩, ⟨t0, t1⟩, -⟩ := ord_facts ho
  obtain rfl | rfl | rfl | rfl | rfl | rfl | rfl | rfl | rfl | hg : op = 1 ∨ op = 2 ∨ op = 3 ∨ op = 4 ∨ op = 5 ∨ op = 6 ∨ op = 7 ∨ op = 8 ∨ op = 9 ∨ (op = 0 ∨ (10 ≤ op ∧ op ≤ 15)) := by omega
  · exact l5Do_1 lo h1 h2 b x vs arg w h f t0 t1
  · exact l5Do_2 lo h1 h2 b x vs arg w h f t0 t1
  · exact l5Do_3 lo h1 h2 b x vs arg w h f t0 t1
  · exact l5Do_4 lo h1 h2 b x vs arg w h f t0 t1
  · exact l5Do_5 lo h1 h2 b x vs arg w h f t0 t1
  · exact l5Do_6 lo h1 h2 b x vs arg w h f t0 t1
  · exact l5Do_7 lo h1 h2 b x vs arg w h f t0 t1
  · exact l5Do_8 lo h1 h2 b x vs arg w h f t0 t1
  · exact l5Do_9 lo h1 h2 b x vs arg w h f t0 t1
  · exact l5Do_go lo h1 h2 b x vs op arg w h f hg
end Go.Proofs.Ytgedfcccflobmaa
