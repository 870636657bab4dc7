/-
  Tiles that the statements draw. No condition.
-/
import Derived.Test.YtkcabllnlbcgdaaDrwC
import Derived.Test.YtkcabllnlbcgdaaTilL
namespace Go.Proofs.Ytkcabllnlbcgdaa
open Go.RowKit
set_option linter.unusedVariables false
set_option linter.unusedSimpArgs false
/-- A tile's value. -/
def TileV (_ : World) (v : Value) : Prop := ∃ px : List Int, px.length = 64 ∧ v = .agg (iv px).toArray
theorem st_tileV (g : Nat) : Stable (some g) TileV := fun _ _ _ _ h => h
theorem tile_set {W : World} {b k : Nat} {t : TypeId} {px : List Int} {x : Int} (h : Blk W b t (iv px).toArray) : Blk (W.setCell ⟨b, k, none⟩ (.int .i64 x)) b t (iv (px.set k x)).toArray := by
  have := h.set_ k (.int .i64 x)
  rw [List.setIfInBounds_toArray] at this
  simpa [iv, List.map_set] using this
theorem tile_cell {W : World} {b k : Nat} {t : TypeId} {px : List Int} (h : Blk W b t (iv px).toArray) (hp : px.length = 64) (hk : k < 64) : ∃ u, W.cell? ⟨b, k, none⟩ = some u := by
  have h1 : k < (iv px).toArray.size := by rw [List.size_toArray, iv_len]; omega
  exact ⟨_, (h.cell k).trans (Array.getElem?_eq_getElem h1)⟩
theorem grown_setRow (W : World) (b : Nat) (cs : Array Value) : W.grownBy (W.setRow b cs) (some b) :=
  ⟨rfl, rfl, rfl, by simp, fun k hk hne => setRow_other W b k cs (fun e => hne (by rw [e]))⟩
theorem grown_setCell (W : World) (b k : Nat) (v : Value) : W.grownBy (W.setCell ⟨b, k, none⟩ v) (some b) :=
  ⟨rfl, rfl, rfl, by simp [World.setCell], fun i hi hne => Below.heap_setCell W ⟨b, k, none⟩ v i (fun e => hne (by rw [e]))⟩
theorem build_tile0 (W : World) : (Instr.build 83 #[]).run Try.prog W = .ok (.agg (iv z64).toArray) W := run_build W 83 #[] _ (by kernel_rfl)
theorem at_build_tile {ops : Array Oper} {rest : List Oper} {o : Oper} {a : Act} {w : World} {Q : Exit → Act → World → Prop} (hgd : o.guard = none) (ho : o.op = .build 83 #[])
    (h : wpList Try.prog ops Q rest (a.put o.dst (.agg (iv z64).toArray)) w) : wpList Try.prog ops Q (o :: rest) a w := by
  refine wpList_plain hgd fun K hK => ?_
  unfold Oper.wp execOp
  simp only [ho, Sem.run_bind, Sem.run_pure, Result.andThen_ok, List.map_toArray, List.map_nil, build_tile0]
  exact hK _ _ h
set_option maxRecDepth 100000 in
set_option maxHeartbeats 2000000 in
theorem l20Tile_any (g : Nat) (A : Option Addr) (len cap p0 : Nat) (n : Int) (w : World) (h : Rd w g A len cap p0) (hp0 : p0 ≤ 900000000) (n0 : 0 ≤ n) (n1 : n ≤ 1000000000) :
    Calls Try.prog 81 #[.pointer (some ⟨g, 0, none⟩), .int .i64 n] w (Draws g A len cap p0 200 w TileV) := by
  have hgl := h.lt
  obtain ⟨W0, hW0⟩ : ∃ W0, W0 = (w.alloc (.cells (iv z64).toArray 83)).alloc (.cells (iv z64).toArray 83) := ⟨_, rfl⟩
  obtain ⟨W1, hW1⟩ : ∃ W1, W1 = W0.setRow (w.heap.size + 1) (iv z64).toArray := ⟨_, rfl⟩
  have R0 : Blk W0 w.heap.size 83 (iv z64).toArray := by rw [hW0]; exact (Blk.new _ _ _).alloc _
  have hB0 : Blk W0 (w.heap.size + 1) 83 (iv z64).toArray := by
    rw [hW0]
    have h := Blk.new (w.alloc (.cells (iv z64).toArray 83)) 83 (iv z64).toArray
    rwa [show (w.alloc (.cells (iv z64).toArray 83)).heap.size = w.heap.size + 1 by simp] at h
  have hD0 : Drs w W0 g A len cap p0 p0 := by rw [hW0]; exact ((Drs.start h).alloc _).alloc _
  have HD := Lib.hid (show Drs w W1 g A len cap p0 p0 by rw [hW1]; exact hD0.push (grown_setRow _ _ _) (by intro k hk; injection hk with hk; omega))
  have HR := Lib.hid (show Blk W1 w.heap.size 83 (iv z64).toArray by rw [hW1]; exact (setRow_other _ _ _ _ (by omega)).trans R0)
  have HB := Lib.hid (show Blk W1 (w.heap.size + 1) 83 (iv z64).toArray by rw [hW1]; exact setRow_heap _ _ _ _ _ _ hB0)
  rw [hW0] at hB0
  have HB0 := Lib.hid hB0
  rw [hW0] at hW1
  clear R0 hB0 hD0 hW0
  have HZ := Lib.hid (show (Try.prog.info? 83).map (·.size) = some (iv z64).toArray.size from tile_sizeA (by decide))
  have HO := Lib.hid (iv_one z64)
  replace hW1 := Lib.hid hW1
  clear h
  go_enter Try.func81, Try.ntmps81
  go_upto_region 2 with (first | (refine at_build_tile rfl rfl ?_) | (refine at_store (ty := 83) rfl ?_; refine wpList_store_row rfl 83 _ _ rfl (w.heap.size + 1) (iv z64).toArray rfl rfl 83 (iv z64).toArray HB0.out HZ.out rfl HO.out ?_))
  clear HB0
  change Code.wp _ _ _ _ (((w.alloc (.cells (iv z64).toArray 83)).alloc (.cells (iv z64).toArray 83)).setRow (w.heap.size + 1) (iv z64).toArray)
  rw [← hW1.out]
  go_wp2_with fail
  refine (pick_d HD.out 4 (by omega) (by omega) (by omega)).mono ?_
  rintro e W' ⟨v, rfl, ⟨x, rfl, x0, x1⟩, hD, hgr⟩
  replace HD := Lib.hid hD
  clear hD
  replace HR := Lib.hid (HR.out.grown hgr (by intro e; injection e with e; omega))
  replace HB := Lib.hid (HB.out.grown hgr (by intro e; injection e with e; omega))
  clear hgr hW1
  go_wp2_with fail
  refine (pick_d HD.out 9 (by omega) (by omega) (by omega)).mono ?_
  rintro e W' ⟨v, rfl, ⟨s, rfl, s0, s1⟩, hD, hgr⟩
  replace HD := Lib.hid hD
  clear hD
  replace HR := Lib.hid (HR.out.grown hgr (by intro e; injection e with e; omega))
  replace HB := Lib.hid (HB.out.grown hgr (by intro e; injection e with e; omega))
  clear hgr
  go_wp2_with fail
  go_loopw [6, 8] (fun v i wr => ∃ (x : Int) (k : Nat) (px : List Int), v = .int .i64 x ∧ i = .int .i64 k ∧ 0 ≤ x ∧ x ≤ 3 ∧ k ≤ 64 ∧ px.length = 64 ∧ Blk wr (w.heap.size + 1) 83 (iv px).toArray ∧ Blk wr w.heap.size 83 (iv z64).toArray ∧ Drs w wr g A len cap p0 (p0 + 2 + 2 * k)) (fun _ i _ => 64 - (intOf i).toNat)
  case atStart => exact ⟨x, 0, z64, rfl, rfl, x0, by omega, Nat.zero_le _, by decide, HB.out, HR.out, HD.out.more (by omega)⟩
  case round =>
    clear x0 x1 HR HB HD HZ HO
    obtain ⟨x, k, px, rfl, rfl, x0, x1, hk, hpx, hb, hr, hD⟩ := hrel
    have HD := Lib.hid hD
    have HB := Lib.hid hb
    have HR := Lib.hid hr
    have HL := Lib.hid hpx
    clear hD hb hr hpx
    by_cases hlt : k < 64
    · have q0 : (0 : Int) ≤ (k : Int) := by omega
      have q1 : (k : Int) < 64 := by omega
      go_wp2_with fail
      refine (pick_d HD.out (1 + s) (by omega) (by omega) (by omega)).mono ?_
      rintro e W' ⟨v, rfl, ⟨z, rfl, z0, z1⟩, hD, hgr⟩
      replace HD := Lib.hid hD
      clear hD
      replace HR := Lib.hid (HR.out.grown hgr (by intro e; injection e with e; omega))
      replace HB := Lib.hid (HB.out.grown hgr (by intro e; injection e with e; omega))
      clear hgr
      by_cases e0 : z = 0
      · subst e0
        clear z0 z1
        go_wp2_with fail
        refine (pick_d HD.out 4 (by omega) (by omega) (by omega)).mono ?_
        rintro e W' ⟨v, rfl, ⟨y, rfl, y0, y1⟩, hD, hgr⟩
        replace HD := Lib.hid hD
        clear hD
        replace HR := Lib.hid (HR.out.grown hgr (by intro e; injection e with e; omega))
        replace HB := Lib.hid (HB.out.grown hgr (by intro e; injection e with e; omega))
        clear hgr x0 x1
        obtain ⟨u, hu⟩ := tile_cell HB.out HL.out hlt
        have hf := HB.out.frozen k
        have B2 := Lib.hid (tile_set (x := y) (k := k) HB.out)
        have R2 := Lib.hid (HR.out.far (p := ⟨w.heap.size + 1, k, none⟩) (by show w.heap.size ≠ w.heap.size + 1; omega) (.int .i64 y))
        have D2 := Lib.hid (HD.out.push (grown_setCell _ (w.heap.size + 1) k (.int .i64 y)) (by intro k hk; injection hk with hk; omega))
        go_wp2_with fail
        go_roundw
        case rel => exact ⟨y, k + 1, px.set k y, rfl, by go_num, y0, by omega, by omega, by rw [List.length_set]; exact HL.out, B2.out, R2.out, D2.out.more (by omega)⟩
        case measure => simp [intOf]; omega
      · have f0 : (z == 0) = false := by simp; omega
        obtain ⟨u, hu⟩ := tile_cell HB.out HL.out hlt
        have hf := HB.out.frozen k
        have B2 := Lib.hid (tile_set (x := x) (k := k) HB.out)
        have R2 := Lib.hid (HR.out.far (p := ⟨w.heap.size + 1, k, none⟩) (by show w.heap.size ≠ w.heap.size + 1; omega) (.int .i64 x))
        have D2 := Lib.hid (HD.out.push (grown_setCell _ (w.heap.size + 1) k (.int .i64 x)) (by intro k hk; injection hk with hk; omega))
        go_wp2_with fail
        go_roundw
        case rel => exact ⟨x, k + 1, px.set k x, rfl, by go_num, x0, by omega, by omega, by rw [List.length_set]; exact HL.out, B2.out, R2.out, D2.out.more (by omega)⟩
        case measure => simp [intOf]; omega
    · obtain rfl : k = 64 := by omega
      have q1 : ¬ ((64 : Nat) : Int) < 64 := by omega
      clear hlt
      go_wp2_with fail
      refine (odd_d HD.out n (by omega) n0 n1).mono ?_
      rintro e W' ⟨v, rfl, ⟨b, rfl, hb⟩, hD, hgr⟩
      replace HD := Lib.hid hD
      clear hD
      replace HR := Lib.hid (HR.out.grown hgr (by intro e; injection e with e; omega))
      replace HB := Lib.hid (HB.out.grown hgr (by intro e; injection e with e; omega))
      clear hgr hb
      cases b
      · go_wp2_with (first | (refine at_load (ty := 83) rfl ?_; refine wpList_load_row rfl 83 _ rfl (w.heap.size + 1) rfl 83 (iv px).toArray (0, 0) _ HB.out Try.underlying83 rfl (tile_sizeA HL.out) ?_) | (refine at_store (ty := 83) rfl ?_; refine wpList_store_row rfl 83 _ _ rfl w.heap.size (iv px).toArray rfl rfl 83 (iv z64).toArray HR.out (tile_sizeA HL.out) (by rw [List.size_toArray, List.size_toArray, iv_len, iv_len, HL.out]; rfl) (iv_one px) ?_))
        refine bodyPost_ret (v := .agg (iv px).toArray) ?_ rfl ?_
        · refine results_cell_row Try.results81 _ _ w.heap.size 83 (iv px).toArray (0, 0) _ rfl ?_ Try.underlying83 rfl (tile_sizeA HL.out)
          exact setRow_heap _ _ _ _ _ _ HR.out
        · exact draws_of (HD.out.push (grown_setRow _ _ _) (by intro k hk; injection hk with hk; omega)) (by omega) ⟨_, HL.out, rfl⟩
      go_wp2_with fail
      refine (pick_d HD.out 64 (by omega) (by omega) (by omega)).mono ?_
      rintro e W' ⟨v, rfl, ⟨j, rfl, j0, j1⟩, hD, hgr⟩
      replace HD := Lib.hid hD
      clear hD
      replace HR := Lib.hid (HR.out.grown hgr (by intro e; injection e with e; omega))
      replace HB := Lib.hid (HB.out.grown hgr (by intro e; injection e with e; omega))
      clear hgr
      obtain ⟨J, rfl⟩ := Int.eq_ofNat_of_zero_le j0
      have hJ : J < 64 := by omega
      have hs := HD.out.size.2
      go_wp2_with fail
      refine (pick_d (HD.out.alloc _) 2 (by omega) (by omega) (by omega)).mono ?_
      rintro e W3 ⟨v, rfl, ⟨y, rfl, y0, y1⟩, hD, hgr⟩
      have k0 : W3.cell? ⟨W'.heap.size, 0, none⟩ = some (.int .i64 (-1)) := grown_cell hgr (by simp) (by intro e; injection e with e; omega) (cell_new _ _ _ 0)
      have k1 : W3.cell? ⟨W'.heap.size, 1, none⟩ = some (.int .i64 4) := grown_cell hgr (by simp) (by intro e; injection e with e; omega) (cell_new _ _ _ 1)
      replace HR := Lib.hid ((HR.out.alloc _).grown hgr (by intro e; injection e with e; omega))
      replace HB := Lib.hid ((HB.out.alloc _).grown hgr (by intro e; injection e with e; omega))
      replace HD := Lib.hid hD
      clear hD hgr
      obtain ⟨u, hu⟩ := tile_cell HB.out HL.out hJ
      have hf := HB.out.frozen J
      rcases (show y = 0 ∨ y = 1 by omega) with rfl | rfl
      · replace HD := Lib.hid (HD.out.push (grown_setCell _ (w.heap.size + 1) J (.int .i64 (-1))) (by intro k hk; injection hk with hk; omega))
        replace HB := Lib.hid (tile_set (x := -1) (k := J) HB.out)
        replace HR := Lib.hid (HR.out.far (p := ⟨w.heap.size + 1, J, none⟩) (by show w.heap.size ≠ w.heap.size + 1; omega) (.int .i64 (-1)))
        replace HL := Lib.hid (show (px.set J (-1)).length = 64 by rw [List.length_set]; exact HL.out)
        clear y0 y1
        go_wp2_with (first | (refine at_load (ty := 83) rfl ?_; refine wpList_load_row rfl 83 _ rfl (w.heap.size + 1) rfl 83 (iv (px.set J (-1))).toArray (0, 0) _ HB.out Try.underlying83 rfl (tile_sizeA HL.out) ?_) | (refine at_store (ty := 83) rfl ?_; refine wpList_store_row rfl 83 _ _ rfl w.heap.size (iv (px.set J (-1))).toArray rfl rfl 83 (iv z64).toArray HR.out (tile_sizeA HL.out) (by rw [List.size_toArray, List.size_toArray, iv_len, iv_len, HL.out]; rfl) (iv_one (px.set J (-1))) ?_))
        refine bodyPost_ret (v := .agg (iv (px.set J (-1))).toArray) ?_ rfl ?_
        · refine results_cell_row Try.results81 _ _ w.heap.size 83 (iv (px.set J (-1))).toArray (0, 0) _ rfl ?_ Try.underlying83 rfl (tile_sizeA HL.out)
          exact setRow_heap _ _ _ _ _ _ HR.out
        · exact draws_of (HD.out.push (grown_setRow _ _ _) (by intro k hk; injection hk with hk; omega)) (by omega) ⟨_, HL.out, rfl⟩
      · replace HD := Lib.hid (HD.out.push (grown_setCell _ (w.heap.size + 1) J (.int .i64 4)) (by intro k hk; injection hk with hk; omega))
        replace HB := Lib.hid (tile_set (x := 4) (k := J) HB.out)
        replace HR := Lib.hid (HR.out.far (p := ⟨w.heap.size + 1, J, none⟩) (by show w.heap.size ≠ w.heap.size + 1; omega) (.int .i64 4))
        replace HL := Lib.hid (show (px.set J 4).length = 64 by rw [List.length_set]; exact HL.out)
        clear y0 y1
        go_wp2_with (first | (refine at_load (ty := 83) rfl ?_; refine wpList_load_row rfl 83 _ rfl (w.heap.size + 1) rfl 83 (iv (px.set J 4)).toArray (0, 0) _ HB.out Try.underlying83 rfl (tile_sizeA HL.out) ?_) | (refine at_store (ty := 83) rfl ?_; refine wpList_store_row rfl 83 _ _ rfl w.heap.size (iv (px.set J 4)).toArray rfl rfl 83 (iv z64).toArray HR.out (tile_sizeA HL.out) (by rw [List.size_toArray, List.size_toArray, iv_len, iv_len, HL.out]; rfl) (iv_one (px.set J 4)) ?_))
        refine bodyPost_ret (v := .agg (iv (px.set J 4)).toArray) ?_ rfl ?_
        · refine results_cell_row Try.results81 _ _ w.heap.size 83 (iv (px.set J 4)).toArray (0, 0) _ rfl ?_ Try.underlying83 rfl (tile_sizeA HL.out)
          exact setRow_heap _ _ _ _ _ _ HR.out
        · exact draws_of (HD.out.push (grown_setRow _ _ _) (by intro k hk; injection hk with hk; omega)) (by omega) ⟨_, HL.out, rfl⟩
theorem l20Tile_d {w W : World} {g len cap p0 q : Nat} {A : Option Addr} (h : Drs w W g A len cap p0 q) (n : Int) (hq : q ≤ 900000000) (h0 : 0 ≤ n) (h1 : n ≤ 1000000000) :
    Calls Try.prog 81 #[.pointer (some ⟨g, 0, none⟩), .int .i64 n] W (Dr w W g A len cap p0 (q + 200) TileV) :=
  dr_of h 900000000 hq fun p hp hR => l20Tile_any g A len cap p n W hR hp h0 h1
end Go.Proofs.Ytkcabllnlbcgdaa
