/-
  Scenes that the statements draw. No condition.
-/
import Derived.Test.YtkcabllnlbcgdaaDrs2
import Derived.Test.YtkcabllnlbcgdaaDrk
namespace Go.Proofs.Ytkcabllnlbcgdaa
open Go.RowKit
set_option linter.unusedVariables false
set_option linter.unusedSimpArgs false
def zeroSc : Array Value := #[.int .i64 0, .slice none 0 0, .slice none 0 0, .int .i64 0, .int .i64 0, .slice none 0 0]
def scC (f : Fld) (A : Option Addr) (n c : Nat) : List Value := [.int .i64 f.W, .slice f.A f.n f.c, .slice f.T f.tn f.tc, .int .i64 f.sx, .int .i64 f.sy, .slice A n c]
/-- A scene that may be read. -/
def ScRd (f : Fld) (A : Option Addr) (ss : List Spr) (w : World) : Prop := FRd w f ∧ SpRd w w.heap.size A ss.length ss
def ScOk (f : Fld) (A : Option Addr) (c : Nat) (ss : List Spr) : Prop := FldOk f ∧ (A = none → c = 0) ∧ ss.length ≤ c ∧ ss.length ≤ 30
def SceneV (g : Nat) (w : World) (v : Value) : Prop := ∃ (f : Fld) (A : Option Addr) (c : Nat) (ss : List Spr), v = scV f A ss.length c ∧ Sure g (ScRd f A ss) w ∧ ScOk f A c ss
set_option maxRecDepth 100000 in
set_option maxHeartbeats 2000000 in
theorem l20Scene_any (g : Nat) (A : Option Addr) (len cap p0 : Nat) (N : Int) (w : World) (h : Rd w g A len cap p0) (hp0 : p0 ≤ 400000000) (n0 : 0 ≤ N) (n1 : N ≤ 1000000000) :
    Calls Try.prog 75 #[.pointer (some ⟨g, 0, none⟩), .int .i64 N] w (Draws g A len cap p0 7000 w (SceneV g)) := by
  have hgl := h.lt
  have HD := Lib.hid ((Drs.start h).alloc (.cells zeroSc 61))
  have HR := Lib.hid (Blk.new w 61 zeroSc)
  clear h
  go_enter Try.func75, Try.ntmps75
  go_wp2_with fail
  refine (l20Field_d HD.out N (by omega) n0 n1).mono ?_
  rintro e W' ⟨v, rfl, ⟨f, rfl, hsure, hok⟩, hD, hgr⟩
  replace HD := Lib.hid hD
  clear hD
  replace HR := Lib.hid (HR.out.rd hgr (by omega))
  have HS := Lib.hid hsure
  have hbw : w.heap.size < W'.heap.size := HR.out.lt
  clear hgr hsure
  have hx : f.val = .agg #[.int .i64 f.W, .slice f.A f.n f.c, .slice f.T f.tn f.tc, .int .i64 f.sx, .int .i64 f.sy] := rfl
  rw [hx]
  have hb2 : Below W'.heap.size W' (W'.alloc (.cells (scC f none 0 0).toArray 61)) := (Below.refl _ _).alloc (Nat.le_refl _) _
  have HV := Lib.hid (Blk.new W' 61 (scC f none 0 0).toArray)
  replace HR := Lib.hid (HR.out.below hb2 HR.out.lt)
  replace HD := Lib.hid (HD.out.below hb2)
  replace HS := Lib.hid (HS.out.keep (Keep.of_below hb2))
  have hw9 := HD.out.size
  clear hb2
  have htn := hok.2.2.2.1
  go_wp2_with fail
  refine (l20Sprites_d HD.out (f.tn : Int) N (by omega) (by omega) (by omega) n0 n1).mono ?_
  rintro e W3 ⟨v, rfl, ⟨A3, c3, ss, rfl, o3, l3⟩, hD, hgr⟩
  replace HR := Lib.hid (HR.out.rd hgr (by omega))
  replace HV := Lib.hid (HV.out.rd hgr (by omega))
  replace HS := Lib.hid (HS.out.rd hgr)
  have hg3 : g < (W'.alloc (.cells (scC f none 0 0).toArray 61)).heap.size := by simp; omega
  have hb3 : W'.heap.size < (W'.alloc (.cells (scC f none 0 0).toArray 61)).heap.size := by simp
  have HO := Lib.hid (own_base o3 (Nat.succ_le_of_lt hb3))
  replace HD := Lib.hid hD
  clear hD hgr o3 hb3 hg3 hw9
  obtain ⟨bx, hbx⟩ : ∃ bx, bx = W'.heap.size := ⟨_, rfl⟩
  rw [← hbx] at HV HO hbw ⊢
  have hgb : g < bx := by omega
  have hbr : w.heap.size ≠ bx := by omega
  clear hbx
  have x5 : W3.cell? ⟨bx, 5, none⟩ = some (.slice none 0 0) := HV.out.cell 5
  have y5 := HV.out.frozen 5
  go_upto_region 3 with (fail)
  clear x5 y5
  have HSo := Lib.hid (show Sure g (ScRd f A3 ss) W3 from fun w2 h2 => ⟨HS.out w2 h2, sp_of_own (own_keep HO.out h2 (by omega) (by rintro t (rfl | rfl) <;> decide))⟩)
  have HCN := Lib.hid (And.intro (own_nilc HO.out) (own_cap HO.out))
  replace HSo := Lib.hid (HSo.out.keep (Keep.set (k := 5) (v := .slice A3 ss.length c3) HV.out (.inr rfl)))
  replace HR := Lib.hid (HR.out.far (p := ⟨bx, 5, none⟩) hbr (.slice A3 ss.length c3))
  replace HD := Lib.hid (HD.out.set ⟨bx, 5, none⟩ (.slice A3 ss.length c3) (Nat.le_of_lt hbw))
  replace HV := Lib.hid (HV.out.set_ 5 (.slice A3 ss.length c3))
  obtain ⟨W4, hW4⟩ : ∃ W4, W4 = W3.setCell ⟨bx, 5, none⟩ (.slice A3 ss.length c3) := ⟨_, rfl⟩
  rw [← hW4] at HSo HR HD HV ⊢
  clear hW4 HO HS
  have x0 : W4.cell? ⟨bx, 0, none⟩ = some (.int .i64 f.W) := HV.out.cell 0
  have x1 : W4.cell? ⟨bx, 1, none⟩ = some (.slice f.A f.n f.c) := HV.out.cell 1
  have x2 : W4.cell? ⟨bx, 2, none⟩ = some (.slice f.T f.tn f.tc) := HV.out.cell 2
  have x3 : W4.cell? ⟨bx, 3, none⟩ = some (.int .i64 f.sx) := HV.out.cell 3
  have x4 : W4.cell? ⟨bx, 4, none⟩ = some (.int .i64 f.sy) := HV.out.cell 4
  have x5 : W4.cell? ⟨bx, 5, none⟩ = some (.slice A3 ss.length c3) := HV.out.cell 5
  have v0 : W4.cell? ⟨w.heap.size, 0, none⟩ = some (.int .i64 0) := HR.out.cell 0
  have v1 : W4.cell? ⟨w.heap.size, 1, none⟩ = some (.slice none 0 0) := HR.out.cell 1
  have v2 : W4.cell? ⟨w.heap.size, 2, none⟩ = some (.slice none 0 0) := HR.out.cell 2
  have v3 : W4.cell? ⟨w.heap.size, 3, none⟩ = some (.int .i64 0) := HR.out.cell 3
  have v4 : W4.cell? ⟨w.heap.size, 4, none⟩ = some (.int .i64 0) := HR.out.cell 4
  have v5 : W4.cell? ⟨w.heap.size, 5, none⟩ = some (.slice none 0 0) := HR.out.cell 5
  have t0 := HR.out.frozen 0
  have t1 := HR.out.frozen 1
  have t2 := HR.out.frozen 2
  have t3 := HR.out.frozen 3
  have t4 := HR.out.frozen 4
  have t5 := HR.out.frozen 5
  go_wp2_with fail
  have hbk := setN_blk (scC f A3 ss.length c3) 0 _ _ HR.out
  unfold scC at hbk
  simp only [setA, zeroSc, List.setIfInBounds_toArray, List.set_cons_zero, List.set_cons_succ, Nat.zero_add, Nat.reduceAdd] at hbk
  refine bodyPost_ret (results_cell_row Try.results75 _ _ w.heap.size 61 (scC f A3 ss.length c3).toArray (0, 0) _ rfl hbk Try.underlying61 rfl rfl) rfl ?_
  refine draws_of (Drs.setN (Nat.le_refl _) (scC f A3 ss.length c3) 0 _ HD.out) (by omega) ?_
  exact ⟨f, A3, c3, ss, rfl, HSo.out.keep (Keep.setN (.inr rfl) (scC f A3 ss.length c3) 0 _ _ HR.out), hok, HCN.out.1, HCN.out.2, l3⟩
theorem l20Scene_d {w W : World} {g len cap p0 q : Nat} {A : Option Addr} (h : Drs w W g A len cap p0 q) (n : Int) (hq : q ≤ 400000000) (h0 : 0 ≤ n) (h1 : n ≤ 1000000000) :
    Calls Try.prog 75 #[.pointer (some ⟨g, 0, none⟩), .int .i64 n] W (Dr w W g A len cap p0 (q + 7000) (SceneV g)) :=
  dr_of h 400000000 hq fun p hp hR => l20Scene_any g A len cap p n W hR hp h0 h1
/-- A scene, drawn. -/
def GivesSC (w : World) (e : Ending) (w' : World) : Prop := ∃ (f : Fld) (A : Option Addr) (c : Nat) (ss : List Spr) (g : Nat), e = .returned (scV f A ss.length c) ∧ Sure g (ScRd f A ss) w' ∧ ScOk f A c ss ∧ Below w.heap.size w w'
set_option maxRecDepth 100000 in
set_option maxHeartbeats 2000000 in
theorem drawSceneHash_any (A : Option Addr) (n c : Nat) (zs : List Int) (w : World) (h : IsRow .u8 w A n c zs) :
    Calls Try.prog 37 #[.slice A n c] w (GivesSC w) := by
  obtain ⟨W0, hW0⟩ : ∃ W0, W0 = w.alloc (.cells zeroSc 61) := ⟨_, rfl⟩
  have HI := Lib.hid (show IsRow .u8 W0 A n c zs by rw [hW0]; exact row_alloc h _)
  have HZ := Lib.hid (show Blk W0 w.heap.size 61 zeroSc by rw [hW0]; exact Blk.new _ _ _)
  have HB0 := Lib.hid (show Below w.heap.size w W0 by rw [hW0]; exact (Below.refl _ _).alloc (Nat.le_refl _) _)
  have hs0 : W0.heap.size = w.heap.size + 1 := by rw [hW0, World.size_alloc]
  replace hW0 := Lib.hid hW0
  clear h
  go_enter Try.func37, Try.ntmps37
  go_wp2_with fail
  change Calls _ _ _ (w.alloc (.cells zeroSc 61)) _
  rw [← hW0.out]
  refine (open_anyK A n c zs _ HI.out).mono ?_
  rintro e w1 ⟨len, cap, rfl, hR, hb1, hlen⟩
  have HR := Lib.hid (show Blk w1 w.heap.size 61 zeroSc from Blk.below HZ.out hb1 HZ.out.lt)
  have HB := Lib.hid (below_step HB0.out hb1 (by omega))
  obtain ⟨g, hg0⟩ : ∃ g, g = W0.heap.size := ⟨_, rfl⟩
  rw [← hg0] at hR ⊢
  rw [hs0] at hg0
  have hgw : w.heap.size < g := by omega
  have HD := Lib.hid (Drs.start hR)
  have hgl := hR.lt
  clear hR hb1 HZ HB0 HI hs0 hg0
  go_wp2_with fail
  refine (l20Scene_d HD.out 9 (by omega) (by omega) (by omega)).mono ?_
  rintro e W' ⟨v, rfl, ⟨f, A3, c3, ss, rfl, hsure, hok⟩, hD, hgr⟩
  replace HD := Lib.hid hD
  clear hD
  replace HR := Lib.hid (HR.out.rd hgr (by omega))
  have HS := Lib.hid hsure
  have HB2 := Lib.hid (HB.out.grown HD.out.hg HB.out.size (by intro k hk; injection hk with hk; omega))
  clear hgr hsure
  have v0 : W'.cell? ⟨w.heap.size, 0, none⟩ = some (.int .i64 0) := HR.out.cell 0
  have v1 : W'.cell? ⟨w.heap.size, 1, none⟩ = some (.slice none 0 0) := HR.out.cell 1
  have v2 : W'.cell? ⟨w.heap.size, 2, none⟩ = some (.slice none 0 0) := HR.out.cell 2
  have v3 : W'.cell? ⟨w.heap.size, 3, none⟩ = some (.int .i64 0) := HR.out.cell 3
  have v4 : W'.cell? ⟨w.heap.size, 4, none⟩ = some (.int .i64 0) := HR.out.cell 4
  have v5 : W'.cell? ⟨w.heap.size, 5, none⟩ = some (.slice none 0 0) := HR.out.cell 5
  have t0 := HR.out.frozen 0
  have t1 := HR.out.frozen 1
  have t2 := HR.out.frozen 2
  have t3 := HR.out.frozen 3
  have t4 := HR.out.frozen 4
  have t5 := HR.out.frozen 5
  unfold scV
  go_wp2_with fail
  have hbk := setN_blk (scC f A3 ss.length c3) 0 _ _ HR.out
  unfold scC at hbk
  simp only [setA, zeroSc, List.setIfInBounds_toArray, List.set_cons_zero, List.set_cons_succ, Nat.zero_add, Nat.reduceAdd] at hbk
  refine bodyPost_ret (results_cell_row Try.results37 _ _ w.heap.size 61 (scC f A3 ss.length c3).toArray (0, 0) _ rfl hbk Try.underlying61 rfl rfl) rfl ?_
  exact ⟨f, A3, c3, ss, g, rfl, HS.out.keep (Keep.setN (.inr rfl) (scC f A3 ss.length c3) 0 _ _ HR.out), hok, setN_below (Nat.le_refl _) (scC f A3 ss.length c3) 0 _ _ HB2.out⟩
end Go.Proofs.Ytkcabllnlbcgdaa
