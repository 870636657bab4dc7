/-
  FnSceneHash: the law.
-/
import Derived.Test.YtkcabllnlbcgdaaSceG
import Derived.Deep.RegionHeld3
namespace Go.Proofs.Ytkcabllnlbcgdaa
open Go.RowKit
set_option linter.unusedVariables false
set_option linter.unusedSimpArgs false
section
variable {o : Oper} {a : Act} {w : World} {K : Act → World → Prop} {Q : Exit → Act → World → Prop}
theorem ob_fldS0 (x : Operand) {b : Nat} (ho : o.op = .fieldAddr 61 x 0) (hx : a.eval x = .pointer (some ⟨b, 0, none⟩)) (h : K (a.put o.dst (.pointer (some ⟨b, 0, none⟩))) w) : o.wp Try.prog a w K Q := by
  have hr : (Instr.fieldAt 61 (.pointer (some ⟨b, 0, none⟩)) 0).run Try.prog w = .ok (.pointer (some ⟨b, 0, none⟩)) w := by simp [go_sem]
  unfold Oper.wp execOp
  simp only [ho, hx, hr, Sem.run_bind, Sem.run_pure, Result.andThen_ok]
  exact h
theorem ob_fldS1 (x : Operand) {b : Nat} (ho : o.op = .fieldAddr 61 x 1) (hx : a.eval x = .pointer (some ⟨b, 0, none⟩)) (h : K (a.put o.dst (.pointer (some ⟨b, 5, none⟩))) w) : o.wp Try.prog a w K Q := by
  have hr : (Instr.fieldAt 61 (.pointer (some ⟨b, 0, none⟩)) 1).run Try.prog w = .ok (.pointer (some ⟨b, 5, none⟩)) w := by simp [go_sem]
  unfold Oper.wp execOp
  simp only [ho, hx, hr, Sem.run_bind, Sem.run_pure, Result.andThen_ok]
  exact h
theorem ob_loadF (x : Operand) {b : Nat} {f : Fld} (ho : o.op = .load 26 x) (hx : a.eval x = .pointer (some ⟨b, 0, none⟩)) (hb : FBox w b f) (h : K (a.put o.dst f.val) w) : o.wp Try.prog a w K Q := by
  obtain ⟨-, c0, c1, c2, c3, c4⟩ := hb
  have hr : (Instr.loadAt 26 (.pointer (some ⟨b, 0, none⟩))).run Try.prog w = .ok f.val w := by unfold Fld.val Fld.cs; simp [go_sem, c0, c1, c2, c3, c4]
  unfold Oper.wp execOp
  simp only [ho, hx, hr, Sem.run_bind, Sem.run_pure, Result.andThen_ok]
  exact h
theorem ob_loadSp (x : Operand) {b j : Nat} {v : Value} (ho : o.op = .load 59 x) (hx : a.eval x = .pointer (some ⟨b, j, none⟩)) (hc : w.cell? ⟨b, j, none⟩ = some v) (h : K (a.put o.dst v) w) : o.wp Try.prog a w K Q := by
  have hr : (Instr.loadAt 59 (.pointer (some ⟨b, j, none⟩))).run Try.prog w = .ok v w := by simp [go_sem, hc]
  unfold Oper.wp execOp
  simp only [ho, hx, hr, Sem.run_bind, Sem.run_pure, Result.andThen_ok]
  exact h
theorem ob_buildS0 (ho : o.op = .buildSlice 59 0 #[]) (h : K (a.put o.dst (.slice (some ⟨w.heap.size, 0, none⟩) 0 0)) (w.alloc (.cells #[] 70))) : o.wp Try.prog a w K Q := by
  have hr : (Instr.buildSlice 59 0 #[]).run Try.prog w = .ok (.slice (some ⟨w.heap.size, 0, none⟩) 0 0) (w.alloc (.cells #[] 70)) := by simp [go_sem]
  unfold Oper.wp execOp
  simp only [ho, Sem.run_bind, Sem.run_pure, Result.andThen_ok, List.map_toArray, List.map_nil, hr]
  exact h
theorem ob_buildSpr {x y : Operand} (ho : o.op = .build 70 #[(0, x), (1, y)]) (hx : a.eval x = .int .i64 64) (hy : a.eval y = .int .i64 64) (h : K (a.put o.dst s64.val) w) : o.wp Try.prog a w K Q := by
  have hr : (Instr.build 70 #[(0, .int .i64 64), (1, .int .i64 64)]).run Try.prog w = .ok s64.val w := by simp [go_sem, s64, Spr.val]
  unfold Oper.wp execOp
  simp only [ho, Sem.run_bind, Sem.run_pure, Result.andThen_ok, List.map_toArray, List.map_cons, List.map_nil, hx, hy, hr]
  exact h
theorem ob_litSpr {x : Operand} {s : Spr} (ho : o.op = .buildSlice 59 1 #[(0, x)]) (hx : a.eval x = s.val) (h : K (a.put o.dst (.slice (some ⟨w.heap.size, 0, none⟩) 1 1)) (w.alloc (.cells s.cs.toArray 70))) : o.wp Try.prog a w K Q := by
  have hr : (Instr.buildSlice 59 1 #[(0, s.val)]).run Try.prog w = .ok (.slice (some ⟨w.heap.size, 0, none⟩) 1 1) (w.alloc (.cells s.cs.toArray 70)) := by unfold Spr.val Spr.cs; simp [go_sem]
  unfold Oper.wp execOp
  simp only [ho, Sem.run_bind, Sem.run_pure, Result.andThen_ok, List.map_toArray, List.map_cons, List.map_nil, hx, hr]
  exact h
theorem ob_buildSc {x y : Operand} {f : Fld} {A : Option Addr} {n c : Nat} (ho : o.op = .build 61 #[(0, x), (1, y)]) (hx : a.eval x = f.val) (hy : a.eval y = .slice A n c) (h : K (a.put o.dst (scV f A n c)) w) : o.wp Try.prog a w K Q := by
  have hr : (Instr.build 61 #[(0, f.val), (1, .slice A n c)]).run Try.prog w = .ok (scV f A n c) w := by unfold Fld.val Fld.cs scV; simp [go_sem]
  unfold Oper.wp execOp
  simp only [ho, Sem.run_bind, Sem.run_pure, Result.andThen_ok, List.map_toArray, List.map_cons, List.map_nil, hx, hy, hr]
  exact h
theorem ob_allocSc (ho : o.op = .alloc 61) (h : K (a.put o.dst (.pointer (some ⟨w.heap.size, 0, none⟩))) (w.alloc (.cells zeroSc 61))) : o.wp Try.prog a w K Q := by
  unfold Oper.wp execOp
  simp only [ho]
  simp [go_sem]
  exact h
theorem ob_app {x y : Operand} {v u r : Value} {w' : World} (ho : o.op = .call { callee := .builtin .append, args := #[x, y], argTypes := #[59, 59] }) (hx : a.eval x = v) (hy : a.eval y = u)
    (hr : (Builtin.append_ #[59, 59] o.type #[v, u]).run Try.prog w = .ok r w') (h : K (a.put o.dst r) w') : o.wp Try.prog a w K Q := by
  unfold Oper.wp execOp
  simp only [ho, resolve, invoke, builtin, Sem.run_bind, Sem.run_pure, Result.andThen_ok, List.map_toArray, List.map_cons, List.map_nil, hx, hy, hr]
  exact h
end
set_option maxHeartbeats 400000 in
theorem aliveS (w : World) : Calls Try.prog 14 #[] w fun e w' => e = .returned (.bool true) ∧ w = w' := by
  have e8 : wrap64 (IntKind.i8.wrap 255) = -1 := by
    rw [show IntKind.i8.wrap 255 = -1 by decide]
    exact IntWalk.wrap64_in _ (by omega)
  go_enter Try.func14, Try.ntmps14
  go_wp2_with (first | (go_at_call 53; refine (within_any _ _ _ _).mono ?_; rintro e w' ⟨rfl, rfl⟩; rw [show inB 255 0 255 = true from rfl]) | go_in)
  go_ret
  exact ⟨rfl, rfl⟩
set_option maxRecDepth 100000 in
set_option maxHeartbeats 4000000 in
theorem fnSceneHash_walk (w : World) (A : Option Addr) (n c : Nat) (zs : List Int) (h : IsRow .u8 w A n c zs) :
    Calls Try.prog 7 #[.slice A n c] w fun e w' => e = .returned (.bool true) ∧ Below w.heap.size w w' := by
  by_cases hlong : 1048576 < n
  · go_enter Try.func7, Try.ntmps7
    go_wp2_with fail
    go_ret
    exact ⟨rfl, Below.refl _ _⟩
  have HI := Lib.hid h
  clear h
  go_enter Try.func7, Try.ntmps7
  go_wp2_with fail
  refine (drawSceneHash_any A n c zs _ HI.out).mono ?_
  rintro e w1 ⟨f, A3, c9, ss, g, rfl, hs, ⟨hok, hnil, hcap, hl⟩, hb⟩
  have hb2 : Below w1.heap.size w1 (w1.alloc (.cells (scC f A3 ss.length c9).toArray 61)) := (Below.refl _ _).alloc (Nat.le_refl _) _
  have hs2 := hs _ (Keep.of_below hb2)
  have HF := Lib.hid hs2.1
  have HT := Lib.hid hs2.2
  have BX := Lib.hid (SBox.new w1 f A3 ss.length c9 61)
  have HB := Lib.hid (below_step hb hb2 hb.size)
  have HOK := Lib.hid hok
  have HNIL := Lib.hid hnil
  clear hs hs2 hb hb2 hok hnil
  obtain ⟨-, c0, c1, c2, c3, c4, c5⟩ := BX.out
  unfold scC at *
  unfold scV
  obtain ⟨q, hq⟩ : ∃ q, hashR f ss = q := ⟨_, rfl⟩
  have hqn : (q != q) = false := by simp
  go_wp2_with fail
  refine (sceneHash_impl f A3 ss.length c9 ss _ HF.out HT.out (by omega)).mono ?_
  rintro e w3 ⟨rfl, b3⟩
  rw [hq]
  replace BX := Lib.hid (BX.out.below b3)
  replace HF := Lib.hid (HF.out.below b3)
  replace HT := Lib.hid ((HT.out.below b3).more (b3).size)
  replace HB := Lib.hid (below_step HB.out b3 HB.out.size)
  clear c0 c1 c2 c3 c4 c5
  obtain ⟨-, c0, c1, c2, c3, c4, c5⟩ := BX.out
  clear b3
  go_wp2_with fail
  refine (sceneHash_spec f A3 ss.length c9 ss _ HF.out HT.out (by omega)).mono ?_
  rintro e w4 ⟨rfl, b4⟩
  rw [hq]
  replace BX := Lib.hid (BX.out.below b4)
  replace HF := Lib.hid (HF.out.below b4)
  replace HT := Lib.hid ((HT.out.below b4).more (b4).size)
  replace HB := Lib.hid (below_step HB.out b4 HB.out.size)
  clear c0 c1 c2 c3 c4 c5
  obtain ⟨-, c0, c1, c2, c3, c4, c5⟩ := BX.out
  clear b4
  cases hsb : sceneB f ss
  · have hq1 : q = -1 := by rw [← hq]; unfold hashR; rw [hsb]; rfl
    subst hq1
    go_wp2_with (go_at_call 14; refine (aliveS _).mono ?_; rintro e w' ⟨rfl, rfl⟩)
    go_ret
    exact ⟨rfl, HB.out⟩
  have hq2 : 0 ≤ q ∧ q ≤ 65520 := by rw [← hq]; unfold hashR; rw [hsb, if_pos rfl]; exact hashL_in f ss 16
  have hfb : fieldB f = true := by unfold sceneB at hsb; rw [Bool.and_eq_true] at hsb; exact hsb.1
  have hq0 : ¬ q < 0 := by omega
  have HSB := Lib.hid hsb
  have HFB := Lib.hid hfb
  have HQ := Lib.hid hq
  obtain ⟨wW1, wW2⟩ := (field_facts hfb).1
  have m1 : IntKind.i64.wrap (8 * f.W) = 8 * f.W := IntWalk.i64_in _ (by omega)
  clear hsb hfb hq
  go_upto_region 10 with (fail)
  obtain ⟨W5, hW5⟩ : ∃ W5, W5 = w4.alloc (.cells (scC f A3 ss.length c9).toArray 61) := ⟨_, rfl⟩
  have b5 : Below w4.heap.size w4 W5 := by rw [hW5]; exact (Below.refl _ _).alloc (Nat.le_refl _) _
  have HY := Lib.hid (show Blk W5 w4.heap.size 61 (scC f A3 ss.length c9).toArray by rw [hW5]; exact Blk.new _ _ _)
  change Code.wp _ _ _ _ (w4.alloc (.cells (scC f A3 ss.length c9).toArray 61))
  rw [← hW5]
  replace hW5 := Lib.hid hW5
  have HF4 := HF
  have HT4 := HT
  have HB4 := HB
  have BX4 := BX
  replace BX := Lib.hid (BX.out.below b5)
  replace HF := Lib.hid (HF.out.below b5)
  replace HT := Lib.hid ((HT.out.below b5).more (b5).size)
  replace HB := Lib.hid (below_step HB.out b5 HB.out.size)
  clear c0 c1 c2 c3 c4 c5
  obtain ⟨-, c0, c1, c2, c3, c4, c5⟩ := BX.out
  go_wp2_with fail
  refine (shiftField_any f (8 * f.W) 0 _ HF.out HOK.out HFB.out (by omega) (by omega) (by omega) (by omega)).mono ?_
  rintro e w6 ⟨A6, c6', T6, tc6, rfl, hfr, b6⟩
  obtain ⟨gF, hg⟩ : ∃ gF, gF = fShift f A6 c6' T6 tc6 (8 * f.W) 0 := ⟨_, rfl⟩
  have HHG := Lib.hid (show hashR gF ss = q by rw [hg, hash_shift HSB.out]; exact HQ.out)
  have hgW : gF.W = f.W := by rw [hg]; rfl
  rw [← hg] at hfr ⊢
  have HGR := Lib.hid hfr
  have HSG := Lib.hid (show sceneB gF ss = true by
    have h1 := HSB.out
    unfold sceneB at h1 ⊢
    rw [Bool.and_eq_true] at h1
    rw [hg, fieldB_shift HFB.out, Bool.true_and]
    exact h1.2)
  replace hg := Lib.hid hg
  have hgv : gF.val = .agg #[.int .i64 gF.W, .slice gF.A gF.n gF.c, .slice gF.T gF.tn gF.tc, .int .i64 gF.sx, .int .i64 gF.sy] := rfl
  rw [hgv]
  clear hfr hgW
  replace BX := Lib.hid (BX.out.below b6)
  replace HF := Lib.hid (HF.out.below b6)
  replace HT := Lib.hid ((HT.out.below b6).more (b6).size)
  replace HB := Lib.hid (below_step HB.out b6 HB.out.size)
  clear c0 c1 c2 c3 c4 c5
  obtain ⟨-, c0, c1, c2, c3, c4, c5⟩ := BX.out
  have hl5 : w4.heap.size < W5.heap.size := HY.out.lt
  have HBL := Lib.hid (b5.trans (b6.mono b5.size))
  replace HY := Lib.hid (HY.out.below b6 HY.out.lt)
  have y0 : w6.cell? ⟨w4.heap.size, 0, none⟩ = some (.int .i64 f.W) := HY.out.cell 0
  have y1 : w6.cell? ⟨w4.heap.size, 1, none⟩ = some (.slice f.A f.n f.c) := HY.out.cell 1
  have y2 : w6.cell? ⟨w4.heap.size, 2, none⟩ = some (.slice f.T f.tn f.tc) := HY.out.cell 2
  have y3 : w6.cell? ⟨w4.heap.size, 3, none⟩ = some (.int .i64 f.sx) := HY.out.cell 3
  have y4 : w6.cell? ⟨w4.heap.size, 4, none⟩ = some (.int .i64 f.sy) := HY.out.cell 4
  have z0 := HY.out.frozen 0
  have z1 := HY.out.frozen 1
  have z2 := HY.out.frozen 2
  have z3 := HY.out.frozen 3
  have z4 := HY.out.frozen 4
  clear b5 b6
  go_upto_region 11 with (fail)
  obtain ⟨W7, hW7⟩ : ∃ W7, W7 = setN w6 w4.heap.size 0 [.int .i64 gF.W, .slice gF.A gF.n gF.c, .slice gF.T gF.tn gF.tc, .int .i64 gF.sx, .int .i64 gF.sy] := ⟨_, rfl⟩
  change Code.wp _ _ _ _ (setN w6 w4.heap.size 0 [.int .i64 gF.W, .slice gF.A gF.n gF.c, .slice gF.T gF.tn gF.tc, .int .i64 gF.sx, .int .i64 gF.sy])
  rw [← hW7]
  have b7 : Below w4.heap.size w4 W7 := by rw [hW7]; exact setN_below (Nat.le_refl _) _ 0 _ _ HBL.out
  have HYg := Lib.hid (show Blk W7 w4.heap.size 61 (scC gF A3 ss.length c9).toArray by rw [hW7]; exact setN_blk [.int .i64 gF.W, .slice gF.A gF.n gF.c, .slice gF.T gF.tn gF.tc, .int .i64 gF.sx, .int .i64 gF.sy] 0 _ _ HY.out)
  have hsz7 : W7.heap.size = w6.heap.size := by rw [hW7, setN_size]
  have HG7 := Lib.hid (HGR.out W7 (Nat.le_of_eq hsz7.symm) (fun k h1 h2 => by rw [hW7]; exact setN_heap (show k ≠ w4.heap.size by omega) _ 0 w6))
  replace HF := Lib.hid (HF4.out.below b7)
  replace HT := Lib.hid ((HT4.out.below b7).more b7.size)
  replace HB := Lib.hid (below_step HB4.out b7 HB4.out.size)
  replace BX := Lib.hid (BX4.out.below b7)
  clear hW7 hsz7 b7 HBL HY HF4 HT4 HB4 BX4 HGR y0 y1 y2 y3 y4 z0 z1 z2 z3 z4 c0 c1 c2 c3 c4 c5 hgv
  have hbl : w1.heap.size < W7.heap.size := BX.out.lt
  refine region_tailG 11 (GS W7.heap.size ss.length (fl6 ss) (fl6 ss ++ s64.cs)) (IsVal (.pointer (some ⟨w1.heap.size, 0, none⟩)) :: IsVal f.val :: EmptyS W7.heap.size :: IsVal (.pointer (some ⟨w1.heap.size, 5, none⟩)) :: IsVal (.slice A3 ss.length c9) :: RowS W7.heap.size ss.length (fl6 ss) :: IsVal s64.val :: OneS s64 :: RowT W7.heap.size ss.length (fl6 ss ++ s64.cs) :: ScnT f W7.heap.size ss.length (fl6 ss ++ s64.cs) :: BoxS W7.heap.size :: []) (fun _ w' => Below W7.heap.size W7 w' ∧ W7.heap.size ≤ w'.heap.size) ?_ ?_ ?_ ?_ ?_ ?_ ?_ ?_ ?_ ?_ ?_
  · kernel_rfl
  · exact ⟨(fun _ _ _ _ h => h), (fun _ _ _ _ h => h), stS_empty, (fun _ _ _ _ h => h), (fun _ _ _ _ h => h), stS_row, (fun _ _ _ _ h => h), stS_one _, stS_rowT, stS_scn _, stS_box, trivial⟩
  · simp
  · exact of_decide_eq_true (by kernel_rfl)
  · kernel_rfl
  · kernel_rfl
  · kernel_rfl
  · kernel_rfl
  · exact ⟨(Below.refl _ _).drew, Nat.le_refl _⟩
  · refine each_cons ?_ (each_cons ?_ (each_cons ?_ (each_cons ?_ (each_cons ?_ (each_cons ?_ (each_cons ?_ (each_cons ?_ (each_cons ?_ (each_cons ?_ (each_cons ?_ (trivial)))))))))))
    · intro n vs aa w' haa hJ hd K hK
      refine ob_plain rfl ?_
      refine ob_fldS0 _ (b := w1.heap.size) rfl (ev_of haa (by kernel_rfl)) ?_
      refine hK _ _ ?_ (GS.refl _) hJ
      show (IsVal _) w' _
      exact rfl
    · intro n vs aa w' haa hJ hd K hK
      refine ob_plain rfl ?_
      have d0 : (IsVal (.pointer (some ⟨w1.heap.size, 0, none⟩))) w' (vs 0) := hd.1 rfl
      have e0 := d0
      refine ob_loadF _ (b := w1.heap.size) (f := f) rfl (Eq.trans (b := vs 0) (ev_of haa (by kernel_rfl)) e0) (BX.out.below hJ.1).back ?_
      refine hK _ _ ?_ (GS.refl _) hJ
      show (IsVal f.val) w' _
      exact rfl
    · intro n vs aa w' haa hJ hd K hK
      refine ob_plain rfl ?_
      refine ob_buildS0 rfl ?_
      refine hK _ _ ?_ (GS.alloc hJ.2 _) ⟨hJ.1.alloc hJ.2 _, Nat.le_trans hJ.2 (by simp)⟩
      show (EmptyS W7.heap.size) _ _
      exact ⟨_, rfl, hJ.2, Blk.new _ _ _⟩
    · intro n vs aa w' haa hJ hd K hK
      refine ob_plain rfl ?_
      refine ob_fldS1 _ (b := w1.heap.size) rfl (ev_of haa (by kernel_rfl)) ?_
      refine hK _ _ ?_ (GS.refl _) hJ
      show (IsVal _) w' _
      exact rfl
    · intro n vs aa w' haa hJ hd K hK
      refine ob_plain rfl ?_
      have d3 : (IsVal (.pointer (some ⟨w1.heap.size, 5, none⟩))) w' (vs 3) := hd.1 rfl
      have e3 := d3
      refine ob_loadSp _ (v := .slice A3 ss.length c9) rfl (Eq.trans (b := vs 3) (ev_of haa (by kernel_rfl)) e3) (BX.out.below hJ.1).c5 ?_
      refine hK _ _ ?_ (GS.refl _) hJ
      show (IsVal _) w' _
      exact rfl
    · intro n vs aa w' haa hJ hd K hK
      refine ob_plain rfl ?_
      have d2 : (EmptyS W7.heap.size) w' (vs 2) := hd.1 rfl
      have d4 : (IsVal (.slice A3 ss.length c9)) w' (vs 4) := hd.2.1 rfl
      obtain ⟨k, e2, hk, he⟩ := d2
      have e4 := d4
      obtain ⟨v, w2, hr, hrow, hgs⟩ := app_all (YS := fl6 ss ++ s64.cs) w' _ hk he (HT.out.2.below hJ.1) HNIL.out (by omega) hJ.2
      refine ob_app rfl (Eq.trans (b := vs 2) (ev_of haa (by kernel_rfl)) e2) (Eq.trans (b := vs 4) (ev_of haa (by kernel_rfl)) e4) hr ?_
      refine hK _ _ ?_ hgs ⟨hJ.1.trans hgs.below, Nat.le_trans hJ.2 hgs.size⟩
      show (RowS W7.heap.size ss.length (fl6 ss)) _ _
      exact hrow
    · intro n vs aa w' haa hJ hd K hK
      refine ob_plain rfl ?_
      refine ob_buildSpr rfl (ev_of haa (by kernel_rfl)) (ev_of haa (by kernel_rfl)) ?_
      refine hK _ _ ?_ (GS.refl _) hJ
      show (IsVal s64.val) w' _
      exact rfl
    · intro n vs aa w' haa hJ hd K hK
      refine ob_plain rfl ?_
      have d6 : (IsVal s64.val) w' (vs 6) := hd.1 rfl
      have e6 := d6
      refine ob_litSpr (s := s64) rfl (Eq.trans (b := vs 6) (ev_of haa (by kernel_rfl)) e6) ?_
      refine hK _ _ ?_ (GS.alloc hJ.2 _) ⟨hJ.1.alloc hJ.2 _, Nat.le_trans hJ.2 (by simp)⟩
      show (OneS s64) _ _
      exact ⟨_, rfl, Blk.new _ _ _⟩
    · intro n vs aa w' haa hJ hd K hK
      refine ob_plain rfl ?_
      have d5 : (RowS W7.heap.size ss.length (fl6 ss)) w' (vs 5) := hd.1 rfl
      have d7 : (OneS s64) w' (vs 7) := hd.2.1 rfl
      obtain ⟨k, c, e5, ho, hc⟩ := d5
      obtain ⟨k2, e7, hk2⟩ := d7
      obtain ⟨v, w2, hr, hrow, hgs⟩ := app_one s64 w' _ ho hc hk2 (by omega) hJ.2
      refine ob_app rfl (Eq.trans (b := vs 5) (ev_of haa (by kernel_rfl)) e5) (Eq.trans (b := vs 7) (ev_of haa (by kernel_rfl)) e7) hr ?_
      refine hK _ _ ?_ hgs ⟨hJ.1.trans hgs.below, Nat.le_trans hJ.2 hgs.size⟩
      show (RowT W7.heap.size ss.length (fl6 ss ++ s64.cs)) _ _
      exact hrow
    · intro n vs aa w' haa hJ hd K hK
      refine ob_plain rfl ?_
      have d1 : (IsVal f.val) w' (vs 1) := hd.1 rfl
      have d8 : (RowT W7.heap.size ss.length (fl6 ss ++ s64.cs)) w' (vs 8) := hd.2.1 rfl
      have e1 := d1
      obtain ⟨A8, c8, e8, ho⟩ := d8
      refine ob_buildSc rfl (Eq.trans (b := vs 1) (ev_of haa (by kernel_rfl)) e1) (Eq.trans (b := vs 8) (ev_of haa (by kernel_rfl)) e8) ?_
      refine hK _ _ ?_ (GS.refl _) hJ
      show (ScnT f W7.heap.size ss.length (fl6 ss ++ s64.cs)) w' _
      exact ⟨A8, c8, rfl, ho⟩
    · intro n vs aa w' haa hJ hd K hK
      refine ob_plain rfl ?_
      refine ob_allocSc rfl ?_
      refine hK _ _ ?_ (GS.alloc hJ.2 _) ⟨hJ.1.alloc hJ.2 _, Nat.le_trans hJ.2 (by simp)⟩
      show (BoxS W7.heap.size) _ _
      exact ⟨_, rfl, hJ.2, Blk.new _ _ _⟩
  intro vs w' hJ hall
  obtain ⟨A8, c8, h9, ho⟩ : ScnT f W7.heap.size ss.length (fl6 ss ++ s64.cs) w' (vs 9) := hall 9 (by decide)
  obtain ⟨b8, h10, hb8, hk8⟩ : BoxS W7.heap.size w' (vs 10) := hall 10 (by decide)
  clear hall
  unfold scV at h9
  simp only [List.take_succ_cons, List.take_zero, List.drop_succ_cons, List.drop_zero, fill, Act.put, List.toList_toArray, List.setIfInBounds_toArray, List.set_cons_zero, List.set_cons_succ, Nat.zero_add, Nat.reduceAdd, h9, h10]
  have k0 : w'.cell? ⟨b8, 0, none⟩ = some (.int .i64 0) := hk8.cell 0
  have k1 : w'.cell? ⟨b8, 1, none⟩ = some (.slice none 0 0) := hk8.cell 1
  have k2 : w'.cell? ⟨b8, 2, none⟩ = some (.slice none 0 0) := hk8.cell 2
  have k3 : w'.cell? ⟨b8, 3, none⟩ = some (.int .i64 0) := hk8.cell 3
  have k4 : w'.cell? ⟨b8, 4, none⟩ = some (.int .i64 0) := hk8.cell 4
  have k5 : w'.cell? ⟨b8, 5, none⟩ = some (.slice none 0 0) := hk8.cell 5
  have j0 := hk8.frozen 0
  have j1 := hk8.frozen 1
  have j2 := hk8.frozen 2
  have j3 := hk8.frozen 3
  have j4 := hk8.frozen 4
  have j5 := hk8.frozen 5
  have hne := own_blk_ne ho hk8 (by decide)
  have HJ := Lib.hid hJ.1
  have HO := Lib.hid ho
  have HK := Lib.hid hk8
  have HNE := Lib.hid hne
  clear hJ ho hk8 hne
  go_upto_region 12 with (fail)
  obtain ⟨W8, hW8⟩ : ∃ W8, W8 = setN w' b8 0 (scC f A8 (ss.length + 1) c8) := ⟨_, rfl⟩
  change Code.wp _ _ _ _ (setN w' b8 0 (scC f A8 (ss.length + 1) c8))
  rw [← hW8]
  have b9 : Below W7.heap.size W7 W8 := by rw [hW8]; exact setN_below hb8 _ 0 _ _ HJ.out
  have hE0 := setN_blk (scC f A8 (ss.length + 1) c8) 0 _ _ HK.out
  unfold scC at hE0
  simp only [setA, zeroSc, List.setIfInBounds_toArray, List.set_cons_zero, List.set_cons_succ, Nat.zero_add, Nat.reduceAdd] at hE0
  have HE := Lib.hid (show Blk W8 b8 61 #[.int .i64 f.W, .slice f.A f.n f.c, .slice f.T f.tn f.tc, .int .i64 f.sx, .int .i64 f.sy, .slice A8 (ss.length + 1) c8] by rw [hW8]; exact hE0)
  clear hE0
  have ho8 : W8.ownsRow W7.heap.size 70 6 (.slice A8 (ss.length + 1) c8) (ss.length + 1) (fl6 ss ++ s64.cs) := by
    rw [hW8]
    exact own_same HO.out fun z hz => setN_heap (fun e => HNE.out (by rw [hz, e])) _ 0 w'
  have hfl : fl6 ss ++ s64.cs = fl6 (ss ++ [s64]) := by rw [fl6_app]; simp [fl6]
  rw [hfl] at ho8
  have HS8 := Lib.hid (sp_of_own ho8)
  have HD := Lib.hid (HYg.out.below b9 HYg.out.lt)
  have HG := Lib.hid (HG7.out.below b9)
  replace BX := Lib.hid (BX.out.below b9)
  replace HF := Lib.hid (HF.out.below b9)
  replace HT := Lib.hid ((HT.out.below b9).more (b9).size)
  replace HB := Lib.hid (below_step HB.out b9 HB.out.size)
  obtain ⟨-, c0, c1, c2, c3, c4, c5⟩ := BX.out
  have HLR := Lib.hid hl
  clear hW8 b9 ho8 hfl HYg HG7 HJ HO HK HNE k0 k1 k2 k3 k4 k5 j0 j1 j2 j3 j4 j5 hl
  obtain ⟨m, hm⟩ : ∃ m, ss.length = m := ⟨_, rfl⟩
  rw [hm] at HT BX HD HE HS8 HLR c5 ⊢
  have HM := Lib.hid hm
  clear hm
  have d0 : W8.cell? ⟨w4.heap.size, 0, none⟩ = some (.int .i64 gF.W) := HD.out.cell 0
  have d1 : W8.cell? ⟨w4.heap.size, 1, none⟩ = some (.slice gF.A gF.n gF.c) := HD.out.cell 1
  have d2 : W8.cell? ⟨w4.heap.size, 2, none⟩ = some (.slice gF.T gF.tn gF.tc) := HD.out.cell 2
  have d3 : W8.cell? ⟨w4.heap.size, 3, none⟩ = some (.int .i64 gF.sx) := HD.out.cell 3
  have d4 : W8.cell? ⟨w4.heap.size, 4, none⟩ = some (.int .i64 gF.sy) := HD.out.cell 4
  have d5 : W8.cell? ⟨w4.heap.size, 5, none⟩ = some (.slice A3 m c9) := HD.out.cell 5
  have e0 := HE.out.cell 0
  have e1 := HE.out.cell 1
  have e2 := HE.out.cell 2
  have e3 := HE.out.cell 3
  have e4 := HE.out.cell 4
  have e5 := HE.out.cell 5
  simp only [scC, List.getElem?_toArray, List.getElem?_cons_succ, List.getElem?_cons_zero] at e0 e1 e2 e3 e4 e5
  have q9 : q ≤ 65520 := hq2.2
  by_cases h12 : m = 12
  · subst h12
    clear hq2 hcap
    go_wp2_with fail
    refine (sceneHash_impl gF A3 _ c9 ss _ HG.out HT.out (by have := HLR.out; omega)).mono ?_
    rintro e w9 ⟨rfl, b9⟩
    rw [HHG.out]
    replace BX := Lib.hid (BX.out.below b9)
    replace HF := Lib.hid (HF.out.below b9)
    replace HT := Lib.hid ((HT.out.below b9).more (b9).size)
    replace HB := Lib.hid (below_step HB.out b9 HB.out.size)
    clear c0 c1 c2 c3 c4 c5
    obtain ⟨-, c0, c1, c2, c3, c4, c5⟩ := BX.out
    clear b9
    go_wp2_with fail
    go_ret
    exact ⟨rfl, HB.out⟩
  · have h13 : ((m : Int) == 12) = false := beq_eq_false_iff_ne.2 (by omega)
    have HH2 := Lib.hid (show hashR f (ss ++ [s64]) = q by rw [hash_app HSB.out (by rw [HM.out]; exact h12)]; exact HQ.out)
    clear h12 hq2 hcap
    go_wp2_with fail
    refine (sceneHash_impl gF A3 _ c9 ss _ HG.out HT.out (by have := HLR.out; omega)).mono ?_
    rintro e w9 ⟨rfl, b9⟩
    rw [HHG.out]
    replace BX := Lib.hid (BX.out.below b9)
    replace HF := Lib.hid (HF.out.below b9)
    replace HT := Lib.hid ((HT.out.below b9).more (b9).size)
    replace HB := Lib.hid (below_step HB.out b9 HB.out.size)
    clear c0 c1 c2 c3 c4 c5
    obtain ⟨-, c0, c1, c2, c3, c4, c5⟩ := BX.out
    replace HS8 := Lib.hid ((HS8.out.below b9).more b9.size)
    replace HE := Lib.hid (HE.out.below b9 HE.out.lt)
    clear e0 e1 e2 e3 e4 e5
    clear b9
    have e0 := HE.out.cell 0
    have e1 := HE.out.cell 1
    have e2 := HE.out.cell 2
    have e3 := HE.out.cell 3
    have e4 := HE.out.cell 4
    have e5 := HE.out.cell 5
    simp only [scC, List.getElem?_toArray, List.getElem?_cons_succ, List.getElem?_cons_zero] at e0 e1 e2 e3 e4 e5
    go_wp2_with fail
    refine (sceneHash_impl f A8 _ c8 (ss ++ [s64]) _ HF.out HS8.out (by have := HLR.out; omega)).mono ?_
    rintro e w10 ⟨rfl, b10⟩
    rw [HH2.out]
    replace HB := Lib.hid (below_step HB.out b10 HB.out.size)
    clear b10
    go_wp2_with fail
    go_ret
    exact ⟨rfl, HB.out⟩
end Go.Proofs.Ytkcabllnlbcgdaa
