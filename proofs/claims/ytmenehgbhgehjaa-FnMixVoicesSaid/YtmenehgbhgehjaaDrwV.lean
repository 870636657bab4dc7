/-
  What the statements on channels draw: channels, numbers, lists of channels. No condition.
-/
import Derived.Test.YtmenehgbhgehjaaDrw
import Derived.Test.YtmenehgbhgehjaaTypedT
import Derived.Test.YtmenehgbhgehjaaMix
namespace Go.Proofs.Ytmenehgbhgehjaa
open Go.RowKit
set_option linter.unusedVariables false
set_option linter.unusedSimpArgs false
theorem IsRow.alloc {k : IntKind} {w : World} {A : Option Addr} {n c : Nat} {zs : List Int} (h : IsRow k w A n c zs) (o : Obj) : IsRow k (w.alloc o) A n c zs := by
  rcases h with h | ⟨x, h0, h1, h2, h3, h4, h5⟩
  · exact .inl h
  · refine .inr ⟨x, h0, h1, h2, h3, fun i hi => ?_, h5⟩
    have := h4 i hi
    rw [World.cell?_alloc_lt w o _ (lt_of_cell this)]
    exact this
/-- One of two literals, behind a call of the reader. -/
theorem lit2_at {W W3 : World} {g K : Nat} {a b : Int} {t : TypeId} (hgr : (W.alloc (.cells #[.int .i64 a, .int .i64 b] t)).grownBy W3 (some g)) (hne : W.heap.size ≠ g) (hK : K ≤ 1) :
    ∃ Y, W3.cell? ⟨W.heap.size, K, none⟩ = some (.int .i64 Y) ∧ (Y = a ∨ Y = b) := by
  rcases (show K = 0 ∨ K = 1 by omega) with rfl | rfl
  · exact ⟨a, grown_cell hgr (by simp) (by intro e; injection e with e; exact hne e) (cell_new _ _ _ 0), .inl rfl⟩
  · exact ⟨b, grown_cell hgr (by simp) (by intro e; injection e with e; exact hne e) (cell_new _ _ _ 1), .inr rfl⟩
section
variable {w : World} {b : Nat} {v : Vo}
theorem HasV.set0 (h : HasV w b v) (x : Int) : HasV (w.setCell ⟨b, 0, none⟩ (.int .i64 x)) b ⟨x, v.h, v.a, v.s, v.f⟩ ∧ w.grownBy (w.setCell ⟨b, 0, none⟩ (.int .i64 x)) (some b) := World.ownsRow.stored h 0 (.int .i64 x)
theorem HasV.set1 (h : HasV w b v) (x : Int) : HasV (w.setCell ⟨b, 1, none⟩ (.int .i64 x)) b ⟨v.l, x, v.a, v.s, v.f⟩ ∧ w.grownBy (w.setCell ⟨b, 1, none⟩ (.int .i64 x)) (some b) := World.ownsRow.stored h 1 (.int .i64 x)
theorem HasV.set2 (h : HasV w b v) (x : Int) : HasV (w.setCell ⟨b, 2, none⟩ (.int .i64 x)) b ⟨v.l, v.h, x, v.s, v.f⟩ ∧ w.grownBy (w.setCell ⟨b, 2, none⟩ (.int .i64 x)) (some b) := World.ownsRow.stored h 2 (.int .i64 x)
theorem HasV.set3 (h : HasV w b v) (x : Int) : HasV (w.setCell ⟨b, 3, none⟩ (.int .i64 x)) b ⟨v.l, v.h, v.a, x, v.f⟩ ∧ w.grownBy (w.setCell ⟨b, 3, none⟩ (.int .i64 x)) (some b) := World.ownsRow.stored h 3 (.int .i64 x)
theorem HasV.set4 (h : HasV w b v) (x : Int) : HasV (w.setCell ⟨b, 4, none⟩ (.int .i64 x)) b ⟨v.l, v.h, v.a, v.s, x⟩ ∧ w.grownBy (w.setCell ⟨b, 4, none⟩ (.int .i64 x)) (some b) := World.ownsRow.stored h 4 (.int .i64 x)
end
section
variable {o : Oper} {a : Act} {w : World} {K : Act → World → Prop} {Q : Exit → Act → World → Prop}
theorem ob_fldV (x : Operand) (f : Nat) {b : Nat} (ho : o.op = .fieldAddr 24 x f) (hf : f < 5) (hx : a.eval x = .pointer (some ⟨b, 0, none⟩)) (h : K (a.put o.dst (.pointer (some ⟨b, f, none⟩))) w) : o.wp Try.prog a w K Q := by
  have hr : (Instr.fieldAt 24 (.pointer (some ⟨b, 0, none⟩)) f).run Try.prog w = .ok (.pointer (some ⟨b, f, none⟩)) w := by
    rcases (show f = 0 ∨ f = 1 ∨ f = 2 ∨ f = 3 ∨ f = 4 by omega) with rfl | rfl | rfl | rfl | rfl <;> simp [go_sem]
  unfold Oper.wp execOp
  simp only [ho, hx, hr, Sem.run_bind, Sem.run_pure, Result.andThen_ok]
  exact h
theorem ob_loadV (x : Operand) {b : Nat} {u : Vo} (ho : o.op = .load 24 x) (hx : a.eval x = .pointer (some ⟨b, 0, none⟩)) (hv : HasV w b u) (h : K (a.put o.dst u.val) w) : o.wp Try.prog a w K Q := by
  obtain ⟨h0, h1, h2, h3, h4⟩ := hv.cells
  have hr : (Instr.loadAt 24 (.pointer (some ⟨b, 0, none⟩))).run Try.prog w = .ok u.val w := by simp [go_sem, h0, h1, h2, h3, h4]
  unfold Oper.wp execOp
  simp only [ho, hx, hr, Sem.run_bind, Sem.run_pure, Result.andThen_ok]
  exact h
end
/-- A drawn channel. -/
def VoBd (u : Vo) : Prop := (-1 ≤ u.l ∧ u.l ≤ 101) ∧ (-1 ≤ u.h ∧ u.h ≤ 9) ∧ (-1 ≤ u.a ∧ u.a ≤ 16) ∧ (-1 ≤ u.s ∧ u.s ≤ 8) ∧ -1 ≤ u.f ∧ u.f ≤ 102
def VoV (_ : World) (v : Value) : Prop := ∃ u : Vo, v = u.val ∧ VoBd u
theorem ne_some {a b : Nat} (h : a ≠ b) : some a ≠ some b := by intro e; injection e with e; exact h e
set_option maxRecDepth 100000 in
set_option maxHeartbeats 4000000 in
theorem l20Voice_any (g : Nat) (A : Option Addr) (len cap p0 : Nat) (n : Int) (w : World) (h : Rd w g A len cap p0) (hp0 : p0 ≤ 900000000) (n0 : 0 ≤ n) (n1 : n ≤ 1000000000) :
    Calls Try.prog 54 #[.pointer (some ⟨g, 0, none⟩), .int .i64 n] w (Draws g A len cap p0 20 w VoV) := by
  have HD := Lib.hid (Drs.start h)
  have hgl := h.lt
  clear h
  go_enter Try.func54, Try.ntmps54
  go_wp2_with fail
  refine (pick_d ((HD.out.alloc _).alloc _) 2 (by omega) (by omega) (by omega)).mono ?_
  rintro e W1 ⟨v, rfl, ⟨x, rfl, x0, x1⟩, hD, hgr⟩
  replace HD := Lib.hid hD
  have HR := Lib.hid (((HasV.new w ⟨0, 0, 0, 0, 0⟩).alloc _).kept hgr (ne_some (by omega)))
  obtain ⟨X, rfl⟩ := Int.eq_ofNat_of_zero_le x0
  have q2 : (X : Int) < 2 := by omega
  have q3 : X < 2 := by omega
  obtain ⟨Y, hY, hY2⟩ := lit2_at (K := X) hgr (by simp; omega) (by omega)
  rw [World.size_alloc] at hY
  clear hgr hD
  go_wp2_with fail
  refine (pick_d HD.out Y (by omega) (by omega) (by omega)).mono ?_
  rintro e W' ⟨v, rfl, ⟨z, rfl, z0, z1⟩, hD, hgr⟩
  replace HD := Lib.hid hD
  clear hD
  replace HR := Lib.hid (HR.out.kept hgr (ne_some (by have := HR.out.lt; omega)))
  clear hgr hY
  go_wp2_with fail
  refine (pick_d HD.out 9 (by omega) (by omega) (by omega)).mono ?_
  rintro e W' ⟨v, rfl, ⟨uh, rfl, h0, h1⟩, hD, hgr⟩
  replace HD := Lib.hid hD
  clear hD
  replace HR := Lib.hid (HR.out.kept hgr (ne_some (by have := HR.out.lt; omega)))
  clear hgr
  go_wp2_with fail
  refine (pick_d HD.out 16 (by omega) (by omega) (by omega)).mono ?_
  rintro e W' ⟨v, rfl, ⟨ua, rfl, a0, a1⟩, hD, hgr⟩
  replace HD := Lib.hid hD
  clear hD
  replace HR := Lib.hid (HR.out.kept hgr (ne_some (by have := HR.out.lt; omega)))
  clear hgr
  go_wp2_with fail
  refine (pick_d HD.out 8 (by omega) (by omega) (by omega)).mono ?_
  rintro e W5 ⟨v, rfl, ⟨us, rfl, s0, s1⟩, hD, hgr⟩
  replace HD := Lib.hid hD
  replace HR := Lib.hid (HR.out.kept hgr (ne_some (by have := HR.out.lt; omega)))
  have hw5 := HR.out.lt
  have hgw5 := HD.out.size
  clear hgr hD
  go_wp2_with fail
  refine (pick_d (HD.out.alloc _) (1 + z) (by omega) (by omega) (by omega)).mono ?_
  rintro e W6 ⟨v, rfl, ⟨y, rfl, y0, y1⟩, hD, hgr⟩
  replace HD := Lib.hid hD
  replace HR := Lib.hid ((HR.out.alloc _).kept hgr (ne_some (by omega)))
  have HV := Lib.hid ((HasV.new W5 ⟨1 + z, uh, ua, us, 0⟩).kept hgr (ne_some (by omega)))
  obtain ⟨bx, hbx⟩ : ∃ bx, bx = W5.heap.size := ⟨_, rfl⟩
  rw [← hbx] at HV hw5 hgw5 ⊢
  clear hgr hD hbx
  obtain ⟨g0, g1, g2, g3, g4⟩ := HV.out.froz
  obtain ⟨t0, t1, t2, t3, t4⟩ := HV.out.cells
  have hbv6 := HV.out.lt
  go_wp2_with fail
  obtain ⟨hv4, hg4⟩ := HV.out.set4 (1 + y)
  replace HV := Lib.hid hv4
  replace HR := Lib.hid (HR.out.kept hg4 (ne_some (by omega)))
  replace HD := Lib.hid (HD.out.push hg4 (by intro k hk; injection hk with hk; omega))
  clear hv4 hg4 g0 g1 g2 g3 g4 t0 t1 t2 t3 t4 hbv6
  refine (odd_d HD.out n (by omega) n0 n1).mono ?_
  rintro e W7 ⟨v, rfl, ⟨b, rfl, hb⟩, hD, hgr⟩
  replace HD := Lib.hid hD
  replace HV := Lib.hid (HV.out.kept hgr (ne_some (by omega)))
  replace HR := Lib.hid (HR.out.kept hgr (ne_some (by omega)))
  clear hgr hD hb
  cases b
  · have hbv := HV.out.lt
    have hbr := HR.out.lt
    obtain ⟨x0, x1, x2, x3, x4⟩ := HV.out.cells
    obtain ⟨r0, r1, r2, r3, r4⟩ := HR.out.cells
    obtain ⟨f0, f1, f2, f3, f4⟩ := HR.out.froz
    go_wp2_with fail
    obtain ⟨o1, o2⟩ := HR.out.set ⟨1 + z, uh, ua, us, 1 + y⟩
    refine bodyPost_ret (v := (⟨1 + z, uh, ua, us, 1 + y⟩ : Vo).val) (by simp [results, Try.results54, go_sem, r0, r1, r2, r3, r4]) rfl ?_
    exact draws_of (HD.out.push o2 (by intro k hk; injection hk with hk; omega)) (by omega) ⟨⟨1 + z, uh, ua, us, 1 + y⟩, rfl, by unfold VoBd; simp only; omega⟩
  go_wp2_with fail
  refine (pick_d HD.out 5 (by omega) (by omega) (by omega)).mono ?_
  rintro e W' ⟨v, rfl, ⟨c, rfl, c0, c1⟩, hD, hgr⟩
  replace HD := Lib.hid hD
  replace HV := Lib.hid (HV.out.kept hgr (ne_some (by omega)))
  replace HR := Lib.hid (HR.out.kept hgr (ne_some (by omega)))
  clear hgr hD
  by_cases e0 : c = 0
  · subst e0
    have hs8 := HD.out.size
    go_wp2_with fail
    refine (pick_d (HD.out.alloc _) 2 (by omega) (by omega) (by omega)).mono ?_
    rintro e W8 ⟨v, rfl, ⟨q, rfl, q0, q1⟩, hD, hgr⟩
    replace HD := Lib.hid hD
    replace HV := Lib.hid ((HV.out.alloc _).kept hgr (ne_some (by have := HV.out.lt; omega)))
    replace HR := Lib.hid ((HR.out.alloc _).kept hgr (ne_some (by have := HR.out.lt; omega)))
    obtain ⟨Q, rfl⟩ := Int.eq_ofNat_of_zero_le q0
    have q2 : (Q : Int) < 2 := by omega
    have q3 : Q < 2 := by omega
    obtain ⟨Y, hY, hY2⟩ := lit2_at (K := Q) hgr (by omega) (by omega)
    clear hgr hD
    obtain ⟨g0, g1, g2, g3, g4⟩ := HV.out.froz
    have hbv := HV.out.lt
    have hbr := HR.out.lt
    obtain ⟨x0, x1, x2, x3, x4⟩ := HV.out.cells
    obtain ⟨r0, r1, r2, r3, r4⟩ := HR.out.cells
    obtain ⟨f0, f1, f2, f3, f4⟩ := HR.out.froz
    go_wp2_with fail
    obtain ⟨s1, s2⟩ := HV.out.set0 (Y)
    obtain ⟨o1, o2⟩ := (HR.out.kept s2 (ne_some (by omega))).set ⟨Y, uh, ua, us, 1 + y⟩
    refine bodyPost_ret (v := (⟨Y, uh, ua, us, 1 + y⟩ : Vo).val) (by simp [results, Try.results54, go_sem, r0, r1, r2, r3, r4]) rfl ?_
    exact draws_of ((HD.out.push s2 (by intro k hk; injection hk with hk; omega)).push o2 (by intro k hk; injection hk with hk; omega)) (by omega) ⟨⟨Y, uh, ua, us, 1 + y⟩, rfl, by unfold VoBd; simp only; omega⟩
  by_cases e1 : c = 1
  · subst e1
    have hs8 := HD.out.size
    go_wp2_with fail
    refine (pick_d (HD.out.alloc _) 2 (by omega) (by omega) (by omega)).mono ?_
    rintro e W8 ⟨v, rfl, ⟨q, rfl, q0, q1⟩, hD, hgr⟩
    replace HD := Lib.hid hD
    replace HV := Lib.hid ((HV.out.alloc _).kept hgr (ne_some (by have := HV.out.lt; omega)))
    replace HR := Lib.hid ((HR.out.alloc _).kept hgr (ne_some (by have := HR.out.lt; omega)))
    obtain ⟨Q, rfl⟩ := Int.eq_ofNat_of_zero_le q0
    have q2 : (Q : Int) < 2 := by omega
    have q3 : Q < 2 := by omega
    obtain ⟨Y, hY, hY2⟩ := lit2_at (K := Q) hgr (by omega) (by omega)
    clear hgr hD
    obtain ⟨g0, g1, g2, g3, g4⟩ := HV.out.froz
    have hbv := HV.out.lt
    have hbr := HR.out.lt
    obtain ⟨x0, x1, x2, x3, x4⟩ := HV.out.cells
    obtain ⟨r0, r1, r2, r3, r4⟩ := HR.out.cells
    obtain ⟨f0, f1, f2, f3, f4⟩ := HR.out.froz
    go_wp2_with fail
    obtain ⟨s1, s2⟩ := HV.out.set1 (Y)
    obtain ⟨o1, o2⟩ := (HR.out.kept s2 (ne_some (by omega))).set ⟨1 + z, Y, ua, us, 1 + y⟩
    refine bodyPost_ret (v := (⟨1 + z, Y, ua, us, 1 + y⟩ : Vo).val) (by simp [results, Try.results54, go_sem, r0, r1, r2, r3, r4]) rfl ?_
    exact draws_of ((HD.out.push s2 (by intro k hk; injection hk with hk; omega)).push o2 (by intro k hk; injection hk with hk; omega)) (by omega) ⟨⟨1 + z, Y, ua, us, 1 + y⟩, rfl, by unfold VoBd; simp only; omega⟩
  by_cases e2 : c = 2
  · subst e2
    have hs8 := HD.out.size
    go_wp2_with fail
    refine (pick_d (HD.out.alloc _) 2 (by omega) (by omega) (by omega)).mono ?_
    rintro e W8 ⟨v, rfl, ⟨q, rfl, q0, q1⟩, hD, hgr⟩
    replace HD := Lib.hid hD
    replace HV := Lib.hid ((HV.out.alloc _).kept hgr (ne_some (by have := HV.out.lt; omega)))
    replace HR := Lib.hid ((HR.out.alloc _).kept hgr (ne_some (by have := HR.out.lt; omega)))
    obtain ⟨Q, rfl⟩ := Int.eq_ofNat_of_zero_le q0
    have q2 : (Q : Int) < 2 := by omega
    have q3 : Q < 2 := by omega
    obtain ⟨Y, hY, hY2⟩ := lit2_at (K := Q) hgr (by omega) (by omega)
    clear hgr hD
    obtain ⟨g0, g1, g2, g3, g4⟩ := HV.out.froz
    have hbv := HV.out.lt
    have hbr := HR.out.lt
    obtain ⟨x0, x1, x2, x3, x4⟩ := HV.out.cells
    obtain ⟨r0, r1, r2, r3, r4⟩ := HR.out.cells
    obtain ⟨f0, f1, f2, f3, f4⟩ := HR.out.froz
    go_wp2_with fail
    obtain ⟨s1, s2⟩ := HV.out.set2 (Y)
    obtain ⟨o1, o2⟩ := (HR.out.kept s2 (ne_some (by omega))).set ⟨1 + z, uh, Y, us, 1 + y⟩
    refine bodyPost_ret (v := (⟨1 + z, uh, Y, us, 1 + y⟩ : Vo).val) (by simp [results, Try.results54, go_sem, r0, r1, r2, r3, r4]) rfl ?_
    exact draws_of ((HD.out.push s2 (by intro k hk; injection hk with hk; omega)).push o2 (by intro k hk; injection hk with hk; omega)) (by omega) ⟨⟨1 + z, uh, Y, us, 1 + y⟩, rfl, by unfold VoBd; simp only; omega⟩
  by_cases e3 : c = 3
  · subst e3
    have hs8 := HD.out.size
    go_wp2_with fail
    refine (pick_d (HD.out.alloc _) 2 (by omega) (by omega) (by omega)).mono ?_
    rintro e W8 ⟨v, rfl, ⟨q, rfl, q0, q1⟩, hD, hgr⟩
    replace HD := Lib.hid hD
    replace HV := Lib.hid ((HV.out.alloc _).kept hgr (ne_some (by have := HV.out.lt; omega)))
    replace HR := Lib.hid ((HR.out.alloc _).kept hgr (ne_some (by have := HR.out.lt; omega)))
    obtain ⟨Q, rfl⟩ := Int.eq_ofNat_of_zero_le q0
    have q2 : (Q : Int) < 2 := by omega
    have q3 : Q < 2 := by omega
    obtain ⟨Y, hY, hY2⟩ := lit2_at (K := Q) hgr (by omega) (by omega)
    clear hgr hD
    obtain ⟨g0, g1, g2, g3, g4⟩ := HV.out.froz
    have hbv := HV.out.lt
    have hbr := HR.out.lt
    obtain ⟨x0, x1, x2, x3, x4⟩ := HV.out.cells
    obtain ⟨r0, r1, r2, r3, r4⟩ := HR.out.cells
    obtain ⟨f0, f1, f2, f3, f4⟩ := HR.out.froz
    go_wp2_with fail
    obtain ⟨s1, s2⟩ := HV.out.set3 (Y)
    obtain ⟨o1, o2⟩ := (HR.out.kept s2 (ne_some (by omega))).set ⟨1 + z, uh, ua, Y, 1 + y⟩
    refine bodyPost_ret (v := (⟨1 + z, uh, ua, Y, 1 + y⟩ : Vo).val) (by simp [results, Try.results54, go_sem, r0, r1, r2, r3, r4]) rfl ?_
    exact draws_of ((HD.out.push s2 (by intro k hk; injection hk with hk; omega)).push o2 (by intro k hk; injection hk with hk; omega)) (by omega) ⟨⟨1 + z, uh, ua, Y, 1 + y⟩, rfl, by unfold VoBd; simp only; omega⟩
  have f0 : (c == 0) = false := by simp; omega
  have f1 : (c == 1) = false := by simp; omega
  have f2 : (c == 2) = false := by simp; omega
  have f3 : (c == 3) = false := by simp; omega
  have hne : some g ≠ some bx := ne_some (by omega)
  obtain ⟨u, hu⟩ : ∃ u : Vo, u = ⟨1 + z, uh, ua, us, 1 + y⟩ := ⟨_, rfl⟩
  rw [← hu] at HV
  have hul : u.l = 1 + z := by rw [hu]
  go_upto_region 5 with (fail)
  obtain ⟨p, hp1, hR⟩ := HD.out.rd
  have hp : p ≤ 900000100 := by omega
  have ul0 : 1 ≤ u.l := by omega
  have ul1 : u.l ≤ 100 := by omega
  refine region_tail 9 (some g) (IsVal (.pointer (some ⟨bx, 0, none⟩)) :: IntIn ((u).l) ((u).l) :: IntIn ((u).l + 1) ((u).l + 1) :: ArrIn g 2 (0) (101) :: IsPtr g :: IntIn (0) (1) :: ElAt g (0) (101) :: IntIn (0) (101) :: IsVal (.pointer (some ⟨bx, 4, none⟩)) :: []) (fun n w' => World.grownBy W' w' (some g) ∧ ∃ p' : Nat, p' + 1 * n ≤ p + 9 ∧ Rd w' g A len cap p') ?_ ?_ ?_ ?_ ?_ ?_ ?_ ?_ ?_ ?_ ?_
  · kernel_rfl
  · exact ⟨st_val _ _, st_int _ _ _, st_int _ _ _, st_arr _ _ _ _, st_ptr _ _, st_int _ _ _, st_el _ _ _, st_int _ _ _, st_val _ _, trivial⟩
  · simp
  · exact of_decide_eq_true (by kernel_rfl)
  · kernel_rfl
  · kernel_rfl
  · kernel_rfl
  · kernel_rfl
  · exact ⟨grown_drew _ _, p, by simp, hR⟩
  · refine each_cons ?_ (each_cons ?_ (each_cons ?_ (each_cons ?_ (each_cons ?_ (each_cons ?_ (each_cons ?_ (each_cons ?_ (each_cons ?_ ( trivial)))))))))
    · intro n vs aa w' haa hJ hd K hK
      refine ob_plain rfl ?_
      refine ob_fldV _ 0 (b := bx) rfl (by omega) (ev_of haa (by kernel_rfl)) ?_
      refine hK _ _ ?_ (World.grownBy.refl _ _) ⟨hJ.1, by obtain ⟨p', h1, h2⟩ := hJ.2; exact ⟨p', by omega, h2⟩⟩
      show (IsVal (.pointer (some ⟨bx, 0, none⟩))) w' _
      exact rfl
    · intro n vs aa w' haa hJ hd K hK
      refine ob_plain rfl ?_
      have d0 : (IsVal (.pointer (some ⟨bx, 0, none⟩))) w' (vs 0) := hd.1 rfl
      have e0 := d0
      have hbv := (HV.out).kept hJ.1 (hne)
      refine ob_load _ _ (by simp) (v := .int .i64 (u).l) rfl (Eq.trans (b := vs 0) (ev_of haa (by kernel_rfl)) e0) (hbv.cells.1) ?_
      refine hK _ _ ?_ (World.grownBy.refl _ _) ⟨hJ.1, by obtain ⟨p', h1, h2⟩ := hJ.2; exact ⟨p', by omega, h2⟩⟩
      show (IntIn ((u).l) ((u).l)) w' _
      exact ⟨_, rfl, Int.le_refl _, Int.le_refl _⟩
    · intro n vs aa w' haa hJ hd K hK
      refine ob_plain rfl ?_
      have d1 : (IntIn ((u).l) ((u).l)) w' (vs 1) := hd.1 rfl
      obtain ⟨x1, e1, l1, u1⟩ := d1
      refine ob_add _ _ (u := x1) (v := (1)) rfl (Eq.trans (b := vs 1) (ev_of haa (by kernel_rfl)) e1) (ev_of haa (by kernel_rfl)) (by omega) ?_
      refine hK _ _ ?_ (World.grownBy.refl _ _) ⟨hJ.1, by obtain ⟨p', h1, h2⟩ := hJ.2; exact ⟨p', by omega, h2⟩⟩
      show (IntIn ((u).l + 1) ((u).l + 1)) w' _
      exact ⟨_, rfl, by omega, by omega⟩
    · intro n vs aa w' haa hJ hd K hK
      refine ob_plain rfl ?_
      have d2 : (IntIn ((u).l + 1) ((u).l + 1)) w' (vs 2) := hd.1 rfl
      obtain ⟨x2, e2, l2, u2⟩ := d2
      refine ob_build2 _ _ (u0 := (0)) (u1 := x2) rfl (ev_of haa (by kernel_rfl)) (Eq.trans (b := vs 2) (ev_of haa (by kernel_rfl)) e2) ?_
      refine hK _ _ ⟨_, rfl, Nat.ne_of_gt hJ.2.choose_spec.2.lt, by simp, fun k hk => ?_⟩ (World.grownBy_alloc _ _ _) ⟨hJ.1.trans (World.grownBy_alloc _ _ _), by obtain ⟨p', h1, h2⟩ := hJ.2; exact ⟨p', by omega, h2.alloc _⟩⟩
      match k, hk with
      | 0, _ => exact ⟨(0), by simp [go_sem], by omega, by omega⟩
      | 1, _ => exact ⟨x2, by simp [go_sem], by omega, by omega⟩
    · intro n vs aa w' haa hJ hd K hK
      refine ob_plain rfl ?_
      refine ob_move _ (v := .pointer (some ⟨g, 0, none⟩)) rfl (ev_of haa (by kernel_rfl)) ?_
      refine hK _ _ ?_ (World.grownBy.refl _ _) ⟨hJ.1, by obtain ⟨p', h1, h2⟩ := hJ.2; exact ⟨p', by omega, h2⟩⟩
      show (IsPtr g) w' _
      exact rfl
    · intro n vs aa w' haa hJ hd K hK
      refine ob_plain rfl ?_
      have d4 : (IsPtr g) w' (vs 4) := hd.1 rfl
      have e4 := d4
      obtain ⟨hg', p', hp', hr'⟩ := hJ
      refine ob_call 55 _ _ #[.pointer (some ⟨g, 0, none⟩), .int .i64 (2)] rfl (Eq.trans (b := #[vs 4, .int .i64 (2)]) (evs_of haa (by kernel_rfl)) (by rw [e4])) (fun _ _ => by kernel_rfl) ?_
      refine (pick_any g A len cap p' (2) _ hr' (by omega) (by omega) (by omega)).mono ?_
      rintro e w2 ⟨x, rfl, x0, x1, hr2, hg2⟩
      refine ⟨_, rfl, ?_⟩
      refine hK _ _ ?_ hg2 ⟨hg'.trans hg2, p' + 1, by omega, hr2⟩
      show (IntIn (0) (1)) w' _
      exact ⟨x, rfl, x0, by omega⟩
    · intro n vs aa w' haa hJ hd K hK
      refine ob_plain rfl ?_
      have d3 : (ArrIn g 2 (0) (101)) w' (vs 3) := hd.1 rfl
      obtain ⟨b3, e3, n3, z3, c3⟩ := d3
      have d5 : (IntIn (0) (1)) w' (vs 5) := hd.2.1 rfl
      obtain ⟨x5, e5, l5, u5⟩ := d5
      refine ob_index _ _ _ (by simp) (u := x5) rfl (Eq.trans (b := vs 3) (ev_of haa (by kernel_rfl)) e3) (Eq.trans (b := vs 5) (ev_of haa (by kernel_rfl)) e5) (by omega) (by omega) ?_
      obtain ⟨y, hy, y0, y1⟩ := c3 x5.toNat (by omega)
      refine hK _ _ ?_ (World.grownBy.refl _ _) ⟨hJ.1, by obtain ⟨p', h1, h2⟩ := hJ.2; exact ⟨p', by omega, h2⟩⟩
      show (ElAt g (0) (101)) w' _
      exact ⟨b3, _, rfl, n3, z3, y, by rw [Nat.zero_add]; exact hy, y0, y1⟩
    · intro n vs aa w' haa hJ hd K hK
      refine ob_plain rfl ?_
      have d6 : (ElAt g (0) (101)) w' (vs 6) := hd.1 rfl
      obtain ⟨b6, j6, e6, n6, z6, x6, c6, l6, u6⟩ := d6
      refine ob_load _ _ (by simp) rfl (Eq.trans (b := vs 6) (ev_of haa (by kernel_rfl)) e6) c6 ?_
      refine hK _ _ ?_ (World.grownBy.refl _ _) ⟨hJ.1, by obtain ⟨p', h1, h2⟩ := hJ.2; exact ⟨p', by omega, h2⟩⟩
      show (IntIn (0) (101)) w' _
      exact ⟨_, rfl, l6, u6⟩
    · intro n vs aa w' haa hJ hd K hK
      refine ob_plain rfl ?_
      refine ob_fldV _ 4 (b := bx) rfl (by omega) (ev_of haa (by kernel_rfl)) ?_
      refine hK _ _ ?_ (World.grownBy.refl _ _) ⟨hJ.1, by obtain ⟨p', h1, h2⟩ := hJ.2; exact ⟨p', by omega, h2⟩⟩
      show (IsVal (.pointer (some ⟨bx, 4, none⟩))) w' _
      exact rfl
  intro vs w' hJ hall
  obtain ⟨Y, hY, hY0, hY1⟩ : IntIn 0 101 w' (vs 7) := hall 7 (by decide)
  have hz : vs 8 = .pointer (some ⟨bx, 4, none⟩) := hall 8 (by decide)
  clear hall
  obtain ⟨hg, p', hp', hr'⟩ := hJ
  replace HV := Lib.hid (HV.out.kept hg hne)
  replace HR := Lib.hid (HR.out.kept hg (ne_some (by omega)))
  replace HD := Lib.hid (HD.out.step hg ⟨p', hp', hr'⟩)
  clear hr' hg hR
  subst hu
  simp only [List.take_succ_cons, List.take_zero, List.drop_succ_cons, List.drop_zero, fill, Act.put, List.toList_toArray, List.setIfInBounds_toArray, List.set_cons_zero, List.set_cons_succ, Nat.zero_add, Nat.reduceAdd, hY, hz]
  obtain ⟨g0, g1, g2, g3, g4⟩ := HV.out.froz
  have hbv := HV.out.lt
  have hbr := HR.out.lt
  obtain ⟨x0, x1, x2, x3, x4⟩ := HV.out.cells
  obtain ⟨r0, r1, r2, r3, r4⟩ := HR.out.cells
  obtain ⟨f0, f1, f2, f3, f4⟩ := HR.out.froz
  go_wp2_with fail
  obtain ⟨s1, s2⟩ := HV.out.set4 (Y)
  obtain ⟨o1, o2⟩ := (HR.out.kept s2 (ne_some (by omega))).set ⟨1 + z, uh, ua, us, Y⟩
  refine bodyPost_ret (v := (⟨1 + z, uh, ua, us, Y⟩ : Vo).val) (by simp [results, Try.results54, go_sem, r0, r1, r2, r3, r4]) rfl ?_
  exact draws_of ((HD.out.push s2 (by intro k hk; injection hk with hk; omega)).push o2 (by intro k hk; injection hk with hk; omega)) (by omega) ⟨⟨1 + z, uh, ua, us, Y⟩, rfl, by unfold VoBd; simp only; omega⟩
theorem l20Voice_d {w W : World} {g len cap p0 q : Nat} {A : Option Addr} (h : Drs w W g A len cap p0 q) (n : Int) (hq : q ≤ 900000000) (h0 : 0 ≤ n) (h1 : n ≤ 1000000000) :
    Calls Try.prog 54 #[.pointer (some ⟨g, 0, none⟩), .int .i64 n] W (Dr w W g A len cap p0 (q + 20) VoV) :=
  dr_of h 900000000 hq fun p hp hR => l20Voice_any g A len cap p n W hR hp h0 h1
end Go.Proofs.Ytmenehgbhgehjaa
