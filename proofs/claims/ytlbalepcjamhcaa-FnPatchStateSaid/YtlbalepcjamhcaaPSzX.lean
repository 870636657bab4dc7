/-
  The law that sizes of patches add up: its walk. No condition.
-/
import Derived.Test.YtlbalepcjamhcaaPLX
import Derived.Test.YtlbalepcjamhcaaTypedB
namespace Go.Proofs.Ytlbalepcjamhcaa
open Go.RowKit
set_option linter.unusedVariables false
set_option linter.unusedSimpArgs false
attribute [local go_sem ↓] Go.wp_at_zero Go.wp_at_succ
theorem Zones.drew {w0 w : World} {L : List Zn} (h : Zones w0 w L) : Zones w0 w.drew L := h.below ((Below.refl w.heap.size w).drew)
theorem Reads.first {w : World} {B size n k : Nat} {A : Option Addr} {xs : List Value} (h : Reads w B size A n xs) (hk : k ≤ n) : Reads w B size A k (xs.take (k * size)) := by
  refine ⟨by rw [List.length_take, h.1]; exact Nat.min_eq_left (Nat.mul_le_mul_right _ hk), fun hn => ?_⟩
  obtain ⟨ad, rfl, hb, hcell⟩ := h.2 (by omega)
  refine ⟨ad, rfl, hb, fun j u hu => hcell j u ?_⟩
  rw [List.getElem?_take] at hu
  split at hu
  · exact hu
  · cases hu
theorem pv_take : ∀ (ts : List TP) (vs : List Value) (k : Nat), (pv ts vs).take (k * 2) = pv (ts.take k) (vs.take k)
  | [], vs, k => by cases vs <;> cases k <;> simp [pv]
  | t :: ts, [], k => by cases k <;> simp [pv]
  | t :: ts, v :: vs, 0 => by simp [pv]
  | t :: ts, v :: vs, k + 1 => by
    rw [show (k + 1) * 2 = k * 2 + 1 + 1 by omega]
    simp only [pv, List.take_succ_cons, pv_take ts vs k]
theorem pv_drop : ∀ (ts : List TP) (vs : List Value) (k : Nat), vs.length = ts.length → (pv ts vs).drop (k * 2) = pv (ts.drop k) (vs.drop k)
  | [], [], k, _ => by simp [pv]
  | [], v :: vs, k, h => by simp at h
  | t :: ts, [], k, h => by simp at h
  | t :: ts, v :: vs, 0, _ => by simp [pv]
  | t :: ts, v :: vs, k + 1, h => by
    rw [show (k + 1) * 2 = k * 2 + 1 + 1 by omega]
    simp only [pv, List.drop_succ_cons, pv_drop ts vs k (by simpa using h)]
theorem PRd.first {w : World} {A : Option Addr} {n k : Nat} {ts : List TP} (h : PRd w A n ts) (hk : k ≤ n) : PRd w A k (ts.take k) := by
  obtain ⟨h1, vs, h2, h3, h4⟩ := h
  refine ⟨by rw [List.length_take]; omega, vs.take k, by rw [List.length_take]; omega, by rw [← pv_take]; exact h3.first hk, fun i hi => ?_⟩
  rw [show (vs.take k).getD i nilV = vs.getD i nilV by simp [List.getD_eq_getElem?_getD, List.getElem?_take, hi], show (ts.take k).getD i (0, []) = ts.getD i (0, []) by simp [List.getD_eq_getElem?_getD, List.getElem?_take, hi]]
  exact h4 i (by omega)
theorem PRd.rest {w : World} {A : Option Addr} {n k c : Nat} {ts : List TP} (h : PRd w A n ts) (hk : k ≤ n) (hc : n ≤ c) : PRd w (if c = k then A else A.map (·.add (k * 2))) (n - k) (ts.drop k) := by
  obtain ⟨h1, vs, h2, h3, h4⟩ := h
  refine ⟨by rw [List.length_drop]; omega, vs.drop k, by rw [List.length_drop]; omega, by rw [← pv_drop _ _ _ (by omega)]; exact h3.cut hk hc, fun i hi => ?_⟩
  rw [show (vs.drop k).getD i nilV = vs.getD (k + i) nilV by simp [List.getD_eq_getElem?_getD], show (ts.drop k).getD i (0, []) = ts.getD (k + i) (0, []) by simp [List.getD_eq_getElem?_getD]]
  exact h4 (k + i) (by omega)
theorem prd_nil (w : World) : PRd w none 0 [] := ⟨rfl, [], rfl, Reads.none_, fun i hi => by omega⟩
theorem psz_app (a b : List TP) : pszA (a ++ b) = pszA a + pszA b := by
  simp only [pszA, sumL, List.length_append, List.map_append, List.sum_append]
  omega
section
variable {o : Oper} {a : Act} {w : World} {K : Act → World → Prop} {Q : Exit → Act → World → Prop}
theorem ob_eqlI (x y : Operand) {u v : Int} (ho : o.op = .binOp .eql 3 x y 3) (hx : a.eval x = .int .i64 u) (hy : a.eval y = .int .i64 v) (he : u = v) (h : K (a.put o.dst (.bool true)) w) : o.wp Try.prog a w K Q := by
  subst he
  have hr : (binOp .eql 3 (.int .i64 u) (.int .i64 u)).run Try.prog w = .ok (.bool true) w := by simp [go_sem]
  have hq : (eqGuard .eql 3 x y (.int .i64 u) (.int .i64 u)).run Try.prog w = .ok () w := by simp [eqGuard, go_sem]
  unfold Oper.wp execOp
  simp only [ho, hx, hy, hr, hq, Sem.run_bind, Sem.run_pure, Result.andThen_ok]
  exact h
theorem ob_geqI (x y : Operand) {u v : Int} (ho : o.op = .binOp .geq 3 x y 3) (hx : a.eval x = .int .i64 u) (hy : a.eval y = .int .i64 v) (he : v ≤ u) (h : K (a.put o.dst (.bool true)) w) : o.wp Try.prog a w K Q := by
  have hr : (binOp .geq 3 (.int .i64 u) (.int .i64 v)).run Try.prog w = .ok (.bool true) w := by simp [go_sem, he]
  have hq : (eqGuard .geq 3 x y (.int .i64 u) (.int .i64 v)).run Try.prog w = .ok () w := by simp [eqGuard, go_sem]
  unfold Oper.wp execOp
  simp only [ho, hx, hy, hr, hq, Sem.run_bind, Sem.run_pure, Result.andThen_ok]
  exact h
theorem ob_lenP (x : Operand) {A : Option Addr} {n c : Nat} (ho : o.op = .call { callee := .builtin .len, args := #[x], argTypes := #[25] }) (hx : a.eval x = .slice A n c) (h : K (a.put o.dst (.int .i64 n)) w) : o.wp Try.prog a w K Q := by
  have hr : ∀ ty, (Builtin.len_ #[25] ty #[.slice A n c]).run Try.prog w = .ok (.int .i64 n) w := by intro ty; simp [go_sem]
  unfold Oper.wp execOp
  simp only [ho, resolve, invoke, builtin, Sem.run_bind, Sem.run_pure, Result.andThen_ok, List.map_toArray, List.map_cons, List.map_nil, hx, hr]
  exact h
theorem ob_sliceHi (x y : Operand) {A : Option Addr} {n c m : Nat} (ho : o.op = .slice 25 x none (some y) none) (hx : a.eval x = .slice A n c) (hy : a.eval y = .int .i64 (m : Int)) (hm : m ≤ c)
    (h : K (a.put o.dst (.slice A m c)) w) : o.wp Try.prog a w K Q := by
  have hm2 : (m : Int) ≤ (c : Int) := by omega
  have hr : (Instr.sliceAt 25 (.slice A n c) none (some (.int .i64 (m : Int))) none).run Try.prog w = .ok (.slice A m c) w := by simp [go_sem, hm2]
  unfold Oper.wp execOp
  simp only [ho, hx, hy, Option.map_none, Option.map_some, Sem.run_bind, Sem.run_pure, Result.andThen_ok, hr]
  exact h
theorem ob_sliceLo (x y : Operand) {A : Option Addr} {n c m : Nat} (ho : o.op = .slice 25 x (some y) none none) (hx : a.eval x = .slice A n c) (hy : a.eval y = .int .i64 (m : Int)) (hm : m ≤ n) (hc : n ≤ c) (hne : ¬ c = m) (hs : 0 ≤ m)
    (h : K (a.put o.dst (.slice (A.map (·.add (m * 2))) (n - m) (c - m))) w) : o.wp Try.prog a w K Q := by
  have hm2 : (m : Int) ≤ (c : Int) := by omega
  have hm3 : (m : Int) ≤ (n : Int) := by omega
  have hm4 : (n : Int) ≤ (c : Int) := by omega
  have hr : (Instr.sliceAt 25 (.slice A n c) (some (.int .i64 (m : Int))) none none).run Try.prog w = .ok (.slice (A.map (·.add (m * 2))) (n - m) (c - m)) w := by simp [go_sem, hm2, hm3, hm4, hne]
  unfold Oper.wp execOp
  simp only [ho, hx, hy, Option.map_none, Option.map_some, Sem.run_bind, Sem.run_pure, Result.andThen_ok, hr]
  exact h
theorem ob_sliceLoC (x y : Operand) {A : Option Addr} {n c m : Nat} (ho : o.op = .slice 25 x (some y) none none) (hx : a.eval x = .slice A n c) (hy : a.eval y = .int .i64 (m : Int)) (hm : m ≤ n) (hc : n ≤ c) (hne : c = m) (hs : 0 ≤ m)
    (h : K (a.put o.dst (.slice A (n - m) (c - m))) w) : o.wp Try.prog a w K Q := by
  have hm2 : (m : Int) ≤ (c : Int) := by omega
  have hm3 : (m : Int) ≤ (n : Int) := by omega
  have hm4 : (n : Int) ≤ (c : Int) := by omega
  have hr : (Instr.sliceAt 25 (.slice A n c) (some (.int .i64 (m : Int))) none none).run Try.prog w = .ok (.slice A (n - m) (c - m)) w := by
    obtain rfl : m = c := hne.symm
    obtain rfl : n = m := by omega
    simp [go_sem]
  unfold Oper.wp execOp
  simp only [ho, hx, hy, Option.map_none, Option.map_some, Sem.run_bind, Sem.run_pure, Result.andThen_ok, hr]
  exact h
end
theorem psz_B {w : World} {f : FuncId} {S : Int} {x v : Value} (h : Calls Try.prog f #[x] w fun e w' => e = .returned (.int .i64 S) ∧ Below w.heap.size w w') (d : IsVal x w v) : Calls Try.prog f #[v] w fun e w2 => ∃ u, e = .returned u ∧ IntIn S S w2 u ∧ Below w.heap.size w w2 := by
  cases d
  exact h.mono fun e w2 ⟨h1, h2⟩ => ⟨_, h1, ⟨S, rfl, Int.le_refl _, Int.le_refl _⟩, h2⟩
theorem alive_B {w : World} : Calls Try.prog 17 #[] w fun e w2 => ∃ u, e = .returned u ∧ IsVal (.bool true) w2 u ∧ Below w.heap.size w w2 :=
  (alive_any w).mono fun e w2 ⟨h1, h2⟩ => ⟨_, h1, rfl, by subst h2; exact Below.refl _ _⟩
set_option maxHeartbeats 4000000 in
set_option maxRecDepth 100000 in
theorem fnPatchSize_walk (w : World) (A : Option Addr) (n c : Nat) (zs : List Int) (h : IsRow .u8 w A n c zs) :
    Calls Try.prog 4 #[.slice A n c] w fun e w' => e = .returned (.bool true) ∧ Below w.heap.size w w' := by
  by_cases hlong : 1048576 < n
  · go_enter Try.func4, Try.ntmps4
    go_wp2_with fail
    go_ret
    exact ⟨rfl, Below.refl _ _⟩
  have HI := Lib.hid h
  clear h
  go_enter Try.func4, Try.ntmps4
  go_wp2_with fail
  refine (drawPatchSize_any A n c zs _ HI.out).mono ?_
  rintro e w1 ⟨A1, c1, ts, rfl, hp, hc, hz, hb⟩
  have HP := Lib.hid hp
  have HBW := Lib.hid hb
  have hw1 := hb.size
  have hZ := Lib.hid (Zones.start w1)
  obtain ⟨L, hL⟩ : ∃ L, L = ts.length := ⟨_, rfl⟩
  rw [← hL] at HP hc ⊢
  have hLz : L ≤ 2000 := by unfold pszA at hz; omega
  obtain ⟨m, hm⟩ : ∃ m, m = L / 2 := ⟨_, rfl⟩
  have hmL : m ≤ L := by omega
  have q1 : (L : Int).tdiv 2 = (m : Int) := by rw [Int.tdiv_eq_ediv_of_nonneg (by omega)]; omega
  have q2 : (L : Int) / 2 = (m : Int) := by omega
  have q3 : (m : Int) ≤ (c1 : Int) := by omega
  have q4 : (0 : Int) ≤ (m : Int) := by omega
  have q5 : (m : Int) ≤ (L : Int) := by omega
  have HP1 := Lib.hid (HP.out.first hmL)
  have HP2 := Lib.hid (HP.out.rest hmL hc)
  have hadd : pszA ts = pszA (ts.take m) + pszA (ts.drop m) := by rw [← psz_app, List.take_append_drop]
  have hn1 : 0 ≤ pszA (ts.take m) := by unfold pszA; omega
  have hn2 : 0 ≤ pszA (ts.drop m) := by unfold pszA; omega
  have hge : 2 * (L : Int) ≤ pszA ts := by rw [hL]; unfold pszA; omega
  replace hm := Lib.hid hm
  replace hL := Lib.hid hL
  have hzP : pszA ts ≤ 1000000000 := by omega
  have hzP1 : pszA (ts.take m) ≤ 1000000000 := by omega
  have hzP2 : pszA (ts.drop m) ≤ 1000000000 := by omega
  have k1 := Lib.hid (fun w (hw : PRd w A1 L ts) => patchSize_impl A1 L c1 ts w hw hzP)
  have k2 := Lib.hid (fun w (hw : PRd w A1 L ts) => patchSize_spec A1 L c1 ts w hw hzP)
  have k3 := Lib.hid (fun w hw => patchSize_impl A1 m c1 (ts.take m) w hw hzP1)
  have k4 := Lib.hid (fun w hw => patchSize_impl (if c1 = m then A1 else A1.map (·.add (m * 2))) (L - m) (c1 - m) (ts.drop m) w hw hzP2)
  have k5 := Lib.hid (fun w hw => patchSize_impl none 0 0 [] w hw (by decide))
  generalize pszA ts = P at hadd hge k1 k2
  generalize pszA (ts.take m) = P1 at hadd hn1 k3 hzP1
  generalize pszA (ts.drop m) = P2 at hadd hn2 k4 hzP2
  have e1 : (P != P) = false := by simp
  have e2 : (P == P) = true := by simp
  have e3 : P ≥ 2 * (L : Int) := by omega
  replace hadd := Lib.hid hadd
  have e4 : pszA [] = 0 := by decide
  rw [e4] at k5
  clear hz hb hp hzP e4
  go_wp2_with fail
  refine (k1.out _ (HP.out.below hZ.out.bel)).mono ?_
  rintro e w' ⟨rfl, b⟩
  replace hZ := Lib.hid (hZ.out.below b)
  clear b
  go_wp2_with fail
  refine (k2.out _ (HP.out.below hZ.out.bel)).mono ?_
  rintro e w' ⟨rfl, b⟩
  replace hZ := Lib.hid (hZ.out.below b)
  clear b
  obtain ⟨W, hW⟩ : ∃ W, W = w' := ⟨_, rfl⟩
  subst hW
  have HPW := Lib.hid (HP.out.below hZ.out.bel)
  have G1 := Lib.hid (fun w' v (hJ : Below W.heap.size W w') (d : IsVal (.slice A1 m c1) w' v) => psz_B (k3.out w' ((HPW.out.below hJ).first hmL)) d)
  have G3 := Lib.hid (fun w' (hJ : Below W.heap.size W w') => psz_B (k5.out w' (prd_nil _)) (rfl : IsVal (.slice none 0 0) w' (.slice none 0 0)))
  by_cases hcm : c1 = m
  · have G2 := Lib.hid (fun w' v (hJ : Below W.heap.size W w') (d : IsVal (.slice A1 (L - m) (c1 - m)) w' v) => psz_B (k4.out w' ((HPW.out.below hJ).rest hmL hc)) (by rw [if_pos hcm]; exact d))
    replace hcm := Lib.hid hcm
    go_upto_region 8 with (fail)
    replace hcm := hcm.out
    have hadd2 := hadd.out
    refine region_list none (IntIn (P) (P) :: IsVal (.slice A1 L c1) :: IntIn ((m : Int)) ((m : Int)) :: IsVal (.slice A1 m c1) :: IntIn (P1) (P1) :: IsVal (.slice A1 L c1) :: IntIn ((m : Int)) ((m : Int)) :: IsVal (.slice A1 (L - m) (c1 - m)) :: IntIn (P2) (P2) :: IntIn (P1 + P2) (P1 + P2) :: IsVal (.bool true) :: IsVal (.bool true) :: IntIn (0) (0) :: IsVal (.bool true) :: IsVal (.bool true) :: IsVal (.bool true) :: IntIn (P) (P) :: IsVal (.slice A1 L c1) :: IntIn ((L : Int)) ((L : Int)) :: IntIn ((L : Int) * 2) (((L : Int)) * 2) :: IsVal (.bool true) :: IsVal (.bool true) :: IsVal (.bool true) :: IsVal (.bool true) :: IsVal (.bool true) :: IsVal (.bool true) :: []) (fun _ w' => Below (W).heap.size (W) w') ?_ ?_ ?_ ?_ ?_ ?_ ?_
    · kernel_rfl
    · exact ⟨(fun _ _ _ _ h => h), (fun _ _ _ _ h => h), (fun _ _ _ _ h => h), (fun _ _ _ _ h => h), (fun _ _ _ _ h => h), (fun _ _ _ _ h => h), (fun _ _ _ _ h => h), (fun _ _ _ _ h => h), (fun _ _ _ _ h => h), (fun _ _ _ _ h => h), (fun _ _ _ _ h => h), (fun _ _ _ _ h => h), (fun _ _ _ _ h => h), (fun _ _ _ _ h => h), (fun _ _ _ _ h => h), (fun _ _ _ _ h => h), (fun _ _ _ _ h => h), (fun _ _ _ _ h => h), (fun _ _ _ _ h => h), (fun _ _ _ _ h => h), (fun _ _ _ _ h => h), (fun _ _ _ _ h => h), (fun _ _ _ _ h => h), (fun _ _ _ _ h => h), (fun _ _ _ _ h => h), (fun _ _ _ _ h => h), trivial⟩
    · exact of_decide_eq_true (by kernel_rfl)
    · kernel_rfl
    · exact (Below.refl _ _).drew
    · refine each_cons ?_ (each_cons ?_ (each_cons ?_ (each_cons ?_ (each_cons ?_ (each_cons ?_ (each_cons ?_ (each_cons ?_ (each_cons ?_ (each_cons ?_ (each_cons ?_ (each_cons ?_ (each_cons ?_ (each_cons ?_ (each_cons ?_ (each_cons ?_ (each_cons ?_ (each_cons ?_ (each_cons ?_ (each_cons ?_ (each_cons ?_ (each_cons ?_ (each_cons ?_ (each_cons ?_ (each_cons ?_ (each_cons ?_ ( trivial))))))))))))))))))))))))))
      · intro n vs aa w' haa hJ hd K hK
        refine ob_plain rfl ?_
        refine ob_move _ (v := .int .i64 (P)) rfl (ev_of haa (by kernel_rfl)) ?_
        refine hK _ _ ?_ (World.grownBy.refl _ _) hJ
        show (IntIn (P) (P)) w' _
        exact ⟨_, rfl, Int.le_refl _, Int.le_refl _⟩
      · intro n vs aa w' haa hJ hd K hK
        refine ob_plain rfl ?_
        refine ob_move _ (v := .slice A1 L c1) rfl (ev_of haa (by kernel_rfl)) ?_
        refine hK _ _ ?_ (World.grownBy.refl _ _) hJ
        show (IsVal (.slice A1 L c1)) w' _
        exact rfl
      · intro n vs aa w' haa hJ hd K hK
        refine ob_plain rfl ?_
        refine ob_move _ (v := .int .i64 ((m : Int))) rfl (ev_of haa (by kernel_rfl)) ?_
        refine hK _ _ ?_ (World.grownBy.refl _ _) hJ
        show (IntIn ((m : Int)) ((m : Int))) w' _
        exact ⟨_, rfl, Int.le_refl _, Int.le_refl _⟩
      · intro n vs aa w' haa hJ hd K hK
        refine ob_plain rfl ?_
        have d1 : (IsVal (.slice A1 L c1)) w' (vs 1) := hd.1 rfl
        have e1 := d1
        have d2 : (IntIn ((m : Int)) ((m : Int))) w' (vs 2) := hd.2.1 rfl
        obtain ⟨x2, e2, l2, u2⟩ := d2
        obtain rfl : x2 = (m : Int) := by omega
        refine ob_sliceHi _ _ (m := m) rfl (Eq.trans (b := vs 1) (ev_of haa (by kernel_rfl)) e1) (Eq.trans (b := vs 2) (ev_of haa (by kernel_rfl)) e2) (by omega) ?_
        refine hK _ _ ?_ (World.grownBy.refl _ _) hJ
        show (IsVal (.slice A1 m c1)) w' _
        exact rfl
      · intro n vs aa w' haa hJ hd K hK
        refine ob_plain rfl ?_
        have d3 : (IsVal (.slice A1 m c1)) w' (vs 3) := hd.1 rfl
        refine ob_call 14 _ _ #[vs 3] rfl (evs_of haa (by kernel_rfl)) (fun _ _ => by kernel_rfl) ?_
        refine ((G1.out _ _ hJ) d3).mono ?_
        rintro e w2 ⟨v, rfl, hv, hb2⟩
        refine ⟨_, rfl, ?_⟩
        refine hK _ _ ?_ (grown_of_below hb2 _) (below_step hJ hb2 hJ.size)
        show (IntIn (P1) (P1)) w2 _
        exact hv
      · intro n vs aa w' haa hJ hd K hK
        refine ob_plain rfl ?_
        refine ob_move _ (v := .slice A1 L c1) rfl (ev_of haa (by kernel_rfl)) ?_
        refine hK _ _ ?_ (World.grownBy.refl _ _) hJ
        show (IsVal (.slice A1 L c1)) w' _
        exact rfl
      · intro n vs aa w' haa hJ hd K hK
        refine ob_plain rfl ?_
        refine ob_move _ (v := .int .i64 ((m : Int))) rfl (ev_of haa (by kernel_rfl)) ?_
        refine hK _ _ ?_ (World.grownBy.refl _ _) hJ
        show (IntIn ((m : Int)) ((m : Int))) w' _
        exact ⟨_, rfl, Int.le_refl _, Int.le_refl _⟩
      · intro n vs aa w' haa hJ hd K hK
        refine ob_plain rfl ?_
        have d5 : (IsVal (.slice A1 L c1)) w' (vs 5) := hd.1 rfl
        have e5 := d5
        have d6 : (IntIn ((m : Int)) ((m : Int))) w' (vs 6) := hd.2.1 rfl
        obtain ⟨x6, e6, l6, u6⟩ := d6
        obtain rfl : x6 = (m : Int) := by omega
        refine ob_sliceLoC _ _ (m := m) rfl (Eq.trans (b := vs 5) (ev_of haa (by kernel_rfl)) e5) (Eq.trans (b := vs 6) (ev_of haa (by kernel_rfl)) e6) (by omega) (by omega) (by omega) (by omega) ?_
        refine hK _ _ ?_ (World.grownBy.refl _ _) hJ
        show (IsVal (.slice A1 (L - m) (c1 - m))) w' _
        exact rfl
      · intro n vs aa w' haa hJ hd K hK
        refine ob_plain rfl ?_
        have d7 : (IsVal (.slice A1 (L - m) (c1 - m))) w' (vs 7) := hd.1 rfl
        refine ob_call 14 _ _ #[vs 7] rfl (evs_of haa (by kernel_rfl)) (fun _ _ => by kernel_rfl) ?_
        refine ((G2.out _ _ hJ) d7).mono ?_
        rintro e w2 ⟨v, rfl, hv, hb2⟩
        refine ⟨_, rfl, ?_⟩
        refine hK _ _ ?_ (grown_of_below hb2 _) (below_step hJ hb2 hJ.size)
        show (IntIn (P2) (P2)) w2 _
        exact hv
      · intro n vs aa w' haa hJ hd K hK
        refine ob_plain rfl ?_
        have d4 : (IntIn (P1) (P1)) w' (vs 4) := hd.1 rfl
        obtain ⟨x4, e4, l4, u4⟩ := d4
        have d8 : (IntIn (P2) (P2)) w' (vs 8) := hd.2.1 rfl
        obtain ⟨x8, e8, l8, u8⟩ := d8
        refine ob_add _ _ (u := x4) (v := x8) rfl (Eq.trans (b := vs 4) (ev_of haa (by kernel_rfl)) e4) (Eq.trans (b := vs 8) (ev_of haa (by kernel_rfl)) e8) (by omega) ?_
        refine hK _ _ ?_ (World.grownBy.refl _ _) hJ
        show (IntIn (P1 + P2) (P1 + P2)) w' _
        exact ⟨_, rfl, by omega, by omega⟩
      · intro n vs aa w' haa hJ hd K hK
        refine ob_plain rfl ?_
        have d0 : (IntIn (P) (P)) w' (vs 0) := hd.1 rfl
        obtain ⟨x0, e0, l0, u0⟩ := d0
        have d9 : (IntIn (P1 + P2) (P1 + P2)) w' (vs 9) := hd.2.1 rfl
        obtain ⟨x9, e9, l9, u9⟩ := d9
        refine ob_eqlI _ _ (u := x0) (v := x9) rfl (Eq.trans (b := vs 0) (ev_of haa (by kernel_rfl)) e0) (Eq.trans (b := vs 9) (ev_of haa (by kernel_rfl)) e9) (by omega) ?_
        refine hK _ _ ?_ (World.grownBy.refl _ _) hJ
        show (IsVal (.bool true)) w' _
        exact rfl
      · intro n vs aa w' haa hJ hd K hK
        refine ob_plain rfl ?_
        have d10 : (IsVal (.bool true)) w' (vs 10) := hd.1 rfl
        refine ob_move _ (v := vs 10) rfl (ev_of haa (by kernel_rfl)) ?_
        refine hK _ _ ?_ (World.grownBy.refl _ _) hJ
        show (IsVal (.bool true)) w' _
        exact d10
      · intro n vs aa w' haa hJ hd K hK
        refine ob_guarded (v := vs 11) rfl rfl (ev_of haa (by kernel_rfl)) (hd.1 rfl) ?_
        refine ob_call 14 _ _ #[.slice none 0 0] rfl (evs_of haa (by kernel_rfl)) (fun _ _ => by kernel_rfl) ?_
        refine ((G3.out _ hJ) ).mono ?_
        rintro e w2 ⟨v, rfl, hv, hb2⟩
        refine ⟨_, rfl, ?_⟩
        refine hK _ _ ?_ (grown_of_below hb2 _) (below_step hJ hb2 hJ.size)
        show (IntIn (0) (0)) w2 _
        exact hv
      · intro n vs aa w' haa hJ hd K hK
        refine ob_guarded (v := vs 11) rfl rfl (ev_of haa (by kernel_rfl)) (hd.2.1 rfl) ?_
        have d12 : (IntIn (0) (0)) w' (vs 12) := hd.1 rfl
        obtain ⟨x12, e12, l12, u12⟩ := d12
        refine ob_eqlI _ _ (u := x12) (v := (0)) rfl (Eq.trans (b := vs 12) (ev_of haa (by kernel_rfl)) e12) (ev_of haa (by kernel_rfl)) (by omega) ?_
        refine hK _ _ ?_ (World.grownBy.refl _ _) hJ
        show (IsVal (.bool true)) w' _
        exact rfl
      · intro n vs aa w' haa hJ hd K hK
        refine ob_plain rfl ?_
        have d11 : (IsVal (.bool true)) w' (vs 11) := hd.1 rfl
        have e11 := d11
        have d13 : (IsVal (.bool true)) w' (vs 13) := hd.2.1 rfl
        have e13 := d13
        refine ob_pickT _ _ _ (v := .bool true) rfl (Eq.trans (b := vs 11) (ev_of haa (by kernel_rfl)) e11) (Eq.trans (b := vs 13) (ev_of haa (by kernel_rfl)) e13) ?_
        refine hK _ _ ?_ (World.grownBy.refl _ _) hJ
        show (IsVal (.bool true)) w' _
        exact rfl
      · intro n vs aa w' haa hJ hd K hK
        refine ob_plain rfl ?_
        have d14 : (IsVal (.bool true)) w' (vs 14) := hd.1 rfl
        refine ob_move _ (v := vs 14) rfl (ev_of haa (by kernel_rfl)) ?_
        refine hK _ _ ?_ (World.grownBy.refl _ _) hJ
        show (IsVal (.bool true)) w' _
        exact d14
      · intro n vs aa w' haa hJ hd K hK
        refine ob_guarded (v := vs 15) rfl rfl (ev_of haa (by kernel_rfl)) (hd.1 rfl) ?_
        refine ob_move _ (v := .int .i64 (P)) rfl (ev_of haa (by kernel_rfl)) ?_
        refine hK _ _ ?_ (World.grownBy.refl _ _) hJ
        show (IntIn (P) (P)) w' _
        exact ⟨_, rfl, Int.le_refl _, Int.le_refl _⟩
      · intro n vs aa w' haa hJ hd K hK
        refine ob_guarded (v := vs 15) rfl rfl (ev_of haa (by kernel_rfl)) (hd.1 rfl) ?_
        refine ob_move _ (v := .slice A1 L c1) rfl (ev_of haa (by kernel_rfl)) ?_
        refine hK _ _ ?_ (World.grownBy.refl _ _) hJ
        show (IsVal (.slice A1 L c1)) w' _
        exact rfl
      · intro n vs aa w' haa hJ hd K hK
        refine ob_guarded (v := vs 15) rfl rfl (ev_of haa (by kernel_rfl)) (hd.2.1 rfl) ?_
        have d17 : (IsVal (.slice A1 L c1)) w' (vs 17) := hd.1 rfl
        have e17 := d17
        refine ob_lenP _ rfl (Eq.trans (b := vs 17) (ev_of haa (by kernel_rfl)) e17) ?_
        refine hK _ _ ?_ (World.grownBy.refl _ _) hJ
        show (IntIn ((L : Int)) ((L : Int))) w' _
        exact ⟨_, rfl, Int.le_refl _, Int.le_refl _⟩
      · intro n vs aa w' haa hJ hd K hK
        refine ob_guarded (v := vs 15) rfl rfl (ev_of haa (by kernel_rfl)) (hd.2.1 rfl) ?_
        have d18 : (IntIn ((L : Int)) ((L : Int))) w' (vs 18) := hd.1 rfl
        obtain ⟨x18, e18, l18, u18⟩ := d18
        refine ob_mul _ _ (u := (2)) (v := x18) rfl (ev_of haa (by kernel_rfl)) (Eq.trans (b := vs 18) (ev_of haa (by kernel_rfl)) e18) (by omega) ?_
        refine hK _ _ ?_ (World.grownBy.refl _ _) hJ
        show (IntIn ((L : Int) * 2) (((L : Int)) * 2)) w' _
        exact ⟨_, rfl, by omega, by omega⟩
      · intro n vs aa w' haa hJ hd K hK
        refine ob_guarded (v := vs 15) rfl rfl (ev_of haa (by kernel_rfl)) (hd.2.2.1 rfl) ?_
        have d16 : (IntIn (P) (P)) w' (vs 16) := hd.1 rfl
        obtain ⟨x16, e16, l16, u16⟩ := d16
        have d19 : (IntIn ((L : Int) * 2) (((L : Int)) * 2)) w' (vs 19) := hd.2.1 rfl
        obtain ⟨x19, e19, l19, u19⟩ := d19
        refine ob_geqI _ _ (u := x16) (v := x19) rfl (Eq.trans (b := vs 16) (ev_of haa (by kernel_rfl)) e16) (Eq.trans (b := vs 19) (ev_of haa (by kernel_rfl)) e19) (by omega) ?_
        refine hK _ _ ?_ (World.grownBy.refl _ _) hJ
        show (IsVal (.bool true)) w' _
        exact rfl
      · intro n vs aa w' haa hJ hd K hK
        refine ob_plain rfl ?_
        have d15 : (IsVal (.bool true)) w' (vs 15) := hd.1 rfl
        have e15 := d15
        have d20 : (IsVal (.bool true)) w' (vs 20) := hd.2.1 rfl
        have e20 := d20
        refine ob_pickT _ _ _ (v := .bool true) rfl (Eq.trans (b := vs 15) (ev_of haa (by kernel_rfl)) e15) (Eq.trans (b := vs 20) (ev_of haa (by kernel_rfl)) e20) ?_
        refine hK _ _ ?_ (World.grownBy.refl _ _) hJ
        show (IsVal (.bool true)) w' _
        exact rfl
      · intro n vs aa w' haa hJ hd K hK
        refine ob_plain rfl ?_
        have d21 : (IsVal (.bool true)) w' (vs 21) := hd.1 rfl
        refine ob_move _ (v := vs 21) rfl (ev_of haa (by kernel_rfl)) ?_
        refine hK _ _ ?_ (World.grownBy.refl _ _) hJ
        show (IsVal (.bool true)) w' _
        exact d21
      · intro n vs aa w' haa hJ hd K hK
        refine ob_guarded (v := vs 22) rfl rfl (ev_of haa (by kernel_rfl)) (hd.1 rfl) ?_
        refine ob_call 17 _ _ #[] rfl (evs_of haa (by kernel_rfl)) (fun _ _ => by kernel_rfl) ?_
        refine (alive_B ).mono ?_
        rintro e w2 ⟨v, rfl, hv, hb2⟩
        refine ⟨_, rfl, ?_⟩
        refine hK _ _ ?_ (grown_of_below hb2 _) (below_step hJ hb2 hJ.size)
        show (IsVal (.bool true)) w2 _
        exact hv
      · intro n vs aa w' haa hJ hd K hK
        refine ob_plain rfl ?_
        have d22 : (IsVal (.bool true)) w' (vs 22) := hd.1 rfl
        have e22 := d22
        have d23 : (IsVal (.bool true)) w' (vs 23) := hd.2.1 rfl
        have e23 := d23
        refine ob_pickT _ _ _ (v := .bool true) rfl (Eq.trans (b := vs 22) (ev_of haa (by kernel_rfl)) e22) (Eq.trans (b := vs 23) (ev_of haa (by kernel_rfl)) e23) ?_
        refine hK _ _ ?_ (World.grownBy.refl _ _) hJ
        show (IsVal (.bool true)) w' _
        exact rfl
      · intro n vs aa w' haa hJ hd K hK
        refine ob_plain rfl ?_
        have d24 : (IsVal (.bool true)) w' (vs 24) := hd.1 rfl
        refine ob_assign _ (v := vs 24) rfl (ev_of haa (by kernel_rfl)) ?_
        refine hK _ _ ?_ (World.grownBy.refl _ _) hJ
        show (IsVal (.bool true)) w' _
        exact d24
    intro vs w' hJ hall
    have hx : vs 25 = .bool true := hall 25 (by decide)
    clear hall
    replace hZ := Lib.hid (hZ.out.below hJ)
    clear hJ
    simp only [fill, Act.put, List.toList_toArray, List.setIfInBounds_toArray, List.set_cons_zero, List.set_cons_succ, Nat.zero_add, Nat.reduceAdd, hx]
    go_wp2_with fail
    go_ret
    exact ⟨rfl, HBW.out.trans (hZ.out.bel.mono hw1)⟩
  · have G2 := Lib.hid (fun w' v (hJ : Below W.heap.size W w') (d : IsVal (.slice (A1.map (·.add (m * 2))) (L - m) (c1 - m)) w' v) => psz_B (k4.out w' ((HPW.out.below hJ).rest hmL hc)) (by rw [if_neg hcm]; exact d))
    go_upto_region 8 with (fail)
    have hadd2 := hadd.out
    refine region_list none (IntIn (P) (P) :: IsVal (.slice A1 L c1) :: IntIn ((m : Int)) ((m : Int)) :: IsVal (.slice A1 m c1) :: IntIn (P1) (P1) :: IsVal (.slice A1 L c1) :: IntIn ((m : Int)) ((m : Int)) :: IsVal (.slice (A1.map (·.add (m * 2))) (L - m) (c1 - m)) :: IntIn (P2) (P2) :: IntIn (P1 + P2) (P1 + P2) :: IsVal (.bool true) :: IsVal (.bool true) :: IntIn (0) (0) :: IsVal (.bool true) :: IsVal (.bool true) :: IsVal (.bool true) :: IntIn (P) (P) :: IsVal (.slice A1 L c1) :: IntIn ((L : Int)) ((L : Int)) :: IntIn ((L : Int) * 2) (((L : Int)) * 2) :: IsVal (.bool true) :: IsVal (.bool true) :: IsVal (.bool true) :: IsVal (.bool true) :: IsVal (.bool true) :: IsVal (.bool true) :: []) (fun _ w' => Below (W).heap.size (W) w') ?_ ?_ ?_ ?_ ?_ ?_ ?_
    · kernel_rfl
    · exact ⟨(fun _ _ _ _ h => h), (fun _ _ _ _ h => h), (fun _ _ _ _ h => h), (fun _ _ _ _ h => h), (fun _ _ _ _ h => h), (fun _ _ _ _ h => h), (fun _ _ _ _ h => h), (fun _ _ _ _ h => h), (fun _ _ _ _ h => h), (fun _ _ _ _ h => h), (fun _ _ _ _ h => h), (fun _ _ _ _ h => h), (fun _ _ _ _ h => h), (fun _ _ _ _ h => h), (fun _ _ _ _ h => h), (fun _ _ _ _ h => h), (fun _ _ _ _ h => h), (fun _ _ _ _ h => h), (fun _ _ _ _ h => h), (fun _ _ _ _ h => h), (fun _ _ _ _ h => h), (fun _ _ _ _ h => h), (fun _ _ _ _ h => h), (fun _ _ _ _ h => h), (fun _ _ _ _ h => h), (fun _ _ _ _ h => h), trivial⟩
    · exact of_decide_eq_true (by kernel_rfl)
    · kernel_rfl
    · exact (Below.refl _ _).drew
    · refine each_cons ?_ (each_cons ?_ (each_cons ?_ (each_cons ?_ (each_cons ?_ (each_cons ?_ (each_cons ?_ (each_cons ?_ (each_cons ?_ (each_cons ?_ (each_cons ?_ (each_cons ?_ (each_cons ?_ (each_cons ?_ (each_cons ?_ (each_cons ?_ (each_cons ?_ (each_cons ?_ (each_cons ?_ (each_cons ?_ (each_cons ?_ (each_cons ?_ (each_cons ?_ (each_cons ?_ (each_cons ?_ (each_cons ?_ ( trivial))))))))))))))))))))))))))
      · intro n vs aa w' haa hJ hd K hK
        refine ob_plain rfl ?_
        refine ob_move _ (v := .int .i64 (P)) rfl (ev_of haa (by kernel_rfl)) ?_
        refine hK _ _ ?_ (World.grownBy.refl _ _) hJ
        show (IntIn (P) (P)) w' _
        exact ⟨_, rfl, Int.le_refl _, Int.le_refl _⟩
      · intro n vs aa w' haa hJ hd K hK
        refine ob_plain rfl ?_
        refine ob_move _ (v := .slice A1 L c1) rfl (ev_of haa (by kernel_rfl)) ?_
        refine hK _ _ ?_ (World.grownBy.refl _ _) hJ
        show (IsVal (.slice A1 L c1)) w' _
        exact rfl
      · intro n vs aa w' haa hJ hd K hK
        refine ob_plain rfl ?_
        refine ob_move _ (v := .int .i64 ((m : Int))) rfl (ev_of haa (by kernel_rfl)) ?_
        refine hK _ _ ?_ (World.grownBy.refl _ _) hJ
        show (IntIn ((m : Int)) ((m : Int))) w' _
        exact ⟨_, rfl, Int.le_refl _, Int.le_refl _⟩
      · intro n vs aa w' haa hJ hd K hK
        refine ob_plain rfl ?_
        have d1 : (IsVal (.slice A1 L c1)) w' (vs 1) := hd.1 rfl
        have e1 := d1
        have d2 : (IntIn ((m : Int)) ((m : Int))) w' (vs 2) := hd.2.1 rfl
        obtain ⟨x2, e2, l2, u2⟩ := d2
        obtain rfl : x2 = (m : Int) := by omega
        refine ob_sliceHi _ _ (m := m) rfl (Eq.trans (b := vs 1) (ev_of haa (by kernel_rfl)) e1) (Eq.trans (b := vs 2) (ev_of haa (by kernel_rfl)) e2) (by omega) ?_
        refine hK _ _ ?_ (World.grownBy.refl _ _) hJ
        show (IsVal (.slice A1 m c1)) w' _
        exact rfl
      · intro n vs aa w' haa hJ hd K hK
        refine ob_plain rfl ?_
        have d3 : (IsVal (.slice A1 m c1)) w' (vs 3) := hd.1 rfl
        refine ob_call 14 _ _ #[vs 3] rfl (evs_of haa (by kernel_rfl)) (fun _ _ => by kernel_rfl) ?_
        refine ((G1.out _ _ hJ) d3).mono ?_
        rintro e w2 ⟨v, rfl, hv, hb2⟩
        refine ⟨_, rfl, ?_⟩
        refine hK _ _ ?_ (grown_of_below hb2 _) (below_step hJ hb2 hJ.size)
        show (IntIn (P1) (P1)) w2 _
        exact hv
      · intro n vs aa w' haa hJ hd K hK
        refine ob_plain rfl ?_
        refine ob_move _ (v := .slice A1 L c1) rfl (ev_of haa (by kernel_rfl)) ?_
        refine hK _ _ ?_ (World.grownBy.refl _ _) hJ
        show (IsVal (.slice A1 L c1)) w' _
        exact rfl
      · intro n vs aa w' haa hJ hd K hK
        refine ob_plain rfl ?_
        refine ob_move _ (v := .int .i64 ((m : Int))) rfl (ev_of haa (by kernel_rfl)) ?_
        refine hK _ _ ?_ (World.grownBy.refl _ _) hJ
        show (IntIn ((m : Int)) ((m : Int))) w' _
        exact ⟨_, rfl, Int.le_refl _, Int.le_refl _⟩
      · intro n vs aa w' haa hJ hd K hK
        refine ob_plain rfl ?_
        have d5 : (IsVal (.slice A1 L c1)) w' (vs 5) := hd.1 rfl
        have e5 := d5
        have d6 : (IntIn ((m : Int)) ((m : Int))) w' (vs 6) := hd.2.1 rfl
        obtain ⟨x6, e6, l6, u6⟩ := d6
        obtain rfl : x6 = (m : Int) := by omega
        refine ob_sliceLo _ _ (m := m) rfl (Eq.trans (b := vs 5) (ev_of haa (by kernel_rfl)) e5) (Eq.trans (b := vs 6) (ev_of haa (by kernel_rfl)) e6) (by omega) (by omega) (by omega) (by omega) ?_
        refine hK _ _ ?_ (World.grownBy.refl _ _) hJ
        show (IsVal (.slice (A1.map (·.add (m * 2))) (L - m) (c1 - m))) w' _
        exact rfl
      · intro n vs aa w' haa hJ hd K hK
        refine ob_plain rfl ?_
        have d7 : (IsVal (.slice (A1.map (·.add (m * 2))) (L - m) (c1 - m))) w' (vs 7) := hd.1 rfl
        refine ob_call 14 _ _ #[vs 7] rfl (evs_of haa (by kernel_rfl)) (fun _ _ => by kernel_rfl) ?_
        refine ((G2.out _ _ hJ) d7).mono ?_
        rintro e w2 ⟨v, rfl, hv, hb2⟩
        refine ⟨_, rfl, ?_⟩
        refine hK _ _ ?_ (grown_of_below hb2 _) (below_step hJ hb2 hJ.size)
        show (IntIn (P2) (P2)) w2 _
        exact hv
      · intro n vs aa w' haa hJ hd K hK
        refine ob_plain rfl ?_
        have d4 : (IntIn (P1) (P1)) w' (vs 4) := hd.1 rfl
        obtain ⟨x4, e4, l4, u4⟩ := d4
        have d8 : (IntIn (P2) (P2)) w' (vs 8) := hd.2.1 rfl
        obtain ⟨x8, e8, l8, u8⟩ := d8
        refine ob_add _ _ (u := x4) (v := x8) rfl (Eq.trans (b := vs 4) (ev_of haa (by kernel_rfl)) e4) (Eq.trans (b := vs 8) (ev_of haa (by kernel_rfl)) e8) (by omega) ?_
        refine hK _ _ ?_ (World.grownBy.refl _ _) hJ
        show (IntIn (P1 + P2) (P1 + P2)) w' _
        exact ⟨_, rfl, by omega, by omega⟩
      · intro n vs aa w' haa hJ hd K hK
        refine ob_plain rfl ?_
        have d0 : (IntIn (P) (P)) w' (vs 0) := hd.1 rfl
        obtain ⟨x0, e0, l0, u0⟩ := d0
        have d9 : (IntIn (P1 + P2) (P1 + P2)) w' (vs 9) := hd.2.1 rfl
        obtain ⟨x9, e9, l9, u9⟩ := d9
        refine ob_eqlI _ _ (u := x0) (v := x9) rfl (Eq.trans (b := vs 0) (ev_of haa (by kernel_rfl)) e0) (Eq.trans (b := vs 9) (ev_of haa (by kernel_rfl)) e9) (by omega) ?_
        refine hK _ _ ?_ (World.grownBy.refl _ _) hJ
        show (IsVal (.bool true)) w' _
        exact rfl
      · intro n vs aa w' haa hJ hd K hK
        refine ob_plain rfl ?_
        have d10 : (IsVal (.bool true)) w' (vs 10) := hd.1 rfl
        refine ob_move _ (v := vs 10) rfl (ev_of haa (by kernel_rfl)) ?_
        refine hK _ _ ?_ (World.grownBy.refl _ _) hJ
        show (IsVal (.bool true)) w' _
        exact d10
      · intro n vs aa w' haa hJ hd K hK
        refine ob_guarded (v := vs 11) rfl rfl (ev_of haa (by kernel_rfl)) (hd.1 rfl) ?_
        refine ob_call 14 _ _ #[.slice none 0 0] rfl (evs_of haa (by kernel_rfl)) (fun _ _ => by kernel_rfl) ?_
        refine ((G3.out _ hJ) ).mono ?_
        rintro e w2 ⟨v, rfl, hv, hb2⟩
        refine ⟨_, rfl, ?_⟩
        refine hK _ _ ?_ (grown_of_below hb2 _) (below_step hJ hb2 hJ.size)
        show (IntIn (0) (0)) w2 _
        exact hv
      · intro n vs aa w' haa hJ hd K hK
        refine ob_guarded (v := vs 11) rfl rfl (ev_of haa (by kernel_rfl)) (hd.2.1 rfl) ?_
        have d12 : (IntIn (0) (0)) w' (vs 12) := hd.1 rfl
        obtain ⟨x12, e12, l12, u12⟩ := d12
        refine ob_eqlI _ _ (u := x12) (v := (0)) rfl (Eq.trans (b := vs 12) (ev_of haa (by kernel_rfl)) e12) (ev_of haa (by kernel_rfl)) (by omega) ?_
        refine hK _ _ ?_ (World.grownBy.refl _ _) hJ
        show (IsVal (.bool true)) w' _
        exact rfl
      · intro n vs aa w' haa hJ hd K hK
        refine ob_plain rfl ?_
        have d11 : (IsVal (.bool true)) w' (vs 11) := hd.1 rfl
        have e11 := d11
        have d13 : (IsVal (.bool true)) w' (vs 13) := hd.2.1 rfl
        have e13 := d13
        refine ob_pickT _ _ _ (v := .bool true) rfl (Eq.trans (b := vs 11) (ev_of haa (by kernel_rfl)) e11) (Eq.trans (b := vs 13) (ev_of haa (by kernel_rfl)) e13) ?_
        refine hK _ _ ?_ (World.grownBy.refl _ _) hJ
        show (IsVal (.bool true)) w' _
        exact rfl
      · intro n vs aa w' haa hJ hd K hK
        refine ob_plain rfl ?_
        have d14 : (IsVal (.bool true)) w' (vs 14) := hd.1 rfl
        refine ob_move _ (v := vs 14) rfl (ev_of haa (by kernel_rfl)) ?_
        refine hK _ _ ?_ (World.grownBy.refl _ _) hJ
        show (IsVal (.bool true)) w' _
        exact d14
      · intro n vs aa w' haa hJ hd K hK
        refine ob_guarded (v := vs 15) rfl rfl (ev_of haa (by kernel_rfl)) (hd.1 rfl) ?_
        refine ob_move _ (v := .int .i64 (P)) rfl (ev_of haa (by kernel_rfl)) ?_
        refine hK _ _ ?_ (World.grownBy.refl _ _) hJ
        show (IntIn (P) (P)) w' _
        exact ⟨_, rfl, Int.le_refl _, Int.le_refl _⟩
      · intro n vs aa w' haa hJ hd K hK
        refine ob_guarded (v := vs 15) rfl rfl (ev_of haa (by kernel_rfl)) (hd.1 rfl) ?_
        refine ob_move _ (v := .slice A1 L c1) rfl (ev_of haa (by kernel_rfl)) ?_
        refine hK _ _ ?_ (World.grownBy.refl _ _) hJ
        show (IsVal (.slice A1 L c1)) w' _
        exact rfl
      · intro n vs aa w' haa hJ hd K hK
        refine ob_guarded (v := vs 15) rfl rfl (ev_of haa (by kernel_rfl)) (hd.2.1 rfl) ?_
        have d17 : (IsVal (.slice A1 L c1)) w' (vs 17) := hd.1 rfl
        have e17 := d17
        refine ob_lenP _ rfl (Eq.trans (b := vs 17) (ev_of haa (by kernel_rfl)) e17) ?_
        refine hK _ _ ?_ (World.grownBy.refl _ _) hJ
        show (IntIn ((L : Int)) ((L : Int))) w' _
        exact ⟨_, rfl, Int.le_refl _, Int.le_refl _⟩
      · intro n vs aa w' haa hJ hd K hK
        refine ob_guarded (v := vs 15) rfl rfl (ev_of haa (by kernel_rfl)) (hd.2.1 rfl) ?_
        have d18 : (IntIn ((L : Int)) ((L : Int))) w' (vs 18) := hd.1 rfl
        obtain ⟨x18, e18, l18, u18⟩ := d18
        refine ob_mul _ _ (u := (2)) (v := x18) rfl (ev_of haa (by kernel_rfl)) (Eq.trans (b := vs 18) (ev_of haa (by kernel_rfl)) e18) (by omega) ?_
        refine hK _ _ ?_ (World.grownBy.refl _ _) hJ
        show (IntIn ((L : Int) * 2) (((L : Int)) * 2)) w' _
        exact ⟨_, rfl, by omega, by omega⟩
      · intro n vs aa w' haa hJ hd K hK
        refine ob_guarded (v := vs 15) rfl rfl (ev_of haa (by kernel_rfl)) (hd.2.2.1 rfl) ?_
        have d16 : (IntIn (P) (P)) w' (vs 16) := hd.1 rfl
        obtain ⟨x16, e16, l16, u16⟩ := d16
        have d19 : (IntIn ((L : Int) * 2) (((L : Int)) * 2)) w' (vs 19) := hd.2.1 rfl
        obtain ⟨x19, e19, l19, u19⟩ := d19
        refine ob_geqI _ _ (u := x16) (v := x19) rfl (Eq.trans (b := vs 16) (ev_of haa (by kernel_rfl)) e16) (Eq.trans (b := vs 19) (ev_of haa (by kernel_rfl)) e19) (by omega) ?_
        refine hK _ _ ?_ (World.grownBy.refl _ _) hJ
        show (IsVal (.bool true)) w' _
        exact rfl
      · intro n vs aa w' haa hJ hd K hK
        refine ob_plain rfl ?_
        have d15 : (IsVal (.bool true)) w' (vs 15) := hd.1 rfl
        have e15 := d15
        have d20 : (IsVal (.bool true)) w' (vs 20) := hd.2.1 rfl
        have e20 := d20
        refine ob_pickT _ _ _ (v := .bool true) rfl (Eq.trans (b := vs 15) (ev_of haa (by kernel_rfl)) e15) (Eq.trans (b := vs 20) (ev_of haa (by kernel_rfl)) e20) ?_
        refine hK _ _ ?_ (World.grownBy.refl _ _) hJ
        show (IsVal (.bool true)) w' _
        exact rfl
      · intro n vs aa w' haa hJ hd K hK
        refine ob_plain rfl ?_
        have d21 : (IsVal (.bool true)) w' (vs 21) := hd.1 rfl
        refine ob_move _ (v := vs 21) rfl (ev_of haa (by kernel_rfl)) ?_
        refine hK _ _ ?_ (World.grownBy.refl _ _) hJ
        show (IsVal (.bool true)) w' _
        exact d21
      · intro n vs aa w' haa hJ hd K hK
        refine ob_guarded (v := vs 22) rfl rfl (ev_of haa (by kernel_rfl)) (hd.1 rfl) ?_
        refine ob_call 17 _ _ #[] rfl (evs_of haa (by kernel_rfl)) (fun _ _ => by kernel_rfl) ?_
        refine (alive_B ).mono ?_
        rintro e w2 ⟨v, rfl, hv, hb2⟩
        refine ⟨_, rfl, ?_⟩
        refine hK _ _ ?_ (grown_of_below hb2 _) (below_step hJ hb2 hJ.size)
        show (IsVal (.bool true)) w2 _
        exact hv
      · intro n vs aa w' haa hJ hd K hK
        refine ob_plain rfl ?_
        have d22 : (IsVal (.bool true)) w' (vs 22) := hd.1 rfl
        have e22 := d22
        have d23 : (IsVal (.bool true)) w' (vs 23) := hd.2.1 rfl
        have e23 := d23
        refine ob_pickT _ _ _ (v := .bool true) rfl (Eq.trans (b := vs 22) (ev_of haa (by kernel_rfl)) e22) (Eq.trans (b := vs 23) (ev_of haa (by kernel_rfl)) e23) ?_
        refine hK _ _ ?_ (World.grownBy.refl _ _) hJ
        show (IsVal (.bool true)) w' _
        exact rfl
      · intro n vs aa w' haa hJ hd K hK
        refine ob_plain rfl ?_
        have d24 : (IsVal (.bool true)) w' (vs 24) := hd.1 rfl
        refine ob_assign _ (v := vs 24) rfl (ev_of haa (by kernel_rfl)) ?_
        refine hK _ _ ?_ (World.grownBy.refl _ _) hJ
        show (IsVal (.bool true)) w' _
        exact d24
    intro vs w' hJ hall
    have hx : vs 25 = .bool true := hall 25 (by decide)
    clear hall
    replace hZ := Lib.hid (hZ.out.below hJ)
    clear hJ
    simp only [fill, Act.put, List.toList_toArray, List.setIfInBounds_toArray, List.set_cons_zero, List.set_cons_succ, Nat.zero_add, Nat.reduceAdd, hx]
    go_wp2_with fail
    go_ret
    exact ⟨rfl, HBW.out.trans (hZ.out.bel.mono hw1)⟩
end Go.Proofs.Ytlbalepcjamhcaa
