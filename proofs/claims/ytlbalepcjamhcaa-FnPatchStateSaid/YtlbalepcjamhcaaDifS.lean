/-
  DiffStates of the reference. No condition but that lengths stay in range.
-/
import Derived.Test.YtlbalepcjamhcaaDif
import Derived.Test.YtlbalepcjamhcaaTypedT
import Derived.Test.YtlbalepcjamhcaaRd
import Derived.Deep.Cut
namespace Go.Proofs.Ytlbalepcjamhcaa
open Go.RowKit
set_option linter.unusedVariables false
set_option linter.unusedSimpArgs false
attribute [local go_sem ↓] Go.wp_at_zero Go.wp_at_succ
theorem pown_lit (w : World) : POwn (w.alloc (.cells #[] 45)) w.heap.size (w.alloc (.cells #[] 45)).heap.size (some ⟨w.heap.size, 0, none⟩) 0 [] [] :=
  ⟨World.ownsRow_lit w #[] 0 (Nat.le_refl _) (by simp [maxLen]) rfl, rfl, (fun i hi => by simp at hi), (fun g hg => by simp [Value.ownBlock] at hg; subst hg; simp), (fun i hi => by simp at hi), (fun i j _ hj => by simp at hj)⟩
section
variable {o : Oper} {a : Act} {w : World} {K : Act → World → Prop} {Q : Exit → Act → World → Prop}
theorem ob_fldP (x : Operand) (f : Nat) {g : Nat} (ho : o.op = .fieldAddr 45 x f) (hf : f = 0 ∨ f = 1) (hx : a.eval x = .pointer (some ⟨g, 0, none⟩)) (h : K (a.put o.dst (.pointer (some ⟨g, f, none⟩))) w) : o.wp Try.prog a w K Q := by
  have hr : (Instr.fieldAt 45 (.pointer (some ⟨g, 0, none⟩)) f).run Try.prog w = .ok (.pointer (some ⟨g, f, none⟩)) w := by rcases hf with rfl | rfl <;> simp [go_sem]
  unfold Oper.wp execOp
  simp only [ho, hx, hr, Sem.run_bind, Sem.run_pure, Result.andThen_ok]
  exact h
theorem ob_loadS (x : Operand) {b j : Nat} {v : Value} (ho : o.op = .load 33 x) (hx : a.eval x = .pointer (some ⟨b, j, none⟩)) (hc : w.cell? ⟨b, j, none⟩ = some v)
    (h : K (a.put o.dst v) w) : o.wp Try.prog a w K Q := by
  have hr : (Instr.loadAt 33 (.pointer (some ⟨b, j, none⟩))).run Try.prog w = .ok v w := by simp [go_sem, hc]
  unfold Oper.wp execOp
  simp only [ho, hx, hr, Sem.run_bind, Sem.run_pure, Result.andThen_ok]
  exact h
theorem ob_build1 (x0 : Operand) {u0 : Int} (ho : o.op = .buildSlice 33 1 #[(0, x0)]) (h0 : a.eval x0 = .int .i64 u0)
    (h : K (a.put o.dst (.slice (some ⟨w.heap.size, 0, none⟩) 1 1)) (w.alloc (.cells #[.int .i64 u0] 3))) : o.wp Try.prog a w K Q := by
  have hr : (Instr.buildSlice 33 1 #[(0, .int .i64 u0)]).run Try.prog w = .ok (.slice (some ⟨w.heap.size, 0, none⟩) 1 1) (w.alloc (.cells #[.int .i64 u0] 3)) := by simp [go_sem]
  unfold Oper.wp execOp
  simp only [ho, Sem.run_bind, Sem.run_pure, Result.andThen_ok, List.map_toArray, List.map_cons, List.map_nil, h0, hr]
  exact h
end
def LitI (lo : Nat) (y : Int) (w : World) (v : Value) : Prop := ∃ b, v = .slice (some ⟨b, 0, none⟩) 1 1 ∧ lo ≤ b ∧ b < w.heap.size ∧ w.cell? ⟨b, 0, none⟩ = some (.int .i64 y)
theorem st_litI (lo : Nat) (y : Int) : Stable none (LitI lo y) := by
  rintro w w' v hg ⟨b, rfl, hlo, hb, hc⟩
  exact ⟨b, rfl, hlo, Nat.lt_of_lt_of_le hb hg.size, (World.cell?_of_block (hg.block b hb (by simp))).trans hc⟩
theorem litI_ints {lo : Nat} {y : Int} {w : World} {b : Nat} (hb : b < w.heap.size) (hc : w.cell? ⟨b, 0, none⟩ = some (.int .i64 y)) : Ints w w.heap.size (some ⟨b, 0, none⟩) 1 [y] := by
  refine ⟨by simp [iv], fun _ => ⟨_, rfl, hb, fun j u hu => ?_⟩⟩
  match j, hu with
  | 0, hu => simp [iv] at hu; subst hu; simpa [Addr.add] using hc
set_option maxHeartbeats 4000000 in
theorem diffStates_spec (A B : Option Addr) (n m cA cB : Nat) (a b : List Int) (w : World) (ha : Ints w w.heap.size A n a) (hb : Ints w w.heap.size B m b) (hna : n ≤ 1000000000) (hnb : m ≤ 1000000000) (hcB : m ≤ cB) :
    Calls Try.prog 18 #[.slice A n cA, .slice B m cB] w (GivesP w (diffR a b)) := by
  have hla := ha.len
  have hlb := hb.len
  have hba : Below w.heap.size w (w.alloc (.cells #[] 45)) := by go_grown
  have HA0 := Lib.hid ha
  have HB0 := Lib.hid hb
  have HA := Lib.hid (ha.step (Nat.le_refl _) hba)
  have HB := Lib.hid (hb.step (Nat.le_refl _) hba)
  clear ha hb
  cases sa : stB a
  · rw [show diffR a b = [] by simp [diffR, sa]]
    have sb := trivial
    go_enter Try.func18, Try.ntmps18
    go_wp2_with (first | (go_at_call 38; with_reducible refine (l16Bytes_any _ _ _ a _ HA.out hna).mono ?_; rintro e w' ⟨rfl, rfl⟩; rw [sa]) | (go_at_call 38; with_reducible refine (l16Bytes_any _ _ _ b _ HB.out hnb).mono ?_; rintro e w' ⟨rfl, rfl⟩; rw [sb]))
    go_ret
    exact ⟨some ⟨w.heap.size, 0, none⟩, 0, [], rfl, pown_lit w, by go_grown⟩
  cases sb : stB b
  · rw [show diffR a b = [] by simp [diffR, sb]]
    go_enter Try.func18, Try.ntmps18
    go_wp2_with (first | (go_at_call 38; with_reducible refine (l16Bytes_any _ _ _ a _ HA.out hna).mono ?_; rintro e w' ⟨rfl, rfl⟩; rw [sa]) | (go_at_call 38; with_reducible refine (l16Bytes_any _ _ _ b _ HB.out hnb).mono ?_; rintro e w' ⟨rfl, rfl⟩; rw [sb]))
    go_ret
    exact ⟨some ⟨w.heap.size, 0, none⟩, 0, [], rfl, pown_lit w, by go_grown⟩
  by_cases hnm : n = m
  case neg =>
    rw [show diffR a b = [] by unfold diffR; rw [if_neg (by simp; intro _ _; omega)]]
    have hne : ((n : Int) != (m : Int)) = true := by simp; omega
    go_enter Try.func18, Try.ntmps18
    go_wp2_with (first | (go_at_call 38; with_reducible refine (l16Bytes_any _ _ _ a _ HA.out hna).mono ?_; rintro e w' ⟨rfl, rfl⟩; rw [sa]) | (go_at_call 38; with_reducible refine (l16Bytes_any _ _ _ b _ HB.out hnb).mono ?_; rintro e w' ⟨rfl, rfl⟩; rw [sb]))
    go_ret
    exact ⟨some ⟨w.heap.size, 0, none⟩, 0, [], rfl, pown_lit w, by go_grown⟩
  subst hnm
  have hr : diffR a b = dL 0 none a b := by unfold diffR; rw [if_pos (by rw [sa, sb]; simp; omega)]
  rw [hr]
  have hn5 : n ≤ 512 := by simp only [stB, Bool.and_eq_true, decide_eq_true_eq] at sa; omega
  have hne : ((n : Int) != (n : Int)) = false := by simp
  replace hr := Lib.hid hr
  go_enter Try.func18, Try.ntmps18
  go_wp2_with (first | (go_at_call 38; with_reducible refine (l16Bytes_any _ _ _ a _ HA.out hna).mono ?_; rintro e w' ⟨rfl, rfl⟩; rw [sa]) | (go_at_call 38; with_reducible refine (l16Bytes_any _ _ _ b _ HB.out hnb).mono ?_; rintro e w' ⟨rfl, rfl⟩; rw [sb]))
  go_loopw [5, 6, 7] (fun out e i wr => ∃ (k l : Nat) (A' : Option Addr) (c' : Nat) (os : List TP) (vs : List Value), k ≤ n ∧ l ≤ k ∧ i = .int .i64 k ∧ e = .int .i64 l ∧ out = .slice A' os.length c' ∧ os.length ≤ k ∧ POwn wr w.heap.size wr.heap.size A' c' os vs ∧ dL 0 none a b = os ++ dL (k - l) none (a.drop k) (b.drop k) ∧ Below w.heap.size w wr) (fun _ _ i _ => n - (intOf i).toNat)
  case atStart => exact ⟨0, 0, _, 0, [], [], Nat.zero_le _, Nat.le_refl _, rfl, rfl, rfl, Nat.le_refl _, pown_lit _, by simp, hba⟩
  case round =>
    obtain ⟨k, l, A', c', os, vs, hk, hlk, rfl, rfl, rfl, hol, hown, hall, hbw⟩ := hrel
    by_cases hlt : k < n
    · obtain ⟨b1, o1, e1, hb1, x1⟩ := (HA0.out.below hbw).spot hlt
      obtain ⟨b2, o2, e2, hb2, x2⟩ := (HB0.out.below hbw).spot hlt
      have q0 : (0 : Int) ≤ (k : Int) := by omega
      have q1 : (k : Int) < (n : Int) := by omega
      have HO := Lib.hid hown
      have HBW := Lib.hid hbw
      clear hown hbw
      subst e1 e2
      by_cases hxy : a.getD k 0 = b.getD k 0
      · have hst := dL_eq (g := k - l) (show k < a.length by omega) (show k < b.length by omega) hxy
        rw [hst, show k - l + 1 = k + 1 - l by omega] at hall
        have HALL := Lib.hid hall
        rw [hxy] at x1
        generalize b.getD k 0 = y at x1 x2
        have he : (y == y) = true := by simp
        clear hall hst hxy
        go_wp2_with fail
        go_quiet (fail)
        go_wp2_with fail
        go_roundw
        case rel => exact ⟨k + 1, l, A', c', os, vs, by omega, by omega, by go_num, rfl, rfl, by omega, HO.out.under (below_drewN (Below.refl _ _) _) (Nat.le_refl _), HALL.out, below_drewN HBW.out _⟩
        case measure => simp [intOf]; omega
      · have hop := dL_open (g := k - l) (show k < a.length by omega) (show k < b.length by omega) hxy
        rw [hop] at hall
        have HALL := Lib.hid hall
        have HXY := Lib.hid hxy
        have he : (a.getD k 0 == b.getD k 0) = false := by simp only [beq_eq_false_iff_ne]; exact hxy
        generalize a.getD k 0 = x at x1 he
        generalize b.getD k 0 = y at x2 he
        clear hall hop hxy
        go_wp2_with fail
        go_quiet (fail)
        obtain ⟨W, hW⟩ : ∃ W, W = wr.drewN nq := ⟨_, rfl⟩
        rw [← hW]
        replace HO := Lib.hid (show POwn W w.heap.size W.heap.size A' c' os vs by rw [hW]; exact HO.out.under (below_drewN (Below.refl _ _) _) (Nat.le_refl _))
        replace HBW := Lib.hid (show Below w.heap.size w W by rw [hW]; exact below_drewN HBW.out nq)
        clear hW x1 x2 he hb1 hb2
        have s3 : (l : Int) ≤ (k : Int) := by omega
        go_wp2_with fail
        obtain ⟨V, hV⟩ : ∃ V, V = W.alloc (.cells #[.int .i64 ((k : Int) - (l : Int)), .slice none 0 0] 45) := ⟨_, rfl⟩
        rw [← hV]
        have hbV : Below W.heap.size W V := by rw [hV]; go_grown
        have hxV : V.ownsRow W.heap.size 45 2 (.slice (some ⟨W.heap.size, 0, none⟩) 1 1) 1 [.int .i64 ((k : Int) - (l : Int)), .slice none 0 0] := by rw [hV]; exact pbox_new _ _ _ _
        replace hV := Lib.hid hV
        go_loopw [7] (fun s wr' => ∃ (j : Nat) (A3 : Option Addr) (c3 : Nat), k ≤ j ∧ j ≤ n ∧ s = .int .i64 j ∧ (j = k → a.getD k 0 ≠ b.getD k 0) ∧ dL 0 none a b = os ++ dL (k - l) (some ((b.drop k).take (j - k))) (a.drop j) (b.drop j) ∧ wr'.ownsRow W.heap.size 45 2 (.slice (some ⟨W.heap.size, 0, none⟩) 1 1) 1 [.int .i64 ((k : Int) - (l : Int)), .slice A3 (j - k) c3] ∧ wr'.ownsRow (W.heap.size + 1) 3 1 (.slice A3 (j - k) c3) (j - k) (iv ((b.drop k).take (j - k))) ∧ Below W.heap.size W wr') (fun s _ => n - (intOf s).toNat)
        case atStart => exact ⟨k, none, 0, Nat.le_refl _, hk, rfl, fun _ => HXY.out, by rw [Nat.sub_self, List.take_zero]; exact HALL.out, by rw [Nat.sub_self]; exact hxV, by rw [Nat.sub_self]; exact World.ownsRow_nil _ _ _ _, hbV⟩
        case round =>
          obtain ⟨j, A3, c3, hkj, hj, rfl, hjk, hall, hbox, hin, hwv⟩ := hrel
          clear hxV hbV hV
          by_cases hlj : j < n
          · have hb3 := below_step HBW.out hwv HBW.out.size
            obtain ⟨b3, o3, e3, hb31, y1⟩ := (HA0.out.below hb3).spot hlj
            obtain ⟨b4, o4, e4, hb41, y2⟩ := (HB0.out.below hb3).spot hlj
            injection e3 with e3
            injection e3 with e3 e5
            injection e4 with e4
            injection e4 with e4 e6
            subst e3 e5 e4 e6
            have r0 : (0 : Int) ≤ (j : Int) := by omega
            have r1 : (j : Int) < (n : Int) := by omega
            by_cases hyy : a.getD j 0 = b.getD j 0
            · have hkj2 : k < j := by
                rcases Nat.lt_or_ge k j with h | h
                · exact h
                · obtain rfl : j = k := by omega
                  exact absurd hyy (hjk rfl)
              have hend := dL_end (g := k - l) (cur := (b.drop k).take (j - k)) (show j < a.length by omega) (show j < b.length by omega) hyy
              have he : (a.getD j 0 != b.getD j 0) = false := by rw [hyy]; simp
              generalize a.getD j 0 = x at y1 he
              generalize b.getD j 0 = y at y2 he
              clear hyy hjk hb3
              have hcl : ((b.drop k).take (j - k)).length = j - k := by rw [List.length_take, List.length_drop]; omega
              rw [hend] at hall
              obtain ⟨cur, hcur⟩ : ∃ cur, cur = (b.drop k).take (j - k) := ⟨_, rfl⟩
              rw [← hcur] at hall hcl hin
              rw [← hcl] at hbox hin
              have HALL2 := Lib.hid hall
              have hgap := Lib.hid (show (k : Int) - (l : Int) = ((k - l : Nat) : Int) by omega)
              replace hcur := Lib.hid hcur
              clear hall hend
              have HX0 := Lib.hid hbox
              have HN0 := Lib.hid hin
              have HWV0 := Lib.hid hwv
              clear hbox hin hwv
              replace hcl := Lib.hid hcl
              go_wp2_with fail
              go_quiet (fail)
              obtain ⟨V2, hV2⟩ : ∃ V2, V2 = wr.drewN nq := ⟨_, rfl⟩
              rw [← hV2]
              have HX := Lib.hid (show V2.ownsRow W.heap.size 45 2 (.slice (some ⟨W.heap.size, 0, none⟩) 1 1) 1 [.int .i64 ((k : Int) - (l : Int)), .slice A3 cur.length c3] by rw [hV2]; exact own_drewN HX0.out _)
              have HN := Lib.hid (show V2.ownsRow (W.heap.size + 1) 3 1 (.slice A3 cur.length c3) cur.length (iv cur) by rw [hV2]; exact own_drewN HN0.out _)
              have HWV := Lib.hid (show Below W.heap.size W V2 by rw [hV2]; exact below_drewN HWV0.out _)
              clear HX0 HN0 HWV0
              replace hV2 := Lib.hid hV2
              obtain ⟨⟨p0, p1⟩, _, pl⟩ := own_pbox HX.out
              have HO5 := Lib.hid (HO.out.under HWV.out (Nat.le_refl _))
              have HB5 := Lib.hid (below_step HBW.out HWV.out HBW.out.size)
              go_wp2_with (at_builtin; refine push_patch _ rfl _ _ rfl w.heap.size os.length c' V2.heap.size 1 A' A3 cur.length c3 (pv os vs) ((k : Int) - (l : Int)) rfl rfl (HO5.out.outer.alloc _) (cell_new _ _ _ 0) (cell_new _ _ _ 1) (by omega) (by have := HB5.out.size; simp; omega) ?_; intro A6 c6 w6 o6 g6; have hsn := Lib.hid (POwn.snoc (HO5.out.under ((Below.refl V2.heap.size V2).alloc (Nat.le_refl _) (.cells #[.int .i64 ((k : Int) - (l : Int)), .slice A3 cur.length c3] 45)) HWV.out.size) ((k : Int) - (l : Int)) cur (.slice A3 cur.length c3) o6 g6 (own_base (HN.out.alloc _) (Nat.le_succ_of_le HBW.out.size)) (fun g hg => Nat.le_of_succ_le (HN.out.lt g hg).1) (by have := HWV.out.size; simp; omega)); have hb6 := Lib.hid ((HB5.out.alloc HB5.out.size _).grown g6 (Nat.le_trans HB5.out.size (size_alloc_le _ _)) (fun q hq => (HO5.out.outer.lt q hq).1)); clear o6 g6)
              go_roundw
              case rel => exact ⟨j, j, A6, c6, os ++ [((k : Int) - (l : Int), cur)], vs ++ [.slice A3 cur.length c3], by omega, Nat.le_refl _, rfl, rfl, by rw [List.length_append]; rfl, by simp; omega, hsn.out, by rw [HALL2.out, Nat.sub_self, hgap.out]; simp, hb6.out⟩
              case measure => simp [intOf]; omega
            · have hst := dL_ne (g := k - l) (cur := (b.drop k).take (j - k)) (show j < a.length by omega) (show j < b.length by omega) hyy
              rw [hst] at hall
              have htk : (b.drop k).take (j - k) ++ [b.getD j 0] = (b.drop k).take (j + 1 - k) := by
                rw [show j + 1 - k = j - k + 1 by omega, List.take_add_one, List.getElem?_drop, show k + (j - k) = j by omega, List.getD_eq_getElem?_getD, List.getElem?_eq_getElem (show j < b.length by omega)]
                rfl
              have HTK := Lib.hid htk
              rw [htk] at hall
              have HALL2 := Lib.hid hall
              have he : (a.getD j 0 != b.getD j 0) = true := by simpa using hyy
              generalize a.getD j 0 = x at y1 he
              generalize b.getD j 0 = y at y2 he HTK
              clear hall hst htk hyy
              have HX := Lib.hid hbox
              have HN := Lib.hid hin
              have HWV := Lib.hid hwv
              have HB3 := Lib.hid hb3
              clear hbox hin hwv hb3
              go_wp2_with fail
              go_quiet (fail)
              obtain ⟨V2, hV2⟩ : ∃ V2, V2 = wr.drewN nq := ⟨_, rfl⟩
              rw [← hV2]
              go_upto_region 11 with (fail)
              obtain ⟨⟨p0, p1⟩, _, pl⟩ := own_pbox (show V2.ownsRow W.heap.size 45 2 (.slice (some ⟨W.heap.size, 0, none⟩) 1 1) 1 [.int .i64 ((k : Int) - (l : Int)), .slice A3 (j - k) c3] by rw [hV2]; exact own_drewN HX.out _)
              have y3 : V2.cell? ⟨b2, o2 + j, none⟩ = some (.int .i64 y) := by rw [hV2]; exact y2
              have hb22 : b2 < V2.heap.size := by rw [hV2]; exact Nat.lt_of_lt_of_le hb41 HB3.out.size
              replace HX := Lib.hid (show V2.ownsRow W.heap.size 45 2 (.slice (some ⟨W.heap.size, 0, none⟩) 1 1) 1 [.int .i64 ((k : Int) - (l : Int)), .slice A3 (j - k) c3] by rw [hV2]; exact own_drewN HX.out _)
              replace HN := Lib.hid (show V2.ownsRow (W.heap.size + 1) 3 1 (.slice A3 (j - k) c3) (j - k) (iv ((b.drop k).take (j - k))) by rw [hV2]; exact own_drewN HN.out _)
              replace HWV := Lib.hid (show Below W.heap.size W V2 by rw [hV2]; exact below_drewN HWV.out _)
              clear hV2 HB3 y1 y2 he
              refine region_tail 7 none (IsVal (.pointer (some ⟨W.heap.size, 1, none⟩)) :: IsVal (.slice A3 (j - k) c3) :: IsVal (.slice (some ⟨b2, o2, none⟩) n cB) :: IsVal (.int .i64 j) :: IsVal (.pointer (some ⟨b2, o2 + j, none⟩)) :: IsVal (.int .i64 y) :: LitI V2.heap.size y :: []) (fun _ w' => World.grownBy V2 w' none) ?_ ?_ ?_ ?_ ?_ ?_ ?_ ?_ ?_ ?_ ?_
              · kernel_rfl
              · exact ⟨fun _ _ _ _ h => h, fun _ _ _ _ h => h, fun _ _ _ _ h => h, fun _ _ _ _ h => h, fun _ _ _ _ h => h, fun _ _ _ _ h => h, st_litI _ _, trivial⟩
              · simp
              · exact of_decide_eq_true (by kernel_rfl)
              · kernel_rfl
              · kernel_rfl
              · kernel_rfl
              · kernel_rfl
              · exact grown_drew _ _
              · refine each_cons ?_ (each_cons ?_ (each_cons ?_ (each_cons ?_ (each_cons ?_ (each_cons ?_ (each_cons ?_ trivial))))))
                · intro n_1 vs_1 aa w' haa hJ hd K hK
                  refine ob_plain rfl ?_
                  refine ob_fldP _ 1 (g := W.heap.size) rfl (by omega) (ev_of haa (by kernel_rfl)) ?_
                  exact hK _ _ rfl (World.grownBy.refl _ _) hJ
                · intro n_1 vs_1 aa w' haa hJ hd K hK
                  refine ob_plain rfl ?_
                  have d0 : IsVal (.pointer (some ⟨W.heap.size, 1, none⟩)) w' (vs_1 0) := hd.1 rfl
                  refine ob_loadS _ rfl (Eq.trans (b := vs_1 0) (ev_of haa (by kernel_rfl)) d0) (grown_cell hJ pl (by simp) p1) ?_
                  exact hK _ _ rfl (World.grownBy.refl _ _) hJ
                · intro n_1 vs_1 aa w' haa hJ hd K hK
                  refine ob_plain rfl ?_
                  refine ob_move _ (v := .slice (some ⟨b2, o2, none⟩) n cB) rfl (ev_of haa (by kernel_rfl)) ?_
                  exact hK _ _ rfl (World.grownBy.refl _ _) hJ
                · intro n_1 vs_1 aa w' haa hJ hd K hK
                  refine ob_plain rfl ?_
                  refine ob_move _ (v := .int .i64 j) rfl (ev_of haa (by kernel_rfl)) ?_
                  exact hK _ _ rfl (World.grownBy.refl _ _) hJ
                · intro n_1 vs_1 aa w' haa hJ hd K hK
                  refine ob_plain rfl ?_
                  have d2 : IsVal (.slice (some ⟨b2, o2, none⟩) n cB) w' (vs_1 2) := hd.1 rfl
                  have d3 : IsVal (.int .i64 j) w' (vs_1 3) := hd.2.1 rfl
                  refine ob_index _ _ _ (.inr rfl) (u := j) rfl (Eq.trans (b := vs_1 2) (ev_of haa (by kernel_rfl)) d2) (Eq.trans (b := vs_1 3) (ev_of haa (by kernel_rfl)) d3) r0 r1 ?_
                  exact hK _ _ rfl (World.grownBy.refl _ _) hJ
                · intro n_1 vs_1 aa w' haa hJ hd K hK
                  refine ob_plain rfl ?_
                  have d4 : IsVal (.pointer (some ⟨b2, o2 + j, none⟩)) w' (vs_1 4) := hd.1 rfl
                  refine ob_load _ _ (.inl rfl) rfl (Eq.trans (b := vs_1 4) (ev_of haa (by kernel_rfl)) d4) (grown_cell hJ hb22 (by simp) y3) ?_
                  exact hK _ _ rfl (World.grownBy.refl _ _) hJ
                · intro n_1 vs_1 aa w' haa hJ hd K hK
                  refine ob_plain rfl ?_
                  have d5 : IsVal (.int .i64 y) w' (vs_1 5) := hd.1 rfl
                  refine ob_build1 _ rfl (Eq.trans (b := vs_1 5) (ev_of haa (by kernel_rfl)) d5) ?_
                  exact hK _ _ ⟨_, rfl, hJ.size, by simp, cell_new _ _ _ 0⟩ (World.grownBy_alloc _ _ _) (hJ.trans (World.grownBy_alloc _ _ _))
              · intro vs_1 w' hJ hall
                have h1 : vs_1 1 = .slice A3 (j - k) c3 := hall 1 (by decide)
                obtain ⟨bb, h6, hlo, hbb, hcc⟩ : LitI V2.heap.size y w' (vs_1 6) := hall 6 (by decide)
                clear hall
                have b9 : Below V2.heap.size V2 w' := below_of_grown hJ (Nat.le_refl _) (by intro q hq; cases hq)
                replace HX := Lib.hid (own_below HX.out b9)
                replace HN := Lib.hid (own_below HN.out b9)
                have hs2 := HWV.out.size
                replace HWV := Lib.hid (below_step HWV.out b9 hs2)
                have HLI := Lib.hid (litI_ints (lo := 0) hbb hcc)
                have hs3 := HWV.out.size
                have hs4 : W.heap.size + 1 ≤ w'.heap.size := by have := (HX.out.lt W.heap.size rfl).2; omega
                clear b9 hJ hcc p0 p1 y3
                simp only [List.take_succ_cons, List.take_zero, List.drop_succ_cons, List.drop_zero, fill, Act.put, List.toList_toArray, List.setIfInBounds_toArray, List.set_cons_zero, List.set_cons_succ, Nat.zero_add, Nat.reduceAdd, h1, h6]
                refine push_list _ rfl _ _ rfl (W.heap.size + 1) (j - k) c3 1 1 w'.heap.size A3 (some ⟨bb, 0, none⟩) ((b.drop k).take (j - k)) [y] rfl rfl HN.out HLI.out (by intro h; cases h) (by omega) hs4 ?_
                intro A4 c4 w5 o5 b5
                rw [HTK.out, show j - k + 1 = j + 1 - k by omega] at o5
                rw [show j - k + 1 = j + 1 - k by omega]
                have HN5 := Lib.hid o5
                have hx5 := own_under HX.out b5 (fun q hq => by simp [Value.ownBlock] at hq; omega)
                obtain ⟨⟨p0, p1⟩, ⟨f0, f1⟩, pl5⟩ := own_pbox hx5
                have HX5 := Lib.hid hx5
                have HW5 := Lib.hid (HWV.out.trans (b5.mono (Nat.le_succ _)))
                clear o5 b5 hx5
                go_wp2_with fail
                obtain ⟨s3, k3⟩ := HX5.out.stored 1 (.slice A4 (j + 1 - k) c4)
                go_roundw
                case rel => exact ⟨j + 1, A4, c4, by omega, by omega, by go_num, fun h => by omega, HALL2.out, s3, HN5.out.kept k3 (.inr fun e => by have := (HN5.out.lt _ e).1; omega), HW5.out.grown k3 HW5.out.size (by intro q hq; injection hq with hq; omega)⟩
                case measure => simp [intOf]; omega
          · obtain rfl : j = n := by omega
            have hkj2 : k < j := hlt
            have hend := dL_last (g := k - l) (cur := (b.drop k).take (j - k)) (b := b) (show a.length ≤ j by omega)
            clear hjk
            have hcl : ((b.drop k).take (j - k)).length = j - k := by rw [List.length_take, List.length_drop]; omega
            rw [hend] at hall
            obtain ⟨cur, hcur⟩ : ∃ cur, cur = (b.drop k).take (j - k) := ⟨_, rfl⟩
            rw [← hcur] at hall hcl hin
            rw [← hcl] at hbox hin
            have HALL2 := Lib.hid hall
            have hgap := Lib.hid (show (k : Int) - (l : Int) = ((k - l : Nat) : Int) by omega)
            replace hcur := Lib.hid hcur
            clear hall hend
            have HX0 := Lib.hid hbox
            have HN0 := Lib.hid hin
            have HWV0 := Lib.hid hwv
            clear hbox hin hwv
            replace hcl := Lib.hid hcl
            go_wp2_with fail
            go_quiet (fail)
            obtain ⟨V2, hV2⟩ : ∃ V2, V2 = wr.drewN nq := ⟨_, rfl⟩
            rw [← hV2]
            have HX := Lib.hid (show V2.ownsRow W.heap.size 45 2 (.slice (some ⟨W.heap.size, 0, none⟩) 1 1) 1 [.int .i64 ((k : Int) - (l : Int)), .slice A3 cur.length c3] by rw [hV2]; exact own_drewN HX0.out _)
            have HN := Lib.hid (show V2.ownsRow (W.heap.size + 1) 3 1 (.slice A3 cur.length c3) cur.length (iv cur) by rw [hV2]; exact own_drewN HN0.out _)
            have HWV := Lib.hid (show Below W.heap.size W V2 by rw [hV2]; exact below_drewN HWV0.out _)
            clear HX0 HN0 HWV0
            replace hV2 := Lib.hid hV2
            obtain ⟨⟨p0, p1⟩, _, pl⟩ := own_pbox HX.out
            have HO5 := Lib.hid (HO.out.under HWV.out (Nat.le_refl _))
            have HB5 := Lib.hid (below_step HBW.out HWV.out HBW.out.size)
            go_wp2_with (at_builtin; refine push_patch _ rfl _ _ rfl w.heap.size os.length c' V2.heap.size 1 A' A3 cur.length c3 (pv os vs) ((k : Int) - (l : Int)) rfl rfl (HO5.out.outer.alloc _) (cell_new _ _ _ 0) (cell_new _ _ _ 1) (by omega) (by have := HB5.out.size; simp; omega) ?_; intro A6 c6 w6 o6 g6; have hsn := Lib.hid (POwn.snoc (HO5.out.under ((Below.refl V2.heap.size V2).alloc (Nat.le_refl _) (.cells #[.int .i64 ((k : Int) - (l : Int)), .slice A3 cur.length c3] 45)) HWV.out.size) ((k : Int) - (l : Int)) cur (.slice A3 cur.length c3) o6 g6 (own_base (HN.out.alloc _) (Nat.le_succ_of_le HBW.out.size)) (fun g hg => Nat.le_of_succ_le (HN.out.lt g hg).1) (by have := HWV.out.size; simp; omega)); have hb6 := Lib.hid ((HB5.out.alloc HB5.out.size _).grown g6 (Nat.le_trans HB5.out.size (size_alloc_le _ _)) (fun q hq => (HO5.out.outer.lt q hq).1)); clear o6 g6)
            go_roundw
            case rel => exact ⟨j, j, A6, c6, os ++ [((k : Int) - (l : Int), cur)], vs ++ [.slice A3 cur.length c3], by omega, Nat.le_refl _, rfl, rfl, by rw [List.length_append]; rfl, by simp; omega, hsn.out, by rw [HALL2.out, Nat.sub_self, hgap.out]; simp, hb6.out⟩
            case measure => simp [intOf]; omega
    · obtain rfl : k = n := by omega
      have hd := dL_done (g := k - l) (b := b) (show a.length ≤ k by omega)
      rw [hd, List.append_nil] at hall
      go_wp2
      go_ret
      rw [hall]
      exact ⟨A', c', vs, rfl, hown, hbw⟩
end Go.Proofs.Ytlbalepcjamhcaa
