/-
  What the statement on patched states draws. No condition.
-/
import Derived.Test.YtlbalepcjamhcaaDrwQ
import Derived.Test.YtlbalepcjamhcaaTypedT
import Derived.Deep.RegionHeld3
import Derived.Deep.RegionLaw
namespace Go.Proofs.Ytlbalepcjamhcaa
open Go.RowKit
set_option linter.unusedVariables false
set_option linter.unusedSimpArgs false
attribute [local go_sem ↓] Go.wp_at_zero Go.wp_at_succ
theorem POwn.drewP {w : World} {base hi c : Nat} {A : Option Addr} {os : List TP} {vs : List Value} (h : POwn w base hi A c os vs) : POwn w.drew base hi A c os vs := ⟨own_drewN h.outer 1, h.vlen, fun i hi => own_drewN (h.inner i hi) 1, h.olt, h.ilt, h.inc⟩
theorem POwn.allocP {w : World} {base hi c : Nat} {A : Option Addr} {os : List TP} {vs : List Value} (h : POwn w base hi A c os vs) (o : Obj) : POwn (w.alloc o) base hi A c os vs := ⟨h.outer.alloc o, h.vlen, fun i hi => (h.inner i hi).alloc o, h.olt, h.ilt, h.inc⟩
theorem POwn.rdr {w w' : World} {base hi c g : Nat} {A : Option Addr} {os : List TP} {vs : List Value} (h : POwn w base hi A c os vs) (hg : w.grownBy w' (some g)) (hb : g < base) : POwn w' base hi A c os vs :=
  ⟨own_rd h.outer hg hb, h.vlen, fun i hi => own_rd (h.inner i hi) hg hb, h.olt, h.ilt, h.inc⟩
theorem dL_skip : ∀ (a b : List Int) (g : Nat) (c : Option (List Int)), ∀ t, t ∈ dL g c a b → 0 ≤ t.1 ∧ t.1 ≤ (g : Int) + a.length + 1
  | [], b, g, none => by simp [dL]
  | [], b, g, some c => by simp [dL]; omega
  | x :: xs, [], g, none => by simp [dL]
  | x :: xs, [], g, some c => by simp [dL]; omega
  | x :: xs, y :: ys, g, none => by
    simp only [dL]
    split
    · intro t ht; have := dL_skip xs ys (g + 1) none t ht; simp at this ⊢; omega
    · intro t ht; have := dL_skip xs ys g (some [y]) t ht; simp at this ⊢; omega
  | x :: xs, y :: ys, g, some c => by
    simp only [dL]
    split
    · intro t ht
      rcases List.mem_cons.1 ht with rfl | ht
      · simp; omega
      · have := dL_skip xs ys 1 none t ht; simp at this ⊢; omega
    · intro t ht; have := dL_skip xs ys g (some (c ++ [y])) t ht; simp at this ⊢; omega
theorem diff_skip {a b : List Int} {k : Nat} (hk : k < (diffR a b).length) : 0 ≤ ((diffR a b).getD k (0, [])).1 ∧ ((diffR a b).getD k (0, [])).1 ≤ 1000 := by
  have hm : (diffR a b).getD k (0, []) ∈ diffR a b := by rw [List.getD_eq_getElem?_getD, List.getElem?_eq_getElem hk]; exact List.getElem_mem hk
  generalize (diffR a b).getD k (0, []) = t at hm
  unfold diffR at hm
  split at hm
  · rename_i h
    simp only [stB, Bool.and_eq_true, decide_eq_true_eq] at h
    have := dL_skip a b 0 none t hm
    simp at this; omega
  · cases hm
theorem pv_set2 : ∀ (ts : List TP) (vs : List Value) (k : Nat) (ys : List Int) (v : Value), vs.length = ts.length → k < ts.length → (pv ts vs).set (k * 2 + 1) v = pv (ts.set k ((ts.getD k (0, [])).1, ys)) (vs.set k v)
  | [], _, k, _, _, _, hk => by simp at hk
  | t :: ts, [], k, _, _, h, _ => by simp at h
  | t :: ts, u :: vs, 0, ys, v, _, _ => by simp [pv]
  | t :: ts, u :: vs, k + 1, ys, v, h, hk => by
    have ih := pv_set2 ts vs k ys v (by simpa using h) (by simpa using hk)
    rw [show (k + 1) * 2 + 1 = (k * 2 + 1) + 1 + 1 by omega]
    simp only [pv, List.set_cons_succ, List.getD_cons_succ]
    rw [ih]
theorem slc_own {w : World} {base n : Nat} {v : Value} {xs : List Int} (o : w.ownsRow base 3 1 v n (iv xs)) (hn : n = xs.length) : Slc w 0 v xs := by
  subst hn
  obtain ⟨A, c, e⟩ := own_form o
  subst e
  exact ⟨A, c, rfl, own_cap o, own_nilc o, own_ints o, fun _ _ => Nat.zero_le _⟩
/-- One patch's data is another row. -/
theorem POwn.app {w w1 : World} {base hi c k gl lo : Nat} {os : List TP} {vs : List Value} {v' : Value} {ys : List Int} (h : POwn w base hi (some ⟨gl, 0, none⟩) c os vs) (hk : k < os.length)
    (o' : w1.ownsRow lo 3 1 v' ys.length (iv ys)) (g1 : w.grownBy w1 (vs.getD k nilV).ownBlock) :
    (w1.cell? ⟨gl, k * 2 + 1, none⟩ = some (vs.getD k nilV) ∧ w1.frozen? ⟨gl, k * 2 + 1, none⟩ = false) ∧
    w1.grownBy (w1.setCell ⟨gl, k * 2 + 1, none⟩ v') (some gl) ∧ PRd (w1.setCell ⟨gl, k * 2 + 1, none⟩ v') (some ⟨gl, 0, none⟩) os.length (os.set k ((os.getD k (0, [])).1, ys)) := by
  have hout1 := h.outer.kept g1 (by
    rcases hu : (Value.slice (some ⟨gl, 0, none⟩) os.length c).ownBlock with _ | q
    · exact .inl rfl
    · exact .inr fun e => own_sep h.outer (h.inner k hk) (by decide) hu e.symm)
  have hcl := hout1.cellAt (k * 2 + 1) (by omega)
  rw [(pv_get os vs k h.vlen hk).2] at hcl
  obtain ⟨s2, k2⟩ := hout1.stored (k * 2 + 1) v'
  have o2 := o'.kept k2 (by
    rcases hu : v'.ownBlock with _ | q
    · exact .inl rfl
    · refine .inr fun e => own_sep o' hout1 (by decide) hu ?_
      rw [e]; rfl)
  rw [pv_set2 os vs k ys v' h.vlen hk] at s2
  refine ⟨⟨hcl, hout1.frozenAt _⟩, k2, by simp, vs.set k v', by simp [h.vlen], Reads.of_own s2, fun i hi => ?_⟩
  rw [getD_set _ _ _ _ _ hk, getD_set _ _ _ _ _ (show k < vs.length by rw [h.vlen]; exact hk)]
  by_cases e : i = k
  · rw [if_pos e, if_pos e]
    exact slc_own o2 rfl
  · rw [if_neg e, if_neg e]
    refine slc_own (((h.inner i hi).kept g1 ?_).kept k2 ?_) rfl
    · rcases hu : (vs.getD i nilV).ownBlock with _ | q
      · exact .inl rfl
      · refine .inr fun e2 => ?_
        rcases Nat.lt_or_gt_of_ne e with hlt | hlt
        · exact absurd (h.inc i k hlt hk q q hu e2.symm) (by omega)
        · exact absurd (h.inc k i hlt hi q q e2.symm hu) (by omega)
    · rcases hu : (vs.getD i nilV).ownBlock with _ | q
      · exact .inl rfl
      · refine .inr fun e2 => own_sep (h.inner i hi) h.outer (by decide) hu ?_
        rw [e2]; rfl
/-- One patch more, without data. -/
theorem POwn.snocRd {w w' : World} {base hi c c' : Nat} {A A' : Option Addr} {os : List TP} {vs : List Value} (h : POwn w base hi A c os vs) (x : Int)
    (hout : w'.ownsRow base 45 2 (.slice A' (os.length + 1) c') (os.length + 1) (pv os vs ++ [.int .i64 x, .slice none 0 0])) (hg : w.grownBy w' (Value.slice A os.length c).ownBlock) : PRd w' A' (os.length + 1) (os ++ [(x, [])]) := by
  rw [← pv_snoc os vs (x, []) (.slice none 0 0) h.vlen] at hout
  refine ⟨by simp, vs ++ [.slice none 0 0], by simp [h.vlen], Reads.of_own hout, fun i hi => ?_⟩
  rw [getD_app _ _ _ _ (by rw [h.vlen]; exact hi), getD_app _ _ _ _ hi, h.vlen]
  split
  · rename_i hi2
    refine slc_own ((h.inner i hi2).kept hg ?_) rfl
    rcases hu : (vs.getD i nilV).ownBlock with _ | q
    · exact .inl rfl
    · exact .inr fun e => own_sep (h.inner i hi2) h.outer (by decide) hu e.symm
  · exact ⟨none, 0, rfl, Nat.le_refl _, fun _ => rfl, Reads.none_, fun _ _ => Nat.zero_le _⟩
theorem sumL_set : ∀ (os : List TP) (k : Nat) (t : TP), k < os.length → sumL (os.set k t) + (os.getD k (0, [])).2.length = sumL os + t.2.length
  | [], k, t, h => by simp at h
  | o :: os, 0, t, h => by simp [sumL]; omega
  | o :: os, k + 1, t, h => by
    have := sumL_set os k t (by simpa using h)
    simp only [sumL, List.set_cons_succ, List.map_cons, List.sum_cons, List.getD_cons_succ] at this ⊢
    omega
/-- A drawn state and drawn patches, to be read. -/
def GivesSP (w : World) (e : Ending) (w' : World) : Prop := ∃ (A B : Option Addr) (c d : Nat) (xs : List Int) (ts : List TP), e = .returned (.tuple #[.slice A xs.length c, .slice B ts.length d]) ∧ (Ints w' w'.heap.size A xs.length xs ∧ (A = none → c = 0) ∧ xs.length ≤ c ∧ xs.length ≤ 513) ∧ (PRd w' B ts.length ts ∧ pszA ts ≤ 3000) ∧ Below w.heap.size w w'
/-- append of one number, at a step of a region that draws. -/
theorem step_push_lit {ops : Array Oper} {o : Oper} {a : Act} {K : Act → World → Prop} {Q : Exit → Act → World → Prop} {E : Prop} {w : World} (hgd : o.guard = none) (s x : Operand)
    (ho : o.op = .call { callee := .builtin .append, args := #[s, x], argTypes := #[33, 33] })
    (base n c H d : Nat) (A : Option Addr) (xs : List Int) (y : Int) (hs : a.eval s = .slice A n c) (hx : a.eval x = .slice (some ⟨H, 0, none⟩) 1 d)
    (hown : w.ownsRow base 3 1 (.slice A n c) n (iv xs)) (hc : w.cell? ⟨H, 0, none⟩ = some (.int .i64 y)) (hn : n ≤ 1000000000) (hb : base ≤ w.heap.size)
    (h : ∀ A' c' w', w'.ownsRow base 3 1 (.slice A' (n + 1) c') (n + 1) (iv (xs ++ [y])) → w.grownBy w' (Value.slice A n c).ownBlock → K (a.put o.dst (.slice A' (n + 1) c')) w') :
    if Region.wanted o (yielded ops a.tmps) = true then Oper.wp Try.prog o a w K Q else E := by
  have hw : Region.wanted o (yielded ops a.tmps) = true := by simp [Region.wanted, hgd]
  rw [if_pos hw]
  obtain ⟨i0, hi0, hz0, hz1, hz2⟩ := info_parts int_info
  obtain ⟨v', w', hr, h2, h3, h4, h5⟩ := run_append_own_at (P := Try.prog) w base 33 o.type 3 i0 (.int .i64 0) 1 8 Try.underlying33 hi0 hz0 hz1 hz2 rfl (by omega) _ n (iv xs) hown ⟨H, 0, none⟩ 1 d [.int .i64 y] rfl
    (by intro j u hj; match j, hj with | 0, hj => simp at hj; subst hj; simpa [Addr.add] using hc) (by intro u hu; simp at hu; subst hu; rfl) (by simp only [maxLen]; omega) (by omega) hb
  unfold Oper.wp execOp
  simp only [ho, resolve, invoke, builtin, Sem.run_bind, Sem.run_pure, Result.andThen_ok, List.map_toArray, List.map_cons, List.map_nil, hs, hx, hr]
  obtain ⟨A', c', rfl⟩ := own_form h2
  exact h A' c' w' (by rw [iv_snoc]; exact h2) h3
set_option maxHeartbeats 4000000 in
theorem drawPatchState_any (A : Option Addr) (n c : Nat) (zs : List Int) (w : World) (h : IsRow .u8 w A n c zs) :
    Calls Try.prog 31 #[.slice A n c] w (GivesSP w) := by
  have HI := Lib.hid h
  clear h
  go_enter Try.func31, Try.ntmps31
  go_wp2_with fail
  refine (open_any A n c zs _ HI.out).mono ?_
  rintro e w1 ⟨len, cap, rfl, hR, hb1⟩
  obtain ⟨g, hg0⟩ : ∃ g, g = w.heap.size := ⟨_, rfl⟩
  rw [← hg0] at hR ⊢
  have HD := Lib.hid (Drs.start hR)
  replace hb1 := Lib.hid hb1
  have hgl := hR.lt
  replace hg0 := Lib.hid hg0
  clear hR
  go_wp2_with fail
  refine (l20States_d HD.out (by omega)).mono ?_
  rintro e W' ⟨v, rfl, hv, hD, hgr⟩
  replace HD := Lib.hid hD
  clear hD
  obtain ⟨A1, B1, c1, d1, xs, ys, rfl, ox, oy, hx, hy⟩ := hv
  have HX := Lib.hid ox
  have HY := Lib.hid oy
  have hcy := own_cap oy
  have hA1 := Lib.hid (fun k hk => (ox.lt k hk).2 : ∀ k, (Value.slice A1 xs.length c1).ownBlock = some k → k < W'.heap.size)
  have hs1 := HD.out.size
  clear ox oy hgr
  go_wp2_with fail
  refine (diffStates_spec _ _ _ _ _ _ xs ys _ (own_ints HX.out) (own_ints HY.out) (by omega) (by omega) hcy).mono ?_
  rintro e w5 ⟨A', c', vs, rfl, o, b⟩
  have HO := Lib.hid o
  replace HX := Lib.hid (own_below HX.out b)
  replace HD := Lib.hid (HD.out.below b)
  have hz := diffR_sz xs ys
  obtain ⟨lo, hlo⟩ : ∃ lo, lo = W'.heap.size := ⟨_, rfl⟩
  rw [← hlo] at HO
  have hgl2 : g < lo := by omega
  have hlw : w1.heap.size ≤ lo := by omega
  replace hA1 := Lib.hid (show ∀ k, (Value.slice A1 xs.length c1).ownBlock = some k → k < lo by rw [hlo]; exact hA1.out)
  replace hlo := Lib.hid hlo
  have hsk : ∀ k, k < (diffR xs ys).length → 0 ≤ ((diffR xs ys).getD k (0, [])).1 ∧ ((diffR xs ys).getD k (0, [])).1 ≤ 1000 := fun k hk => diff_skip hk
  clear o b HY
  generalize diffR xs ys = ts at HO hz hsk
  by_cases hemp : ts.length = 0
  · have p1 : ¬ ((ts.length : Int) > 0) := by omega
    replace hemp := Lib.hid hemp
    go_wp2_with fail
    refine bodyPost_ret (results_tmp2 (by rfl) _ _ _) rfl ?_
    exact ⟨A1, _, c1, _, xs, _, rfl, ⟨own_ints HX.out, own_nilc HX.out, own_cap HX.out, hx⟩, ⟨HO.out.rd, (by omega)⟩, below_rd hb1.out (by rw [← hg0.out]; exact HD.out.hg)⟩
  have p1 : (ts.length : Int) > 0 := by omega
  go_wp2_with fail
  refine (odd_d HD.out 3 (by omega) (by omega) (by omega)).mono ?_
  rintro e W' ⟨v, rfl, ⟨bb, rfl, hbb⟩, hD, hgr⟩
  replace HD := Lib.hid hD
  clear hD
  replace HX := Lib.hid (own_rd HX.out hgr hgl)
  replace HO := Lib.hid (HO.out.rdr hgr hgl2)
  clear hgr hbb
  cases bb
  · go_wp2_with fail
    refine bodyPost_ret (results_tmp2 (by rfl) _ _ _) rfl ?_
    exact ⟨A1, _, c1, _, xs, _, rfl, ⟨own_ints HX.out, own_nilc HX.out, own_cap HX.out, hx⟩, ⟨HO.out.rd, (by omega)⟩, below_rd hb1.out (by rw [← hg0.out]; exact HD.out.hg)⟩
  go_wp2_with fail
  refine (pick_d HD.out (ts.length : Int) (by omega) (by omega) (by unfold pszA at hz; omega)).mono ?_
  rintro e W' ⟨v, rfl, ⟨k0, rfl, k1, k2⟩, hD, hgr⟩
  replace HD := Lib.hid hD
  clear hD
  replace HX := Lib.hid (own_rd HX.out hgr hgl)
  replace HO := Lib.hid (HO.out.rdr hgr hgl2)
  clear hgr
  go_wp2_with fail
  refine (pick_d HD.out 3 (by omega) (by omega) (by omega)).mono ?_
  rintro e W' ⟨v, rfl, ⟨cc, rfl, cc1, cc2⟩, hD, hgr⟩
  replace HD := Lib.hid hD
  clear hD
  replace HX := Lib.hid (own_rd HX.out hgr hgl)
  replace HO := Lib.hid (HO.out.rdr hgr hgl2)
  clear hgr
  obtain ⟨K, rfl⟩ := Int.eq_ofNat_of_zero_le k1
  have hK : K < ts.length := by omega
  have HD2 := Lib.hid (show Drs w1 W'.drew g A len cap _ _ from HD.out.drewN 1)
  have HX2 := Lib.hid (show W'.drew.ownsRow _ 3 1 (.slice A1 xs.length c1) xs.length (iv xs) from own_drewN HX.out 1)
  have HO2 := Lib.hid (show POwn W'.drew lo _ A' c' ts vs from HO.out.drewP)
  obtain ⟨gl, cap2, e1, hg1, hgl3⟩ := HO2.out.outer.form (by omega)
  injection e1 with e1 _ e3
  subst e1 e3
  obtain ⟨z0, z1⟩ := pv_get ts vs K HO2.out.vlen hK
  have hc0 := HO2.out.outer.cellAt (K * 2) (by omega)
  have hc1 := HO2.out.outer.cellAt (K * 2 + 1) (by omega)
  rw [z0] at hc0
  rw [z1] at hc1
  have hf0 := HO2.out.outer.frozenAt (K * 2)
  have hf1 := HO2.out.outer.frozenAt (K * 2 + 1)
  obtain ⟨sk1, sk2⟩ := hsk K hK
  have q0 : (0 : Int) ≤ (K : Int) := by omega
  have q1 : (K : Int) < (ts.length : Int) := by omega
  clear z0 z1 hsk
  obtain ⟨s, hse⟩ : ∃ s, s = (ts.getD K (0, [])).1 := ⟨_, rfl⟩
  rw [← hse] at hc0 sk1 sk2
  replace hse := Lib.hid hse
  by_cases h0 : cc = 0
  · subst h0
    go_upto_region 9 with (fail)
    go_region_with ((first | (go_at_call 45; refine (pick_d HD2.out 5 (by omega) (by omega) (by omega)).mono ?_; rintro e W8 ⟨v, rfl, ⟨y, rfl, y0, y1⟩, hD8, hg8⟩; have c8 := grown_cell hg8 hgl3 (by intro e; injection e with e; omega) hc0; have HD8 := Lib.hid hD8; have HX8 := Lib.hid (own_rd HX2.out hg8 hgl); have HO8 := Lib.hid (HO2.out.rdr hg8 hgl2); have f8 := HO8.out.outer.frozenAt (K * 2); clear hD8 hg8)))
    all_goals (
      obtain ⟨s9, k9⟩ := HO8.out.outer.stored (K * 2) (.int .i64 (IntKind.i64.wrap (IntKind.i64.wrap (s + y) - 2)))
      have HP9 := Lib.hid (HO8.out.setSkip hK _ s9 k9).rd
      have HX9 := Lib.hid (HX8.out.kept k9 (.inr fun e => by have := hA1.out _ e; omega))
      have HD9 := Lib.hid (HD8.out.push k9 (fun k hk => by injection hk with hk; omega))
      have hss := sumL_set ts K (IntKind.i64.wrap (IntKind.i64.wrap (s + y) - 2), (ts.getD K (0, [])).2) hK
      simp only [] at hss
      have hz9 : pszA (ts.set K (IntKind.i64.wrap (IntKind.i64.wrap (s + y) - 2), (ts.getD K (0, [])).2)) ≤ 3000 := by unfold pszA at hz ⊢; rw [List.length_set]; omega
      clear s9 k9 hss
      go_wp2_with fail
      refine bodyPost_ret (results_tmp2 (by rfl) _ _ _) rfl ?_
      exact ⟨A1, _, c1, _, xs, _, by rw [List.length_set]; rfl, ⟨own_ints HX9.out, own_nilc HX9.out, own_cap HX9.out, hx⟩, ⟨by rw [List.length_set] at HP9 ⊢; exact HP9.out, hz9⟩, below_rd hb1.out (by rw [← hg0.out]; exact HD9.out.hg)⟩)
  by_cases h1 : cc = 1
  · subst h1
    go_upto_region 11 with (fail)
    have hin2 := HO2.out.inner K hK
    obtain ⟨XA, xc, evk⟩ := own_form hin2
    rw [evk] at hc1
    obtain ⟨ds, hds⟩ : ∃ ds, ds = (ts.getD K (0, [])).2 := ⟨_, rfl⟩
    have hdl : ds.length ≤ 2000 := by have := sumL_get hK; rw [← hds] at this; unfold pszA at hz; omega
    rw [← hds] at hc1 hin2 evk
    have HDS := Lib.hid hds
    have EVK := Lib.hid evk
    rw [evk] at hin2
    have HIN := Lib.hid hin2
    have hlz := (HO2.out.outer.lt gl rfl)
    clear hds evk hin2
    go_region_law ((first | (refine ob_plain rfl (ob_call 46 _ _ #[.pointer (some ⟨g, 0, none⟩), .int .i64 3] rfl (by kernel_rfl) (fun _ _ => by kernel_rfl) ?_); refine (l20Byte_d HD2.out 3 (by omega) (by omega) (by omega)).mono ?_; rintro e W8 ⟨v, rfl, ⟨y, rfl, y0, y1, y2⟩, hD8, hg8⟩; have c8 := grown_cell hg8 hgl3 (by intro e; injection e with e; omega) hc1; have c9 := (World.cell?_alloc_lt W8 (.cells #[.int .i64 y] 3) ⟨gl, K * 2 + 1, none⟩ (Nat.lt_of_lt_of_le hgl3 hg8.size)).trans c8; have HD8 := Lib.hid (hD8.alloc (.cells #[.int .i64 y] 3)); have HX8 := Lib.hid ((own_rd HX2.out hg8 hgl).alloc (.cells #[.int .i64 y] 3)); have HO8 := Lib.hid ((HO2.out.rdr hg8 hgl2).allocP (.cells #[.int .i64 y] 3)); have HIN8 := Lib.hid ((own_rd HIN.out hg8 hgl2).alloc (.cells #[.int .i64 y] 3)); have hz8 := Nat.le_trans hg8.size (size_alloc_le W8 (.cells #[.int .i64 y] 3)); clear hD8 hg8 y2; refine ⟨_, rfl, ?_⟩) | (refine step_push_lit (by rfl) _ _ (by rfl) lo ds.length xc W8.heap.size 1 XA ds y (by rfl) (by rfl) HIN8.out (cell_new W8 _ _ 0) (by omega) (by omega) ?_; intro A5 c5 w5 o5 g5; obtain ⟨⟨u1, u2⟩, u3, u4⟩ := POwn.app (gl := gl) HO8.out hK (v' := .slice A5 (ds.length + 1) c5) (ys := ds ++ [y]) (by rw [List.length_append]; exact o5) (by rw [EVK.out]; exact g5); have hb5 := below_of_grown g5 (show lo ≤ (W8.alloc (.cells #[.int .i64 y] 3)).heap.size by omega) (fun k hk => (HIN8.out.lt k hk).1); have HX5 := Lib.hid (own_under HX8.out hb5 hA1.out); have HD5 := Lib.hid (HD8.out.push g5 (fun k hk => Nat.le_trans hlw (HIN8.out.lt k hk).1)); replace u3 := Lib.hid u3; replace u4 := Lib.hid u4; clear o5 g5 hb5)))
    all_goals (
      have HX9 := Lib.hid (HX5.out.kept u3.out (.inr fun e => by have := hA1.out _ e; omega))
      have HD9 := Lib.hid (HD5.out.push u3.out (fun k hk => by injection hk with hk; omega))
      have hss := sumL_set ts K ((ts.getD K (0, [])).1, ds ++ [y]) hK
      simp only [List.length_append] at hss
      have hz9 : pszA (ts.set K ((ts.getD K (0, [])).1, ds ++ [y])) ≤ 3000 := by unfold pszA at hz ⊢; rw [List.length_set]; have := HDS.out; rw [← this] at hss; simp only [List.length_cons, List.length_nil] at hss; omega
      clear hss u1 u2
      go_wp2_with fail
      refine bodyPost_ret (results_tmp2 (by rfl) _ _ _) rfl ?_
      exact ⟨A1, _, c1, _, xs, _, by rw [List.length_set]; rfl, ⟨own_ints HX9.out, own_nilc HX9.out, own_cap HX9.out, hx⟩, ⟨by rw [List.length_set]; exact u4.out, hz9⟩, below_rd hb1.out (by rw [← hg0.out]; exact HD9.out.hg)⟩)
  obtain rfl : cc = 2 := by omega
  clear HD2 HX2 HO2 hc0 hc1 hf0 hf1
  go_wp2_with fail
  refine (pick_d HD.out 3 (by omega) (by omega) (by omega)).mono ?_
  rintro e W' ⟨v, rfl, ⟨y, rfl, y0, y1⟩, hD, hgr⟩
  replace HD := Lib.hid hD
  clear hD
  replace HX := Lib.hid (own_rd HX.out hgr hgl)
  replace HO := Lib.hid (HO.out.rdr hgr hgl2)
  clear hgr
  have htl : ts.length ≤ 2000 := by unfold pszA at hz; omega
  have hlo2 : lo ≤ W'.heap.size := by have := HO.out.outer.lt gl rfl; omega
  have hz9 : pszA (ts ++ [(y, [])]) ≤ 3000 := by simp only [pszA, sumL, List.length_append, List.map_append, List.sum_append] at hz ⊢; simp; omega
  go_wp2_with (at_builtin; refine push_patch _ rfl _ _ rfl lo ts.length c' W'.heap.size 1 _ none 0 0 (pv ts vs) y rfl rfl (HO.out.outer.alloc _) (cell_new _ _ _ 0) (cell_new _ _ _ 1) (by omega) (by simp; omega) ?_; intro A6 c6 w6 o6 g6; have HP6 := Lib.hid ((HO.out.allocP _).snocRd y o6 g6); have hb6 := (Below.refl W'.heap.size W').alloc (Nat.le_refl _) (.cells #[.int .i64 y, .slice none 0 0] 45); have hg6 := below_of_grown g6 (show lo ≤ (W'.alloc (.cells #[.int .i64 y, .slice none 0 0] 45)).heap.size by simp; omega) (fun k hk => (HO.out.outer.lt k hk).1); have HX6 := Lib.hid (own_under (HX.out.alloc (.cells #[.int .i64 y, .slice none 0 0] 45)) hg6 hA1.out); have HD6 := Lib.hid ((HD.out.alloc (.cells #[.int .i64 y, .slice none 0 0] 45)).push g6 (fun k hk => Nat.le_trans hlw (HO.out.outer.lt k hk).1)); clear o6 g6 hb6 hg6)
  refine bodyPost_ret (results_tmp2 (by rfl) _ _ _) rfl ?_
  exact ⟨A1, _, c1, _, xs, _, by rw [List.length_append]; rfl, ⟨own_ints HX6.out, own_nilc HX6.out, own_cap HX6.out, hx⟩, ⟨by rw [List.length_append]; exact HP6.out, hz9⟩, below_rd hb1.out (by rw [← hg0.out]; exact HD6.out.hg)⟩
end Go.Proofs.Ytlbalepcjamhcaa
