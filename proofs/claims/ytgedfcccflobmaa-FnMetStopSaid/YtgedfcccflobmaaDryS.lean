/-
  What FnMetStop draws: a machine and stops. No condition.
-/
import Derived.Test.YtgedfcccflobmaaDry
import Derived.Test.YtgedfcccflobmaaDrwC
namespace Go.Proofs.Ytgedfcccflobmaa
open Go.RowKit
set_option linter.unusedVariables false
set_option linter.unusedSimpArgs false
/-- A machine and stops, drawn. -/
def GivesMT (w : World) (e : Ending) (w' : World) : Prop := ∃ (x : Mch) (A : Option Addr) (c : Nat) (ts : List Tri) (g : Nat), e = .returned (.tuple #[x.val, .slice A ts.length c]) ∧ Sure g (fun w => MRd w x) w' ∧ (x.B = none → x.bc = 0) ∧ (ts.length ≤ c ∧ (A = none → c = 0)) ∧ Reads w' w'.heap.size 3 A ts.length (iv (fl3 ts)) ∧ ts.length ≤ 9 ∧ Below w.heap.size w w'
theorem l20Stops_b {w : World} (B : Nat) (hb : B ≤ w.heap.size) (g : Nat) (A : Option Addr) (len cap p : Nat) (h : Rd w g A len cap p) (hp : p ≤ 600000000) :
    Calls Try.prog 47 #[.pointer (some ⟨g, 0, none⟩), .int .i64 14] w (Draws g A len cap p 400 w (TRow 74 B 9)) :=
  (l20Stops_any g A len cap p 14 w h (by omega) (by omega) (by omega)).mono fun e w' ⟨v, e1, ⟨A', c', ts, e2, o, hl⟩, r⟩ => ⟨v, e1, ⟨A', c', ts, e2, own_base o hb, hl⟩, r⟩
theorem stK_trow (E base m g r : Nat) (u : Mch) (hg : g < base) (hr : r < base) : StableG (K2 g r u) (TRow E base m) := by
  rintro w w' v h ⟨A, c, xs, rfl, o, hl⟩
  exact ⟨A, c, xs, rfl, own_same o fun q hq => h.2.2.1 q (o.lt q hq).2 (by have := (o.lt q hq).1; omega) (by have := (o.lt q hq).1; omega), hl⟩
set_option maxRecDepth 100000 in
set_option maxHeartbeats 4000000 in
theorem drawMetStop_any (A : Option Addr) (n c : Nat) (zs : List Int) (w : World) (h : IsRow .u8 w A n c zs) :
    Calls Try.prog 21 #[.slice A n c] w (GivesMT w) := by
  obtain ⟨W0, hW0⟩ : ∃ W0, W0 = w.alloc (.cells #[.slice none 0 0, .slice none 0 0, .int .i64 0, .int .i64 0, .int .i64 0, .bool false, .slice none 0 0, .bool false, .int .i64 0] 28) := ⟨_, rfl⟩
  have HI := Lib.hid (show IsRow .u8 W0 A n c zs by rw [hW0]; exact row_alloc h _)
  have HZ := Lib.hid (show HasK W0 w.heap.size zMch by rw [hW0]; exact Blk.new _ _ _)
  have HB0 := Lib.hid (show Below w.heap.size w W0 by rw [hW0]; exact (Below.refl _ _).alloc (Nat.le_refl _) _)
  have hs0 : W0.heap.size = w.heap.size + 1 := by rw [hW0, World.size_alloc]
  replace hW0 := Lib.hid hW0
  have HX0 := Lib.hid h
  clear h
  go_enter Try.func21, Try.ntmps21
  go_wp2_with fail
  rw [← hW0.out]
  refine (open_anyK A n c zs _ HI.out).mono ?_
  rintro e w1 ⟨len, cap, rfl, hR, hb1, hlen⟩
  have hcr := code_farK HX0.out hlen (Nat.le_refl w.heap.size)
  have HR := Lib.hid (show HasK w1 w.heap.size zMch from Blk.below HZ.out hb1 HZ.out.lt)
  have HB := Lib.hid (below_step HB0.out hb1 (by omega))
  obtain ⟨g, hg0⟩ : ∃ g, g = W0.heap.size := ⟨_, rfl⟩
  rw [← hg0] at hR ⊢
  rw [hs0] at hg0
  have hgw : w.heap.size < g := by omega
  have HD := Lib.hid (Drs.start hR)
  have hgl := hR.lt
  clear hR hb1 HZ HB0 HI hs0 hg0
  go_wp2_with fail
  refine (l20Machine_d HD.out 14 (by omega) (by omega) (by omega)).mono ?_
  rintro e W' ⟨v, rfl, ⟨x, rfl, hsure, hnil⟩, hD, hgr⟩
  replace HD := Lib.hid hD
  clear hD
  have hx : x.val = .agg #[.slice x.A x.n x.c, .slice x.R x.rn x.rc, .int .i64 x.bank, .int .i64 x.a, .int .i64 x.pc, .bool x.cy, .slice x.B x.bn x.bc, .bool x.st, .int .i64 x.cyc] := rfl
  rw [hx]
  go_upto_region 3 with (fail)
  have HS := Lib.hid hsure
  replace HR := Lib.hid (HR.out.kept hgr (by intro e; injection e with e; omega))
  clear hgr hsure
  obtain ⟨W2, hW2⟩ : ∃ W2, W2 = W'.alloc (.cells x.cs 28) := ⟨_, rfl⟩
  change Code.wp _ _ _ _ (W'.alloc (.cells x.cs 28))
  rw [← hW2]
  have hsz := HD.out.size.2
  have hrl := HR.out.lt
  have hbw2 : Below W'.heap.size W' W2 := by rw [hW2]; exact (Below.refl _ _).alloc (Nat.le_refl _) _
  have HV := Lib.hid (show HasK W2 W'.heap.size x by rw [hW2]; exact Blk.new _ _ _)
  replace HR := Lib.hid (show HasK W2 w.heap.size zMch from Blk.below HR.out hbw2 HR.out.lt)
  replace HD := Lib.hid (HD.out.below hbw2)
  replace HS := Lib.hid (HS.out.keep (Keep.of_below hbw2))
  obtain ⟨bx, hbx⟩ : ∃ bx, bx = W'.heap.size := ⟨_, rfl⟩
  rw [← hbx] at HV ⊢
  obtain ⟨r, hr⟩ : ∃ r, r = w.heap.size := ⟨_, rfl⟩
  have hnb : bx ≠ g ∧ bx ≠ r := ⟨by omega, by omega⟩
  have hgr2 : g ≠ r := by omega
  rw [← hr] at HR hcr ⊢
  have HRW := Lib.hid hr
  clear hr
  replace hW2 := Lib.hid hW2
  replace hbx := Lib.hid hbx
  clear hbw2
  obtain ⟨p, hp1, hR⟩ := HD.out.rd
  have hp : p ≤ 100000 := by omega
  have hgb : g < W2.heap.size := by have := HD.out.size; omega
  have hrb : r < W2.heap.size := HR.out.lt
  refine region_tailG 4 (K2 g r x) (IsVal ((x).val) :: IsPtr g :: TRow 74 W2.heap.size 9 :: (fun w _ => HasK w r x) :: []) (fun n w' => K2 g r x W2 w' ∧ (∃ p' : Nat, p' + 400 * n ≤ p + 1600 ∧ Rd w' g A len cap p') ∧ ∃ z, HasK w' r z) ?_ ?_ ?_ ?_ ?_ ?_ ?_ ?_ ?_ ?_ ?_
  · kernel_rfl
  · exact ⟨(fun _ _ _ _ h => h), (fun _ _ _ _ h => h), stK_trow _ _ _ _ _ _ hgb hrb, (fun _ _ _ h hv => h.2.2.2 hv), trivial⟩
  · simp
  · exact of_decide_eq_true (by kernel_rfl)
  · kernel_rfl
  · kernel_rfl
  · kernel_rfl
  · kernel_rfl
  · exact ⟨K2.of (grown_drew _ _) hgr2, ⟨p, by simp, hR⟩, _, HR.out⟩
  · refine each_cons ?_ (each_cons ?_ (each_cons ?_ (each_cons ?_ ( trivial))))
    · intro n vs aa w' haa hJ hd K hK
      refine ob_plain rfl ?_
      have hbv := (HV.out).keptG hJ.1 hnb
      refine ob_loadK _ (b := bx) (u := x) rfl (ev_of haa (by kernel_rfl)) hbv ?_
      refine hK _ _ ?_ (K2.refl _ _ _ _) ⟨hJ.1, (by obtain ⟨p', h1, h2⟩ := hJ.2.1; exact ⟨p', by omega, h2⟩), hJ.2.2⟩
      show (IsVal ((x).val)) w' _
      exact rfl
    · intro n vs aa w' haa hJ hd K hK
      refine ob_plain rfl ?_
      refine ob_move _ (v := .pointer (some ⟨g, 0, none⟩)) rfl (ev_of haa (by kernel_rfl)) ?_
      refine hK _ _ ?_ (K2.refl _ _ _ _) ⟨hJ.1, (by obtain ⟨p', h1, h2⟩ := hJ.2.1; exact ⟨p', by omega, h2⟩), hJ.2.2⟩
      show (IsPtr g) w' _
      exact rfl
    · intro n vs aa w' haa hJ hd K hK
      refine ob_plain rfl ?_
      have d1 : (IsPtr g) w' (vs 1) := hd.1 rfl
      have e1 := d1
      obtain ⟨hg', ⟨p', hp', hr'⟩, z, hz⟩ := hJ
      refine ob_call 47 _ _ #[.pointer (some ⟨g, 0, none⟩), .int .i64 (14)] rfl (Eq.trans (b := #[vs 1, .int .i64 (14)]) (evs_of haa (by kernel_rfl)) (by rw [e1])) (fun _ _ => by kernel_rfl) ?_
      refine (l20Stops_b W2.heap.size hg'.2.1 g A len cap p' hr' (by omega)).mono ?_
      rintro e w2 ⟨v, rfl, hv, hg2, p2, hp2, hr2⟩
      refine ⟨_, rfl, ?_⟩
      refine hK _ _ ?_ (K2.of hg2 hgr2) ⟨hg'.trans (K2.of hg2 hgr2), ⟨p2, by omega, hr2⟩, z, hz.kept hg2 (ne_someK hgr2)⟩
      show (TRow 74 W2.heap.size 9) _ _
      exact hv
    · intro n vs aa w' haa hJ hd K hK
      refine ob_plain rfl ?_
      have d0 : (IsVal ((x).val)) w' (vs 0) := hd.1 rfl
      have e0 := d0
      refine ob_storeK _ _ (r := r) (u := x) rfl rfl (ev_of haa (by kernel_rfl)) (Eq.trans (b := vs 0) (ev_of haa (by kernel_rfl)) e0) hJ.2.2.choose_spec ?_
      have hst := hJ.2.2.choose_spec.set x
      refine hK undef _ ?_ (K2.store hJ.2.2.choose_spec) ⟨hJ.1.trans (K2.store hJ.2.2.choose_spec), (by obtain ⟨p', h1, h2⟩ := hJ.2.1; exact ⟨p', by omega, h2.storeK hst.2 hgr2 hcr⟩), _, hst.1⟩
      exact hst.1
  intro vs w' hJ hall
  have hM : vs 0 = x.val := hall 0 (by decide)
  obtain ⟨A7, c7, ts, hT, o7, l7⟩ : TRow 74 W2.heap.size 9 w' (vs 2) := hall 2 (by decide)
  have hru : HasK w' r x := hall 3 (by decide)
  clear hall
  obtain ⟨hg, ⟨p', hp', hr'⟩, -⟩ := hJ
  have HG := Lib.hid hg
  replace HS := Lib.hid (HS.out.keep (hg.keep HR.out))
  have h2 := HB.out.grown HD.out.hg HB.out.size (by intro k hk; injection hk with hk; omega)
  clear hr' hg hR
  simp only [List.take_succ_cons, List.take_zero, List.drop_succ_cons, List.drop_zero, fill, Act.put, List.toList_toArray, List.setIfInBounds_toArray, List.set_cons_zero, List.set_cons_succ, Nat.zero_add, Nat.reduceAdd, hM, hT]
  have hr0 : Blk w' r 28 #[.slice x.A x.n x.c, .slice x.R x.rn x.rc, .int .i64 x.bank, .int .i64 x.a, .int .i64 x.pc, .bool x.cy, .slice x.B x.bn x.bc, .bool x.st, .int .i64 x.cyc] := hru
  have v0 := Blk.cell hr0 0
  have v1 := Blk.cell hr0 1
  have v2 := Blk.cell hr0 2
  have v3 := Blk.cell hr0 3
  have v4 := Blk.cell hr0 4
  have v5 := Blk.cell hr0 5
  have v6 := Blk.cell hr0 6
  have v7 := Blk.cell hr0 7
  have v8 := Blk.cell hr0 8
  simp only [List.getElem?_toArray, List.getElem?_cons_succ, List.getElem?_cons_zero] at v0 v1 v2 v3 v4 v5 v6 v7 v8
  have t0 := Blk.frozen hr0 0
  have t1 := Blk.frozen hr0 1
  have t2 := Blk.frozen hr0 2
  have t3 := Blk.frozen hr0 3
  have t4 := Blk.frozen hr0 4
  have t5 := Blk.frozen hr0 5
  have t6 := Blk.frozen hr0 6
  have t7 := Blk.frozen hr0 7
  have t8 := Blk.frozen hr0 8
  replace hr0 := Lib.hid hr0
  go_wp2_with fail
  refine bodyPost_ret (v := .tuple #[x.val, .slice A7 ts.length c7]) (by rw [hx]; simp [results, Try.results21, go_sem, v0, v1, v2, v3, v4, v5, v6, v7, v8]) rfl ?_
  exact ⟨x, A7, c7, ts, g, rfl, HS.out, hnil, ⟨own_cap o7, own_nilc o7⟩, Reads.of_own o7, l7, ⟨HG.out.1.1.trans h2.os, HG.out.1.2.1.trans h2.tape, HG.out.1.2.2.trans h2.output, Nat.le_trans h2.size HG.out.2.1, fun k hk => (HG.out.2.2.1 k (Nat.lt_of_lt_of_le hk h2.size) (by omega) (by have := HRW.out; omega)).trans (h2.block k hk)⟩⟩
end Go.Proofs.Ytgedfcccflobmaa
