/-
  A memory of given banks: the reference's NewMemory, of banks that are valid.
-/
import Derived.Test.YtgedfcccflobmaaCpy
import Derived.Test.YtgedfcccflobmaaSgo
import Derived.Test.YtgedfcccflobmaaKee
namespace Go.Proofs.Ytgedfcccflobmaa
open Go.RowKit
set_option linter.unusedVariables false
set_option linter.unusedSimpArgs false
/-- append of one row, at a step of a region that draws. -/
theorem step_pushRN {ops : Array Oper} {o : Oper} {a : Act} {K : Act → World → Prop} {Q : Exit → Act → World → Prop} {E : Prop} {w : World} (hgd : o.guard = none) (s x : Operand)
    (ho : o.op = .call { callee := .builtin .append, args := #[s, x], argTypes := #[24, 24] })
    (base n c H d : Nat) (A A2 : Option Addr) (m2 c2 : Nat) (vals : List Value) (hs : a.eval s = .slice A n c) (hx : a.eval x = .slice (some ⟨H, 0, none⟩) 1 d)
    (hown : w.ownsRow base 23 1 (.slice A n c) n vals) (hc1 : w.cell? ⟨H, 0, none⟩ = some (.slice A2 m2 c2)) (hn : n ≤ 10000000) (hb : base ≤ w.heap.size)
    (h : ∀ A' c' w', w'.ownsRow base 23 1 (.slice A' (n + 1) c') (n + 1) (vals ++ [.slice A2 m2 c2]) → w.grownBy w' (Value.slice A n c).ownBlock → K (a.put o.dst (.slice A' (n + 1) c')) w') :
    if Region.wanted o (yielded ops a.tmps) = true then Oper.wp Try.prog o a w K Q else E := by
  have hw : Region.wanted o (yielded ops a.tmps) = true := by simp [Region.wanted, hgd]
  rw [if_pos hw]
  obtain ⟨i0, hi0, hz0, hz1, hz2⟩ := info_parts row_info
  obtain ⟨v', w', hr, h2, h3, h4, h5⟩ := run_append_own_at (P := Try.prog) w base 24 o.type 23 i0 (.slice none 0 0) 1 24 Try.underlying24 hi0 hz0 hz1 hz2 rfl (by omega) _ n vals hown ⟨H, 0, none⟩ 1 d [.slice A2 m2 c2] rfl
    (by intro j u hj; match j, hj with | 0, hj => simp at hj; subst hj; simpa [Addr.add] using hc1) (by intro u hu; simp at hu; subst hu; rfl) (by simp only [maxLen]; omega) (by omega) hb
  unfold Oper.wp execOp
  simp only [ho, resolve, invoke, builtin, Sem.run_bind, Sem.run_pure, Result.andThen_ok, List.map_toArray, List.map_cons, List.map_nil, hs, hx, hr]
  obtain ⟨A', c', rfl⟩ := own_form h2
  exact h A' c' w' h2 h3
theorem lit_ownN (W : World) (base : Nat) (h : base ≤ W.heap.size) : (W.alloc (.cells #[] 3)).ownsRow base 3 1 (.slice (some ⟨W.heap.size, 0, none⟩) 0 0) 0 (iv []) := own_base (World.ownsRow_lit W #[] 0 (Nat.le_refl _) (by simp [maxLen]) rfl) h
theorem far3N (w : World) (b : Nat) (u v z : Value) (q : Nat) (h : q ≠ b) : (((w.setCell ⟨b, 0, none⟩ u).setCell ⟨b, 1, none⟩ v).setCell ⟨b, 2, none⟩ z).heap[q]? = w.heap[q]? := ((Below.heap_setCell _ ⟨b, 2, none⟩ _ q h).trans (Below.heap_setCell _ ⟨b, 1, none⟩ _ q h)).trans (Below.heap_setCell _ ⟨b, 0, none⟩ _ q h)
theorem allB_rep (n : Nat) : allB (List.replicate n 0) = true := by
  unfold allB
  exact List.all_eq_true.2 fun z hz => by rw [List.eq_of_mem_replicate hz]; rfl
set_option maxRecDepth 4000 in
set_option maxHeartbeats 40000000 in
theorem newMemory_valid (R : Option Addr) (rn rc : Nat) (rows : List (List Int)) (w : World) (h : GRd w R rn rows) (r5 : rows.all rowB = true) (r3 : 1 ≤ rows.length) (r4 : rows.length ≤ 4) :
    Calls Try.prog 92 #[.slice R rn rc] w (MemGives w 256 (List.replicate 256 0) rn rows 0) := by
  have hrl := h.1
  have H := Lib.hid h
  have hb0 : Below w.heap.size w (w.alloc (.cells #[.slice none 0 0, .slice none 0 0, .int .i64 0] 26)) := (Below.refl _ _).alloc (Nat.le_refl _) _
  have hw0 : (w.alloc (.cells #[.slice none 0 0, .slice none 0 0, .int .i64 0] 26)).heap.size = w.heap.size + 1 := by simp
  have HK2 := Lib.hid (Blk.new w 26 #[.slice none 0 0, .slice none 0 0, .int .i64 0])
  have HRW := Lib.hid (show ∀ k, k < rn → (rows.getD k []).length ≤ 2000000 from fun k hk => by have := (rows_get r5 (k := k) (by omega)).1; omega)
  have HV := Lib.hid (show memB (List.replicate 256 0) rows 0 = true by
    unfold memB banksB
    rw [allB_rep, r5, show inB (rows.length : Int) 1 4 = true from inB_iff.2 (by omega), show inB (0 : Int) 0 ((rows.length : Int) - 1) = true from inB_iff.2 (by omega)]
    simp)
  have HB0 := Lib.hid hb0
  have HW0 := Lib.hid hw0
  clear hb0 h r5 hw0
  go_enter Try.func92, Try.ntmps92
  go_wp2_with (at_make; refine make_full _ rfl _ _ rfl 256 rfl rfl (by omega) (w.heap.size + 1) (by rw [HW0.out]; exact Nat.le_refl _) ?_; intro w1 o1 b1; have O1 := Lib.hid o1; have B1 := Lib.hid b1; have z1 := b1.size; clear o1 b1)
  obtain ⟨A5, hA5⟩ : ∃ A5 : Option Addr, A5 = some ⟨w.heap.size + 1, 0, none⟩ := ⟨_, rfl⟩
  have hbx := Blk.new w1 26 #[.slice A5 256 256, .slice none 0 0, .int .i64 0]
  have ho := own_below O1.out ((Below.refl _ _).alloc (Nat.le_refl _) (.cells #[.slice A5 256 256, .slice none 0 0, .int .i64 0] 26))
  have hb := HB0.out.trans ((B1.out.mono HB0.out.size).alloc (Nat.le_trans HB0.out.size z1) (.cells #[.slice A5 256 256, .slice none 0 0, .int .i64 0] 26))
  have hm2 := (HK2.out.below B1.out HK2.out.lt).alloc (.cells #[.slice A5 256 256, .slice none 0 0, .int .i64 0] 26)
  rw [HW0.out] at ho
  rw [← hA5] at ho ⊢
  have hlb : w.heap.size + 1 ≤ w1.heap.size := by rw [← HW0.out]; exact z1
  obtain ⟨wc, hwc⟩ : ∃ wc, wc = w1.alloc (.cells #[.slice A5 256 256, .slice none 0 0, .int .i64 0] 26) := ⟨_, rfl⟩
  rw [← hwc] at hbx ho hb hm2 ⊢
  obtain ⟨bx, hbe⟩ : ∃ bx, bx = w1.heap.size := ⟨_, rfl⟩
  rw [← hbe] at hbx hlb ⊢
  replace hwc := Lib.hid hwc
  replace hbe := Lib.hid hbe
  replace hA5 := Lib.hid hA5
  have hl := hlb
  have hcz : w.heap.size + 1 ≤ wc.heap.size := Nat.le_trans hl (Nat.le_of_lt hbx.lt)
  have HB := Lib.hid hb
  have M2 := Lib.hid hm2
  have HNE := Lib.hid (own_blk_ne ho hbx (by decide))
  have hbl := hbx.lt
  have hrn4 : rn ≤ 4 := by omega
  have HBX := Lib.hid hbx
  have HO := Lib.hid ho
  replace hrl := Lib.hid hrl
  clear hbx ho hb hm2 O1 B1 z1
  go_wp2_with fail
  go_loopw [4] (fun i wr => ∃ (k : Nat) (A' : Option Addr) (c' : Nat) (vs : List Value), i = .int .i64 k ∧ k ≤ rn ∧ Blk wr bx 26 #[.slice A5 256 256, .slice A' k c', .int .i64 0] ∧ GOwn wr wc.heap.size wr.heap.size A' c' (rows.take k) vs ∧ wc.grownBy wr (some bx)) (fun i _ => rn - (intOf i).toNat)
  case atStart => exact ⟨0, none, 0, [], rfl, by omega, HBX.out, gown_nil _ _ _, World.grownBy.refl _ _⟩
  case round =>
    obtain ⟨k, A', c', vs, rfl, hk, hX, hG, hg⟩ := hrel
    have hsw := hg.size
    have hbr := HB.out.trans (below_of_grown (B := w.heap.size) hg (by omega) (fun q hq => by injection hq with hq; omega))
    have HBR := Lib.hid hbr
    have N2 := Lib.hid (M2.out.grown hg (by show some _ ≠ some _; simp; omega))
    have x0 := hX.cell 0
    have x1 := hX.cell 1
    have x2 := hX.cell 2
    have y1 := hX.frozen 1
    have hbxr := hX.lt
    have hwr : w.heap.size < wr.heap.size := by omega
    have HX := Lib.hid hX
    have HG := Lib.hid hG
    have HGR := Lib.hid hg
    by_cases hlt : k < rn
    · obtain ⟨b, off, X, cx, e1, hbb, d1, hd1, hd2, hi⟩ := (H.out.below hbr).spot hlt
      have hd := HRW.out k hlt
      have htk : rows.take (k + 1) = rows.take k ++ [rows.getD k []] := (take_getDR [] (show k < rows.length by have := hrl.out; omega)).symm
      have htl : (rows.take k).length = k := by rw [List.length_take]; have := hrl.out; omega
      have HNA : (Value.slice A' k c').ownBlock ≠ some bx := by have := own_blk_ne hG.outer hX (by decide); rwa [htl] at this
      replace HNA := Lib.hid HNA
      generalize rows.getD k [] = xs at d1 hd1 hi hd htk
      have HI := Lib.hid hi
      have HTK := Lib.hid htk
      have HTL := Lib.hid htl
      have q1 : (k : Int) < (rn : Int) := by omega
      have q0 : (0 : Int) ≤ (k : Int) := by omega
      have HN := Lib.hid hd2
      have LO := Lib.hid (lit_ownN wr wr.heap.size (Nat.le_refl _))
      have LB := Lib.hid ((Below.refl wr.heap.size wr).alloc (Nat.le_refl _) (.cells #[] 3))
      clear hbr hX hG hg hi htk htl hd2
      rw [e1]
      replace e1 := Lib.hid e1
      go_wp2_with fail
      go_region_law ((first | (refine step_copyX (by rfl) _ _ (by rfl) wr.heap.size 0 0 xs.length cx _ (some ⟨wr.heap.size, 0, none⟩) X [] xs (by rfl) (by rfl) LO.out (HI.out.below LB.out.drew) HN.out (by omega) (by simp) ?_; intro A6 c6 w5 o5 b5 g5; rw [List.nil_append, Nat.zero_add] at o5; have B5 := Lib.hid (LB.out.drew.trans b5); have X5 := HX.out.below B5.out hbxr; have x1' := X5.cell 1; have y1' := X5.frozen 1; have z5 := B5.out.size; have hbx5 := X5.lt; have hw5 : w.heap.size < w5.heap.size := (by omega); have d1' := (B5.out.cell (p := ⟨b, off + k, none⟩) hbb).trans d1; replace X5 := Lib.hid X5; replace o5 := Lib.hid o5; clear b5 g5; rw [Nat.zero_add]) | (refine step_pushRN (by rfl) _ _ (by rfl) wc.heap.size k c' w5.heap.size 1 A' A6 xs.length c6 vs (by rfl) (by rfl) (by have := ((HG.out.below B5.out).outer.alloc (.cells #[.slice A6 xs.length c6] 23)); rw [HTL.out] at this; exact this) (cell_new _ _ _ 0) (by omega) (by simp; omega) ?_; intro A7 c7 w7 o7 g7; have X7 := ((X5.out.alloc (.cells #[.slice A6 xs.length c6] 23)).grown g7 (Ne.symm HNA.out)); have y1'' := X7.frozen 1; have x1'' : w7.cell? ⟨bx, 1, none⟩ = some (.slice A' k c') := X7.cell 1; have hbx7 := X7.lt; replace X7 := Lib.hid X7; replace o7 := Lib.hid o7; replace g7 := Lib.hid g7)))
      all_goals (
        go_wp2_with fail
        go_roundw
        case rel =>
          have hsn := GOwn.snoc ((HG.out.below B5.out).allocP (.cells #[.slice A6 xs.length c6] 23)) xs (.slice A6 xs.length c6) (by rw [HTL.out]; exact o7.out) (by rw [HTL.out]; exact g7.out) (own_base (o5.out.alloc _) (by omega)) (fun q hq => (o5.out.lt q hq).1) (by simp; omega)
          rw [← HTK.out] at hsn
          refine ⟨k + 1, A7, c7, vs ++ [.slice A6 xs.length c6], by go_num, by omega, X7.out.set_ 1 _, ?_, ?_⟩
          · have hs7 : (w7.setCell ⟨bx, 1, none⟩ (.slice A7 (k + 1) c7)).heap.size = w7.heap.size := by simp [World.setCell]
            rw [hs7]
            exact local_ZG _ _ _ _ _ _ w7 _ hsn (by rw [hs7]; exact Nat.le_refl _) fun q q1 q2 => Below.heap_setCell _ ⟨bx, 1, none⟩ _ q (show q ≠ bx by omega)
          · refine World.grownBy.andThen (row' := some bx) (World.grownBy.andThen (World.grownBy.andThen (World.grownBy.andThen HGR.out (grown_of_below B5.out none) (by intro j hj; cases hj)) (World.grownBy_alloc w5 (.cells #[.slice A6 xs.length c6] 23) none) (by intro j hj; cases hj)) g7.out (fun j hj => .inl ?_)) ⟨rfl, rfl, rfl, by simp [World.setCell], fun q hq hne => Below.heap_setCell _ ⟨bx, 1, none⟩ _ q (fun e => hne (by rw [e]))⟩ (fun j hj => .inr hj)
            have := HG.out.outer
            rw [HTL.out] at this
            exact (this.lt j hj).1
        case measure => simp [intOf]; omega)
    · obtain rfl : k = rn := by omega
      have n0 := N2.out.cell 0
      have n1 := N2.out.cell 1
      have n2 := N2.out.cell 2
      have f0 := N2.out.frozen 0
      have f1 := N2.out.frozen 1
      have f2 := N2.out.frozen 2
      have hn2 := N2.out.lt
      have hRW : rows.take k = rows := List.take_of_length_le (by have := hrl.out; omega)
      rw [hRW] at hG
      replace HG := Lib.hid hG
      have hq1 : ¬ (k : Int) < (k : Int) := by omega
      clear hbr hX hG hg hRW
      have HMR := Lib.hid (show MemRd wr A5 256 (List.replicate 256 0) A' k rows from ⟨own_ints (own_same HO.out fun q hq => HGR.out.block q (HO.out.lt q hq).2 (fun e => HNE.out (by rw [hq]; exact e))), by have := HG.out.rd; rw [hrl.out] at this; exact this, by omega, by omega, fun j hj => by have := HRW.out j hj; omega⟩)
      go_wp2_with (go_at_call 36; refine (memoryValid_spec _ _ _ _ _ _ _ _ _ _ HMR.out).mono ?_; rintro e w9 ⟨rfl, b9⟩; rw [HV.out]; have X9 := HX.out.below b9 hbxr; have x0 := X9.cell 0; have x1 := X9.cell 1; have x2 := X9.cell 2; have N9 := N2.out.below b9 hn2; have n0 := N9.cell 0; have n1 := N9.cell 1; have n2 := N9.cell 2; have f0 := N9.frozen 0; have f1 := N9.frozen 1; have f2 := N9.frozen 2; have hn9 := N9.lt; replace N9 := Lib.hid N9; have B9 := Lib.hid b9; clear X9 b9)
      refine bodyPost_ret (results_cell_row Try.results92 _ _ w.heap.size 26 #[.slice A5 256 256, .slice A' k c', .int .i64 0] (0, 0) _ rfl (((N9.out.set_ 0 _).set_ 1 _).set_ 2 _) Try.underlying26 rfl rfl) rfl ?_
      have hfar : ∀ q, q < wr.heap.size → q ≠ w.heap.size → _ := fun q h1 h2 => (far3N w9 w.heap.size (.slice A5 256 256) (.slice A' k c') (.int .i64 0) q h2).trans (B9.out.block q h1)
      have hsame : ∀ q, (Value.slice A5 256 256).ownBlock = some q → _ := fun q hq => (hfar q (Nat.lt_of_lt_of_le (HO.out.lt q hq).2 hsw) (by have := (HO.out.lt q hq).1; omega)).trans (HGR.out.block q (HO.out.lt q hq).2 (fun e => HNE.out (by rw [hq]; exact e)))
      have hz9 : wr.heap.size ≤ (((w9.setCell ⟨w.heap.size, 0, none⟩ (.slice A5 256 256)).setCell ⟨w.heap.size, 1, none⟩ (.slice A' k c')).setCell ⟨w.heap.size, 2, none⟩ (.int .i64 0)).heap.size := by simpa [World.setCell] using B9.out.size
      exact ⟨A5, 256, A', c', vs, wc.heap.size, rfl, ⟨own_base (own_same HO.out hsame) (by omega), ⟨wr.heap.size, hz9, fun q hq => .inl (HO.out.lt q hq).2, local_ZG _ _ _ _ _ _ wr _ HG.out hz9 fun q q1 q2 => hfar q q2 (by omega)⟩, by omega⟩, (((below_step HBR.out B9.out HBR.out.size).setCell (Nat.le_refl _) _).setCell (Nat.le_refl _) _).setCell (Nat.le_refl _) _⟩
end Go.Proofs.Ytgedfcccflobmaa
