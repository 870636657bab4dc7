/-
  Copies of a machine: the reference's l2Copy and l5Copy. The machine is valid.
-/
import Derived.Test.YtgedfcccflobmaaCpy
import Derived.Test.YtgedfcccflobmaaSgo
import Derived.Test.YtgedfcccflobmaaKee
import Derived.Deep.DeepCutAuto
namespace Go.Proofs.Ytgedfcccflobmaa
open Go.RowKit
set_option linter.unusedVariables false
set_option linter.unusedSimpArgs false
/-- append of one row, at a step of a region that draws. -/
theorem step_pushR {ops : Array Oper} {o : Oper} {a : Act} {K : Act → World → Prop} {Q : Exit → Act → World → Prop} {E : Prop} {w : World} (hgd : o.guard = none) (s x : Operand)
    (ho : o.op = .call { callee := .builtin .append, args := #[s, x], argTypes := #[24, 24] })
    (base n c H d : Nat) (A A2 : Option Addr) (m2 c2 : Nat) (vals : List Value) (hs : a.eval s = .slice A n c) (hx : a.eval x = .slice (some ⟨H, 0, none⟩) 1 d)
    (hown : w.ownsRow base 23 1 (.slice A n c) n vals) (hc1 : w.cell? ⟨H, 0, none⟩ = some (.slice A2 m2 c2)) (hn : n ≤ 10000000) (hb : base ≤ w.heap.size)
    (h : ∀ A' c' w', w'.ownsRow base 23 1 (.slice A' (n + 1) c') (n + 1) (vals ++ [.slice A2 m2 c2]) → w.grownBy w' (Value.slice A n c).ownBlock → K (a.put o.dst (.slice A' (n + 1) c')) w') :
    if Region.wanted o (yielded ops a.tmps) = true then Oper.wp Try.prog o a w K Q else E := by
  have hw : Region.wanted o (yielded ops a.tmps) = true := by simp [Region.wanted, hgd]
  rw [if_pos hw]
  obtain ⟨i0, hi0, hz0, hz1, hz2⟩ := info_parts row_info
  obtain ⟨v', w', hr, h2, h3, h4, h5⟩ := run_append_own_at (P := Try.prog) w base 24 o.type 23 i0 (.slice none 0 0) 1 24 Try.underlying24 hi0 hz0 hz1 hz2 rfl (by omega) _ n vals hown ⟨H, 0, none⟩ 1 d [.slice A2 m2 c2] rfl
    (by intro j u hj; match j, hj with | 0, hj => simp at hj; subst hj; simpa [Addr.add] using hc1) (by intro u hu; simp at hu; subst hu; rfl) (by simp only [maxLen]; omega) (by omega) hb
  unfold Oper.wp execOp
  simp only [ho, resolve, invoke, builtin, Sem.run_bind, Sem.run_pure, Result.andThen_ok, List.map_toArray, List.map_cons, List.map_nil, hs, hx, hr]
  obtain ⟨A', c', rfl⟩ := own_form h2
  exact h A' c' w' h2 h3
theorem far3 (w : World) (b : Nat) (u v z : Value) (q : Nat) (h : q ≠ b) : (((w.setCell ⟨b, 0, none⟩ u).setCell ⟨b, 1, none⟩ v).setCell ⟨b, 2, none⟩ z).heap[q]? = w.heap[q]? := ((Below.heap_setCell _ ⟨b, 2, none⟩ _ q h).trans (Below.heap_setCell _ ⟨b, 1, none⟩ _ q h)).trans (Below.heap_setCell _ ⟨b, 0, none⟩ _ q h)
theorem lit_own (W : World) (base : Nat) (h : base ≤ W.heap.size) : (W.alloc (.cells #[] 3)).ownsRow base 3 1 (.slice (some ⟨W.heap.size, 0, none⟩) 0 0) 0 (iv []) := own_base (World.ownsRow_lit W #[] 0 (Nat.le_refl _) (by simp [maxLen]) rfl) h
set_option maxRecDepth 4000 in
set_option maxHeartbeats 40000000 in
theorem l2Copy_at (ad : Addr) (n c : Nat) (rs : List Int) (R : Option Addr) (rn rc : Nat) (rows : List (List Int)) (bank : Int) (w : World) (h : MemRd w (some ad) n rs R rn rows) (hm : memB rs rows bank = true) :
    Calls Try.prog 59 #[.agg #[.slice (some ad) n c, .slice R rn rc, .int .i64 bank]] w (MemGives w n rs rn rows bank) := by
  obtain ⟨⟨r1, r2⟩, ⟨r3, r4⟩, r5, r6, r7⟩ := mem_facts hm
  have hnl := h.ram.len
  have hrl := h.rom.1
  obtain ⟨K1, K2⟩ := blkC w #[.slice (some ad) n c, .slice R rn rc, .int .i64 bank] #[.slice none 0 0, .slice none 0 0, .int .i64 0] 26 26
  have hb0 : Below w.heap.size w ((w.alloc (.cells #[.slice (some ad) n c, .slice R rn rc, .int .i64 bank] 26)).alloc (.cells #[.slice none 0 0, .slice none 0 0, .int .i64 0] 26)) := ((Below.refl _ _).alloc (Nat.le_refl _) _).alloc (by simp) _
  have HR := Lib.hid (h.below hb0)
  have H := Lib.hid h
  have HB0 := Lib.hid hb0
  have hsz : ((w.alloc (.cells #[.slice (some ad) n c, .slice R rn rc, .int .i64 bank] 26)).alloc (.cells #[.slice none 0 0, .slice none 0 0, .int .i64 0] 26)).heap.size = w.heap.size + 2 := by simp
  have HK1 := Lib.hid K1
  have HK2 := Lib.hid K2
  have c0 := K1.cell 0
  have c1 := K1.cell 1
  have c2 := K1.cell 2
  have HRW := Lib.hid (show ∀ k, k < rn → (rows.getD k []).length ≤ 2000000 from fun k hk => by have := (rows_get r5 (k := k) (by omega)).1; omega)
  have D1 := Lib.hid (show Below ((w.alloc (.cells #[.slice (some ad) n c, .slice R rn rc, .int .i64 bank] 26)).alloc (.cells #[.slice none 0 0, .slice none 0 0, .int .i64 0] 26)).heap.size ((w.alloc (.cells #[.slice (some ad) n c, .slice R rn rc, .int .i64 bank] 26)).alloc (.cells #[.slice none 0 0, .slice none 0 0, .int .i64 0] 26)) (((w.alloc (.cells #[.slice (some ad) n c, .slice R rn rc, .int .i64 bank] 26)).alloc (.cells #[.slice none 0 0, .slice none 0 0, .int .i64 0] 26)).alloc (.cells #[] 3)) from (Below.refl _ _).alloc (Nat.le_refl _) _)
  have D2 := Lib.hid (show Below ((w.alloc (.cells #[.slice (some ad) n c, .slice R rn rc, .int .i64 bank] 26)).alloc (.cells #[.slice none 0 0, .slice none 0 0, .int .i64 0] 26)).heap.size ((w.alloc (.cells #[.slice (some ad) n c, .slice R rn rc, .int .i64 bank] 26)).alloc (.cells #[.slice none 0 0, .slice none 0 0, .int .i64 0] 26)) ((((w.alloc (.cells #[.slice (some ad) n c, .slice R rn rc, .int .i64 bank] 26)).alloc (.cells #[.slice none 0 0, .slice none 0 0, .int .i64 0] 26)).alloc (.cells #[] 3)).alloc (.cells #[.slice none 0 0, .slice none 0 0, .int .i64 0] 26)) from ((Below.refl _ _).alloc (Nat.le_refl _) _).alloc (by simp) _)
  have D3 := Lib.hid (show Below ((w.alloc (.cells #[.slice (some ad) n c, .slice R rn rc, .int .i64 bank] 26)).alloc (.cells #[.slice none 0 0, .slice none 0 0, .int .i64 0] 26)).heap.size ((w.alloc (.cells #[.slice (some ad) n c, .slice R rn rc, .int .i64 bank] 26)).alloc (.cells #[.slice none 0 0, .slice none 0 0, .int .i64 0] 26)) ((((w.alloc (.cells #[.slice (some ad) n c, .slice R rn rc, .int .i64 bank] 26)).alloc (.cells #[.slice none 0 0, .slice none 0 0, .int .i64 0] 26)).alloc (.cells #[.slice none 0 0, .slice none 0 0, .int .i64 0] 26)).alloc (.cells #[] 3)) from ((Below.refl _ _).alloc (Nat.le_refl _) _).alloc (by simp) _)
  have O1 : (((w.alloc (.cells #[.slice (some ad) n c, .slice R rn rc, .int .i64 bank] 26)).alloc (.cells #[.slice none 0 0, .slice none 0 0, .int .i64 0] 26)).alloc (.cells #[] 3)).ownsRow (w.heap.size + 2) 3 1 (.slice (some ⟨w.heap.size + 2, 0, none⟩) 0 0) 0 (iv []) := by have := lit_own ((w.alloc (.cells #[.slice (some ad) n c, .slice R rn rc, .int .i64 bank] 26)).alloc (.cells #[.slice none 0 0, .slice none 0 0, .int .i64 0] 26)) (w.heap.size + 2) (by simp); rwa [hsz] at this
  have O2 := Lib.hid (own_below O1 ((Below.refl _ _).alloc (Nat.le_refl _) (.cells #[.slice none 0 0, .slice none 0 0, .int .i64 0] 26)))
  replace O1 := Lib.hid O1
  have O3 : ((((w.alloc (.cells #[.slice (some ad) n c, .slice R rn rc, .int .i64 bank] 26)).alloc (.cells #[.slice none 0 0, .slice none 0 0, .int .i64 0] 26)).alloc (.cells #[.slice none 0 0, .slice none 0 0, .int .i64 0] 26)).alloc (.cells #[] 3)).ownsRow (w.heap.size + 2) 3 1 (.slice (some ⟨w.heap.size + 3, 0, none⟩) 0 0) 0 (iv []) := by have := lit_own (((w.alloc (.cells #[.slice (some ad) n c, .slice R rn rc, .int .i64 bank] 26)).alloc (.cells #[.slice none 0 0, .slice none 0 0, .int .i64 0] 26)).alloc (.cells #[.slice none 0 0, .slice none 0 0, .int .i64 0] 26)) (w.heap.size + 2) (by simp); rwa [show (((w.alloc (.cells #[.slice (some ad) n c, .slice R rn rc, .int .i64 bank] 26)).alloc (.cells #[.slice none 0 0, .slice none 0 0, .int .i64 0] 26)).alloc (.cells #[.slice none 0 0, .slice none 0 0, .int .i64 0] 26)).heap.size = w.heap.size + 3 by simp] at this
  replace O3 := Lib.hid O3
  have X2 : Blk ((((w.alloc (.cells #[.slice (some ad) n c, .slice R rn rc, .int .i64 bank] 26)).alloc (.cells #[.slice none 0 0, .slice none 0 0, .int .i64 0] 26)).alloc (.cells #[] 3)).alloc (.cells #[.slice none 0 0, .slice none 0 0, .int .i64 0] 26)) (w.heap.size + 3) 26 #[.slice none 0 0, .slice none 0 0, .int .i64 0] := by have := Blk.new (((w.alloc (.cells #[.slice (some ad) n c, .slice R rn rc, .int .i64 bank] 26)).alloc (.cells #[.slice none 0 0, .slice none 0 0, .int .i64 0] 26)).alloc (.cells #[] 3)) 26 #[.slice none 0 0, .slice none 0 0, .int .i64 0]; rwa [show (((w.alloc (.cells #[.slice (some ad) n c, .slice R rn rc, .int .i64 bank] 26)).alloc (.cells #[.slice none 0 0, .slice none 0 0, .int .i64 0] 26)).alloc (.cells #[] 3)).heap.size = w.heap.size + 3 by simp] at this
  have X3 : Blk ((((w.alloc (.cells #[.slice (some ad) n c, .slice R rn rc, .int .i64 bank] 26)).alloc (.cells #[.slice none 0 0, .slice none 0 0, .int .i64 0] 26)).alloc (.cells #[.slice none 0 0, .slice none 0 0, .int .i64 0] 26)).alloc (.cells #[] 3)) (w.heap.size + 2) 26 #[.slice none 0 0, .slice none 0 0, .int .i64 0] := by have := (Blk.new ((w.alloc (.cells #[.slice (some ad) n c, .slice R rn rc, .int .i64 bank] 26)).alloc (.cells #[.slice none 0 0, .slice none 0 0, .int .i64 0] 26)) 26 #[.slice none 0 0, .slice none 0 0, .int .i64 0]).alloc (.cells #[] 3); rwa [hsz] at this
  replace X2 := Lib.hid X2
  replace X3 := Lib.hid X3
  have hsz' := Lib.hid hsz
  clear K1 K2 hb0 h
  go_enter Try.func59, Try.ntmps59
  go_upto_region 1 with fail
  go_cut [3] (fun p wx => ∃ (A5 : Option Addr) (c5 bx : Nat), p = .pointer (some ⟨bx, 0, none⟩) ∧ Blk wx bx 26 #[.slice A5 n c5, .slice none 0 0, .int .i64 bank] ∧ wx.ownsRow (w.heap.size + 2) 3 1 (.slice A5 n c5) n (iv rs) ∧ Below (w.heap.size + 2) ((w.alloc (.cells #[.slice (some ad) n c, .slice R rn rc, .int .i64 bank] 26)).alloc (.cells #[.slice none 0 0, .slice none 0 0, .int .i64 0] 26)) wx ∧ w.heap.size + 2 ≤ bx)
  case first =>
    go_region_law ((first | (refine step_copyX (by rfl) _ _ (by rfl) (w.heap.size + 2) 0 0 n c _ (some ⟨w.heap.size + 2, 0, none⟩) (some ad) [] rs (by rfl) (by rfl) O1.out (HR.out.below D1.out).ram (by simp) (by omega) (by first | omega | (simp; done) | (simp; omega)) ?_; intro A5 c5 w5 o5 b5 g5; rw [List.nil_append, Nat.zero_add] at o5; have B5 := Lib.hid ((D1.out.mono (by simp)).drew.trans b5); have z5 : w.heap.size + 2 ≤ w5.heap.size := (by rw [← hsz'.out]; exact B5.out.size); have zz5 : w.heap.size < w5.heap.size := (by omega); have zz6 : w.heap.size + 1 < w5.heap.size := (by omega); have k1 := Lib.hid (HK1.out.below B5.out (by omega)); have k2 := Lib.hid (HK2.out.below B5.out (by omega)); have c1' := k1.out.cell 1; have c2' := k1.out.cell 2; replace o5 := Lib.hid o5; clear b5 g5; rw [Nat.zero_add]) | (refine step_copyX (by rfl) _ _ (by rfl) (w.heap.size + 2) 0 0 n c _ (some ⟨w.heap.size + 2, 0, none⟩) (some ad) [] rs (by rfl) (by rfl) O2.out (HR.out.below D2.out).ram (by simp) (by omega) (by first | omega | (simp; done) | (simp; omega)) ?_; intro A5 c5 w5 o5 b5 g5; rw [List.nil_append, Nat.zero_add] at o5; have HBX := (X2.out.drew : Blk _ (w.heap.size + 3) 26 #[.slice none 0 0, .slice none 0 0, .int .i64 0]).grown g5 (by show some _ ≠ some _; simp); have x0 := HBX.cell 0; have x1 := HBX.cell 1; have x2 := HBX.cell 2; have y0 := HBX.frozen 0; have y1 := HBX.frozen 1; have y2 := HBX.frozen 2; have hbx5 := HBX.lt; replace HBX := Lib.hid HBX; have B5 := Lib.hid ((D2.out.mono (by simp)).drew.trans b5); have z5 : w.heap.size + 2 ≤ w5.heap.size := (by rw [← hsz'.out]; exact B5.out.size); have zz5 : w.heap.size < w5.heap.size := (by omega); have zz6 : w.heap.size + 1 < w5.heap.size := (by omega); have k1 := Lib.hid (HK1.out.below B5.out (by omega)); have k2 := Lib.hid (HK2.out.below B5.out (by omega)); have c1' := k1.out.cell 1; have c2' := k1.out.cell 2; replace o5 := Lib.hid o5; clear b5 g5; rw [Nat.zero_add]) | (refine step_copyX (by rfl) _ _ (by rfl) (w.heap.size + 2) 0 0 n c _ (some ⟨w.heap.size + 3, 0, none⟩) (some ad) [] rs (by rfl) (by rfl) O3.out (HR.out.below D3.out).ram (by simp) (by omega) (by first | omega | (simp; done) | (simp; omega)) ?_; intro A5 c5 w5 o5 b5 g5; rw [List.nil_append, Nat.zero_add] at o5; have HBX := (X3.out.drew : Blk _ (w.heap.size + 2) 26 #[.slice none 0 0, .slice none 0 0, .int .i64 0]).grown g5 (by show some _ ≠ some _; simp); have x0 := HBX.cell 0; have x1 := HBX.cell 1; have x2 := HBX.cell 2; have y0 := HBX.frozen 0; have y1 := HBX.frozen 1; have y2 := HBX.frozen 2; have hbx5 := HBX.lt; replace HBX := Lib.hid HBX; have B5 := Lib.hid ((D3.out.mono (by simp)).drew.trans b5); have z5 : w.heap.size + 2 ≤ w5.heap.size := (by rw [← hsz'.out]; exact B5.out.size); have zz5 : w.heap.size < w5.heap.size := (by omega); have zz6 : w.heap.size + 1 < w5.heap.size := (by omega); have k1 := Lib.hid (HK1.out.below B5.out (by omega)); have k2 := Lib.hid (HK2.out.below B5.out (by omega)); have c1' := k1.out.cell 1; have c2' := k1.out.cell 2; replace o5 := Lib.hid o5; clear b5 g5; rw [Nat.zero_add])))
    all_goals (
      go_wp2_with fail
      go_meet
      case rel => first
        | exact ⟨A5, c5, w5.heap.size, rfl, Blk.new _ _ _, own_below o5.out ((Below.refl _ _).alloc (Nat.le_refl _) _), B5.out.alloc z5 _, z5⟩
        | exact ⟨A5, c5, _, rfl, ((HBX.out.set_ 0 _).set_ 1 _).set_ 2 _, own_same o5.out (fun q hq => far3 _ _ _ _ _ _ (by have := own_blk_ne o5.out HBX.out (by decide); intro e; exact this (e ▸ hq))), ((B5.out.setCell (by simp) _).setCell (by simp) _).setCell (by simp) _, by omega⟩)
  case rest =>
    obtain ⟨A5, c5, bx, rfl, hbx, ho, hb, hl⟩ := hcut
    have hcz : w.heap.size + 2 ≤ wc.heap.size := Nat.le_trans hl (Nat.le_of_lt hbx.lt)
    have HB := Lib.hid (HB0.out.trans (hb.mono (Nat.le_add_right w.heap.size 2)))
    have M1 := Lib.hid (HK1.out.below hb (by omega))
    have M2 := Lib.hid (HK2.out.below hb (by omega))
    have HNE := Lib.hid (own_blk_ne ho hbx (by decide))
    have hbl := hbx.lt
    have hrn4 : rn ≤ 4 := by omega
    have HBX := Lib.hid hbx
    have HO := Lib.hid ho
    replace hrl := Lib.hid hrl
    replace hnl := Lib.hid hnl
    replace hsz := Lib.hid hsz
    clear hbx ho hb c0 c1 c2 r1 r2 r5 r6 r7 hm
    go_wp2_with fail
    go_loopw [4] (fun i wr => ∃ (k : Nat) (A' : Option Addr) (c' : Nat) (vs : List Value), i = .int .i64 k ∧ k ≤ rn ∧ Blk wr bx 26 #[.slice A5 n c5, .slice A' k c', .int .i64 bank] ∧ GOwn wr wc.heap.size wr.heap.size A' c' (rows.take k) vs ∧ wc.grownBy wr (some bx)) (fun i _ => rn - (intOf i).toNat)
    case atStart => exact ⟨0, none, 0, [], rfl, by omega, HBX.out, gown_nil _ _ _, World.grownBy.refl _ _⟩
    case round =>
      obtain ⟨k, A', c', vs, rfl, hk, hX, hG, hg⟩ := hrel
      have hsw := hg.size
      have hbr := HB.out.trans (below_of_grown (B := w.heap.size) hg (by omega) (fun q hq => by injection hq with hq; omega))
      have HBR := Lib.hid hbr
      have N1 := M1.out.grown hg (by show some _ ≠ some _; simp; omega)
      have N2 := Lib.hid (M2.out.grown hg (by show some _ ≠ some _; simp; omega))
      have m1 := N1.cell 1
      have x0 := hX.cell 0
      have x1 := hX.cell 1
      have x2 := hX.cell 2
      have y1 := hX.frozen 1
      have hbxr := hX.lt
      have hwr := N1.lt
      have HX := Lib.hid hX
      have HG := Lib.hid hG
      have HGR := Lib.hid hg
      by_cases hlt : k < rn
      · obtain ⟨b, off, X, cx, e1, hbb, d1, hd1, hd2, hi⟩ := (H.out.below hbr).rom.spot hlt
        have hd := HRW.out k hlt
        have htk : rows.take (k + 1) = rows.take k ++ [rows.getD k []] := (take_getDR [] (show k < rows.length by have := hrl.out; omega)).symm
        have htl : (rows.take k).length = k := by rw [List.length_take]; have := hrl.out; omega
        have HNA : (Value.slice A' k c').ownBlock ≠ some bx := by have := own_blk_ne hG.outer hX (by decide); rwa [htl] at this
        replace HNA := Lib.hid HNA
        have N1' := Lib.hid N1
        generalize rows.getD k [] = xs at d1 hd1 hi hd htk
        have HI := Lib.hid hi
        have HTK := Lib.hid htk
        have HTL := Lib.hid htl
        have q1 : (k : Int) < (rn : Int) := by omega
        have q0 : (0 : Int) ≤ (k : Int) := by omega
        have HN := Lib.hid hd2
        have LO := Lib.hid (lit_own wr wr.heap.size (Nat.le_refl _))
        have LB := Lib.hid ((Below.refl wr.heap.size wr).alloc (Nat.le_refl _) (.cells #[] 3))
        clear hbr hX hG hg hi htk htl hd2 N1
        rw [e1] at m1
        replace e1 := Lib.hid e1
        go_wp2_with fail
        go_region_law ((first | (refine step_copyX (by rfl) _ _ (by rfl) wr.heap.size 0 0 xs.length cx _ (some ⟨wr.heap.size, 0, none⟩) X [] xs (by rfl) (by rfl) LO.out (HI.out.below LB.out.drew) HN.out (by omega) (by simp) ?_; intro A6 c6 w5 o5 b5 g5; rw [List.nil_append, Nat.zero_add] at o5; have B5 := Lib.hid (LB.out.drew.trans b5); have X5 := HX.out.below B5.out hbxr; have x1' := X5.cell 1; have y1' := X5.frozen 1; have z5 := B5.out.size; have hbx5 := X5.lt; have m1' := (N1'.out.below B5.out hwr).cell 1; rw [e1.out] at m1'; have hw5 : w.heap.size < w5.heap.size := (by omega); have d1' := (B5.out.cell (p := ⟨b, off + k, none⟩) hbb).trans d1; replace X5 := Lib.hid X5; replace o5 := Lib.hid o5; clear b5 g5; rw [Nat.zero_add]) | (refine step_pushR (by rfl) _ _ (by rfl) wc.heap.size k c' w5.heap.size 1 A' A6 xs.length c6 vs (by rfl) (by rfl) (by have := ((HG.out.below B5.out).outer.alloc (.cells #[.slice A6 xs.length c6] 23)); rw [HTL.out] at this; exact this) (cell_new _ _ _ 0) (by omega) (by simp; omega) ?_; intro A7 c7 w7 o7 g7; have X7 := ((X5.out.alloc (.cells #[.slice A6 xs.length c6] 23)).grown g7 (Ne.symm HNA.out)); have y1'' := X7.frozen 1; have x1'' : w7.cell? ⟨bx, 1, none⟩ = some (.slice A' k c') := X7.cell 1; have hbx7 := X7.lt; replace X7 := Lib.hid X7; replace o7 := Lib.hid o7; replace g7 := Lib.hid g7)))
        all_goals (
          go_wp2_with fail
          go_roundw
          case rel =>
            have hsn := GOwn.snoc ((HG.out.below B5.out).allocP (.cells #[.slice A6 xs.length c6] 23)) xs (.slice A6 xs.length c6) (by rw [HTL.out]; exact o7.out) (by rw [HTL.out]; exact g7.out) (own_base (o5.out.alloc _) (by omega)) (fun q hq => (o5.out.lt q hq).1) (by simp; omega)
            rw [← HTK.out] at hsn
            refine ⟨k + 1, A7, c7, vs ++ [.slice A6 xs.length c6], by go_num, by omega, X7.out.set_ 1 _, ?_, ?_⟩
            · have hs7 : (w7.setCell ⟨bx, 1, none⟩ (.slice A7 (k + 1) c7)).heap.size = w7.heap.size := by simp [World.setCell]
              rw [hs7]
              exact local_ZG _ _ _ _ _ _ w7 _ hsn (by rw [hs7]; exact Nat.le_refl _) fun q q1 q2 => Below.heap_setCell _ ⟨bx, 1, none⟩ _ q (show q ≠ bx by omega)
            · refine World.grownBy.andThen (row' := some bx) (World.grownBy.andThen (World.grownBy.andThen (World.grownBy.andThen HGR.out (grown_of_below B5.out none) (by intro j hj; cases hj)) (World.grownBy_alloc w5 (.cells #[.slice A6 xs.length c6] 23) none) (by intro j hj; cases hj)) g7.out (fun j hj => .inl ?_)) ⟨rfl, rfl, rfl, by simp [World.setCell], fun q hq hne => Below.heap_setCell _ ⟨bx, 1, none⟩ _ q (fun e => hne (by rw [e]))⟩ (fun j hj => .inr hj)
              have := HG.out.outer
              rw [HTL.out] at this
              exact (this.lt j hj).1
          case measure => simp [intOf]; omega)
      · obtain rfl : k = rn := by omega
        have n0 := N2.out.cell 0
        have n1 := N2.out.cell 1
        have n2 := N2.out.cell 2
        have f0 := N2.out.frozen 0
        have f1 := N2.out.frozen 1
        have f2 := N2.out.frozen 2
        have hn2 := N2.out.lt
        have hRW : rows.take k = rows := List.take_of_length_le (by have := hrl.out; omega)
        rw [hRW] at hG
        replace HG := Lib.hid hG
        have hq1 : ¬ (k : Int) < (k : Int) := by omega
        clear hbr hX hG hg N1 hRW
        go_wp2_with fail
        refine bodyPost_ret (results_cell_row Try.results59 _ _ (w.heap.size + 1) 26 #[.slice A5 n c5, .slice A' k c', .int .i64 bank] (0, 0) _ rfl (((N2.out.set_ 0 _).set_ 1 _).set_ 2 _) Try.underlying26 rfl rfl) rfl ?_
        have hfar : ∀ q, q ≠ w.heap.size + 1 → _ := fun q hq => far3 wr (w.heap.size + 1) (.slice A5 n c5) (.slice A' k c') (.int .i64 bank) q hq
        have hsame : ∀ q, (Value.slice A5 n c5).ownBlock = some q → _ := fun q hq => (hfar q (by have := (HO.out.lt q hq).1; omega)).trans (HGR.out.block q (HO.out.lt q hq).2 (fun e => HNE.out (by rw [hq]; exact e)))
        exact ⟨A5, c5, A', c', vs, wc.heap.size, rfl, ⟨own_base (own_same HO.out hsame) (by omega), ⟨wr.heap.size, by simp [World.setCell], fun q hq => .inl (HO.out.lt q hq).2, local_ZG _ _ _ _ _ _ wr _ HG.out (by simp [World.setCell]) fun q q1 q2 => hfar q (by omega)⟩, by omega⟩, ((HBR.out.setCell (Nat.le_succ _) _).setCell (Nat.le_succ _) _).setCell (Nat.le_succ _) _⟩
end Go.Proofs.Ytgedfcccflobmaa
