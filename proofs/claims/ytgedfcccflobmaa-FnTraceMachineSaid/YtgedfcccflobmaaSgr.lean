/-
  The reference's l5Go: returns, and all of it joined. The machine is valid.
-/
import Derived.Test.YtgedfcccflobmaaSgo
namespace Go.Proofs.Ytgedfcccflobmaa
open Go.RowKit
set_option linter.unusedVariables false
set_option linter.unusedSimpArgs false
attribute [local go_sem ↓] Go.wp_at_zero Go.wp_at_succ
set_option maxRecDepth 4000 in
set_option maxHeartbeats 4000000 in
theorem l5Go_14 (lo h1 h2 b : Nat) (x : Mch) (vs : List Value) (arg : Int) (w : World) (h : MSt lo h1 h2 b x vs w) (f : FormP x.pm) :
    Calls Try.prog 91 #[.pointer (some ⟨b, 0, none⟩), .agg #[.int .i64 14, .int .i64 arg]] w (Did lo h1 h2 b x vs w (goP x.pm 14 arg)) := by
  have hbn := h.bn
  by_cases h8 : x.bn = 0
  · have h8' : ((x.bn : Int) == 0) = true := by simp; omega
    have hl8 : x.bs.length = 0 := by omega
    replace h8 := Lib.hid h8
    replace hbn := Lib.hid hbn
    replace hl8 := Lib.hid hl8
    have hb0 : Below w.heap.size w (w.alloc (.cells #[.int .i64 14, .int .i64 arg] 84)) := (Below.refl _ _).alloc (Nat.le_refl _) _
    refine Calls.mono (R := Did lo h1 h2 b x vs (w.alloc (.cells #[.int .i64 14, .int .i64 arg] 84)) (goP x.pm 14 arg)) ?_ (fun e w' hd => Did.via hb0 hd)
    have g := h.below hb0
    have HX := Lib.hid g
    obtain ⟨⟨c0, c1, c2⟩, c3, c4, c5, c6, c7, c8⟩ := g.box.all
    have f3 := g.blk.frozen 3
    have f4 := g.blk.frozen 4
    have f5 := g.blk.frozen 5
    have f6 := g.blk.frozen 6
    have f7 := g.blk.frozen 7
    have hbl := g.blk.lt
    clear hb0 g
    go_enter Try.func91, Try.ntmps91
    go_wp2_with fail
    refine bodyPost_end (results_none (by rfl) _ _ _) rfl ?_
    obtain ⟨r1, r2⟩ := HX.out.field 7 (.bool true) { x with st := true } rfl rfl rfl rfl
    exact ⟨_, rfl, r1, by unfold goP; rw [if_neg (by omega), if_pos (.inr (.inl ⟨rfl, hl8.out⟩))]; rfl, r2⟩
  · have h8' : ((x.bn : Int) == 0) = false := by simp; omega
    have hl8 : ¬ x.bs.length = 0 := by omega
    have hb0 : Below w.heap.size w (w.alloc (.cells #[.int .i64 14, .int .i64 arg] 84)) := (Below.refl _ _).alloc (Nat.le_refl _) _
    refine Calls.mono (R := Did lo h1 h2 b x vs (w.alloc (.cells #[.int .i64 14, .int .i64 arg] 84)) (goP x.pm 14 arg)) ?_ (fun e w' hd => Did.via hb0 hd)
    have g := h.below hb0
    have HX := Lib.hid g
    obtain ⟨⟨c0, c1, c2⟩, c3, c4, c5, c6, c7, c8⟩ := g.box.all
    have f3 := g.blk.frozen 3
    have f4 := g.blk.frozen 4
    have f5 := g.blk.frozen 5
    have f6 := g.blk.frozen 6
    have f7 := g.blk.frozen 7
    have hbl := g.blk.lt
    clear hb0 g
    have hw0 : (w.alloc (.cells #[.int .i64 14, .int .i64 arg] 84)).heap.size = w.heap.size + 1 := by simp
    obtain ⟨n, hn⟩ : ∃ n : Nat, x.bn = n + 1 := ⟨x.bn - 1, by omega⟩
    have hlast : (x.bn : Int) - 1 = (n : Int) := by omega
    rcases own_block' HX.out.back with ⟨_, h0, _⟩ | ⟨g, eB, _⟩
    · omega
    have hcell : (w.alloc (.cells #[.int .i64 14, .int .i64 arg] 84)).cell? ⟨g, n, none⟩ = some (.int .i64 (x.bs.getD n 0)) := by
      have := HX.out.back
      rw [eB] at this
      refine (this.cellAt n (by omega)).trans ?_
      rw [iv, List.getElem?_map, List.getD_eq_getElem?_getD, List.getElem?_eq_getElem (by omega)]
      rfl
    obtain ⟨z, hz⟩ : ∃ z, x.bs.getD n 0 = z := ⟨_, rfl⟩
    rw [hz] at hcell
    have q0 : (0 : Int) ≤ (n : Int) := by omega
    have q1 : (n : Int) < (x.bn : Int) := by omega
    have b8 : x.bs.length ≤ 8 := f.b8
    have q3 : (n : Int) ≤ 8 := by omega
    have q2 : (n : Int) ≤ (x.bc : Int) := by
      have := own_cap HX.out.back
      omega
    have hs1 : x.bs.length = n + 1 := by omega
    have hwr : IntKind.i64.wrap (n : Int) = (n : Int) := IntWalk.i64_in _ (by omega)
    obtain ⟨r1, r2⟩ := HX.out.field 4 (.int .i64 z) { x with pc := z } rfl rfl rfl rfl
    have ow := own_shrink (m := n) r1.back (by rw [hn]; exact Nat.le_succ n)
    rw [show (iv x.bs).take (n * 1) = iv (x.bs.take n) by simp [iv, List.map_take]] at ow
    simp only [eB] at ow
    have B1 := (Below.refl ((w.alloc (.cells #[.int .i64 14, .int .i64 arg] 84)).setCell ⟨b, 4, none⟩ (.int .i64 z)).heap.size ((w.alloc (.cells #[.int .i64 14, .int .i64 arg] 84)).setCell ⟨b, 4, none⟩ (.int .i64 z))).alloc (Nat.le_refl _) (.cells #[] 3)
    have hW1 : ((w.alloc (.cells #[.int .i64 14, .int .i64 arg] 84)).setCell ⟨b, 4, none⟩ (.int .i64 z)).heap.size = w.heap.size + 1 := by simp [World.setCell]
    have hE : (((w.alloc (.cells #[.int .i64 14, .int .i64 arg] 84)).setCell ⟨b, 4, none⟩ (.int .i64 z)).alloc (.cells #[] 3)).ownsRow (w.heap.size + 1) 3 1 (.slice (some ⟨w.heap.size + 1, 0, none⟩) 0 0) 0 (iv []) := by
      have this : (((w.alloc (.cells #[.int .i64 14, .int .i64 arg] 84)).setCell ⟨b, 4, none⟩ (.int .i64 z)).alloc (.cells #[] 3)).ownsRow ((w.alloc (.cells #[.int .i64 14, .int .i64 arg] 84)).setCell ⟨b, 4, none⟩ (.int .i64 z)).heap.size 3 1 (.slice (some ⟨((w.alloc (.cells #[.int .i64 14, .int .i64 arg] 84)).setCell ⟨b, 4, none⟩ (.int .i64 z)).heap.size, 0, none⟩) 0 0) 0 (iv []) := World.ownsRow_lit ((w.alloc (.cells #[.int .i64 14, .int .i64 arg] 84)).setCell ⟨b, 4, none⟩ (.int .i64 z)) #[] 0 (Nat.le_refl _) (by simp [maxLen]) rfl
      rw [hW1] at this
      exact this
    have O1 := Lib.hid hE
    have OI := Lib.hid (own_ints (own_below ow B1))
    have RB := Lib.hid r1
    have M1 := r1.below B1
    have k6 := M1.box.c6
    have k4 := M1.box.c4
    have e6 := M1.blk.frozen 6
    have s6 := r1.box.c6
    have g6 := r1.blk.frozen 6
    have hbl2 := r1.blk.lt
    have R1 := Lib.hid r1
    have R2 := Lib.hid r2
    have HB1 := Lib.hid B1
    have HW1 := Lib.hid hW1
    have hbase : h2 ≤ w.heap.size := by have := h.o2; have := h.blk.lt; omega
    rw [eB] at c6 k6 s6
    replace eB := Lib.hid eB
    replace h8 := Lib.hid h8
    replace hz := Lib.hid hz
    replace hbn := Lib.hid hbn
    replace hl8 := Lib.hid hl8
    replace hn := Lib.hid hn
    replace hs1 := Lib.hid hs1
    replace hW1 := Lib.hid hW1
    clear h ow r1 r2 B1 M1 hE
    go_enter Try.func91, Try.ntmps91
    go_wp2_with fail
    go_region
    all_goals (
      go_wp2_with fail
      go_region_law ((refine step_copyX (by rfl) _ _ (by rfl) (w.heap.size + 1) 0 0 n x.bc _ (some ⟨w.heap.size + 1, 0, none⟩) (some ⟨g, 0, none⟩) [] (x.bs.take n) (by rfl) (by rfl) O1.out OI.out (by simp) (by omega) (by first | omega | (simp; done) | (simp; omega)) ?_; intro A5 c5 w5 o5 b5 g5; rw [List.nil_append, Nat.zero_add] at o5; have HB5 := Lib.hid (show Below ((w.alloc (.cells #[.int .i64 14, .int .i64 arg] 84)).setCell ⟨b, 4, none⟩ (.int .i64 z)).heap.size ((w.alloc (.cells #[.int .i64 14, .int .i64 arg] 84)).setCell ⟨b, 4, none⟩ (.int .i64 z)) w5 from ((Below.refl _ _).alloc (Nat.le_refl _) (.cells #[] 3)).drew.drew.trans (b5.mono (by rw [HW1.out]; exact Nat.le_refl _))); have M5 := Lib.hid (R1.out.below HB5.out); have hbl5 := M5.out.blk.lt; have d6 := M5.out.box.c6; have e6' := M5.out.blk.frozen 6; replace o5 := Lib.hid o5; clear b5 g5; rw [Nat.zero_add]))
      all_goals (
        go_wp2_with fail
        refine bodyPost_end (results_none (by rfl) _ _ _) rfl ?_
        obtain ⟨s1, s2⟩ := R1.out.newBack (own_base o5.out (by omega)) (grown_of_below HB5.out _) (.inr fun i hi => by have := (o5.out.lt i hi).1; rw [HW1.out]; omega)
        exact ⟨_, rfl, s1, by unfold goP; rw [if_neg (by omega), if_neg (by rintro (⟨q, _⟩ | ⟨_, q⟩ | q) <;> first | omega | exact hl8.out q), if_neg (by omega), if_pos rfl]; simp only [Mch.pm, hs1.out, Nat.add_sub_cancel, hz.out], R2.out.trans s2⟩))
set_option maxHeartbeats 1000000 in
theorem l5Go_spec (lo h1 h2 b : Nat) (x : Mch) (vs : List Value) (op arg : Int) (w : World) (h : MSt lo h1 h2 b x vs w) (f : FormP x.pm) (ho : op = 0 ∨ (10 ≤ op ∧ op ≤ 15)) :
    Calls Try.prog 91 #[.pointer (some ⟨b, 0, none⟩), .agg #[.int .i64 op, .int .i64 arg]] w (Did lo h1 h2 b x vs w (goP x.pm op arg)) := by
  obtain rfl | rfl | rfl | rfl | rfl | rfl | rfl : op = 0 ∨ op = 10 ∨ op = 11 ∨ op = 12 ∨ op = 13 ∨ op = 14 ∨ op = 15 := by omega
  · exact l5Go_0 lo h1 h2 b x vs arg w h f
  · exact l5Go_10 lo h1 h2 b x vs arg w h f
  · exact l5Go_11 lo h1 h2 b x vs arg w h f
  · exact l5Go_12 lo h1 h2 b x vs arg w h f
  · exact l5Go_13 lo h1 h2 b x vs arg w h f
  · exact l5Go_14 lo h1 h2 b x vs arg w h f
  · exact l5Go_15 lo h1 h2 b x vs arg w h f
end Go.Proofs.Ytgedfcccflobmaa
