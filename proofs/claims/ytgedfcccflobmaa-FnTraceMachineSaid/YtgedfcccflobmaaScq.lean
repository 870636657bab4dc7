/-
  Copies of a machine: the reference's l5Copy. The machine is valid.
-/
import Derived.Test.YtgedfcccflobmaaScp
namespace Go.Proofs.Ytgedfcccflobmaa
open Go.RowKit
set_option linter.unusedVariables false
set_option linter.unusedSimpArgs false
/-- A machine just made; its rows lie above what was there. -/
def MachGivesL (w : World) (x : Mch) (e : Ending) (w' : World) : Prop := ∃ y vs h1 h2, e = .returned y.val ∧ Msame x y ∧ MNew w.heap.size h1 h2 w' y vs ∧ w.heap.size ≤ h1 ∧ Below w.heap.size w w'
set_option maxRecDepth 8000 in
set_option maxHeartbeats 4000000 in
theorem l5Copy_at (x : Mch) (ad : Addr) (w : World) (hA : x.A = some ad) (h : MRd w x) (hf : formB x = true) (hB : x.B = none → x.bc = 0) :
    Calls Try.prog 34 #[x.val] w (MachGivesL w x) := by
  have F := form_iff.1 (formP_of.trans hf)
  have hm := F.m
  obtain ⟨A, n, c, rs, R, rn, rc, rows, bank, a, pc, cy, B, bn, bc, bs, st, cyc⟩ := x
  simp only at hA hB
  subst hA
  have hm : memB rs rows bank = true := hm
  have W0 : (((w.alloc (.cells #[.slice (some ad) n c, .slice R rn rc, .int .i64 bank, .int .i64 a, .int .i64 pc, .bool cy, .slice B bn bc, .bool st, .int .i64 cyc] 28)).alloc (.cells #[.slice none 0 0, .slice none 0 0, .int .i64 0, .int .i64 0, .int .i64 0, .bool false, .slice none 0 0, .bool false, .int .i64 0] 28)).alloc (.cells #[.slice (some ad) n c, .slice R rn rc, .int .i64 bank, .int .i64 a, .int .i64 pc, .bool cy, .slice B bn bc, .bool st, .int .i64 cyc] 28)).heap.size = w.heap.size + 3 := by simp
  obtain ⟨K1, K2⟩ := blkC w #[.slice (some ad) n c, .slice R rn rc, .int .i64 bank, .int .i64 a, .int .i64 pc, .bool cy, .slice B bn bc, .bool st, .int .i64 cyc] #[.slice none 0 0, .slice none 0 0, .int .i64 0, .int .i64 0, .int .i64 0, .bool false, .slice none 0 0, .bool false, .int .i64 0] 28 28
  replace K1 := K1.alloc (.cells #[.slice (some ad) n c, .slice R rn rc, .int .i64 bank, .int .i64 a, .int .i64 pc, .bool cy, .slice B bn bc, .bool st, .int .i64 cyc] 28)
  replace K2 := K2.alloc (.cells #[.slice (some ad) n c, .slice R rn rc, .int .i64 bank, .int .i64 a, .int .i64 pc, .bool cy, .slice B bn bc, .bool st, .int .i64 cyc] 28)
  have K3 : Blk (((w.alloc (.cells #[.slice (some ad) n c, .slice R rn rc, .int .i64 bank, .int .i64 a, .int .i64 pc, .bool cy, .slice B bn bc, .bool st, .int .i64 cyc] 28)).alloc (.cells #[.slice none 0 0, .slice none 0 0, .int .i64 0, .int .i64 0, .int .i64 0, .bool false, .slice none 0 0, .bool false, .int .i64 0] 28)).alloc (.cells #[.slice (some ad) n c, .slice R rn rc, .int .i64 bank, .int .i64 a, .int .i64 pc, .bool cy, .slice B bn bc, .bool st, .int .i64 cyc] 28)) (w.heap.size + 2) 28 #[.slice (some ad) n c, .slice R rn rc, .int .i64 bank, .int .i64 a, .int .i64 pc, .bool cy, .slice B bn bc, .bool st, .int .i64 cyc] := by
    have := Blk.new ((w.alloc (.cells #[.slice (some ad) n c, .slice R rn rc, .int .i64 bank, .int .i64 a, .int .i64 pc, .bool cy, .slice B bn bc, .bool st, .int .i64 cyc] 28)).alloc (.cells #[.slice none 0 0, .slice none 0 0, .int .i64 0, .int .i64 0, .int .i64 0, .bool false, .slice none 0 0, .bool false, .int .i64 0] 28)) 28 #[.slice (some ad) n c, .slice R rn rc, .int .i64 bank, .int .i64 a, .int .i64 pc, .bool cy, .slice B bn bc, .bool st, .int .i64 cyc]
    rwa [show ((w.alloc (.cells #[.slice (some ad) n c, .slice R rn rc, .int .i64 bank, .int .i64 a, .int .i64 pc, .bool cy, .slice B bn bc, .bool st, .int .i64 cyc] 28)).alloc (.cells #[.slice none 0 0, .slice none 0 0, .int .i64 0, .int .i64 0, .int .i64 0, .bool false, .slice none 0 0, .bool false, .int .i64 0] 28)).heap.size = w.heap.size + 2 by simp] at this
  have hb0 : Below w.heap.size w (((w.alloc (.cells #[.slice (some ad) n c, .slice R rn rc, .int .i64 bank, .int .i64 a, .int .i64 pc, .bool cy, .slice B bn bc, .bool st, .int .i64 cyc] 28)).alloc (.cells #[.slice none 0 0, .slice none 0 0, .int .i64 0, .int .i64 0, .int .i64 0, .bool false, .slice none 0 0, .bool false, .int .i64 0] 28)).alloc (.cells #[.slice (some ad) n c, .slice R rn rc, .int .i64 bank, .int .i64 a, .int .i64 pc, .bool cy, .slice B bn bc, .bool st, .int .i64 cyc] 28)) := (((Below.refl _ _).alloc (Nat.le_refl _) _).alloc (by simp) _).alloc (by simp; omega) _
  have hR : MemRd _ (some ad) n rs R rn rows := h.m.below hb0
  have HR := Lib.hid hR
  have hBK : Ints w w.heap.size B bn bs := h.back
  have HBK := Lib.hid hBK
  have hbn : bn ≤ 1000000000 := h.hb
  have HB0 := Lib.hid hb0
  have HK1 := Lib.hid K1
  have HK2 := Lib.hid K2
  have HK3 := Lib.hid K3
  have HW0 := Lib.hid W0
  have c0 := K1.cell 0
  have c1 := K1.cell 1
  have c2 := K1.cell 2
  clear K1 K2 K3 hb0 h hR hBK
  show Calls Try.prog 34 #[.agg #[.slice (some ad) n c, .slice R rn rc, .int .i64 bank, .int .i64 a, .int .i64 pc, .bool cy, .slice B bn bc, .bool st, .int .i64 cyc]] w _
  go_enter Try.func34, Try.ntmps34
  go_wp2_with (first
    | (go_at_call 59; refine (l2Copy_at ad n c rs R rn rc rows bank _ HR.out hm).mono ?_; rintro e w5 ⟨A5, c5, R5, rc5, vs, h1, rfl, M5, b5⟩; rw [W0] at M5 b5; have z5 : w.heap.size + 3 ≤ w5.heap.size := (by rw [← HW0.out]; exact b5.size); have k1 := HK1.out.below b5 (by omega); have k2 := HK2.out.below b5 (by omega); have k3 := HK3.out.below b5 (by omega); have c6 := k1.cell 6; have e0 := k3.cell 0; have e1 := k3.cell 1; have e2 := k3.cell 2; have f0 := k3.frozen 0; have f1 := k3.frozen 1; have f2 := k3.frozen 2; have zz0 : w.heap.size < w5.heap.size := (by omega); have zz2 : w.heap.size + 2 < w5.heap.size := (by omega); have B5 := Lib.hid (HB0.out.trans (b5.mono (by omega))); replace k1 := Lib.hid k1; replace k2 := Lib.hid k2; replace k3 := Lib.hid k3; replace M5 := Lib.hid M5; clear b5; have hY : ((((w5.setCell ⟨w.heap.size + 2, 0, none⟩ (.slice A5 n c5)).setCell ⟨w.heap.size + 2, 1, none⟩ (.slice R5 rn rc5)).setCell ⟨w.heap.size + 2, 2, none⟩ (.int .i64 bank))).heap.size = w5.heap.size := (by simp [World.setCell]); have EL := lit_own ((((w5.setCell ⟨w.heap.size + 2, 0, none⟩ (.slice A5 n c5)).setCell ⟨w.heap.size + 2, 1, none⟩ (.slice R5 rn rc5)).setCell ⟨w.heap.size + 2, 2, none⟩ (.int .i64 bank))) w5.heap.size (by rw [hY]; exact Nat.le_refl _); rw [hY] at EL; replace EL := Lib.hid EL; have EB := Lib.hid ((((B5.out.setCell (p := ⟨w.heap.size + 2, 0, none⟩) (by simp) (.slice A5 n c5)).setCell (p := ⟨w.heap.size + 2, 1, none⟩) (by simp) (.slice R5 rn rc5)).setCell (p := ⟨w.heap.size + 2, 2, none⟩) (by simp) (.int .i64 bank)).alloc (by rw [hY]; exact B5.out.size) (.cells #[] 3)); have EI := Lib.hid (HBK.out.below EB.out); replace hY := Lib.hid hY)
    | (at_builtin; refine push_list _ rfl _ _ rfl w5.heap.size 0 0 bn bc _ (some ⟨w5.heap.size, 0, none⟩) B [] bs rfl rfl EL.out EI.out hB (by omega) (by simp [World.setCell]) ?_; intro A6 c6 w6 o6 b6; rw [List.nil_append, Nat.zero_add] at o6; rw [Nat.zero_add]; have z6 := b6.size; have B6 := Lib.hid (EB.out.trans (b6.mono (by omega))); have q3 := ((((k3.out.set_ 0 (.slice A5 n c5)).set_ 1 (.slice R5 rn rc5)).set_ 2 (.int .i64 bank)).alloc (.cells #[] 3)).below b6 (by omega); have q2 := ((((k2.out.far (p := ⟨w.heap.size + 2, 0, none⟩) (by simp) (.slice A5 n c5)).far (p := ⟨w.heap.size + 2, 1, none⟩) (by simp) (.slice R5 rn rc5)).far (p := ⟨w.heap.size + 2, 2, none⟩) (by simp) (.int .i64 bank)).alloc (.cells #[] 3)).below b6 (by omega); have d0 : w6.cell? ⟨w.heap.size + 2, 0, none⟩ = some (.slice A5 n c5) := q3.cell 0; have d1 : w6.cell? ⟨w.heap.size + 2, 1, none⟩ = some (.slice R5 rn rc5) := q3.cell 1; have d2 : w6.cell? ⟨w.heap.size + 2, 2, none⟩ = some (.int .i64 bank) := q3.cell 2; have d3 : w6.cell? ⟨w.heap.size + 2, 3, none⟩ = some (.int .i64 a) := q3.cell 3; have d4 : w6.cell? ⟨w.heap.size + 2, 4, none⟩ = some (.int .i64 pc) := q3.cell 4; have d5 : w6.cell? ⟨w.heap.size + 2, 5, none⟩ = some (.bool cy) := q3.cell 5; have d7 : w6.cell? ⟨w.heap.size + 2, 7, none⟩ = some (.bool st) := q3.cell 7; have d8 : w6.cell? ⟨w.heap.size + 2, 8, none⟩ = some (.int .i64 cyc) := q3.cell 8; have d6 : w6.cell? ⟨w.heap.size + 2, 6, none⟩ = some (.slice B bn bc) := q3.cell 6; have e6 := q3.frozen 6; have j0 := q2.cell 0; have j1 := q2.cell 1; have j2 := q2.cell 2; have j3 := q2.cell 3; have j4 := q2.cell 4; have j5 := q2.cell 5; have j6 := q2.cell 6; have j7 := q2.cell 7; have j8 := q2.cell 8; have g0 := q2.frozen 0; have g1 := q2.frozen 1; have g2 := q2.frozen 2; have g3 := q2.frozen 3; have g4 := q2.frozen 4; have g5 := q2.frozen 5; have g6 := q2.frozen 6; have g7 := q2.frozen 7; have g8 := q2.frozen 8; replace q2 := Lib.hid q2; replace o6 := Lib.hid o6; replace b6 := Lib.hid b6))
  have hz : ∀ k, w.heap.size + 3 ≤ k → (setN (w6.setCell ⟨w.heap.size + 2, 6, none⟩ (.slice A6 bn c6)) (w.heap.size + 1) 0 [.slice A5 n c5, .slice R5 rn rc5, .int .i64 bank, .int .i64 a, .int .i64 pc, .bool cy, .slice A6 bn c6, .bool st, .int .i64 cyc]).heap[k]? = w6.heap[k]? := fun k hk => (setN_heap (by omega) _ _ _).trans (Below.heap_setCell _ ⟨w.heap.size + 2, 6, none⟩ _ k (show k ≠ w.heap.size + 2 by omega))
  have hzs : (setN (w6.setCell ⟨w.heap.size + 2, 6, none⟩ (.slice A6 bn c6)) (w.heap.size + 1) 0 [.slice A5 n c5, .slice R5 rn rc5, .int .i64 bank, .int .i64 a, .int .i64 pc, .bool cy, .slice A6 bn c6, .bool st, .int .i64 cyc]).heap.size = w6.heap.size := (setN_size _ _ _).trans (by simp [World.setCell])
  have hw5 : ∀ k, w.heap.size + 3 ≤ k → k < w5.heap.size → w6.heap[k]? = w5.heap[k]? := fun k hk hk2 => (b6.out.block k hk2).trans ((Below.heap_alloc _ _ k (by rw [hY.out]; exact hk2)).trans (far3 w5 (w.heap.size + 2) _ _ _ k (by omega)))
  have hblk : Blk (setN (w6.setCell ⟨w.heap.size + 2, 6, none⟩ (.slice A6 bn c6)) (w.heap.size + 1) 0 [.slice A5 n c5, .slice R5 rn rc5, .int .i64 bank, .int .i64 a, .int .i64 pc, .bool cy, .slice A6 bn c6, .bool st, .int .i64 cyc]) (w.heap.size + 1) 28 #[.slice A5 n c5, .slice R5 rn rc5, .int .i64 bank, .int .i64 a, .int .i64 pc, .bool cy, .slice A6 bn c6, .bool st, .int .i64 cyc] := by
    have q := setN_blk [.slice A5 n c5, .slice R5 rn rc5, .int .i64 bank, .int .i64 a, .int .i64 pc, .bool cy, .slice A6 bn c6, .bool st, .int .i64 cyc] 0 _ _ (q2.out.far (p := ⟨w.heap.size + 2, 6, none⟩) (by simp) (.slice A6 bn c6))
    simpa [setA] using q
  have HBLK := Lib.hid hblk
  clear hblk
  generalize hwz : (setN (w6.setCell ⟨w.heap.size + 2, 6, none⟩ (.slice A6 bn c6)) (w.heap.size + 1) 0 [.slice A5 n c5, .slice R5 rn rc5, .int .i64 bank, .int .i64 a, .int .i64 pc, .bool cy, .slice A6 bn c6, .bool st, .int .i64 cyc]) = wz at HBLK hz hzs
  change bodyPost _ _ _ _ _ (setN (w6.setCell ⟨w.heap.size + 2, 6, none⟩ (.slice A6 bn c6)) (w.heap.size + 1) 0 [.slice A5 n c5, .slice R5 rn rc5, .int .i64 bank, .int .i64 a, .int .i64 pc, .bool cy, .slice A6 bn c6, .bool st, .int .i64 cyc])
  rw [hwz]
  refine bodyPost_ret (results_cell_row Try.results34 _ _ (w.heap.size + 1) 28 #[.slice A5 n c5, .slice R5 rn rc5, .int .i64 bank, .int .i64 a, .int .i64 pc, .bool cy, .slice A6 bn c6, .bool st, .int .i64 cyc] (0, 0) _ rfl HBLK.out Try.underlying28 rfl rfl) rfl ?_
  have z56 : w5.heap.size ≤ w6.heap.size := by
    have e1 := b6.out.size
    have e2 : (((((w5.setCell ⟨w.heap.size + 2, 0, none⟩ (.slice A5 n c5)).setCell ⟨w.heap.size + 2, 1, none⟩ (.slice R5 rn rc5)).setCell ⟨w.heap.size + 2, 2, none⟩ (.int .i64 bank))).alloc (.cells #[] 3)).heap.size = w5.heap.size + 1 := by simp [World.setCell]
    have e3 : (((((w5.setCell ⟨w.heap.size + 2, 0, none⟩ (.slice A5 n c5)).setCell ⟨w.heap.size + 2, 1, none⟩ (.slice R5 rn rc5)).setCell ⟨w.heap.size + 2, 2, none⟩ (.int .i64 bank))).alloc (.cells #[] 3)).heap.size ≤ w6.heap.size := e1
    omega
  have zz : w5.heap.size ≤ wz.heap.size := by rw [hzs]; exact z56
  have hall : ∀ k, w.heap.size + 3 ≤ k → k < w5.heap.size → wz.heap[k]? = w5.heap[k]? := fun k k1 k2 => (hz k k1).trans (hw5 k k1 k2)
  obtain ⟨r2, p1, p2, p3⟩ := M5.out.rom
  have hlo := M5.out.lo1
  have hBW : Below w.heap.size w wz := by
    rw [← hwz]
    exact setN_below (Nat.le_succ _) _ 0 _ _ (B6.out.setCell (p := ⟨w.heap.size + 2, 6, none⟩) (by simp) _)
  exact ⟨⟨A5, n, c5, rs, R5, rn, rc5, rows, bank, a, pc, cy, A6, bn, c6, bs, st, cyc⟩, vs, h1, w5.heap.size, rfl, ⟨A5, c5, R5, rc5, A6, c6, rfl⟩, ⟨own_base (own_same M5.out.ram fun g hg => hall g (M5.out.ram.lt g hg).1 (M5.out.ram.lt g hg).2) (by omega), fun k hk => (M5.out.ram.lt k hk).2, ⟨r2, p1, p2, local_ZG _ _ _ _ _ _ w5 wz p3 zz fun k k1 k2 => hall k (by omega) (by omega)⟩, HR.out.rom.1.symm, own_same o6.out fun g hg => hz g (by have := (o6.out.lt g hg).1; omega), zz, B5.out.size⟩, by omega, hBW⟩
end Go.Proofs.Ytgedfcccflobmaa
