/-
  Marks in a machine of the law's own.
-/
import Derived.Test.YtgedfcccflobmaaMacL
namespace Go.Proofs.Ytgedfcccflobmaa
open Go.RowKit
set_option linter.unusedVariables false
set_option linter.unusedSimpArgs false
theorem local_trueM (lo hi : Nat) : Local lo hi (fun _ => True) := fun _ _ _ _ _ => trivial
theorem Zones.hi_leM {w0 w : World} {L : List Zn} (h : Zones w0 w L) (i : Nat) {r : Zn} (hr : L[i]? = some r) : r.hi ≤ w.heap.size := (h.row r (List.mem_of_getElem? hr)).2.2.2
set_option maxHeartbeats 1000000 in
theorem markMemory_any (lo h1 hi : Nat) (A : Option Addr) (n c : Nat) (rs : List Int) (R : Option Addr) (rn rc : Nat) (rows : List (List Int)) (vs : List Value) (bank k0 : Int) (w : World) (h : MemOwn w lo h1 hi A n c rs R rn rc rows vs) (hhi : hi ≤ w.heap.size) (h0 : 0 ≤ k0) (h5 : k0 ≤ 10000000) (hn : n ≤ 10000000) (hr : rn ≤ 10000000) (hs : sumR rows ≤ 10000000) :
    Calls Try.prog 44 #[.agg #[.slice A n c, .slice R rn rc, .int .i64 bank], .int .i64 k0] w fun e w' => ∃ v, e = .returned (.int .i64 v) ∧ 0 ≤ v ∧ v ≤ k0 + 20000000 ∧ Touch lo hi w w' := by
  obtain rfl := h.rl
  have hb0 : Below w.heap.size w (w.alloc (.cells #[.slice A n c, .slice R rows.length rc, .int .i64 bank] 26)) := (Below.refl _ _).alloc (Nat.le_refl _) _
  have BX := MemBox.new w A n c R rows.length rc bank 26
  have HB0 := Lib.hid hb0
  have HO := Lib.hid (own_below h.ram.1 hb0)
  have HA := Lib.hid h.ram.2
  have HG := Lib.hid (h.rom.below hb0)
  have c1 := BX.c1
  have o1 := h.o1
  have o2 := h.o2
  have hsz : (w.alloc (.cells #[.slice A n c, .slice R rows.length rc, .int .i64 bank] 26)).heap.size = w.heap.size + 1 := by simp
  have BXH := Lib.hid BX
  replace hsz := Lib.hid hsz
  clear hb0 h BX
  go_enter Try.func44, Try.ntmps44
  go_wp2_with fail
  refine (markIntS_own lo A n c rs k0 _ HO.out h0 (by omega) (by omega)).mono ?_
  rintro e w5 ⟨rfl, o5, g5⟩
  have e1 := (World.cell?_of_block (g5.block w.heap.size (by simp) (fun e => by have := HA.out w.heap.size e.symm; omega))).trans BXH.out.c1
  have G5 := Lib.hid (local_ZG _ _ _ _ _ _ _ w5 HG.out g5.size fun q q1 q2 => g5.block q (by rw [hsz.out]; omega) (fun e => by have := HA.out q e.symm; omega))
  have T5 := Lib.hid ((Touch.of_below HB0.out : Touch lo hi w _).trans (Touch.of_grown g5 fun q hq => ⟨(HO.out.lt q hq).1, by have := HA.out q hq; omega⟩))
  clear o5 g5 c1
  go_wp2_with fail
  refine (markIntSS_own h1 hi R rc rows vs (k0 + n) _ G5.out (by omega) (by omega) (by omega) (by omega)).mono ?_
  rintro e w7 ⟨rfl, o7, t7⟩
  have T7 := Lib.hid (T5.out.trans (t7.mono o1 (Nat.le_refl _)))
  have hv : gkAt (k0 + n) rows rows.length = k0 + n + sumR rows := by unfold gkAt; rw [List.take_of_length_le (Nat.le_refl _)]
  clear o7 t7
  go_wp2_with fail
  go_ret
  exact ⟨_, rfl, by omega, by omega, T7.out⟩
set_option maxHeartbeats 2000000 in
theorem markMachine_any (lo h1 h2 hi : Nat) (x : Mch) (vs : List Value) (k0 : Int) (w : World) (h : MOwn w lo h1 h2 hi x vs) (hhi : hi ≤ w.heap.size) (h0 : 0 ≤ k0) (h5 : k0 ≤ 10000000) (hn : x.n ≤ 10000000) (hr : x.rn ≤ 10000000) (hs : sumR x.rows ≤ 10000000) (hbn : x.bn ≤ 10000000) :
    Calls Try.prog 18 #[x.val, .int .i64 k0] w fun e w' => ∃ v, e = .returned (.int .i64 v) ∧ 0 ≤ v ∧ Touch lo hi w w' := by
  have hb0 : Below w.heap.size w (w.alloc (.cells x.cs 28)) := (Below.refl _ _).alloc (Nat.le_refl _) _
  have BX := Lib.hid (MBox.new w x 28)
  have HB0 := Lib.hid hb0
  have hsz : (w.alloc (.cells x.cs 28)).heap.size = w.heap.size + 1 := by simp
  have HM := Lib.hid (local_MOwn _ _ _ _ _ _ w _ h hb0.size fun k k1 k2 => hb0.block k (by omega))
  have o3 := h.o3
  have o2 := Nat.le_trans h.m.o1 h.m.o2
  obtain ⟨⟨c0, c1, c2⟩, c3, c4, c5, c6, c7, c8⟩ := BX.out.all
  have hsz' : hi ≤ (w.alloc (.cells x.cs 28)).heap.size := by rw [hsz]; omega
  replace hsz' := Lib.hid hsz'
  replace hsz := Lib.hid hsz
  clear hb0 h
  unfold Mch.val Mch.cs at *
  go_enter Try.func18, Try.ntmps18
  go_wp2_with fail
  refine (markMemory_any lo h1 h2 x.A x.n x.c x.rs x.R x.rn x.rc x.rows vs x.bank k0 _ HM.out.m (Nat.le_trans o3 hsz'.out) h0 h5 hn hr hs).mono ?_
  rintro e w5 ⟨v, rfl, v0, v1, t5⟩
  have e6 := (World.cell?_of_block (t5.block w.heap.size (by simp) (.inr (by omega)))).trans BX.out.c6
  have HK := Lib.hid (local_ZI _ _ _ _ _ _ _ w5 HM.out.back t5.size fun k k1 k2 => t5.block k (Nat.lt_of_lt_of_le k2 hsz'.out) (.inr k1))
  have T5 := Lib.hid ((Touch.of_below HB0.out : Touch lo hi w _).trans (t5.mono (Nat.le_refl _) o3))
  clear t5 c0 c1 c2 c3 c4 c5 c6 c7 c8
  go_wp2_with fail
  refine (markIntS_own h2 x.B x.bn x.bc x.bs v _ HK.out.1 v0 (by omega) (by omega)).mono ?_
  rintro e w7 ⟨rfl, o7, g7⟩
  have T7 := Lib.hid (T5.out.trans (Touch.of_grown g7 fun q hq => ⟨by have := (HK.out.1.lt q hq).1; omega, HK.out.2 q hq⟩))
  clear o7 g7
  go_wp2_with fail
  go_ret
  exact ⟨_, rfl, by omega, T7.out⟩
end Go.Proofs.Ytgedfcccflobmaa
