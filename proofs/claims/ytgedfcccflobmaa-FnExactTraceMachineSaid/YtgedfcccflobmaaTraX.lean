/-
  The law FnExactTraceMachine: the same addresses; arguments unmodified, memory not shared.
-/
import Derived.Test.YtgedfcccflobmaaStr
import Derived.Test.YtgedfcccflobmaaMrkM
import Derived.Test.YtgedfcccflobmaaMetX
namespace Go.Proofs.Ytgedfcccflobmaa
open Go.RowKit
set_option linter.unusedVariables false
set_option linter.unusedSimpArgs false
theorem traceR_at {x y : Mch} (h : Msame x y) (n : Int) : traceR y n = traceR x n := by
  obtain ⟨A, c, R, rc, B, bc, rfl⟩ := h
  rfl
theorem traceP_le (p : PM) : ∀ k : Nat, (traceP p k).length ≤ k
  | 0 => Nat.le_refl _
  | k + 1 => by
    have := traceP_le p k
    unfold traceP
    split
    · omega
    · simp; omega
theorem traceR_le (x : Mch) (n : Int) : (traceR x n).length ≤ 500 := by
  unfold traceR
  split
  · rename_i h
    simp only [Bool.and_eq_true] at h
    have := inB_iff.1 h.2
    have := traceP_le x.pm n.toNat
    omega
  · simp
theorem own_nilM {w : World} {lo h1 h2 hi : Nat} {x : Mch} {vs : List Value} (h : MOwn w lo h1 h2 hi x vs) : x.B = none → x.bc = 0 := own_nilc h.back.1
set_option maxRecDepth 20000 in
set_option maxHeartbeats 4000000 in
theorem fnExactTraceMachine_walk (w : World) (x : Mch) (h : MRd0 w x) (n : Int) (hn : (Lit.int .i64 n).wf = true) :
    Calls Try.prog 4 #[x.val, .int .i64 n] w fun e w' => e = .returned (.bool true) ∧ Below w.heap.size w w' := by
  clear hn
  have hb0 : Below w.heap.size w (w.alloc (.cells x.cs 39)) := (Below.refl _ _).alloc (Nat.le_refl _) _
  have X0 := Lib.hid (MBox.new w x 39)
  have h0 : MRd0 (w.alloc (.cells x.cs 39)) x := ⟨(h.ram.below hb0).more hb0.size, h.rom.below hb0, (h.back.below hb0).more hb0.size, h.hn, h.hr, h.hd, h.hb⟩
  have HZ := Lib.hid (szMachine_any x 1048576 (w.alloc (.cells x.cs 39)) h0 (by omega) (by omega))
  have H0 := Lib.hid h0
  have HBW := Lib.hid hb0
  clear h hb0 h0
  unfold Mch.val Mch.cs at *
  go_enter Try.func4, Try.ntmps4
  go_wp2_with fail
  refine (HZ.out).mono ?_
  rintro e w1 ⟨q, rfl, hq, b1⟩
  have HB := Lib.hid b1
  by_cases hq0 : q < 0
  · clear HZ hq
    go_wp2_with fail
    go_ret
    exact ⟨rfl, below_step HBW.out HB.out HBW.out.size⟩
  have HSM := Lib.hid (msm_of hq hq0 (by omega) H0.out)
  have HM := Lib.hid (HSM.out.rd0 H0.out)
  clear HZ hq b1
  obtain ⟨⟨c0, c1, c2⟩, c3, c4, c5, c6, c7, c8⟩ := (X0.out.below HB.out).all
  have hZ := Lib.hid ((Zones.start _).below HB.out)
  go_wp2_with fail
  refine (toMachine_any x _ (HM.out.below HB.out)).mono ?_
  rintro e w2 ⟨y2, vsy2, h1y2, h2y2, rfl, fs, o, b⟩
  have Ey2 := Lib.hid fs
  have Dy2 := Lib.hid (HSM.out.at_ fs)
  replace hZ := Lib.hid (hZ.out.push o (local_MOwn _ _ _ _ _ _) b)
  replace HB := Lib.hid hZ.out.bel
  clear b fs o
  unfold Mch.val Mch.cs
  clear c0 c1 c2 c3 c4 c5 c6 c7 c8
  go_wp2_with fail
  refine (traceMachine_spec y2 n _ (Dy2.out.own (hZ.out.at_ 0 rfl : MOwn _ _ _ _ _ y2 vsy2)) (own_nilM (hZ.out.at_ 0 rfl : MOwn _ _ _ _ _ y2 vsy2))).mono ?_
  rw [traceR_at Ey2.out]
  obtain ⟨xs, hxs⟩ : ∃ xs, traceR x n = xs := ⟨_, rfl⟩
  have hxl : xs.length ≤ 500 := hxs ▸ traceR_le x n
  rw [hxs]
  replace hxs := Lib.hid hxs
  rintro e w4 ⟨A0, c0', rfl, o, b⟩
  replace hZ := Lib.hid (hZ.out.pushI o b)
  replace HB := Lib.hid hZ.out.bel
  clear o b
  obtain ⟨⟨c0, c1, c2⟩, c3, c4, c5, c6, c7, c8⟩ := (X0.out.below HB.out).all
  go_wp2_with fail
  refine (toMachine_any x _ (HM.out.below HB.out)).mono ?_
  rintro e w5 ⟨y5, vsy5, h1y5, h2y5, rfl, fs, o, b⟩
  have Ey5 := Lib.hid fs
  have Dy5 := Lib.hid (HSM.out.at_ fs)
  replace hZ := Lib.hid (hZ.out.push o (local_MOwn _ _ _ _ _ _) b)
  replace HB := Lib.hid hZ.out.bel
  clear b fs o
  unfold Mch.val Mch.cs
  clear c0 c1 c2 c3 c4 c5 c6 c7 c8
  have hb5 : Below w5.heap.size w5 (w5.alloc (.cells y5.cs 28)) := (Below.refl _ _).alloc (Nat.le_refl _) _
  replace hZ := Lib.hid (hZ.out.push (MBox.new w5 y5 28) (local_MBox w5.heap.size _ (by simp) y5) hb5)
  replace HB := Lib.hid hZ.out.bel
  clear hb5
  unfold Mch.cs at *
  obtain ⟨⟨d0, d1, d2⟩, d3, d4, d5, d6, d7, d8⟩ := (hZ.out.at_ 0 rfl : MBox _ w5.heap.size y5).all
  go_wp2_with fail
  refine (traceMachine_impl y5 n _ (Dy5.out.own (hZ.out.at_ 1 rfl : MOwn _ _ _ _ _ y5 vsy5)) (own_nilM (hZ.out.at_ 1 rfl : MOwn _ _ _ _ _ y5 vsy5))).mono ?_
  rw [traceR_at Ey5.out, hxs.out]
  rintro e w7 ⟨A7, c7', rfl, o, b⟩
  replace hZ := Lib.hid (hZ.out.pushI o b)
  clear o b d0 d1 d2 d3 d4 d5 d6 d7 d8
  go_wp2_with fail
  refine (eqIntS_same _ _ _ _ _ _ _ (hZ.out.ints 0 rfl) (hZ.out.ints 3 rfl) (by omega)).mono ?_
  rintro e wq ⟨rfl, b⟩
  replace hZ := Lib.hid (hZ.out.below b)
  clear b
  replace HB := Lib.hid hZ.out.bel
  have BY := (hZ.out.at_ 1 rfl : MBox _ w5.heap.size y5)
  have BX := X0.out.below HB.out
  have x5l := BY.lt
  have x0l := BX.lt
  have R5 := Lib.hid (Dy5.out.own (hZ.out.at_ 2 rfl : MOwn _ _ _ _ _ y5 vsy5))
  have BX' := Lib.hid BX
  have BY' := Lib.hid BY
  obtain ⟨⟨c0, c1, c2⟩, c3, c4, c5, c6, c7, c8⟩ := BX.all
  obtain ⟨⟨d0, d1, d2⟩, d3, d4, d5, d6, d7, d8⟩ := BY.all
  clear BX BY
  go_wp2_with fail
  go_region_held3 (fun w' => ((w'.cell? ⟨w.heap.size, 0, none⟩ = some (.slice x.A x.n x.c) ∧ w'.cell? ⟨w.heap.size, 1, none⟩ = some (.slice x.R x.rn x.rc) ∧ w'.cell? ⟨w.heap.size, 2, none⟩ = some (.int .i64 x.bank)) ∧ w'.cell? ⟨w.heap.size, 3, none⟩ = some (.int .i64 x.a) ∧ w'.cell? ⟨w.heap.size, 4, none⟩ = some (.int .i64 x.pc) ∧ w'.cell? ⟨w.heap.size, 5, none⟩ = some (.bool x.cy) ∧ w'.cell? ⟨w.heap.size, 6, none⟩ = some (.slice x.B x.bn x.bc) ∧ w'.cell? ⟨w.heap.size, 7, none⟩ = some (.bool x.st) ∧ w'.cell? ⟨w.heap.size, 8, none⟩ = some (.int .i64 x.cyc)) ∧ ((w'.cell? ⟨w5.heap.size, 0, none⟩ = some (.slice y5.A y5.n y5.c) ∧ w'.cell? ⟨w5.heap.size, 1, none⟩ = some (.slice y5.R y5.rn y5.rc) ∧ w'.cell? ⟨w5.heap.size, 2, none⟩ = some (.int .i64 y5.bank)) ∧ w'.cell? ⟨w5.heap.size, 3, none⟩ = some (.int .i64 y5.a) ∧ w'.cell? ⟨w5.heap.size, 4, none⟩ = some (.int .i64 y5.pc) ∧ w'.cell? ⟨w5.heap.size, 5, none⟩ = some (.bool y5.cy) ∧ w'.cell? ⟨w5.heap.size, 6, none⟩ = some (.slice y5.B y5.bn y5.bc) ∧ w'.cell? ⟨w5.heap.size, 7, none⟩ = some (.bool y5.st) ∧ w'.cell? ⟨w5.heap.size, 8, none⟩ = some (.int .i64 y5.cyc))) (first | (with_reducible exact ⟨(BX'.out.below b9).all, (BY'.out.below b9).all⟩) | (with_reducible exact ⟨(BX'.out.below b8).all, (BY'.out.below b8).all⟩) | with_reducible exact ⟨(BX'.out.below (Below.refl _ _).drew).all, (BY'.out.below (Below.refl _ _).drew).all⟩) ((first | (go_at_call 15; refine (toMachine_any x _ (HM.out.below HB.out.drew)).mono ?_; rintro e w8 ⟨y8, vs8, h18, h28, rfl, fs8, o8, b8'⟩; have b8 : Below wq.heap.size wq w8 := (Below.refl _ _).drew.trans b8'; have R8 := Lib.hid ((HSM.out.at_ fs8).own o8); replace fs8 := Lib.hid fs8; clear o8; unfold Mch.val Mch.cs) | (go_at_call 17; refine (eqMachine_two x y5 y8 _ Ey5.out fs8.out (R5.out.below b8) R8.out).mono ?_; rintro e w9 ⟨rfl, b9'⟩; have b9 : Below wq.heap.size wq w9 := below_step b8 b9' b8.size; clear b9' b8')))
  replace hZ := Lib.hid (hZ.out.below b9)
  replace HB := Lib.hid hZ.out.bel
  clear b8 b9 c0 c1 c2 c3 c4 c5 c6 c7 c8 d0 d1 d2 d3 d4 d5 d6 d7 d8 x0l x5l R5 R8 fs8 BX' BY'
  obtain ⟨⟨d0, d1, d2⟩, d3, d4, d5, d6, d7, d8⟩ := (hZ.out.at_ 1 rfl : MBox _ w5.heap.size y5).all
  have z5n := Dy5.out.n
  have z5r := Dy5.out.r
  have z5b := Dy5.out.b
  have z5s := Dy5.out.s
  go_wp2_with fail
  refine (markMachine_any _ _ _ _ y5 vsy5 1 _ (hZ.out.at_ 2 rfl : MOwn _ _ _ _ _ y5 vsy5) (hZ.out.hi_leM 2 rfl) (by omega) (by omega) (by omega) (by omega) (by omega) (by omega)).mono ?_
  rintro e w11 ⟨m1, rfl, hm0, t⟩
  replace hZ := Lib.hid (hZ.out.mark 2 rfl (P' := fun _ => True) trivial (local_trueM _ _) t)
  clear t d0 d1 d2 d3 d4 d5 d6 d7 d8
  go_wp2_with fail
  refine (eqIntS_same _ _ _ _ _ _ _ (hZ.out.ints 0 rfl) (hZ.out.ints 3 rfl) (by omega)).mono ?_
  rintro e w' ⟨rfl, b⟩
  replace hZ := Lib.hid (hZ.out.below b)
  clear b
  go_wp2_with fail
  refine (markIntS_own _ _ _ _ _ 1 _ (hZ.out.own 0 rfl) (by omega) (by omega) (by omega)).mono ?_
  rintro e w' ⟨rfl, o, g⟩
  replace hZ := Lib.hid (hZ.out.markI 0 rfl o g)
  clear o g
  go_wp2_with fail
  refine (heldIntS_marks _ _ _ 1 _ (hZ.out.ints 0 rfl) (by omega) (by omega) (by omega)).mono ?_
  rintro e w' ⟨rfl, b⟩
  replace hZ := Lib.hid (hZ.out.below b)
  clear b
  replace HB := Lib.hid hZ.out.bel
  obtain ⟨⟨c0, c1, c2⟩, c3, c4, c5, c6, c7, c8⟩ := (X0.out.below HB.out).all
  go_wp2_with fail
  refine (toMachine_any x _ (HM.out.below HB.out)).mono ?_
  rintro e w13 ⟨y13, vsy13, h1y13, h2y13, rfl, fs, o, b⟩
  have Ey13 := Lib.hid fs
  have Dy13 := Lib.hid (HSM.out.at_ fs)
  replace hZ := Lib.hid (hZ.out.push o (local_MOwn _ _ _ _ _ _) b)
  replace HB := Lib.hid hZ.out.bel
  clear b fs o
  unfold Mch.val Mch.cs
  clear c0 c1 c2 c3 c4 c5 c6 c7 c8
  go_wp2_with fail
  refine (traceMachine_impl y13 n _ (Dy13.out.own (hZ.out.at_ 0 rfl : MOwn _ _ _ _ _ y13 vsy13)) (own_nilM (hZ.out.at_ 0 rfl : MOwn _ _ _ _ _ y13 vsy13))).mono ?_
  rw [traceR_at Ey13.out, hxs.out]
  rintro e w15 ⟨A15, c15, rfl, o, b⟩
  replace hZ := Lib.hid (hZ.out.pushI o b)
  clear o b
  go_wp2_with fail
  refine (eqIntS_same _ _ _ _ _ _ _ (hZ.out.ints 0 rfl) (hZ.out.ints 5 rfl) (by omega)).mono ?_
  rintro e w' ⟨rfl, b⟩
  replace hZ := Lib.hid (hZ.out.below b)
  clear b
  go_wp2_with fail
  refine (heldIntS_marks _ _ _ 1 _ (hZ.out.ints 2 rfl) (by omega) (by omega) (by omega)).mono ?_
  rintro e w' ⟨rfl, b⟩
  replace hZ := Lib.hid (hZ.out.below b)
  clear b
  go_wp2_with fail
  go_ret
  exact ⟨rfl, below_step HBW.out hZ.out.bel HBW.out.size⟩
end Go.Proofs.Ytgedfcccflobmaa
