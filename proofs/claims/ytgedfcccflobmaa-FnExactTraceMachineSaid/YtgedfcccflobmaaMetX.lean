/-
  The law FnExactMetStop: the same condition is found; arguments unmodified.
-/
import Derived.Test.YtgedfcccflobmaaMet
import Derived.Test.YtgedfcccflobmaaMacL
import Derived.Test.YtgedfcccflobmaaTriE
import Derived.Test.YtgedfcccflobmaaOpenT
import Derived.Test.YtgedfcccflobmaaOpM
namespace Go.Proofs.Ytgedfcccflobmaa
open Go.RowKit
set_option linter.unusedVariables false
set_option linter.unusedSimpArgs false
theorem local_MBox (b hi : Nat) (hb : b < hi) (x : Mch) : Local b hi (fun w => MBox w b x) := fun w w' p hs hk => by
  have e : w'.heap[b]? = w.heap[b]? := hk b (Nat.le_refl _) hb
  exact ⟨⟨Nat.lt_of_lt_of_le p.lt hs, (World.cell?_of_block e).trans p.m.c0, (World.cell?_of_block e).trans p.m.c1, (World.cell?_of_block e).trans p.m.c2⟩, (World.cell?_of_block e).trans p.c3, (World.cell?_of_block e).trans p.c4, (World.cell?_of_block e).trans p.c5, (World.cell?_of_block e).trans p.c6, (World.cell?_of_block e).trans p.c7, (World.cell?_of_block e).trans p.c8⟩
/-- A row of conditions. -/
def ZS3 (lo hi : Nat) (A : Option Addr) (n c : Nat) (xs : List Int) (w : World) : Prop := w.ownsRow lo 74 3 (.slice A n c) n (iv xs) ∧ ∀ k, (Value.slice A n c).ownBlock = some k → k < hi
theorem local_ZS3 (lo hi : Nat) (A : Option Addr) (n c : Nat) (xs : List Int) : Local lo hi (ZS3 lo hi A n c xs) :=
  fun w w' p hs hk => ⟨own_same p.1 fun g hg => hk g (p.1.lt g hg).1 (p.2 g hg), p.2⟩
theorem Zones.pushS3 {w0 w w' : World} {L : List Zn} (h : Zones w0 w L) {A : Option Addr} {n c : Nat} {xs : List Int} (o : w'.ownsRow w.heap.size 74 3 (.slice A n c) n (iv xs)) (b : Below w.heap.size w w') :
    Zones w0 w' (⟨w.heap.size, w'.heap.size, ZS3 w.heap.size w'.heap.size A n c xs⟩ :: L) := h.push ⟨o, fun k hk => (o.lt k hk).2⟩ (local_ZS3 _ _ _ _ _ _) b
theorem Zones.readS3 {w0 w : World} {L : List Zn} {A : Option Addr} {n c lo hi : Nat} {xs : List Int} (h : Zones w0 w L) (i : Nat) (hr : L[i]? = some ⟨lo, hi, ZS3 lo hi A n c xs⟩) : Reads w w.heap.size 3 A n (iv xs) := Reads.of_own (h.at_ i hr).1
theorem metR_at {x y : Mch} (h : Msame x y) (ts : List Tri) : metR y ts = metR x ts := by
  obtain ⟨A, c, R, rc, B, bc, rfl⟩ := h
  rfl
theorem machB_at {x y : Mch} (h : Msame x y) : machB y = machB x := by
  obtain ⟨A, c, R, rc, B, bc, rfl⟩ := h
  rfl
/-- The bounds on a machine's lengths, as far as szMachine let them by. -/
structure MSm (x : Mch) : Prop where
  n : x.n ≤ 2000000
  r : x.rn ≤ 2000000
  b : x.bn ≤ 2000000
  s : sumR x.rows ≤ 2000000
  rl : x.rows.length = x.rn
theorem MSm.d {x : Mch} (h : MSm x) : ∀ k, k < x.rn → (x.rows.getD k []).length ≤ 1000000000 := fun k hk => by
  have := sumR_get (os := x.rows) (k := k) (by rw [h.rl]; exact hk)
  have := h.s
  omega
theorem MSm.at_ {x y : Mch} (h : MSm x) (e : Msame x y) : MSm y := by
  obtain ⟨A, c, R, rc, B, bc, rfl⟩ := e
  exact ⟨h.n, h.r, h.b, h.s, h.rl⟩
theorem MSm.rd0 {w : World} {x : Mch} (h : MSm x) (r : MRd0 w x) : MRd w x := ⟨⟨r.ram, r.rom, by have := h.n; omega, by have := h.r; omega, h.d⟩, r.back, by have := h.b; omega⟩
theorem MSm.own {w : World} {lo h1 h2 hi : Nat} {x : Mch} {vs : List Value} (h : MSm x) (o : MOwn w lo h1 h2 hi x vs) : MRd w x := o.rd (by have := h.n; omega) (by have := h.r; omega) h.d (by have := h.b; omega)
theorem msm_of {l : Int} {x : Mch} {v : Int} {w : World} (h : SzM l x v) (hv : ¬ v < 0) (hl : l ≤ 1048576) (r : MRd0 w x) : MSm x := by
  rcases h with h | ⟨h0, h1, h2, h3, h4, h5⟩
  · omega
  · have := r.rom.1
    exact ⟨by omega, by omega, by omega, by omega, this⟩
set_option maxRecDepth 20000 in
set_option maxHeartbeats 4000000 in
theorem fnExactMetStop_walk (w : World) (x : Mch) (h : MRd0 w x) (A : Option Addr) (n c : Nat) (ts : List Tri) (ht : Reads w w.heap.size 3 A n (iv (fl3 ts))) (hn : n ≤ 9223372036854775807) :
    Calls Try.prog 6 #[x.val, .slice A n c] w fun e w' => e = .returned (.bool true) ∧ Below w.heap.size w w' := by
  have hb0 : Below w.heap.size w (w.alloc (.cells x.cs 39)) := (Below.refl _ _).alloc (Nat.le_refl _) _
  have X0 := Lib.hid (MBox.new w x 39)
  have h0 : MRd0 (w.alloc (.cells x.cs 39)) x := ⟨(h.ram.below hb0).more hb0.size, h.rom.below hb0, (h.back.below hb0).more hb0.size, h.hn, h.hr, h.hd, h.hb⟩
  have HZ := Lib.hid (szMachine_any x 1048576 (w.alloc (.cells x.cs 39)) h0 (by omega) (by omega))
  have H0 := Lib.hid h0
  have HT := Lib.hid ((ht.below hb0).more hb0.size)
  have HBW := Lib.hid hb0
  clear h ht hb0 h0
  unfold Mch.val Mch.cs at *
  go_enter Try.func6, Try.ntmps6
  go_wp2_with fail
  refine (HZ.out).mono ?_
  rintro e w1 ⟨q, rfl, hq, b1⟩
  have HB := Lib.hid b1
  by_cases hq0 : q < 0
  · clear HZ hq
    go_wp2_with fail
    go_ret
    exact ⟨rfl, below_step HBW.out HB.out HBW.out.size⟩
  have HSM := Lib.hid (msm_of hq hq0 (by omega) H0.out)
  have HM := Lib.hid (HSM.out.rd0 H0.out)
  have hq1 : q ≤ 1048576 := by
    rcases hq with h | h
    · omega
    · exact h.2.1
  clear HZ hq b1
  by_cases hlong2 : q - (n : Int) < 0
  · have hi := Lib.hid (show (if q - (n : Int) < 0 then (-1 : Int) else q - n) = -1 from if_pos hlong2)
    go_wp2_with (go_at_call 25; refine (szStopS_any A n c q _ (by omega) (by omega) hn).mono ?_; rintro e w' ⟨rfl, rfl⟩; rw [hi.out])
    go_ret
    exact ⟨rfl, below_step HBW.out HB.out HBW.out.size⟩
  have hi := Lib.hid (show (if q - (n : Int) < 0 then (-1 : Int) else q - n) = q - n from if_neg hlong2)
  have hn8 : n ≤ 2000000 := by omega
  obtain ⟨⟨c0, c1, c2⟩, c3, c4, c5, c6, c7, c8⟩ := (X0.out.below HB.out).all
  go_wp2_with (go_at_call 25; refine (szStopS_any A n c q _ (by omega) (by omega) hn).mono ?_; rintro e w' ⟨rfl, rfl⟩; rw [hi.out])
  have hZ := Lib.hid ((Zones.start _).below HB.out)
  refine (toMachine_any x _ (HM.out.below HB.out)).mono ?_
  rintro e w2 ⟨y2, vs2, h12, h22, rfl, fs, o, b⟩
  have E2 := Lib.hid fs
  have D2 := Lib.hid (HSM.out.at_ fs)
  replace hZ := Lib.hid (hZ.out.push o (local_MOwn _ _ _ _ _ _) b)
  replace HB := Lib.hid hZ.out.bel
  clear b fs o c0 c1 c2 c3 c4 c5 c6 c7 c8
  unfold Mch.val Mch.cs
  go_wp2_with fail
  refine (toStopS_any A n c ts _ ((HT.out.below HB.out).more HB.out.size) (by omega)).mono ?_
  rintro e w3 ⟨A', c', rfl, o, b⟩
  replace hZ := Lib.hid (hZ.out.pushS3 o b)
  replace HB := Lib.hid hZ.out.bel
  clear b o
  go_wp2_with fail
  refine (metStop_spec y2 _ _ _ ts _ (D2.out.own (hZ.out.at_ 1 rfl : MOwn _ _ _ _ _ y2 vs2)) (hZ.out.readS3 0 rfl) (by omega)).mono ?_
  rw [metR_at E2.out]
  rintro e w4 ⟨rfl, b⟩
  replace hZ := Lib.hid (hZ.out.below b)
  replace HB := Lib.hid hZ.out.bel
  clear b
  obtain ⟨qr, hqr⟩ : ∃ qr, metR x ts = qr := ⟨_, rfl⟩
  have hqn : (qr != qr) = false := by simp
  rw [hqr]
  replace hqr := Lib.hid hqr
  obtain ⟨⟨c0, c1, c2⟩, c3, c4, c5, c6, c7, c8⟩ := (X0.out.below HB.out).all
  go_wp2_with fail
  refine (toMachine_any x _ (HM.out.below HB.out)).mono ?_
  rintro e w5 ⟨y5, vsy5, h1y5, h2y5, rfl, fs, o, b⟩
  have Ey5 := Lib.hid fs
  have Dy5 := Lib.hid (HSM.out.at_ fs)
  replace hZ := Lib.hid (hZ.out.push o (local_MOwn _ _ _ _ _ _) b)
  replace HB := Lib.hid hZ.out.bel
  clear b fs o
  unfold Mch.val Mch.cs
  clear c0 c1 c2 c3 c4 c5 c6 c7 c8
  have hb5 : Below w5.heap.size w5 (w5.alloc (.cells y5.cs 28)) := (Below.refl _ _).alloc (Nat.le_refl _) _
  replace hZ := Lib.hid (hZ.out.push (MBox.new w5 y5 28) (local_MBox w5.heap.size _ (by simp) y5) hb5)
  replace HB := Lib.hid hZ.out.bel
  clear hb5
  unfold Mch.cs at *
  go_wp2_with fail
  refine (toStopS_any A n c ts _ ((HT.out.below HB.out).more HB.out.size) (by omega)).mono ?_
  rintro e w6 ⟨A', c', rfl, o, b⟩
  replace hZ := Lib.hid (hZ.out.pushS3 o b)
  replace HB := Lib.hid hZ.out.bel
  clear b o
  obtain ⟨⟨d0, d1, d2⟩, d3, d4, d5, d6, d7, d8⟩ := (hZ.out.at_ 1 rfl : MBox _ w5.heap.size y5).all
  go_wp2_with fail
  refine (metStop_impl y5 _ _ _ ts _ (Dy5.out.own (hZ.out.at_ 2 rfl : MOwn _ _ _ _ _ y5 vsy5)) (hZ.out.readS3 0 rfl) (by omega)).mono ?_
  rw [metR_at Ey5.out, hqr.out]
  rintro e w7 ⟨rfl, b⟩
  replace hZ := Lib.hid (hZ.out.below b)
  replace HB := Lib.hid hZ.out.bel
  clear b d0 d1 d2 d3 d4 d5 d6 d7 d8
  have BY := (hZ.out.at_ 1 rfl : MBox _ w5.heap.size y5)
  have BX := X0.out.below HB.out
  have x5l := BY.lt
  have x0l := BX.lt
  have R5 := Lib.hid (Dy5.out.own (hZ.out.at_ 2 rfl : MOwn _ _ _ _ _ y5 vsy5))
  have BX' := Lib.hid BX
  have BY' := Lib.hid BY
  obtain ⟨⟨c0, c1, c2⟩, c3, c4, c5, c6, c7, c8⟩ := BX.all
  obtain ⟨⟨d0, d1, d2⟩, d3, d4, d5, d6, d7, d8⟩ := BY.all
  clear BX BY
  go_wp2_with fail
  go_region_held3 (fun w' => ((w'.cell? ⟨w.heap.size, 0, none⟩ = some (.slice x.A x.n x.c) ∧ w'.cell? ⟨w.heap.size, 1, none⟩ = some (.slice x.R x.rn x.rc) ∧ w'.cell? ⟨w.heap.size, 2, none⟩ = some (.int .i64 x.bank)) ∧ w'.cell? ⟨w.heap.size, 3, none⟩ = some (.int .i64 x.a) ∧ w'.cell? ⟨w.heap.size, 4, none⟩ = some (.int .i64 x.pc) ∧ w'.cell? ⟨w.heap.size, 5, none⟩ = some (.bool x.cy) ∧ w'.cell? ⟨w.heap.size, 6, none⟩ = some (.slice x.B x.bn x.bc) ∧ w'.cell? ⟨w.heap.size, 7, none⟩ = some (.bool x.st) ∧ w'.cell? ⟨w.heap.size, 8, none⟩ = some (.int .i64 x.cyc)) ∧ ((w'.cell? ⟨w5.heap.size, 0, none⟩ = some (.slice y5.A y5.n y5.c) ∧ w'.cell? ⟨w5.heap.size, 1, none⟩ = some (.slice y5.R y5.rn y5.rc) ∧ w'.cell? ⟨w5.heap.size, 2, none⟩ = some (.int .i64 y5.bank)) ∧ w'.cell? ⟨w5.heap.size, 3, none⟩ = some (.int .i64 y5.a) ∧ w'.cell? ⟨w5.heap.size, 4, none⟩ = some (.int .i64 y5.pc) ∧ w'.cell? ⟨w5.heap.size, 5, none⟩ = some (.bool y5.cy) ∧ w'.cell? ⟨w5.heap.size, 6, none⟩ = some (.slice y5.B y5.bn y5.bc) ∧ w'.cell? ⟨w5.heap.size, 7, none⟩ = some (.bool y5.st) ∧ w'.cell? ⟨w5.heap.size, 8, none⟩ = some (.int .i64 y5.cyc))) (first | (with_reducible exact ⟨(BX'.out.below b9).all, (BY'.out.below b9).all⟩) | (with_reducible exact ⟨(BX'.out.below b8).all, (BY'.out.below b8).all⟩) | with_reducible exact ⟨(BX'.out.below (Below.refl _ _).drew).all, (BY'.out.below (Below.refl _ _).drew).all⟩) ((first | (go_at_call 15; refine (toMachine_any x _ (HM.out.below HB.out.drew)).mono ?_; rintro e w8 ⟨y8, vs8, h18, h28, rfl, fs8, o8, b8'⟩; have b8 : Below w7.heap.size w7 w8 := (Below.refl _ _).drew.trans b8'; have R8 := Lib.hid ((HSM.out.at_ fs8).own o8); replace fs8 := Lib.hid fs8; clear o8; unfold Mch.val Mch.cs) | (go_at_call 17; refine (eqMachine_two x y5 y8 _ Ey5.out fs8.out (R5.out.below b8) R8.out).mono ?_; rintro e w9 ⟨rfl, b9'⟩; have b9 : Below w7.heap.size w7 w9 := below_step b8 b9' b8.size; clear b9' b8')))
  replace hZ := Lib.hid (hZ.out.below b9)
  replace HB := Lib.hid hZ.out.bel
  clear b8 b9 c0 c1 c2 c3 c4 c5 c6 c7 c8 d0 d1 d2 d3 d4 d5 d6 d7 d8 x0l x5l R5 R8 fs8 BX' BY'
  go_wp2_with fail
  refine (toStopS_any A n c ts _ ((HT.out.below HB.out).more HB.out.size) (by omega)).mono ?_
  rintro e w10 ⟨A', c', rfl, o, b⟩
  replace hZ := Lib.hid (hZ.out.pushS3 o b)
  replace HB := Lib.hid hZ.out.bel
  clear b o
  go_wp2_with fail
  refine (eqStopS_same _ _ _ _ _ _ _ (hZ.out.readS3 1 rfl) (hZ.out.readS3 0 rfl) (by omega)).mono ?_
  rintro e w11 ⟨rfl, b⟩
  replace hZ := Lib.hid (hZ.out.below b)
  clear b
  go_wp2_with fail
  go_ret
  exact ⟨rfl, below_step HBW.out hZ.out.bel HBW.out.size⟩
end Go.Proofs.Ytgedfcccflobmaa
