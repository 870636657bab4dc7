/-
  The law FnExactBeamLine: the same line while changes happen, in memory of its own; arguments unmodified.
-/
import Derived.Test.YtkcabllnlbcgdaaBeaW
import Derived.Test.YtkcabllnlbcgdaaMrkL
import Derived.Test.YtkcabllnlbcgdaaScY
import Derived.Test.YtkcabllnlbcgdaaBeamV
import Derived.Test.YtkcabllnlbcgdaaTriE
import Derived.Test.YtkcabllnlbcgdaaOpenT
import Derived.Test.YtkcabllnlbcgdaaOpF
namespace Go.Proofs.Ytkcabllnlbcgdaa
open Go.RowKit
set_option linter.unusedVariables false
set_option linter.unusedSimpArgs false
theorem Zones.hi_le' {w0 w : World} {L : List Zn} (h : Zones w0 w L) (i : Nat) {lo hi : Nat} {P : World → Prop} (hr : L[i]? = some ⟨lo, hi, P⟩) : hi ≤ w.heap.size := (h.row _ (List.mem_of_getElem? hr)).2.2.2
/-- A background's rows, by themselves. -/
def ZF (lo hi : Nat) (f : Fld) (w : World) : Prop :=
  FOwn w lo f ∧ (∀ k, (Value.slice f.A f.n f.c).ownBlock = some k → k < hi) ∧ ∀ k, (Value.slice f.T f.tn f.tc).ownBlock = some k → k < hi
theorem ZF.new {w : World} {lo : Nat} {f : Fld} (h : FOwn w lo f) : ZF lo w.heap.size f w := ⟨h, fun k hk => (h.m.lt k hk).2, fun k hk => (h.t.lt k hk).2⟩
theorem local_ZF (lo hi : Nat) (f : Fld) : Local lo hi (ZF lo hi f) := fun w w' p hs hk =>
  ⟨⟨own_same p.1.m fun g hg => hk g (p.1.m.lt g hg).1 (p.2.1 g hg), own_same p.1.t fun g hg => hk g (p.1.t.lt g hg).1 (p.2.2 g hg), p.1.l⟩, p.2⟩
theorem local_FBox (b hi : Nat) (hb : b < hi) (f : Fld) : Local b hi (fun w => FBox w b f) := fun w w' p hs hk => by
  have e : w'.heap[b]? = w.heap[b]? := hk b (Nat.le_refl _) hb
  exact ⟨Nat.lt_of_lt_of_le p.lt hs, (World.cell?_of_block e).trans p.c0, (World.cell?_of_block e).trans p.c1, (World.cell?_of_block e).trans p.c2, (World.cell?_of_block e).trans p.c3, (World.cell?_of_block e).trans p.c4⟩
theorem local_true' (lo hi : Nat) : Local lo hi (fun _ => True) := fun _ _ _ _ _ => trivial
/-- A row of changes. -/
def ZT (lo hi : Nat) (A : Option Addr) (n c : Nat) (xs : List Int) (w : World) : Prop := w.ownsRow lo 34 3 (.slice A n c) n (iv xs) ∧ ∀ k, (Value.slice A n c).ownBlock = some k → k < hi
theorem local_ZT (lo hi : Nat) (A : Option Addr) (n c : Nat) (xs : List Int) : Local lo hi (ZT lo hi A n c xs) :=
  fun w w' p hs hk => ⟨own_same p.1 fun g hg => hk g (p.1.lt g hg).1 (p.2 g hg), p.2⟩
theorem Zones.pushT {w0 w w' : World} {L : List Zn} (h : Zones w0 w L) {A : Option Addr} {n c : Nat} {xs : List Int} (o : w'.ownsRow w.heap.size 34 3 (.slice A n c) n (iv xs)) (b : Below w.heap.size w w') :
    Zones w0 w' (⟨w.heap.size, w'.heap.size, ZT w.heap.size w'.heap.size A n c xs⟩ :: L) := h.push ⟨o, fun k hk => (o.lt k hk).2⟩ (local_ZT _ _ _ _ _ _) b
section
variable {w0 w w' : World} {L : List Zn} {A : Option Addr} {n c lo hi : Nat} {xs : List Int}
theorem Zones.ownT (h : Zones w0 w L) (i : Nat) (hr : L[i]? = some ⟨lo, hi, ZT lo hi A n c xs⟩) : w.ownsRow lo 34 3 (.slice A n c) n (iv xs) := (h.at_ i hr).1
theorem Zones.readT (h : Zones w0 w L) (i : Nat) (hr : L[i]? = some ⟨lo, hi, ZT lo hi A n c xs⟩) : Reads w w.heap.size 3 A n (iv xs) := Reads.of_own (h.at_ i hr).1
theorem Zones.markT {ys : List Int} (h : Zones w0 w L) (i : Nat) (hr : L[i]? = some ⟨lo, hi, ZT lo hi A n c xs⟩) (o : w'.ownsRow lo 34 3 (.slice A n c) n (iv ys)) (g : w.grownBy w' (Value.slice A n c).ownBlock) : Zones w0 w' (L.set i ⟨lo, hi, ZT lo hi A n c ys⟩) := by
  have hm := h.at_ i hr
  exact h.mark i hr ⟨o, hm.2⟩ (local_ZT _ _ _ _ _ _) (Touch.of_grown g fun k hk => ⟨(hm.1.lt k hk).1, hm.2 k hk⟩)
end
theorem fieldB_at {f g : Fld} (h : Fsame f g) : fieldB g = fieldB f := by
  obtain ⟨A, c, T, tc, rfl⟩ := h
  rfl
theorem beamF_at {f g : Fld} (h : Fsame f g) (y : Int) : ∀ (ts : List Tri) (s : Int × Int) (a : Int), beamF g y s a ts = beamF f y s a ts := by
  obtain ⟨A, c, T, tc, rfl⟩ := h
  intro ts
  induction ts with
  | nil => intro s a; rfl
  | cons t ts ih => intro s a; unfold beamF; rw [ih]; rfl
theorem beamR_at {f g : Fld} (h : Fsame f g) (y : Int) (ts : List Tri) : beamR g y ts = beamR f y ts := by
  unfold beamR
  rw [fieldB_at h, beamF_at h]
  obtain ⟨A, c, T, tc, rfl⟩ := h
  rfl
theorem toField_to (f : Fld) (w : World) (h : FRd w f) :
    Calls Try.prog 22 #[f.val] w fun e w' => ∃ f1, e = .returned f1.val ∧ Fsame f f1 ∧ FOwn w' w.heap.size f1 ∧ Below w.heap.size w w' :=
  (toField_any f w h).mono fun e w' ⟨A1, c1, T1, tc1, h1, h2, h3⟩ => ⟨_, h1, ⟨A1, c1, T1, tc1, rfl⟩, h2, h3⟩
theorem eqField_two (f g g' : Fld) (w : World) (e1 : Fsame f g) (e2 : Fsame f g') (h : FRd w g) (h' : FRd w g') :
    Calls Try.prog 25 #[g.val, g'.val] w fun e w' => e = .returned (.bool true) ∧ Below w.heap.size w w' := by
  obtain ⟨A, c, T, tc, rfl⟩ := e1
  obtain ⟨A', c', T', tc', rfl⟩ := e2
  exact eqField_same f A c T tc A' c' T' tc' w h h'
set_option maxRecDepth 20000 in
set_option maxHeartbeats 4000000 in
theorem fnExactBeamLine_walk (w : World) (f : Fld) (h : FRd0 w f) (y : Int) (hy : (Lit.int .i64 y).wf = true) (A : Option Addr) (n c : Nat) (ts : List Tri) (ht : Reads w w.heap.size 3 A n (iv (fl3 ts))) (hn : n ≤ 9223372036854775807) :
    Calls Try.prog 5 #[f.val, .int .i64 y, .slice A n c] w fun e w' => e = .returned (.bool true) ∧ Below w.heap.size w w' := by
  clear hy
  have hb0 : Below w.heap.size w (w.alloc (.cells f.cs 42)) := (Below.refl _ _).alloc (Nat.le_refl _) _
  have X0 := Lib.hid (fbox_new w f 42)
  have HZ := Lib.hid (szField_any f 1048576 (w.alloc (.cells f.cs 42)) (by omega) (by omega) h.hn h.ht)
  have HBW := Lib.hid hb0
  obtain ⟨q, hq⟩ : ∃ q, szFV 1048576 f.n f.tn = q := ⟨_, rfl⟩
  by_cases hlong : q < 0
  · replace hq := Lib.hid hq
    have hi := Lib.hid trivial
    clear h ht hb0
    unfold Fld.val Fld.cs at *
    go_enter Try.func5, Try.ntmps5
    go_wp2_with (first | (go_at_call 20; refine (HZ.out).mono ?_; rintro e w1 ⟨rfl, b1⟩; rw [hq.out]; obtain ⟨-, c0, c1, c2, c3, c4⟩ := X0.out.below b1; replace b1 := Lib.hid b1) | (go_at_call 21; refine (szChangeS_any A n c q _ (by omega) (by omega) hn).mono ?_; rintro e w' ⟨rfl, rfl⟩; rw [hi.out]))
    go_ret
    exact ⟨rfl, below_step HBW.out b1.out HBW.out.size⟩
  obtain ⟨q1, q2, q3, q4⟩ := szFV_ok (show ¬ szFV 1048576 f.n f.tn < 0 by rw [hq]; exact hlong)
  rw [hq] at q3 q4
  by_cases hlong2 : q - (n : Int) < 0
  · have hi := Lib.hid (show (if q - (n : Int) < 0 then (-1 : Int) else q - n) = -1 from if_pos hlong2)
    replace hq := Lib.hid hq
    clear h ht hb0
    unfold Fld.val Fld.cs at *
    go_enter Try.func5, Try.ntmps5
    go_wp2_with (first | (go_at_call 20; refine (HZ.out).mono ?_; rintro e w1 ⟨rfl, b1⟩; rw [hq.out]; obtain ⟨-, c0, c1, c2, c3, c4⟩ := X0.out.below b1; replace b1 := Lib.hid b1) | (go_at_call 21; refine (szChangeS_any A n c q _ (by omega) (by omega) hn).mono ?_; rintro e w' ⟨rfl, rfl⟩; rw [hi.out]))
    go_ret
    exact ⟨rfl, below_step HBW.out b1.out HBW.out.size⟩
  have hi := Lib.hid (show (if q - (n : Int) < 0 then (-1 : Int) else q - n) = q - n from if_neg hlong2)
  have hfn : f.n ≤ 2000000 := by omega
  have hft : f.tn ≤ 2000000 := by omega
  have hn8 : n ≤ 2000000 := by omega
  have HF := Lib.hid ((FRd.mk h.map h.tiles (by omega) (by omega)).below hb0)
  have HT := Lib.hid ((ht.below hb0).more hb0.size)
  obtain ⟨xs, hxs⟩ : ∃ xs, beamR f y ts = xs := ⟨_, rfl⟩
  have hxl : xs.length ≤ 32 := by rw [← hxs]; exact beamR_len f y ts
  replace hxs := Lib.hid hxs
  replace hq := Lib.hid hq
  clear h ht hb0 q1 q2
  unfold Fld.val Fld.cs at *
  go_enter Try.func5, Try.ntmps5
  go_wp2_with (first | (go_at_call 20; refine (HZ.out).mono ?_; rintro e w1 ⟨rfl, b1⟩; rw [hq.out]; obtain ⟨-, c0, c1, c2, c3, c4⟩ := X0.out.below b1; replace b1 := Lib.hid b1) | (go_at_call 21; refine (szChangeS_any A n c q _ (by omega) (by omega) hn).mono ?_; rintro e w' ⟨rfl, rfl⟩; rw [hi.out]))
  have hZ := Lib.hid ((Zones.start _).below b1.out)
  have HB := b1
  clear HZ b1
  clear c0 c1 c2 c3 c4
  obtain ⟨-, c0, c1, c2, c3, c4⟩ := X0.out.below HB.out
  refine (toField_to f _ (HF.out.below HB.out)).mono ?_
  rintro e w2 ⟨f2, rfl, fs, o, b⟩
  have E2 := Lib.hid fs
  replace hZ := Lib.hid (hZ.out.push (ZF.new o) (local_ZF _ _ _) b)
  replace HB := Lib.hid hZ.out.bel
  clear b fs o c0 c1 c2 c3 c4
  unfold Fld.val Fld.cs
  go_wp2_with fail
  refine (toChangeS_any A n c ts _ ((HT.out.below HB.out).more HB.out.size) (by omega)).mono ?_
  rintro e w3 ⟨A', c', rfl, o, b⟩
  replace hZ := Lib.hid (hZ.out.pushT o b)
  replace HB := Lib.hid hZ.out.bel
  clear b o
  go_wp2_with fail
  refine (beamLine_spec f2 y _ _ _ ts _ ((hZ.out.at_ 1 rfl : ZF _ _ f2 _).1.rd (by have := E2.out.nums.1; omega) (by have := E2.out.nums.2.1; omega)) (hZ.out.readT 0 rfl) (by omega)).mono ?_
  rw [beamR_at E2.out, hxs.out]
  rintro e w4 ⟨A0, c0', rfl, o, b⟩
  replace hZ := Lib.hid (hZ.out.pushI o b)
  replace HB := Lib.hid hZ.out.bel
  clear o b
  obtain ⟨-, c0, c1, c2, c3, c4⟩ := X0.out.below HB.out
  go_wp2_with fail
  refine (toField_to f _ (HF.out.below HB.out)).mono ?_
  rintro e w5 ⟨f5, rfl, fs, o, b⟩
  have Ef5 := Lib.hid fs
  replace hZ := Lib.hid (hZ.out.push (ZF.new o) (local_ZF _ _ _) b)
  replace HB := Lib.hid hZ.out.bel
  clear b fs o
  unfold Fld.val Fld.cs
  clear c0 c1 c2 c3 c4
  have e1 := Lib.hid Ef5.out.nums.1
  have e2 := Lib.hid Ef5.out.nums.2.1
  have hb5 : Below w5.heap.size w5 (w5.alloc (.cells f5.cs 26)) := (Below.refl _ _).alloc (Nat.le_refl _) _
  replace hZ := Lib.hid (hZ.out.push (fbox_new w5 f5 26) (local_FBox w5.heap.size _ (by simp) f5) hb5)
  replace HB := Lib.hid hZ.out.bel
  clear hb5
  unfold Fld.cs at *
  go_wp2_with fail
  refine (toChangeS_any A n c ts _ ((HT.out.below HB.out).more HB.out.size) (by omega)).mono ?_
  rintro e w6 ⟨A', c', rfl, o, b⟩
  replace hZ := Lib.hid (hZ.out.pushT o b)
  replace HB := Lib.hid hZ.out.bel
  clear b o
  obtain ⟨-, d0, d1, d2, d3, d4⟩ := (hZ.out.at_ 1 rfl : FBox _ w5.heap.size f5)
  go_wp2_with fail
  refine (beamLine_impl f5 y _ _ _ ts _ ((hZ.out.at_ 2 rfl : ZF _ _ f5 _).1.rd (by have := e1.out; omega) (by have := e2.out; omega)) (hZ.out.readT 0 rfl) (by omega)).mono ?_
  rw [beamR_at Ef5.out, hxs.out]
  rintro e w7 ⟨A7, c7, rfl, o, b⟩
  replace hZ := Lib.hid (hZ.out.pushI o b)
  clear o b d0 d1 d2 d3 d4
  go_wp2_with fail
  refine (eqIntS_same _ _ _ _ _ _ _ (hZ.out.ints 0 rfl) (hZ.out.ints 4 rfl) (by omega)).mono ?_
  rintro e w' ⟨rfl, b⟩
  replace hZ := Lib.hid (hZ.out.below b)
  clear b
  replace HB := Lib.hid hZ.out.bel
  obtain ⟨-, c0, c1, c2, c3, c4⟩ := X0.out.below HB.out
  obtain ⟨x5l, d0, d1, d2, d3, d4⟩ := (hZ.out.at_ 2 rfl : FBox _ w5.heap.size f5)
  have x0l := Nat.lt_of_lt_of_le X0.out.lt HB.out.size
  have R5 := Lib.hid ((hZ.out.at_ 3 rfl : ZF _ _ f5 _).1.rd (by have := e1.out; omega) (by have := e2.out; omega))
  go_wp2_with fail
  go_region_held3 (fun w' => (w'.cell? ⟨w.heap.size, 0, none⟩ = some (.int .i64 f.W) ∧ w'.cell? ⟨w.heap.size, 1, none⟩ = some (.slice f.A f.n f.c) ∧ w'.cell? ⟨w.heap.size, 2, none⟩ = some (.slice f.T f.tn f.tc) ∧ w'.cell? ⟨w.heap.size, 3, none⟩ = some (.int .i64 f.sx) ∧ w'.cell? ⟨w.heap.size, 4, none⟩ = some (.int .i64 f.sy)) ∧ (w'.cell? ⟨w5.heap.size, 0, none⟩ = some (.int .i64 f5.W) ∧ w'.cell? ⟨w5.heap.size, 1, none⟩ = some (.slice f5.A f5.n f5.c) ∧ w'.cell? ⟨w5.heap.size, 2, none⟩ = some (.slice f5.T f5.tn f5.tc) ∧ w'.cell? ⟨w5.heap.size, 3, none⟩ = some (.int .i64 f5.sx) ∧ w'.cell? ⟨w5.heap.size, 4, none⟩ = some (.int .i64 f5.sy))) (first | exact ⟨⟨c0, c1, c2, c3, c4⟩, d0, d1, d2, d3, d4⟩ | exact ⟨⟨(b8.cell x0l).trans c0, (b8.cell x0l).trans c1, (b8.cell x0l).trans c2, (b8.cell x0l).trans c3, (b8.cell x0l).trans c4⟩, (b8.cell x5l).trans d0, (b8.cell x5l).trans d1, (b8.cell x5l).trans d2, (b8.cell x5l).trans d3, (b8.cell x5l).trans d4⟩ | exact ⟨⟨(b9.cell x0l).trans c0, (b9.cell x0l).trans c1, (b9.cell x0l).trans c2, (b9.cell x0l).trans c3, (b9.cell x0l).trans c4⟩, (b9.cell x5l).trans d0, (b9.cell x5l).trans d1, (b9.cell x5l).trans d2, (b9.cell x5l).trans d3, (b9.cell x5l).trans d4⟩) ((first | (go_at_call 22; refine (toField_to f _ (HF.out.below HB.out.drew)).mono ?_; rintro e w8 ⟨f8, rfl, fs8, o8, b8⟩; have R8 := Lib.hid (o8.rd (by have := fs8.nums.1; omega) (by have := fs8.nums.2.1; omega)); replace fs8 := Lib.hid fs8; clear o8; unfold Fld.val Fld.cs) | (go_at_call 25; refine (eqField_two f f5 f8 _ Ef5.out fs8.out (R5.out.drew.below b8) R8.out).mono ?_; rintro e w9 ⟨rfl, b9'⟩; have b9 := below_step b8 b9' b8.size; clear b9')))
  replace hZ := Lib.hid (hZ.out.below ((Below.refl _ _).drew.trans b9))
  replace HB := Lib.hid hZ.out.bel
  clear b8 b9 c0 c1 c2 c3 c4 d0 d1 d2 d3 d4 x0l x5l R5 R8 fs8
  go_wp2_with fail
  refine (toChangeS_any A n c ts _ ((HT.out.below HB.out).more HB.out.size) (by omega)).mono ?_
  rintro e w10 ⟨A', c', rfl, o, b⟩
  replace hZ := Lib.hid (hZ.out.pushT o b)
  replace HB := Lib.hid hZ.out.bel
  clear b o
  go_wp2_with fail
  refine (eqChangeS_same _ _ _ _ _ _ _ (hZ.out.readT 2 rfl) (hZ.out.readT 0 rfl) (by omega)).mono ?_
  rintro e w' ⟨rfl, b⟩
  replace hZ := Lib.hid (hZ.out.below b)
  clear b
  obtain ⟨-, d0, d1, d2, d3, d4⟩ := (hZ.out.at_ 3 rfl : FBox _ w5.heap.size f5)
  have Z1 := (hZ.out.at_ 4 rfl : ZF _ _ f5 _)
  go_wp2_with fail
  refine (markField_any f5 _ _ 1 _ Z1.1 Z1.2.1 Z1.2.2 (hZ.out.hi_le' 4 rfl) (by omega) (by omega) (by have := e1.out; omega) (by have := e2.out; omega)).mono ?_
  rintro e w11 ⟨rfl, t, -⟩
  replace hZ := Lib.hid (hZ.out.mark 4 rfl (P' := fun _ => True) trivial (local_true' _ _) t)
  clear t Z1 d0 d1 d2 d3 d4
  obtain ⟨m, hm⟩ : ∃ m : Int, (1 : Int) + f5.n + f5.tn * 64 = m := ⟨_, rfl⟩
  have hm0 : 0 ≤ m ∧ m ≤ 200000000 := by have := e1.out; have := e2.out; omega
  obtain ⟨hm0, hm1⟩ := hm0
  rw [hm]
  replace hm := Lib.hid hm
  go_wp2_with fail
  refine (markChangeS_own _ _ _ _ _ m _ (hZ.out.ownT 2 rfl) (by omega) (by omega) (by omega)).mono ?_
  rintro e w12 ⟨rfl, o, g⟩
  replace hZ := Lib.hid (hZ.out.markT 2 rfl o g)
  clear o g
  go_wp2_with fail
  refine (eqIntS_same _ _ _ _ _ _ _ (hZ.out.ints 1 rfl) (hZ.out.ints 5 rfl) (by omega)).mono ?_
  rintro e w' ⟨rfl, b⟩
  replace hZ := Lib.hid (hZ.out.below b)
  clear b
  go_wp2_with fail
  refine (markIntS_own _ _ _ _ _ 1 _ (hZ.out.own 1 rfl) (by omega) (by omega) (by omega)).mono ?_
  rintro e w' ⟨rfl, o, g⟩
  replace hZ := Lib.hid (hZ.out.markI 1 rfl o g)
  clear o g
  go_wp2_with fail
  refine (heldIntS_marks _ _ _ 1 _ (hZ.out.ints 1 rfl) (by omega) (by omega) (by omega)).mono ?_
  rintro e w' ⟨rfl, b⟩
  replace hZ := Lib.hid (hZ.out.below b)
  clear b
  replace HB := Lib.hid hZ.out.bel
  obtain ⟨-, c0, c1, c2, c3, c4⟩ := X0.out.below HB.out
  go_wp2_with fail
  refine (toField_to f _ (HF.out.below HB.out)).mono ?_
  rintro e w13 ⟨f13, rfl, fs, o, b⟩
  have Ef13 := Lib.hid fs
  replace hZ := Lib.hid (hZ.out.push (ZF.new o) (local_ZF _ _ _) b)
  replace HB := Lib.hid hZ.out.bel
  clear b fs o
  unfold Fld.val Fld.cs
  clear c0 c1 c2 c3 c4
  have e3 := Lib.hid Ef13.out.nums.1
  have e4 := Lib.hid Ef13.out.nums.2.1
  go_wp2_with fail
  refine (toChangeS_any A n c ts _ ((HT.out.below HB.out).more HB.out.size) (by omega)).mono ?_
  rintro e w14 ⟨A', c', rfl, o, b⟩
  replace hZ := Lib.hid (hZ.out.pushT o b)
  replace HB := Lib.hid hZ.out.bel
  clear b o
  go_wp2_with fail
  refine (beamLine_impl f13 y _ _ _ ts _ ((hZ.out.at_ 1 rfl : ZF _ _ f13 _).1.rd (by have := e3.out; omega) (by have := e4.out; omega)) (hZ.out.readT 0 rfl) (by omega)).mono ?_
  rw [beamR_at Ef13.out, hxs.out]
  rintro e w15 ⟨A15, c15, rfl, o, b⟩
  replace hZ := Lib.hid (hZ.out.pushI o b)
  clear o b
  go_wp2_with fail
  refine (eqIntS_same _ _ _ _ _ _ _ (hZ.out.ints 0 rfl) (hZ.out.ints 8 rfl) (by omega)).mono ?_
  rintro e w' ⟨rfl, b⟩
  replace hZ := Lib.hid (hZ.out.below b)
  clear b
  go_wp2_with fail
  refine (heldIntS_marks _ _ _ 1 _ (hZ.out.ints 4 rfl) (by omega) (by omega) (by omega)).mono ?_
  rintro e w' ⟨rfl, b⟩
  replace hZ := Lib.hid (hZ.out.below b)
  clear b
  go_wp2_with fail
  go_ret
  exact ⟨rfl, below_step HBW.out hZ.out.bel HBW.out.size⟩
end Go.Proofs.Ytkcabllnlbcgdaa
