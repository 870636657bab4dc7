/-
  BeamLine of both packages, FieldLine of the program: their walks. No condition but that lengths stay in range.
-/
import Derived.Test.YtkcabllnlbcgdaaBea
import Derived.Test.YtkcabllnlbcgdaaScn
import Derived.Test.YtkcabllnlbcgdaaFieL
namespace Go.Proofs.Ytkcabllnlbcgdaa
open Go.RowKit
set_option linter.unusedVariables false
set_option linter.unusedSimpArgs false
theorem beamR_bad {f : Fld} {y : Int} {ts : List Tri} (h : (fieldB f && (inB y 0 15 && chgB ts)) = false) : beamR f y ts = [] := by
  unfold beamR; rw [h]; rfl
theorem beamR_good {f : Fld} {y : Int} {ts : List Tri} (h1 : fieldB f = true) (h2 : inB y 0 15 = true) (h3 : chgB ts = true) : beamR f y ts = beamF f y (f.sx, f.sy) 0 ts := by
  unfold beamR; rw [h1, h2, h3]; rfl
theorem FBox.at_ {w w' : World} {B b : Nat} {f : Fld} (h : FBox w b f) (hb : b < B) (hs : B ≤ w.heap.size) (d : Below B w w') : FBox w' b f :=
  ⟨Nat.lt_of_lt_of_le h.lt d.size, (d.cell hb).trans h.c0, (d.cell hb).trans h.c1, (d.cell hb).trans h.c2, (d.cell hb).trans h.c3, (d.cell hb).trans h.c4⟩
set_option maxRecDepth 20000 in
set_option maxHeartbeats 2000000 in
theorem beamLine_impl (f : Fld) (y : Int) (A : Option Addr) (n c : Nat) (ts : List Tri) (w : World) (h : FRd w f) (ht : Reads w w.heap.size 3 A n (iv (fl3 ts))) (hn : n ≤ 1000000000) :
    Calls Try.prog 15 #[f.val, .int .i64 y, .slice A n c] w (Gives w (beamR f y ts)) := by
  have hl := Tri.len ht
  have hb0 : Below w.heap.size w (w.alloc (.cells f.cs 26)) := (Below.refl _ _).alloc (Nat.le_refl _) _
  have X0 := Lib.hid (fbox_new w f 26)
  have HF := Lib.hid (h.below hb0)
  have HT := Lib.hid ((ht.below hb0).more hb0.size)
  have HBW := Lib.hid hb0
  have hbx : w.heap.size < (w.alloc (.cells f.cs 26)).heap.size := by simp
  clear h ht hb0
  unfold Fld.cs at *
  unfold Fld.val Fld.cs
  cases hfb : fieldB f
  · rw [beamR_bad (by rw [hfb]; rfl)]
    go_enter Try.func15, Try.ntmps15
    go_wp2_with (go_at_call 52; refine (fieldValid_impl f _ HF.out).mono ?_; rintro e w5 ⟨rfl, b5⟩; rw [hfb]; replace b5 := Lib.hid b5)
    go_ret
    exact ⟨_, _, rfl, World.ownsRow_nil _ _ _ _, below_step HBW.out b5.out HBW.out.size⟩
  cases hy : inB y 0 15
  · rw [beamR_bad (by rw [hfb, hy]; rfl)]
    go_enter Try.func15, Try.ntmps15
    go_wp2_with (first | (go_at_call 52; refine (fieldValid_impl f _ HF.out).mono ?_; rintro e w5 ⟨rfl, b5⟩; rw [hfb]; replace b5 := Lib.hid b5) | (go_at_call 53; refine (within_any _ _ _ _).mono ?_; rintro e w' ⟨rfl, rfl⟩; rw [hy]))
    go_ret
    exact ⟨_, _, rfl, World.ownsRow_nil _ _ _ _, below_step HBW.out b5.out HBW.out.size⟩
  cases hch : chgB ts
  · rw [beamR_bad (by rw [hfb, hy, hch]; rfl)]
    go_enter Try.func15, Try.ntmps15
    go_wp2_with (first | (go_at_call 52; refine (fieldValid_impl f _ HF.out).mono ?_; rintro e w5 ⟨rfl, b5⟩; rw [hfb]; replace b5 := Lib.hid b5) | (go_at_call 53; refine (within_any _ _ _ _).mono ?_; rintro e w' ⟨rfl, rfl⟩; rw [hy]) | (go_at_call 54; refine (changesValid_impl A n c ts _ ((HT.out.below b5.out).more b5.out.size) hn).mono ?_; rintro e w6 ⟨rfl, b6⟩; rw [hch]; replace b6 := Lib.hid b6))
    go_ret
    exact ⟨_, _, rfl, World.ownsRow_nil _ _ _ _, below_step HBW.out (below_step b5.out b6.out b5.out.size) HBW.out.size⟩
  rw [beamR_good hfb hy hch]
  have H1 := Lib.hid (show 0 ≤ y ∧ y < 16 by have := inB_iff.1 hy; omega)
  have HSX := Lib.hid (field_facts hfb).2.2.2.2.1
  have HSY := Lib.hid (field_facts hfb).2.2.2.2.2.1
  have HFB := Lib.hid hfb
  have HCF := Lib.hid (chgB_from hch)
  have HLEN := Lib.hid (beamF_len f y ts (f.sx, f.sy) 0 (chgB_from hch) (by omega))
  go_enter Try.func15, Try.ntmps15
  go_wp2_with (first | (go_at_call 52; refine (fieldValid_impl f _ HF.out).mono ?_; rintro e w5 ⟨rfl, b5⟩; rw [hfb]; replace b5 := Lib.hid b5) | (go_at_call 53; refine (within_any _ _ _ _).mono ?_; rintro e w' ⟨rfl, rfl⟩; rw [hy]) | (go_at_call 54; refine (changesValid_impl A n c ts _ ((HT.out.below b5.out).more b5.out.size) hn).mono ?_; rintro e w6 ⟨rfl, b6⟩; rw [hch]; replace b6 := Lib.hid b6) | (at_make; refine make_own0 _ rfl _ _ rfl 32 rfl rfl (by omega) w6.heap.size (Nat.le_refl _) ?_; intro w7 o7 b7; replace o7 := Lib.hid o7; replace b7 := Lib.hid b7))
  have HB6 := Lib.hid (below_step b5.out b6.out b5.out.size)
  have XB6 := Lib.hid (X0.out.below HB6.out)
  have HF6 := Lib.hid (HF.out.below HB6.out).at
  have HT6 := Lib.hid ((HT.out.below HB6.out).more HB6.out.size)
  have hb6 : w.heap.size < w6.heap.size := Nat.lt_of_lt_of_le hbx HB6.out.size
  obtain ⟨-, d0, d1, d2, d3, d4⟩ := XB6.out.below b7.out
  clear hfb hy hch HF HT
  go_quiet (fail)
  go_wp2_with fail
  clear d0 d1 d2 d3 d4
  go_loopw [7, 8, 9, 10, 33] (fun out fr sx sy i wr => ∃ (k : Nat) (A' : Option Addr) (c' : Nat) (X : List Int), k ≤ n ∧ out = .slice A' X.length c' ∧ fr = .int .i64 (shC ts k) ∧ sx = .int .i64 (shN (f.sx, f.sy) ts k).1 ∧ sy = .int .i64 (shN (f.sx, f.sy) ts k).2 ∧ i = .int .i64 k ∧ wr.ownsRow w6.heap.size 3 1 (.slice A' X.length c') X.length (iv X) ∧ X ++ beamF f y (shN (f.sx, f.sy) ts k) (shC ts k) (ts.drop k) = beamF f y (f.sx, f.sy) 0 ts ∧ Below w6.heap.size w6 wr) (fun _ _ _ _ i _ => n - (intOf i).toNat)
  case atStart => exact ⟨0, _, _, [], Nat.zero_le _, rfl, rfl, rfl, rfl, rfl, (o7.out : w7.ownsRow _ _ _ _ _ _), rfl, below_drewN b7.out _⟩
  case round =>
    obtain ⟨k, A', c', X, hk, rfl, rfl, rfl, rfl, rfl, hown, hsum, hb⟩ := hrel
    have hxl : X.length ≤ 32 := by
      have h1 := congrArg List.length hsum
      rw [List.length_append, HLEN.out] at h1
      omega
    obtain ⟨⟨s0, s1⟩, ⟨s2, s3⟩⟩ := shN_in (s := (f.sx, f.sy)) HCF.out ⟨HSX.out, HSY.out⟩ k (by omega)
    obtain ⟨f0, f1⟩ := shC_in HCF.out k (by omega)
    by_cases hlt : k < n
    · obtain ⟨b, off, e1, tb, t0, t1, t2⟩ := Tri.spot (HT6.out.below hb) hlt
      subst e1
      have hst := beamF_step (f := f) (y := y) (ts := ts) (s := (f.sx, f.sy)) (k := k) (by omega)
      have hcl := shC_le HCF.out k (by omega)
      have hc31 := (chg_at ts 0 k HCF.out (by omega)).1.2
      rw [hst, ← List.append_assoc] at hsum
      have n1 : shN (f.sx, f.sy) ts (k + 1) = (ts.getD k (0, 0, 0)).2 := rfl
      have n2 : shC ts (k + 1) = (ts.getD k (0, 0, 0)).1 := rfl
      rw [n1, n2] at hsum
      replace n1 := Lib.hid n1
      replace n2 := Lib.hid n2
      obtain ⟨⟨x1, x2, x3⟩, hT⟩ : ∃ t, t = ts.getD k (0, 0, 0) := ⟨_, rfl⟩
      rw [← hT] at t0 t1 t2 hsum hcl hc31
      simp only at t0 t1 t2 hsum hcl hc31
      obtain ⟨fr, hfr⟩ : ∃ fr, shC ts k = fr := ⟨_, rfl⟩
      obtain ⟨p1, hp1⟩ : ∃ p1, (shN (f.sx, f.sy) ts k).1 = p1 := ⟨_, rfl⟩
      obtain ⟨p2, hp2⟩ : ∃ p2, (shN (f.sx, f.sy) ts k).2 = p2 := ⟨_, rfl⟩
      rw [hfr, hp1, hp2] at hsum
      rw [hfr] at f0 f1 hcl ⊢
      rw [hp1] at s0 s1 ⊢
      rw [hp2] at s2 s3 ⊢
      have q0 : (0 : Int) ≤ (k : Int) := by omega
      have q1 : (k : Int) < (n : Int) := by omega
      obtain ⟨W2, hW2⟩ : ∃ W2, W2 = wr.alloc (.cells #[.int .i64 x1, .int .i64 x2, .int .i64 x3] 34) := ⟨_, rfl⟩
      have k0 : W2.cell? ⟨wr.heap.size, 0, none⟩ = some (.int .i64 x1) := by rw [hW2]; exact cell_new _ _ _ 0
      have k1 : W2.cell? ⟨wr.heap.size, 1, none⟩ = some (.int .i64 x2) := by rw [hW2]; exact cell_new _ _ _ 1
      have k2 : W2.cell? ⟨wr.heap.size, 2, none⟩ = some (.int .i64 x3) := by rw [hW2]; exact cell_new _ _ _ 2
      have hB2 : Below w6.heap.size w6 W2 := by rw [hW2]; exact hb.alloc hb.size _
      have O2 := Lib.hid (show W2.ownsRow w6.heap.size 3 1 (.slice A' X.length c') X.length (iv X) by rw [hW2]; exact hown.alloc _)
      have hz2 : wr.heap.size < W2.heap.size := by rw [hW2]; simp
      have HB2 := Lib.hid hB2
      have HD2 := Lib.hid (HF6.out.below hB2)
      have XD2 := Lib.hid (XB6.out.below hB2)
      have HNE := Lib.hid (show some wr.heap.size ≠ (Value.slice A' X.length c').ownBlock from fun e => by have := (hown.lt _ e.symm).2; omega)
      have HS1 := Lib.hid (And.intro s0 s1)
      have HS2 := Lib.hid (And.intro s2 s3)
      have HSUM := Lib.hid hsum
      have HTT := Lib.hid hT
      have HOLD := Lib.hid (And.intro hfr (And.intro hp1 hp2))
      replace hW2 := Lib.hid hW2
      clear hsum hst hT hfr hp1 hp2 hown hb hB2 s0 s1 s2 s3
      go_wp2_with fail
      rw [← hW2.out]
      clear t0 t1 t2
      refine (drawLine_at f w.heap.size p1 p2 y fr x1 w6.heap.size X.length c' A' X W2 HD2.out XD2.out hb6 HFB.out HS1.out HS2.out f0 hcl (by omega) H1.out O2.out (by omega) HB2.out.size).mono ?_
      rintro e w8 ⟨A8, c8, rfl, o8, b8, g8⟩
      have k0 := grown_cell g8.g hz2 HNE.out k0
      have k1 := grown_cell g8.g hz2 HNE.out k1
      have k2 := grown_cell g8.g hz2 HNE.out k2
      have B8 := Lib.hid (HB2.out.trans b8)
      obtain ⟨Y, hY⟩ : ∃ Y, Y = X ++ lineP f p1 p2 y fr (x1 - fr).toNat := ⟨_, rfl⟩
      have hl8 : X.length + (x1 - fr).toNat = Y.length := by rw [hY, List.length_append, lineP_len]
      rw [← hY, hl8] at o8
      rw [hl8]
      replace hY := Lib.hid hY
      replace o8 := Lib.hid o8
      replace hl8 := Lib.hid hl8
      clear b8 g8
      go_wp2_with fail
      go_quiet (fail)
      go_wp2_with fail
      go_roundw
      case rel => exact ⟨k + 1, A8, c8, Y, by omega, rfl, by rw [n2.out, ← HTT.out], by rw [n1.out, ← HTT.out], by rw [n1.out, ← HTT.out], by go_num, (o8.out : w8.ownsRow _ _ _ _ _ _), by rw [n1.out, n2.out, ← HTT.out, hY.out]; exact HSUM.out, below_drewN B8.out _⟩
      case measure => simp [intOf]; omega
    · obtain rfl : k = n := by omega
      rw [beamF_last (by omega)] at hsum
      obtain ⟨fr, hfr⟩ : ∃ fr, shC ts k = fr := ⟨_, rfl⟩
      obtain ⟨p1, hp1⟩ : ∃ p1, (shN (f.sx, f.sy) ts k).1 = p1 := ⟨_, rfl⟩
      obtain ⟨p2, hp2⟩ : ∃ p2, (shN (f.sx, f.sy) ts k).2 = p2 := ⟨_, rfl⟩
      rw [hfr, hp1, hp2] at hsum
      rw [hfr] at f0 f1 ⊢
      rw [hp1] at s0 s1 ⊢
      rw [hp2] at s2 s3 ⊢
      have HS1 := Lib.hid (And.intro s0 s1)
      have HS2 := Lib.hid (And.intro s2 s3)
      have HSUM := Lib.hid hsum
      have HO := Lib.hid hown
      have HB := Lib.hid hb
      have HD2 := Lib.hid (HF6.out.below hb)
      have XD2 := Lib.hid (XB6.out.at_ hb6 (Nat.le_refl _) hb)
      clear hsum hfr hp1 hp2 hown hb s0 s1 s2 s3
      go_wp2_with fail
      refine (drawLine_at f w.heap.size p1 p2 y fr 32 w6.heap.size X.length c' A' X _ HD2.out XD2.out hb6 HFB.out HS1.out HS2.out f0 (by omega) (by omega) H1.out HO.out (by omega) HB.out.size).mono ?_
      rintro e w8 ⟨A8, c8, rfl, o8, b8, g8⟩
      have hl8 : X.length + (32 - fr).toNat = (beamF f y (f.sx, f.sy) 0 ts).length := by rw [← HSUM.out, List.length_append, lineP_len]
      rw [hl8, HSUM.out] at o8
      rw [hl8]
      replace o8 := Lib.hid o8
      have B8 := Lib.hid (HB.out.trans b8)
      replace hl8 := Lib.hid hl8
      clear b8 g8
      go_wp2_with fail
      go_ret
      exact ⟨A8, c8, rfl, own_base o8.out (Nat.le_trans HBW.out.size HB6.out.size), below_step HBW.out (below_step HB6.out B8.out HB6.out.size) HBW.out.size⟩
/-- A background with other shifts. -/
def Fld.sh (f : Fld) (a b : Int) : Fld := { f with sx := a, sy := b }
theorem FRd.sh {w : World} {f : Fld} (h : FRd w f) (a b : Int) : FRd w (f.sh a b) := ⟨h.map, h.tiles, h.hn, h.ht⟩
theorem fieldB_sh {f : Fld} {a b : Int} (h : fieldB f = true) (ha : 0 ≤ a ∧ a ≤ 255) (hb : 0 ≤ b ∧ b ≤ 255) : fieldB (f.sh a b) = true := by
  unfold fieldB at h ⊢
  simp only [Bool.and_eq_true, inB_iff, Fld.sh] at h ⊢
  obtain ⟨h1, h2, h3, h4, h5, h6, h7, h8⟩ := h
  exact ⟨h1, h2, h3, h4, h5, ha, hb, h8⟩
set_option maxHeartbeats 1000000 in
theorem l13With_any (f : Fld) (x y : Int) (w : World) :
    Calls Try.prog 56 #[.agg #[.int .i64 f.W, .slice f.A f.n f.c, .slice f.T f.tn f.tc, .int .i64 f.sx, .int .i64 f.sy], .int .i64 x, .int .i64 y] w fun e w' => e = .returned (.agg #[.int .i64 f.W, .slice f.A f.n f.c, .slice f.T f.tn f.tc, .int .i64 x, .int .i64 y]) ∧ Below w.heap.size w w' := by
  go_enter Try.func56, Try.ntmps56
  go_wp2_with fail
  refine bodyPost_ret (v := .agg #[.int .i64 f.W, .slice f.A f.n f.c, .slice f.T f.tn f.tc, .int .i64 x, .int .i64 y]) (by simp [results, Try.results56, go_sem]) rfl ⟨rfl, ?_⟩
  exact ((Below.refl _ _).alloc (Nat.le_refl _) _).alloc (by simp) _
theorem lit0 (w : World) (o : Obj) : ((w.alloc o).alloc (.cells #[] 3)).ownsRow (w.heap.size + 1) 3 1 (.slice (some ⟨w.heap.size + 1, 0, none⟩) 0 0) 0 (iv []) := by
  have h : ((w.alloc o).alloc (.cells #[] 3)).ownsRow (w.alloc o).heap.size 3 1 (.slice (some ⟨(w.alloc o).heap.size, 0, none⟩) 0 0) 0 (iv []) := World.ownsRow_lit (w.alloc o) #[] 0 (Nat.le_refl _) (by simp [maxLen]) rfl
  have e : (w.alloc o).heap.size = w.heap.size + 1 := by simp
  rwa [e] at h
/-- Where the reference's loop stands: the line so far, the background with its shifts of now, the changes that have happened. -/
structure BmS (w0 : World) (B nb : Nat) (f : Fld) (ts : List Tri) (p k : Nat) (A : Option Addr) (c : Nat) (L : List Int) (w : World) : Prop where
  own : w.ownsRow B 3 1 (.slice A p c) p (iv (L.take p))
  ne : (Value.slice A p c).ownBlock ≠ some nb
  now : Blk w nb 26 #[.int .i64 f.W, .slice f.A f.n f.c, .slice f.T f.tn f.tc, .int .i64 (shN (f.sx, f.sy) ts k).1, .int .i64 (shN (f.sx, f.sy) ts k).2]
  sml : ∀ j, j < k → (ts.getD j (0, 0, 0)).1 ≤ (p : Int)
  bel : Below B w0 w
  hB : B ≤ nb
theorem drewc (w : World) (p : Addr) : w.drew.cell? p = w.cell? p := rfl
theorem set5_heap {w : World} {b g : Nat} {v0 v1 v2 v3 v4 : Value} (h : g ≠ b) : (((((w.setCell ⟨b, 0, none⟩ v0).setCell ⟨b, 1, none⟩ v1).setCell ⟨b, 2, none⟩ v2).setCell ⟨b, 3, none⟩ v3).setCell ⟨b, 4, none⟩ v4).heap[g]? = w.heap[g]? := by
  iterate 5 (refine (Below.heap_setCell _ _ _ _ h).trans ?_)
  rfl
theorem far5 {w : World} {b g o : Nat} {v0 v1 v2 v3 v4 : Value} (h : g ≠ b) : (((((w.setCell ⟨b, 0, none⟩ v0).setCell ⟨b, 1, none⟩ v1).setCell ⟨b, 2, none⟩ v2).setCell ⟨b, 3, none⟩ v3).setCell ⟨b, 4, none⟩ v4).cell? ⟨g, o, none⟩ = w.cell? ⟨g, o, none⟩ :=
  World.cell?_of_block (set5_heap h)
theorem set5_blk {w : World} {b : Nat} {t : TypeId} {a0 a1 a2 a3 a4 v0 v1 v2 v3 v4 : Value} (h : Blk w b t #[a0, a1, a2, a3, a4]) : Blk (((((w.setCell ⟨b, 0, none⟩ v0).setCell ⟨b, 1, none⟩ v1).setCell ⟨b, 2, none⟩ v2).setCell ⟨b, 3, none⟩ v3).setCell ⟨b, 4, none⟩ v4) b t #[v0, v1, v2, v3, v4] :=
  ((((h.set_ 0 v0).set_ 1 v1).set_ 2 v2).set_ 3 v3).set_ 4 v4
set_option maxRecDepth 20000 in
set_option maxHeartbeats 4000000 in
theorem beamLine_spec (f : Fld) (y : Int) (A : Option Addr) (n c : Nat) (ts : List Tri) (w : World) (h : FRd w f) (ht : Reads w w.heap.size 3 A n (iv (fl3 ts))) (hn : n ≤ 1000000000) :
    Calls Try.prog 18 #[f.val, .int .i64 y, .slice A n c] w (Gives w (beamR f y ts)) := by
  have hl := Tri.len ht
  have hb0 : Below w.heap.size w (w.alloc (.cells f.cs 26)) := (Below.refl _ _).alloc (Nat.le_refl _) _
  have X0 := Lib.hid (fbox_new w f 26)
  have HF := Lib.hid (h.below hb0)
  have HT := Lib.hid ((ht.below hb0).more hb0.size)
  have HBW := Lib.hid hb0
  have hbx : w.heap.size < (w.alloc (.cells f.cs 26)).heap.size := by simp
  clear h ht hb0
  unfold Fld.cs at *
  unfold Fld.val Fld.cs
  have hs0 : (w.alloc (.cells #[.int .i64 f.W, .slice f.A f.n f.c, .slice f.T f.tn f.tc, .int .i64 f.sx, .int .i64 f.sy] 26)).heap.size = w.heap.size + 1 := by simp
  have hb1 : Below (w.alloc (.cells #[.int .i64 f.W, .slice f.A f.n f.c, .slice f.T f.tn f.tc, .int .i64 f.sx, .int .i64 f.sy] 26)).heap.size (w.alloc (.cells #[.int .i64 f.W, .slice f.A f.n f.c, .slice f.T f.tn f.tc, .int .i64 f.sx, .int .i64 f.sy] 26)) ((w.alloc (.cells #[.int .i64 f.W, .slice f.A f.n f.c, .slice f.T f.tn f.tc, .int .i64 f.sx, .int .i64 f.sy] 26)).alloc (.cells #[] 3)) := (Below.refl _ _).alloc (Nat.le_refl _) _
  have HF0 := HF
  have HT0 := HT
  have X00 := X0
  have XA := X0.out.below hb1
  have X1 := Lib.hid XA
  replace HF := Lib.hid (HF.out.below hb1)
  replace HT := Lib.hid ((HT.out.below hb1).more hb1.size)
  have O1 := Lib.hid (lit0 w (.cells #[.int .i64 f.W, .slice f.A f.n f.c, .slice f.T f.tn f.tc, .int .i64 f.sx, .int .i64 f.sy] 26))
  have HB1 := Lib.hid (below_step HBW.out hb1 HBW.out.size)
  have HC1 := Lib.hid hb1
  clear hb1 XA
  replace hs0 := Lib.hid hs0
  cases hfb : fieldB f
  · rw [beamR_bad (by rw [hfb]; rfl)]
    go_enter Try.func18, Try.ntmps18
    go_wp2_with (go_at_call 12; refine (fieldValid_spec f _ HF.out).mono ?_; rintro e w5 ⟨rfl, b5⟩; rw [hfb]; replace b5 := Lib.hid b5)
    go_ret
    exact ⟨_, _, rfl, own_base (own_below O1.out b5.out) (by omega), below_step HB1.out b5.out HB1.out.size⟩
  cases hch : chgB ts
  · rw [beamR_bad (by rw [hfb, hch, Bool.and_false]; rfl)]
    go_enter Try.func18, Try.ntmps18
    go_wp2_with (first | (go_at_call 12; refine (fieldValid_spec f _ HF.out).mono ?_; rintro e w5 ⟨rfl, b5⟩; rw [hfb]; replace b5 := Lib.hid b5) | (go_at_call 13; refine (changesValid_spec A n c ts _ ((HT.out.below b5.out).more b5.out.size) hn).mono ?_; rintro e w6 ⟨rfl, b6⟩; rw [hch]; obtain ⟨-, p0, p1, p2, p3, p4⟩ := X1.out.below (below_step b5.out b6 b5.out.size); replace b6 := Lib.hid b6))
    go_ret
    exact ⟨_, _, rfl, own_base (own_below (own_below O1.out b5.out) b6.out) (by omega), below_step HB1.out (below_step b5.out b6.out b5.out.size) HB1.out.size⟩
  cases hy : inB y 0 15
  · rw [beamR_bad (by rw [hfb, hy]; rfl)]
    go_enter Try.func18, Try.ntmps18
    go_wp2_with (first | (go_at_call 12; refine (fieldValid_spec f _ HF.out).mono ?_; rintro e w5 ⟨rfl, b5⟩; rw [hfb]; replace b5 := Lib.hid b5) | (go_at_call 13; refine (changesValid_spec A n c ts _ ((HT.out.below b5.out).more b5.out.size) hn).mono ?_; rintro e w6 ⟨rfl, b6⟩; rw [hch]; obtain ⟨-, p0, p1, p2, p3, p4⟩ := X1.out.below (below_step b5.out b6 b5.out.size); replace b6 := Lib.hid b6) | (go_at_call 49; refine (l1In_any _ _ _ _).mono ?_; rintro e w' ⟨rfl, rfl⟩; rw [hy]))
    go_ret
    exact ⟨_, _, rfl, own_base (own_below (own_below O1.out b5.out) b6.out) (by omega), below_step HB1.out (below_step b5.out b6.out b5.out.size) HB1.out.size⟩
  rw [beamR_good hfb hy hch]
  have H1 := Lib.hid (show 0 ≤ y ∧ y < 16 by have := inB_iff.1 hy; omega)
  have HSX := Lib.hid (field_facts hfb).2.2.2.2.1
  have HSY := Lib.hid (field_facts hfb).2.2.2.2.2.1
  have HFB := Lib.hid hfb
  have HCF := Lib.hid (chgB_from hch)
  have HLEN := Lib.hid (beamF_len f y ts (f.sx, f.sy) 0 (chgB_from hch) (by omega))
  obtain ⟨L, hL⟩ : ∃ L, beamF f y (f.sx, f.sy) 0 ts = L := ⟨_, rfl⟩
  rw [hL] at HLEN ⊢
  replace hL := Lib.hid hL
  go_enter Try.func18, Try.ntmps18
  go_wp2_with (first | (go_at_call 12; refine (fieldValid_spec f _ HF.out).mono ?_; rintro e w5 ⟨rfl, b5⟩; rw [hfb]; replace b5 := Lib.hid b5) | (go_at_call 13; refine (changesValid_spec A n c ts _ ((HT.out.below b5.out).more b5.out.size) hn).mono ?_; rintro e w6 ⟨rfl, b6⟩; rw [hch]; obtain ⟨-, p0, p1, p2, p3, p4⟩ := X1.out.below (below_step b5.out b6 b5.out.size); replace b6 := Lib.hid b6) | (go_at_call 49; refine (l1In_any _ _ _ _).mono ?_; rintro e w' ⟨rfl, rfl⟩; rw [hy]))
  have hz6 : w.heap.size + 1 < w6.heap.size := by
    have h1 := b5.out.size
    have h2 := b6.out.size
    simp at h1; omega
  have O6 := Lib.hid ((own_below (own_below O1.out b5.out) b6.out).alloc (.cells #[.int .i64 f.W, .slice f.A f.n f.c, .slice f.T f.tn f.tc, .int .i64 f.sx, .int .i64 f.sy] 26))
  have N6 := Lib.hid (Blk.new w6 26 #[.int .i64 f.W, .slice f.A f.n f.c, .slice f.T f.tn f.tc, .int .i64 f.sx, .int .i64 f.sy])
  have C6 := Lib.hid (show Below (w.heap.size + 1) (w.alloc (.cells #[.int .i64 f.W, .slice f.A f.n f.c, .slice f.T f.tn f.tc, .int .i64 f.sx, .int .i64 f.sy] 26)) (w6.alloc (.cells #[.int .i64 f.W, .slice f.A f.n f.c, .slice f.T f.tn f.tc, .int .i64 f.sx, .int .i64 f.sy] 26)) from ((hs0.out ▸ below_step HC1.out (below_step b5.out b6.out b5.out.size) HC1.out.size : Below (w.heap.size + 1) (w.alloc (.cells #[.int .i64 f.W, .slice f.A f.n f.c, .slice f.T f.tn f.tc, .int .i64 f.sx, .int .i64 f.sy] 26)) w6).alloc (by omega) _))
  clear p0 p1 p2 p3 p4 hfb hch hy
  replace b5 := trivial
  replace b6 := trivial
  go_loopw [7, 9, 10] (fun out at_ x wr => ∃ (p k : Nat) (A' : Option Addr) (c' : Nat), p ≤ 32 ∧ k ≤ n ∧ out = .slice A' p c' ∧ at_ = .int .i64 k ∧ x = .int .i64 p ∧ BmS (w.alloc (.cells #[.int .i64 f.W, .slice f.A f.n f.c, .slice f.T f.tn f.tc, .int .i64 f.sx, .int .i64 f.sy] 26)) (w.heap.size + 1) w6.heap.size f ts p k A' c' L wr) (fun _ _ x _ => 32 - (intOf x).toNat)
  case atStart => exact ⟨0, 0, _, _, Nat.zero_le _, Nat.zero_le _, rfl, rfl, rfl, ⟨O6.out, by intro e; injection e with e; dsimp only at e; omega, N6.out, fun j hj => by omega, C6.out, by omega⟩⟩
  case round =>
    clear O6 N6 C6 O1
    obtain ⟨p, k0, A', c', hp, hk0, rfl, rfl, rfl, BM0⟩ := hrel
    by_cases hlt : p < 32
    · have q0 : (0 : Int) ≤ (p : Int) := by omega
      have q1 : (p : Int) < 32 := by omega
      have HB0 := Lib.hid BM0
      clear BM0
      go_wp2_with fail
      go_loopw [9] (fun at_ wq => ∃ k : Nat, k ≤ n ∧ at_ = .int .i64 k ∧ BmS (w.alloc (.cells #[.int .i64 f.W, .slice f.A f.n f.c, .slice f.T f.tn f.tc, .int .i64 f.sx, .int .i64 f.sy] 26)) (w.heap.size + 1) w6.heap.size f ts p k A' c' L wq) (fun at_ _ => n - (intOf at_).toNat)
      case atStart => exact ⟨k0, hk0, rfl, HB0.out⟩
      case round =>
        clear HB0
        obtain ⟨k, hk, rfl, BM⟩ := hrel
        by_cases hlk : k < n
        · obtain ⟨b, off, e1, tb, t0, t1, t2⟩ := Tri.spot (HT0.out.below (hs0.out ▸ BM.bel)) hlk
          subst e1
          have kq0 : (0 : Int) ≤ (k : Int) := by omega
          have kq1 : (k : Int) < (n : Int) := by omega
          by_cases hcl : (ts.getD k (0, 0, 0)).1 ≤ (p : Int)
          · obtain ⟨⟨x1, x2, x3⟩, hT⟩ : ∃ t, t = ts.getD k (0, 0, 0) := ⟨_, rfl⟩
            rw [← hT] at t0 t1 t2 hcl
            simp only at t0 t1 t2 hcl
            replace hT := Lib.hid hT
            obtain ⟨-, p0, p1, p2, p3, p4⟩ := X00.out.below (hs0.out ▸ BM.bel)
            have NW := Lib.hid BM.now
            have hnb := BM.now.lt
            have xl : w.heap.size < wr.heap.size := by have := BM.hB; omega
            have tbl : b < wr.heap.size := by have := BM.hB; have := hs0.out; omega
            have HB := Lib.hid BM
            clear BM
            go_wp2_with fail
            have xne : w.heap.size ≠ w6.heap.size := by omega
            have tne : b ≠ w6.heap.size := by have := hs0.out; omega
            go_region_held3 (fun w' => w'.cell? ⟨w.heap.size, 0, none⟩ = some (.int .i64 f.W) ∧ w'.cell? ⟨w.heap.size, 1, none⟩ = some (.slice f.A f.n f.c) ∧ w'.cell? ⟨w.heap.size, 2, none⟩ = some (.slice f.T f.tn f.tc) ∧ w'.cell? ⟨w.heap.size, 3, none⟩ = some (.int .i64 f.sx) ∧ w'.cell? ⟨w.heap.size, 4, none⟩ = some (.int .i64 f.sy) ∧ w'.cell? ⟨b, off + k * 3 + 1, none⟩ = some (.int .i64 x2) ∧ w'.cell? ⟨b, off + k * 3 + 2, none⟩ = some (.int .i64 x3)) (first | (with_reducible exact ⟨(drewc _ _).trans p0, (drewc _ _).trans p1, (drewc _ _).trans p2, (drewc _ _).trans p3, (drewc _ _).trans p4, (drewc _ _).trans t1, (drewc _ _).trans t2⟩) | (with_reducible exact ⟨(bq.cell xl).trans p0, (bq.cell xl).trans p1, (bq.cell xl).trans p2, (bq.cell xl).trans p3, (bq.cell xl).trans p4, (bq.cell tbl).trans t1, (bq.cell tbl).trans t2⟩) | (with_reducible exact ⟨(far5 xne).trans ((bq.cell xl).trans p0), (far5 xne).trans ((bq.cell xl).trans p1), (far5 xne).trans ((bq.cell xl).trans p2), (far5 xne).trans ((bq.cell xl).trans p3), (far5 xne).trans ((bq.cell xl).trans p4), (far5 tne).trans ((bq.cell tbl).trans t1), (far5 tne).trans ((bq.cell tbl).trans t2)⟩)) ((go_at_call 56; refine (l13With_any f x2 x3 _).mono ?_; rintro e wq ⟨rfl, bq'⟩; have bq : Below wr.heap.size wr wq := (Below.refl _ _).drew.trans bq'; have n5 := NW.out.below bq hnb; have e0 := n5.cell 0; have e1 := n5.cell 1; have e2 := n5.cell 2; have e3 := n5.cell 3; have e4 := n5.cell 4; have g0 := n5.frozen 0; have g1 := n5.frozen 1; have g2 := n5.frozen 2; have g3 := n5.frozen 3; have g4 := n5.frozen 4; clear n5))
            go_wp2_with fail
            go_roundw
            case rel =>
              have hs0 := hs0.out
              have n5 := NW.out.below bq hnb
              have bz := bq.size
              have hw6 := HB.out.hB
              refine ⟨k + 1, by omega, by go_num, ⟨own_same (own_below HB.out.own bq) fun g hg => set5_heap fun e => HB.out.ne (hg.trans (congrArg some e)), HB.out.ne, ?_, fun j hj => ?_, ?_, HB.out.hB⟩⟩
              · rw [show shN (f.sx, f.sy) ts (k + 1) = (ts.getD k (0, 0, 0)).2 from rfl, ← hT.out]
                exact set5_blk n5
              · rcases Nat.lt_or_ge j k with hjk | hjk
                · exact HB.out.sml j hjk
                · obtain rfl : j = k := by omega
                  rw [← hT.out]; exact hcl
              · exact (HB.out.bel.trans (bq.mono (by omega))).trans ⟨rfl, rfl, rfl, by simp [World.setCell], fun g hg => set5_heap (by omega)⟩
            case measure => simp [intOf]; omega
          · have hcl2 := Lib.hid (show k < ts.length → (p : Int) < (ts.getD k (0, 0, 0)).1 from fun _ => by omega)
            obtain ⟨x1, hx1⟩ : ∃ x1, (ts.getD k (0, 0, 0)).1 = x1 := ⟨_, rfl⟩
            rw [hx1] at t0 hcl
            replace hx1 := Lib.hid hx1
            clear t1 t2
            have hs0 := hs0.out
            obtain ⟨⟨s0, s1⟩, ⟨s2, s3⟩⟩ := shN_in (s := (f.sx, f.sy)) HCF.out ⟨HSX.out, HSY.out⟩ k (by omega)
            have hget := beamF_get (f := f) (y := y) (x := (p : Int)) ts (f.sx, f.sy) 0 k HCF.out (by omega) (by omega) (by omega) BM.sml hcl2.out
            obtain ⟨a1, ha1⟩ : ∃ a1, (shN (f.sx, f.sy) ts k).1 = a1 := ⟨_, rfl⟩
            obtain ⟨a2, ha2⟩ : ∃ a2, (shN (f.sx, f.sy) ts k).2 = a2 := ⟨_, rfl⟩
            have nw := BM.now
            rw [ha1, ha2] at nw
            rw [ha1] at s0 s1 hget
            rw [ha2] at s2 s3 hget
            rw [hL.out, show ((p : Int) - 0).toNat = p by omega] at hget
            have HTK := Lib.hid (show L.take (p + 1) = L.take p ++ [pxAt f a1 a2 p y] by rw [List.take_add_one, hget]; rfl)
            have HFS := Lib.hid (fieldB_sh HFB.out ⟨s0, s1⟩ ⟨s2, s3⟩)
            have HFW := Lib.hid ((HF0.out.below (hs0 ▸ BM.bel)).sh a1 a2)
            have e0 := nw.cell 0
            have e1 := nw.cell 1
            have e2 := nw.cell 2
            have e3 := nw.cell 3
            have e4 := nw.cell 4
            have hnb := nw.lt
            have X9 := Lib.hid (show (0 : Int) ≤ (p : Int) ∧ (p : Int) ≤ 32 by omega)
            have HB := Lib.hid BM
            have hBw : w.heap.size + 1 ≤ wr.heap.size := Nat.le_trans (Nat.le_of_eq hs0.symm) (hs0 ▸ BM.bel).size
            replace ha1 := Lib.hid ha1
            replace ha2 := Lib.hid ha2
            have p9 : p ≤ 1000000000 := by omega
            clear BM nw hget s0 s1 s2 s3
            go_wp2_with (first | (go_at_call 57; refine (l10Pixel_any (f.sh a1 a2) p y wr HFW.out HFS.out X9.out H1.out).mono ?_; rintro e w7 ⟨rfl, b7⟩; rw [show pxAt (f.sh a1 a2) (f.sh a1 a2).sx (f.sh a1 a2).sy (p : Int) y = pxAt f a1 a2 p y from rfl]; replace b7 := Lib.hid b7) | (at_builtin; refine push_own_k _ rfl _ _ rfl (w.heap.size + 1) p c' w7.heap.size 1 A' (L.take p) (pxAt f a1 a2 p y) rfl rfl ((own_below HB.out.own b7.out).alloc _) (cell_new _ _ _ 0) p9 (Nat.le_trans hBw (Nat.le_trans b7.out.size (size_alloc_le _ _))) ?_; intro A3 c3' w3 o3 g3 k3; replace o3 := Lib.hid o3; replace g3 := Lib.hid g3; replace k3 := Lib.hid k3))
            go_roundw
            case rel =>
              have z7 := Nat.le_trans hBw b7.out.size
              have N7 : Blk (w7.alloc (.cells #[.int .i64 (pxAt f a1 a2 p y)] 3)) w6.heap.size 26 _ := (HB.out.now.below b7.out hnb).alloc _
              have B7 : Below (w.heap.size + 1) (w.alloc (.cells #[.int .i64 f.W, .slice f.A f.n f.c, .slice f.T f.tn f.tc, .int .i64 f.sx, .int .i64 f.sy] 26)) (w7.alloc (.cells #[.int .i64 (pxAt f a1 a2 p y)] 3)) := (HB.out.bel.trans (b7.out.mono hBw)).alloc z7 _
              refine ⟨p + 1, k, A3, c3', by omega, hk, rfl, rfl, by go_num, ⟨by rw [HTK.out]; exact o3.out, ?_, N7.grown g3.out (Ne.symm HB.out.ne), fun j hj => by have := HB.out.sml j hj; omega, B7.grown g3.out (Nat.le_trans z7 (size_alloc_le _ _)) (fun q hq => (HB.out.own.lt q hq).1), HB.out.hB⟩⟩
              rcases k3.out with hq | hq
              · rw [hq]; exact HB.out.ne
              · rw [hq]
                intro e
                injection e with e
                have := b7.out.size
                simp at e
                omega
            case measure => simp [intOf]; omega
        · obtain rfl : k = n := by omega
          have hs0 := hs0.out
          obtain ⟨⟨s0, s1⟩, ⟨s2, s3⟩⟩ := shN_in (s := (f.sx, f.sy)) HCF.out ⟨HSX.out, HSY.out⟩ k (by omega)
          have hget := beamF_get (f := f) (y := y) (x := (p : Int)) ts (f.sx, f.sy) 0 k HCF.out (by omega) (by omega) (by omega) BM.sml (fun h => by omega)
          obtain ⟨a1, ha1⟩ : ∃ a1, (shN (f.sx, f.sy) ts k).1 = a1 := ⟨_, rfl⟩
          obtain ⟨a2, ha2⟩ : ∃ a2, (shN (f.sx, f.sy) ts k).2 = a2 := ⟨_, rfl⟩
          have nw := BM.now
          rw [ha1, ha2] at nw
          rw [ha1] at s0 s1 hget
          rw [ha2] at s2 s3 hget
          rw [hL.out, show ((p : Int) - 0).toNat = p by omega] at hget
          have HTK := Lib.hid (show L.take (p + 1) = L.take p ++ [pxAt f a1 a2 p y] by rw [List.take_add_one, hget]; rfl)
          have HFS := Lib.hid (fieldB_sh HFB.out ⟨s0, s1⟩ ⟨s2, s3⟩)
          have HFW := Lib.hid ((HF0.out.below (hs0 ▸ BM.bel)).sh a1 a2)
          have e0 := nw.cell 0
          have e1 := nw.cell 1
          have e2 := nw.cell 2
          have e3 := nw.cell 3
          have e4 := nw.cell 4
          have hnb := nw.lt
          have X9 := Lib.hid (show (0 : Int) ≤ (p : Int) ∧ (p : Int) ≤ 32 by omega)
          have HB := Lib.hid BM
          have hBw : w.heap.size + 1 ≤ wr.heap.size := Nat.le_trans (Nat.le_of_eq hs0.symm) (hs0 ▸ BM.bel).size
          replace ha1 := Lib.hid ha1
          replace ha2 := Lib.hid ha2
          have p9 : p ≤ 1000000000 := by omega
          clear BM nw hget s0 s1 s2 s3
          go_wp2_with (first | (go_at_call 57; refine (l10Pixel_any (f.sh a1 a2) p y wr HFW.out HFS.out X9.out H1.out).mono ?_; rintro e w7 ⟨rfl, b7⟩; rw [show pxAt (f.sh a1 a2) (f.sh a1 a2).sx (f.sh a1 a2).sy (p : Int) y = pxAt f a1 a2 p y from rfl]; replace b7 := Lib.hid b7) | (at_builtin; refine push_own_k _ rfl _ _ rfl (w.heap.size + 1) p c' w7.heap.size 1 A' (L.take p) (pxAt f a1 a2 p y) rfl rfl ((own_below HB.out.own b7.out).alloc _) (cell_new _ _ _ 0) p9 (Nat.le_trans hBw (Nat.le_trans b7.out.size (size_alloc_le _ _))) ?_; intro A3 c3' w3 o3 g3 k3; replace o3 := Lib.hid o3; replace g3 := Lib.hid g3; replace k3 := Lib.hid k3))
          go_roundw
          case rel =>
            have z7 := Nat.le_trans hBw b7.out.size
            have N7 : Blk (w7.alloc (.cells #[.int .i64 (pxAt f a1 a2 p y)] 3)) w6.heap.size 26 _ := (HB.out.now.below b7.out hnb).alloc _
            have B7 : Below (w.heap.size + 1) (w.alloc (.cells #[.int .i64 f.W, .slice f.A f.n f.c, .slice f.T f.tn f.tc, .int .i64 f.sx, .int .i64 f.sy] 26)) (w7.alloc (.cells #[.int .i64 (pxAt f a1 a2 p y)] 3)) := (HB.out.bel.trans (b7.out.mono hBw)).alloc z7 _
            refine ⟨p + 1, k, A3, c3', by omega, hk, rfl, rfl, by go_num, ⟨by rw [HTK.out]; exact o3.out, ?_, N7.grown g3.out (Ne.symm HB.out.ne), fun j hj => by have := HB.out.sml j hj; omega, B7.grown g3.out (Nat.le_trans z7 (size_alloc_le _ _)) (fun q hq => (HB.out.own.lt q hq).1), HB.out.hB⟩⟩
            rcases k3.out with hq | hq
            · rw [hq]; exact HB.out.ne
            · rw [hq]
              intro e
              injection e with e
              have := b7.out.size
              simp at e
              omega
          case measure => simp [intOf]; omega
    · obtain rfl : p = 32 := by omega
      have O9 := Lib.hid BM0.own
      have C9 := Lib.hid BM0.bel
      clear BM0
      go_wp2_with fail
      go_ret
      have ho := O9.out
      rw [List.take_of_length_le (by rw [HLEN.out]; omega)] at ho
      exact ⟨A', c', by rw [HLEN.out]; rfl, by rw [HLEN.out]; exact own_base ho (by omega), HBW.out.trans (C9.out.mono (by omega))⟩
end Go.Proofs.Ytkcabllnlbcgdaa
