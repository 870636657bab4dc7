/-
  Scenes in the laws: copies, comparisons of equal ones, sizes. No condition but that lengths stay in range.
-/
import Derived.Test.YtkcabllnlbcgdaaFieL
import Derived.Test.YtkcabllnlbcgdaaOpF
namespace Go.Proofs.Ytkcabllnlbcgdaa
open Go.RowKit
set_option linter.unusedVariables false
set_option linter.unusedSimpArgs false
/-- A scene's rows, the call's own. -/
structure SOwn (w : World) (base : Nat) (f : Fld) (A : Option Addr) (n c : Nat) (ss : List Spr) : Prop where
  f : FOwn w base f
  s : w.ownsRow base 70 6 (.slice A n c) n (fl6 ss)
section
variable {w w' : World} {base lo hi : Nat} {f : Fld} {A : Option Addr} {n c : Nat} {ss : List Spr}
theorem SOwn.below (h : SOwn w base f A n c ss) (b : Below w.heap.size w w') : SOwn w' base f A n c ss := ⟨h.f.below b, own_below h.s b⟩
theorem SOwn.touch (h : SOwn w base f A n c ss) (t : Touch lo hi w w') (hb : hi ≤ base) : SOwn w' base f A n c ss := ⟨h.f.touch t hb, own_touch h.s t hb⟩
theorem SOwn.to {B : Nat} (h : SOwn w base f A n c ss) (hB : B ≤ base) : SOwn w B f A n c ss := ⟨h.f.base hB, own_base h.s hB⟩
theorem SOwn.sp (h : SOwn w base f A n c ss) : SpRd w w.heap.size A n ss := sp_of_own h.s
end
def scCs (f : Fld) (A : Option Addr) (n c : Nat) : Array Value := #[.int .i64 f.W, .slice f.A f.n f.c, .slice f.T f.tn f.tc, .int .i64 f.sx, .int .i64 f.sy, .slice A n c]
def scZ : Array Value := #[.int .i64 0, .slice none 0 0, .slice none 0 0, .int .i64 0, .int .i64 0, .slice none 0 0]
set_option maxRecDepth 20000 in
set_option maxHeartbeats 2000000 in
theorem toScene_any (f : Fld) (A : Option Addr) (n c : Nat) (ss : List Spr) (w : World) (h : FRd w f) (hs : SpRd w w.heap.size A n ss) (hn : n ≤ 100000000) :
    Calls Try.prog 33 #[scV f A n c] w fun e w' => ∃ A1 c1 T1 tc1 A2 c2, e = .returned (scV (f.at A1 c1 T1 tc1) A2 n c2) ∧ SOwn w' w.heap.size (f.at A1 c1 T1 tc1) A2 n c2 ss ∧ Below w.heap.size w w' := by
  have h3 := blk3 w (scCs f A n c) scZ scZ 56 61 61
  have hb0 : Below w.heap.size w (((w.alloc (.cells (scCs f A n c) 56)).alloc (.cells scZ 61)).alloc (.cells scZ 61)) := (((Below.refl _ _).alloc (Nat.le_refl _) _).alloc (by simp) _).alloc (by simp; omega) _
  have hs0 : (((w.alloc (.cells (scCs f A n c) 56)).alloc (.cells scZ 61)).alloc (.cells scZ 61)).heap.size = w.heap.size + 3 := by simp
  obtain ⟨h31, h32, h33⟩ := h3
  have H1 := Lib.hid h31
  have H2 := Lib.hid h32
  have H3 := Lib.hid h33
  have HB0 := Lib.hid hb0
  have HS0 := Lib.hid hs0
  have HF := Lib.hid (h.below hb0)
  have HS := Lib.hid hs
  clear h31 h32 h33 hb0 h hs0 hs
  unfold scCs scZ at *
  unfold scV
  go_enter Try.func33, Try.ntmps33
  go_wp2_with fail
  refine (toField_any f _ HF.out).mono ?_
  rintro e w5 ⟨A1, c1, T1, tc1, rfl, o5, b5⟩
  obtain ⟨f1, hf1⟩ : ∃ f1, f1 = f.at A1 c1 T1 tc1 := ⟨_, rfl⟩
  rw [← hf1] at o5 ⊢
  replace hf1 := Lib.hid hf1
  have B1 := H1.out.below b5 (by simp; omega)
  have B2 := Lib.hid (H2.out.below b5 (by simp))
  have B3 := H3.out.below b5 (by simp)
  replace o5 := Lib.hid (HS0.out ▸ o5 : FOwn w5 (w.heap.size + 3) f1)
  have hb5 := Lib.hid (below_step HB0.out b5 HB0.out.size)
  have hz5 := Lib.hid (show w.heap.size + 3 ≤ w5.heap.size from HS0.out ▸ b5.size)
  have p5 := B1.cell 5
  have d0 : w5.cell? ⟨w.heap.size + 1 + 1, 0, none⟩ = some (.int .i64 0) := B3.cell 0
  have d1 : w5.cell? ⟨w.heap.size + 1 + 1, 1, none⟩ = some (.slice none 0 0) := B3.cell 1
  have d2 : w5.cell? ⟨w.heap.size + 1 + 1, 2, none⟩ = some (.slice none 0 0) := B3.cell 2
  have d3 : w5.cell? ⟨w.heap.size + 1 + 1, 3, none⟩ = some (.int .i64 0) := B3.cell 3
  have d4 : w5.cell? ⟨w.heap.size + 1 + 1, 4, none⟩ = some (.int .i64 0) := B3.cell 4
  have e0 : w5.frozen? ⟨w.heap.size + 1 + 1, 0, none⟩ = false := B3.frozen 0
  have e1 : w5.frozen? ⟨w.heap.size + 1 + 1, 1, none⟩ = false := B3.frozen 1
  have e2 : w5.frozen? ⟨w.heap.size + 1 + 1, 2, none⟩ = false := B3.frozen 2
  have e3 : w5.frozen? ⟨w.heap.size + 1 + 1, 3, none⟩ = false := B3.frozen 3
  have e4 : w5.frozen? ⟨w.heap.size + 1 + 1, 4, none⟩ = false := B3.frozen 4
  simp only [List.getElem?_toArray, List.getElem?_cons_succ, List.getElem?_cons_zero] at p5
  have B1' := Lib.hid B1
  have B3' := Lib.hid (show Blk w5 (w.heap.size + 1 + 1) 61 _ from B3)
  clear B1 B3 b5 H1 H2 H3 HF HB0 HS0
  unfold Fld.val Fld.cs
  have S3 := Lib.hid (((((B3'.out.set_ 0 (.int .i64 f1.W)).set_ 1 (.slice f1.A f1.n f1.c)).set_ 2 (.slice f1.T f1.tn f1.tc)).set_ 3 (.int .i64 f1.sx)).set_ 4 (.int .i64 f1.sy))
  have S2 := Lib.hid (((((B2.out.far (p := ⟨w.heap.size + 1 + 1, 0, none⟩) (by dsimp only; omega) (.int .i64 f1.W)).far (p := ⟨w.heap.size + 1 + 1, 1, none⟩) (by dsimp only; omega) (.slice f1.A f1.n f1.c)).far (p := ⟨w.heap.size + 1 + 1, 2, none⟩) (by dsimp only; omega) (.slice f1.T f1.tn f1.tc)).far (p := ⟨w.heap.size + 1 + 1, 3, none⟩) (by dsimp only; omega) (.int .i64 f1.sx)).far (p := ⟨w.heap.size + 1 + 1, 4, none⟩) (by dsimp only; omega) (.int .i64 f1.sy))
  have tz := touch_set (touch_set (touch_set (touch_set (touch_set (Touch.refl w.heap.size (w.heap.size + 3) w5) (p := ⟨w.heap.size + 1 + 1, 0, none⟩) (And.intro (by dsimp only; omega) (by dsimp only; omega)) (.int .i64 f1.W)) (p := ⟨w.heap.size + 1 + 1, 1, none⟩) (And.intro (by dsimp only; omega) (by dsimp only; omega)) (.slice f1.A f1.n f1.c)) (p := ⟨w.heap.size + 1 + 1, 2, none⟩) (And.intro (by dsimp only; omega) (by dsimp only; omega)) (.slice f1.T f1.tn f1.tc)) (p := ⟨w.heap.size + 1 + 1, 3, none⟩) (And.intro (by dsimp only; omega) (by dsimp only; omega)) (.int .i64 f1.sx)) (p := ⟨w.heap.size + 1 + 1, 4, none⟩) (And.intro (by dsimp only; omega) (by dsimp only; omega)) (.int .i64 f1.sy)
  have hb6 := Lib.hid (hb5.out.trans (tz.to_below (Nat.le_refl _) hb5.out.size))
  have o6 := Lib.hid (o5.out.touch tz (Nat.le_refl _))
  have hz6 := Lib.hid (Nat.le_trans hz5.out tz.size)
  clear tz B2 B1' B3' hb5 hz5 o5
  go_wp2_with fail
  refine (toSpriteS_any A n c ss _ ((HS.out.below hb6.out).more hb6.out.size) (by omega)).mono ?_
  rintro e w7 ⟨A2, c2, rfl, o7, b7⟩
  have B2 := S2.out.below b7 S2.out.lt
  have B3 := S3.out.below b7 S3.out.lt
  have O6 := Lib.hid (o6.out.below b7)
  have O7 := Lib.hid (own_base o7 hz6.out)
  have hb7 := Lib.hid (below_step hb6.out b7 hb6.out.size)
  clear p5 d0 d1 d2 d3 d4 e0 e1 e2 e3 e4
  have d0 : w7.cell? ⟨w.heap.size + 1 + 1, 0, none⟩ = some (.int .i64 f1.W) := B3.cell 0
  have d1 : w7.cell? ⟨w.heap.size + 1 + 1, 1, none⟩ = some (.slice f1.A f1.n f1.c) := B3.cell 1
  have d2 : w7.cell? ⟨w.heap.size + 1 + 1, 2, none⟩ = some (.slice f1.T f1.tn f1.tc) := B3.cell 2
  have d3 : w7.cell? ⟨w.heap.size + 1 + 1, 3, none⟩ = some (.int .i64 f1.sx) := B3.cell 3
  have d4 : w7.cell? ⟨w.heap.size + 1 + 1, 4, none⟩ = some (.int .i64 f1.sy) := B3.cell 4
  have d5 : w7.cell? ⟨w.heap.size + 1 + 1, 5, none⟩ = some (.slice none 0 0) := B3.cell 5
  have e5 : w7.frozen? ⟨w.heap.size + 1 + 1, 5, none⟩ = false := B3.frozen 5
  have g0 : w7.cell? ⟨w.heap.size + 1, 0, none⟩ = some (.int .i64 0) := B2.cell 0
  have g1 : w7.cell? ⟨w.heap.size + 1, 1, none⟩ = some (.slice none 0 0) := B2.cell 1
  have g2 : w7.cell? ⟨w.heap.size + 1, 2, none⟩ = some (.slice none 0 0) := B2.cell 2
  have g3 : w7.cell? ⟨w.heap.size + 1, 3, none⟩ = some (.int .i64 0) := B2.cell 3
  have g4 : w7.cell? ⟨w.heap.size + 1, 4, none⟩ = some (.int .i64 0) := B2.cell 4
  have g5 : w7.cell? ⟨w.heap.size + 1, 5, none⟩ = some (.slice none 0 0) := B2.cell 5
  have k0 : w7.frozen? ⟨w.heap.size + 1, 0, none⟩ = false := B2.frozen 0
  have k1 : w7.frozen? ⟨w.heap.size + 1, 1, none⟩ = false := B2.frozen 1
  have k2 : w7.frozen? ⟨w.heap.size + 1, 2, none⟩ = false := B2.frozen 2
  have k3 : w7.frozen? ⟨w.heap.size + 1, 3, none⟩ = false := B2.frozen 3
  have k4 : w7.frozen? ⟨w.heap.size + 1, 4, none⟩ = false := B2.frozen 4
  have k5 : w7.frozen? ⟨w.heap.size + 1, 5, none⟩ = false := B2.frozen 5
  clear B2 B3 b7 S2 S3 o6 o7 hz6
  go_wp2_with fail
  refine bodyPost_ret (v := scV f1 A2 n c2) (by simp [results, Try.results33, go_sem, g0, g1, g2, g3, g4, g5, scV]) rfl ⟨A1, c1, T1, tc1, A2, c2, by rw [hf1.out]; rfl, ?_, ?_⟩
  · rw [← hf1.out]
    refine SOwn.to (SOwn.touch (lo := w.heap.size) (hi := w.heap.size + 3) (base := w.heap.size + 3) ⟨O6.out, O7.out⟩ ?_ (Nat.le_refl _)) (by omega)
    repeat (refine touch_set ?_ (And.intro (by dsimp only; omega) (by dsimp only; omega)) _)
    exact Touch.refl _ _ _
  · refine hb7.out.trans (Touch.to_below (lo := w.heap.size) (hi := w.heap.size + 3) ?_ (Nat.le_refl _) hb7.out.size)
    repeat (refine touch_set ?_ (And.intro (by dsimp only; omega) (by dsimp only; omega)) _)
    exact Touch.refl _ _ _
/-- The same background, at other places. -/
def Fsame (f g : Fld) : Prop := ∃ A c T tc, g = f.at A c T tc
theorem Fsame.nums {f g : Fld} (h : Fsame f g) : g.n = f.n ∧ g.tn = f.tn ∧ g.W = f.W ∧ g.ms = f.ms ∧ g.ts = f.ts ∧ g.sx = f.sx ∧ g.sy = f.sy := by
  obtain ⟨A, c, T, tc, rfl⟩ := h
  exact ⟨rfl, rfl, rfl, rfl, rfl, rfl, rfl⟩
theorem toScene_to (f : Fld) (A : Option Addr) (n c : Nat) (ss : List Spr) (w : World) (h : FRd w f) (hs : SpRd w w.heap.size A n ss) (hn : n ≤ 100000000) :
    Calls Try.prog 33 #[scV f A n c] w fun e w' => ∃ f1 A2 c2, e = .returned (scV f1 A2 n c2) ∧ Fsame f f1 ∧ (SOwn w' w.heap.size f1 A2 n c2 ss ∧ FRd w' f1 ∧ SpRd w' w'.heap.size A2 n ss) ∧ Below w.heap.size w w' :=
  (toScene_any f A n c ss w h hs hn).mono fun e w' ⟨A1, c1, T1, tc1, A2, c2, h1, h2, h3⟩ => ⟨_, A2, c2, h1, ⟨A1, c1, T1, tc1, rfl⟩, ⟨h2, h2.f.rd h.hn h.ht, h2.sp⟩, h3⟩
set_option maxRecDepth 20000 in
set_option maxHeartbeats 2000000 in
theorem eqScene_same (f : Fld) (A : Option Addr) (c : Nat) (T : Option Addr) (tc : Nat) (S : Option Addr) (sc : Nat) (A' : Option Addr) (c' : Nat) (T' : Option Addr) (tc' : Nat) (S' : Option Addr) (sc' : Nat) (n : Nat) (ss : List Spr) (w : World) (h : FRd w (f.at A c T tc)) (hs : SpRd w w.heap.size S n ss) (h' : FRd w (f.at A' c' T' tc')) (hs' : SpRd w w.heap.size S' n ss) (hn : n ≤ 100000000) :
    Calls Try.prog 35 #[scV (f.at A c T tc) S n sc, scV (f.at A' c' T' tc') S' n sc'] w fun e w' => e = .returned (.bool true) ∧ Below w.heap.size w w' := by
  have hb0 : Below w.heap.size w ((w.alloc (.cells (scCs (f.at A c T tc) S n sc) 61)).alloc (.cells (scCs (f.at A' c' T' tc') S' n sc') 61)) := ((Below.refl _ _).alloc (Nat.le_refl _) _).alloc (by simp) _
  have x1 := (SBox.new w (f.at A c T tc) S n sc 61).below ((Below.refl _ _).alloc (Nat.le_refl _) (.cells (scCs (f.at A' c' T' tc') S' n sc') 61))
  have x2 := SBox.new (w.alloc (.cells (scCs (f.at A c T tc) S n sc) 61)) (f.at A' c' T' tc') S' n sc' 61
  rw [show (w.alloc (.cells (scCs (f.at A c T tc) S n sc) 61)).heap.size = w.heap.size + 1 by simp] at x2
  have X1 := Lib.hid x1
  have X2 := Lib.hid x2
  have HF := Lib.hid (h.below hb0)
  have HF' := Lib.hid (h'.below hb0)
  have HS := Lib.hid ((hs.below hb0).more hb0.size)
  have HS' := Lib.hid ((hs'.below hb0).more hb0.size)
  have HB0 := Lib.hid hb0
  clear x1 x2 hb0 h h' hs hs'
  unfold scCs at *
  unfold scV
  go_enter Try.func35, Try.ntmps35
  go_wp2_with fail
  refine (eqField_same f _ _ _ _ _ _ _ _ _ HF.out HF'.out).mono ?_
  rintro e w5 ⟨rfl, b5⟩
  obtain ⟨-, p0, p1, p2, p3, p4, p5⟩ := X1.out.below b5
  obtain ⟨-, q0, q1, q2, q3, q4, q5⟩ := X2.out.below b5
  replace HS := Lib.hid ((HS.out.below b5).more b5.size)
  replace HS' := Lib.hid ((HS'.out.below b5).more b5.size)
  replace HB0 := Lib.hid (below_step HB0.out b5 HB0.out.size)
  clear b5
  go_wp2_with fail
  refine (eqSpriteS_same _ _ _ _ _ ss _ HS.out HS'.out (by omega)).mono ?_
  rintro e w6 ⟨rfl, b6⟩
  replace HB0 := Lib.hid (below_step HB0.out b6 HB0.out.size)
  clear b6
  go_wp2_with fail
  go_ret
  exact ⟨rfl, HB0.out⟩
theorem eqScene_two (f g g' : Fld) (S : Option Addr) (sc : Nat) (S' : Option Addr) (sc' : Nat) (n : Nat) (ss : List Spr) (w : World) (e1 : Fsame f g) (e2 : Fsame f g') (h : FRd w g) (hs : SpRd w w.heap.size S n ss) (h' : FRd w g') (hs' : SpRd w w.heap.size S' n ss) (hn : n ≤ 100000000) :
    Calls Try.prog 35 #[scV g S n sc, scV g' S' n sc'] w fun e w' => e = .returned (.bool true) ∧ Below w.heap.size w w' := by
  obtain ⟨A, c, T, tc, rfl⟩ := e1
  obtain ⟨A', c', T', tc', rfl⟩ := e2
  exact eqScene_same f A c T tc S sc A' c' T' tc' S' sc' n ss w h hs h' hs' hn
def szSV (l : Int) (n m k : Nat) : Int := if szFV l n m < 0 then -1 else if szFV l n m - k < 0 then -1 else szFV l n m - k
theorem szFV_ok {l : Int} {n m : Nat} (h : ¬ szFV l n m < 0) : (n : Int) ≤ l ∧ (m : Int) ≤ l ∧ szFV l n m ≤ l ∧ 0 ≤ szFV l n m := by
  unfold szFV at *
  split at h
  · omega
  · split at h
    · omega
    · rw [if_neg ‹_›, if_neg ‹_›]; omega
theorem szScene_any (f : Fld) (A : Option Addr) (n c : Nat) (l : Int) (w : World) (h0 : 0 ≤ l) (h1 : l ≤ 1048576) (hn : f.n ≤ 9223372036854775807) (ht : f.tn ≤ 9223372036854775807) (hk : n ≤ 9223372036854775807) :
    Calls Try.prog 31 #[scV f A n c, .int .i64 l] w fun e w' => e = .returned (.int .i64 (szSV l f.n f.tn n)) ∧ Below w.heap.size w w' := by
  have HB := Lib.hid (show Below w.heap.size w (w.alloc (.cells (scCs f A n c) 56)) from (Below.refl _ _).alloc (Nat.le_refl _) _)
  have X1 := Lib.hid (SBox.new w f A n c 56)
  unfold scCs at *
  unfold scV szSV
  by_cases hq : szFV l f.n f.tn < 0
  · rw [if_pos hq]
    obtain ⟨m, hm⟩ : ∃ m, szFV l f.n f.tn = m := ⟨_, rfl⟩
    rw [hm] at hq
    have hj := trivial
    go_enter Try.func31, Try.ntmps31
    go_wp2_with (first | (go_at_call 20; refine (szField_any f l _ h0 h1 hn ht).mono ?_; rintro e w2 ⟨rfl, b2⟩; rw [hm]; have c5 := (X1.out.below b2).c5; replace HB := Lib.hid (below_step HB.out b2 HB.out.size); clear b2) | (go_at_call 66; refine (szSpriteS_any A n c m _ (by omega) (by omega) hk).mono ?_; rintro e w2 ⟨rfl, rfl⟩; rw [hj]))
    go_ret
    exact ⟨rfl, HB.out⟩
  · obtain ⟨q1, q2, q3, q4⟩ := szFV_ok hq
    rw [if_neg hq]
    obtain ⟨m, hm⟩ : ∃ m, szFV l f.n f.tn = m := ⟨_, rfl⟩
    rw [hm] at hq q3 q4 ⊢
    by_cases hq2 : m - (n : Int) < 0
    · have hj : (if m - (n : Int) < 0 then (-1 : Int) else m - n) = -1 := if_pos hq2
      rw [hj]
      go_enter Try.func31, Try.ntmps31
      go_wp2_with (first | (go_at_call 20; refine (szField_any f l _ h0 h1 hn ht).mono ?_; rintro e w2 ⟨rfl, b2⟩; rw [hm]; have c5 := (X1.out.below b2).c5; replace HB := Lib.hid (below_step HB.out b2 HB.out.size); clear b2) | (go_at_call 66; refine (szSpriteS_any A n c m _ (by omega) (by omega) hk).mono ?_; rintro e w2 ⟨rfl, rfl⟩; rw [hj]))
      go_ret
      exact ⟨rfl, HB.out⟩
    · have hj : (if m - (n : Int) < 0 then (-1 : Int) else m - n) = m - n := if_neg hq2
      rw [hj]
      go_enter Try.func31, Try.ntmps31
      go_wp2_with (first | (go_at_call 20; refine (szField_any f l _ h0 h1 hn ht).mono ?_; rintro e w2 ⟨rfl, b2⟩; rw [hm]; have c5 := (X1.out.below b2).c5; replace HB := Lib.hid (below_step HB.out b2 HB.out.size); clear b2) | (go_at_call 66; refine (szSpriteS_any A n c m _ (by omega) (by omega) hk).mono ?_; rintro e w2 ⟨rfl, rfl⟩; rw [hj]))
      go_ret
      exact ⟨rfl, HB.out⟩
theorem szSV_ok {l : Int} {n m k : Nat} (h : ¬ szSV l n m k < 0) : (n : Int) ≤ l ∧ (m : Int) ≤ l ∧ (k : Int) ≤ l := by
  unfold szSV at h
  split at h
  · omega
  · rename_i h1
    obtain ⟨q1, q2, q3, q4⟩ := szFV_ok h1
    split at h <;> omega
end Go.Proofs.Ytkcabllnlbcgdaa
