/-
  Backgrounds in the laws: copies, comparisons of equal ones, sizes. No condition but that lengths stay in range.
-/
import Derived.Test.YtkcabllnlbcgdaaTilL
import Derived.Test.YtkcabllnlbcgdaaSprL
import Derived.Test.YtkcabllnlbcgdaaZone
import Derived.Test.YtkcabllnlbcgdaaIntsC
namespace Go.Proofs.Ytkcabllnlbcgdaa
open Go.RowKit
set_option linter.unusedVariables false
set_option linter.unusedSimpArgs false
theorem touch_set {lo hi : Nat} {a w : World} {p : Addr} (h : Touch lo hi a w) (hp : lo ≤ p.block ∧ p.block < hi) (v : Value) : Touch lo hi a (w.setCell p v) :=
  ⟨h.os, h.tape, h.output, by simpa [World.setCell] using h.size, fun k hk ho => (Below.heap_setCell w p v k (by omega)).trans (h.block k hk ho)⟩
theorem own_touch {lo hi base e size n : Nat} {w w' : World} {v : Value} {xs : List Value} (h : w.ownsRow base e size v n xs) (t : Touch lo hi w w') (hb : hi ≤ base) : w'.ownsRow base e size v n xs :=
  own_same h fun g hg => t.block g (h.lt g hg).2 (.inr (Nat.le_trans hb (h.lt g hg).1))
def Fld.at (f : Fld) (A : Option Addr) (c : Nat) (T : Option Addr) (tc : Nat) : Fld := { f with A := A, c := c, T := T, tc := tc }
/-- A background's rows, the call's own. -/
structure FOwn (w : World) (base : Nat) (f : Fld) : Prop where
  m : w.ownsRow base 3 1 (.slice f.A f.n f.c) f.n (iv f.ms)
  t : w.ownsRow base 83 64 (.slice f.T f.tn f.tc) f.tn (fl64 f.ts)
  l : ∀ t ∈ f.ts, t.length = 64
theorem FOwn.below {w w' : World} {base : Nat} {f : Fld} (h : FOwn w base f) (b : Below w.heap.size w w') : FOwn w' base f := ⟨own_below h.m b, own_below h.t b, h.l⟩
theorem FOwn.touch {w w' : World} {base lo hi : Nat} {f : Fld} (h : FOwn w base f) (t : Touch lo hi w w') (hb : hi ≤ base) : FOwn w' base f := ⟨own_touch h.m t hb, own_touch h.t t hb, h.l⟩
theorem FOwn.base {w : World} {base B : Nat} {f : Fld} (h : FOwn w base f) (hB : B ≤ base) : FOwn w B f := ⟨own_base h.m hB, own_base h.t hB, h.l⟩
theorem FOwn.rd {w : World} {base : Nat} {f : Fld} (h : FOwn w base f) (hn : f.n ≤ 100000000) (ht : f.tn ≤ 100000000) : FRd w f := ⟨own_ints h.m, ti_of_own h.t h.l, hn, ht⟩
theorem fbox_new (w : World) (f : Fld) (t : TypeId) : FBox (w.alloc (.cells f.cs t)) w.heap.size f := ⟨by simp, cell_new .., cell_new .., cell_new .., cell_new .., cell_new ..⟩
set_option maxRecDepth 20000 in
set_option maxHeartbeats 2000000 in
theorem toField_any (f : Fld) (w : World) (h : FRd w f) :
    Calls Try.prog 22 #[f.val] w fun e w' => ∃ A c T tc, e = .returned (f.at A c T tc).val ∧ FOwn w' w.heap.size (f.at A c T tc) ∧ Below w.heap.size w w' := by
  have h3 := blk3 w f.cs #[.int .i64 0, .slice none 0 0, .slice none 0 0, .int .i64 0, .int .i64 0] #[.int .i64 f.W, .slice none 0 0, .slice none 0 0, .int .i64 0, .int .i64 0] 42 26 26
  have hb0 : Below w.heap.size w (((w.alloc (.cells f.cs 42)).alloc (.cells #[.int .i64 0, .slice none 0 0, .slice none 0 0, .int .i64 0, .int .i64 0] 26)).alloc (.cells #[.int .i64 f.W, .slice none 0 0, .slice none 0 0, .int .i64 0, .int .i64 0] 26)) := (((Below.refl _ _).alloc (Nat.le_refl _) _).alloc (by simp) _).alloc (by simp; omega) _
  have hs0 : (((w.alloc (.cells f.cs 42)).alloc (.cells #[.int .i64 0, .slice none 0 0, .slice none 0 0, .int .i64 0, .int .i64 0] 26)).alloc (.cells #[.int .i64 f.W, .slice none 0 0, .slice none 0 0, .int .i64 0, .int .i64 0] 26)).heap.size = w.heap.size + 3 := by simp
  have hml := h.map.len
  obtain ⟨h31, h32, h33⟩ := h3
  have H1 := Lib.hid h31
  have H2 := Lib.hid h32
  have H3 := Lib.hid h33
  have HB0 := Lib.hid hb0
  have HS0 := Lib.hid hs0
  have HL := Lib.hid h
  have HF := Lib.hid (h.below hb0)
  clear h31 h32 h33 hb0 h hs0
  unfold Fld.cs at *
  unfold Fld.val Fld.cs
  go_enter Try.func22, Try.ntmps22
  go_wp2_with fail
  refine (toIntS_any f.A f.n f.c f.ms _ HF.out.map (by have := HF.out.hn; omega)).mono ?_
  rintro e w5 ⟨A', c', rfl, o5, b5⟩
  rw [hml] at o5 ⊢
  have B1 := H1.out.below b5 (by simp; omega)
  have B2 := Lib.hid (H2.out.below b5 (by simp))
  have B3 := H3.out.below b5 (by simp)
  replace o5 := Lib.hid (HS0.out ▸ o5 : w5.ownsRow (w.heap.size + 3) 3 1 (.slice A' f.n c') f.n (iv f.ms))
  have hb5 := Lib.hid (below_step HB0.out b5 HB0.out.size)
  have hz5 := Lib.hid (show w.heap.size + 3 ≤ w5.heap.size from HS0.out ▸ b5.size)
  have c2 := B1.cell 2
  have c3 := B1.cell 3
  have c4 := B1.cell 4
  have d1 : w5.cell? ⟨w.heap.size + 1 + 1, 1, none⟩ = some (.slice none 0 0) := B3.cell 1
  have e1 : w5.frozen? ⟨w.heap.size + 1 + 1, 1, none⟩ = false := B3.frozen 1
  simp only [List.getElem?_toArray, List.getElem?_cons_succ, List.getElem?_cons_zero] at c2 c3 c4
  have s3 := B3.set_ 1 (.slice A' f.n c')
  have s1 := B1.far (p := ⟨w.heap.size + 2, 1, none⟩) (by show w.heap.size ≠ w.heap.size + 2; omega) (.slice A' f.n c')
  have s2 := B2.out.far (p := ⟨w.heap.size + 2, 1, none⟩) (by show w.heap.size + 1 ≠ w.heap.size + 2; omega) (.slice A' f.n c')
  have t5 := touch_set (lo := w.heap.size) (hi := w.heap.size + 3) (Touch.refl w.heap.size (w.heap.size + 3) w5) (p := ⟨w.heap.size + 2, 1, none⟩) (by show w.heap.size ≤ w.heap.size + 2 ∧ w.heap.size + 2 < w.heap.size + 3; omega) (.slice A' f.n c')
  have o6 := Lib.hid (own_touch o5.out t5 (Nat.le_refl _))
  have S1 := Lib.hid s1
  have S2 := Lib.hid s2
  have S3 := Lib.hid s3
  have T5 := Lib.hid t5
  clear s1 s2 s3 t5 B1 B3 b5 H1 H2 H3 B2 o5 HF HB0 HS0
  go_wp2_with fail
  have hb6 := (hb5.out).setCell (p := ⟨w.heap.size + 1 + 1, 1, none⟩) (by show w.heap.size ≤ w.heap.size + 1 + 1; omega) (.slice A' f.n c')
  refine (toTileS_any f.T f.tn f.tc f.ts _ ((HL.out.below hb6).tiles) HL.out.ht).mono ?_
  rintro e w7 ⟨T', tc', rfl, o7, b7⟩
  have B1 := S1.out.below b7 S1.out.lt
  have B2 := S2.out.below b7 S2.out.lt
  have B3 := S3.out.below b7 S3.out.lt
  have O6 := Lib.hid (own_below o6.out b7)
  have O7 := Lib.hid (own_base o7 (show w.heap.size + 3 ≤ _ by have := hz5.out; simpa [World.setCell] using this))
  have hb7 := Lib.hid (below_step hb6 b7 hb6.size)
  have c3 := B1.cell 3
  have c4 := B1.cell 4
  have d0 : w7.cell? ⟨w.heap.size + 1 + 1, 0, none⟩ = some (.int .i64 f.W) := B3.cell 0
  have d1 : w7.cell? ⟨w.heap.size + 1 + 1, 1, none⟩ = some (.slice A' f.n c') := B3.cell 1
  have d2 : w7.cell? ⟨w.heap.size + 1 + 1, 2, none⟩ = some (.slice none 0 0) := B3.cell 2
  have d3 : w7.cell? ⟨w.heap.size + 1 + 1, 3, none⟩ = some (.int .i64 0) := B3.cell 3
  have d4 : w7.cell? ⟨w.heap.size + 1 + 1, 4, none⟩ = some (.int .i64 0) := B3.cell 4
  have e2 : w7.frozen? ⟨w.heap.size + 1 + 1, 2, none⟩ = false := B3.frozen 2
  have e3 : w7.frozen? ⟨w.heap.size + 1 + 1, 3, none⟩ = false := B3.frozen 3
  have e4 : w7.frozen? ⟨w.heap.size + 1 + 1, 4, none⟩ = false := B3.frozen 4
  have g0 : w7.cell? ⟨w.heap.size + 1, 0, none⟩ = some (.int .i64 0) := B2.cell 0
  have g1 : w7.cell? ⟨w.heap.size + 1, 1, none⟩ = some (.slice none 0 0) := B2.cell 1
  have g2 : w7.cell? ⟨w.heap.size + 1, 2, none⟩ = some (.slice none 0 0) := B2.cell 2
  have g3 : w7.cell? ⟨w.heap.size + 1, 3, none⟩ = some (.int .i64 0) := B2.cell 3
  have g4 : w7.cell? ⟨w.heap.size + 1, 4, none⟩ = some (.int .i64 0) := B2.cell 4
  have k0 : w7.frozen? ⟨w.heap.size + 1, 0, none⟩ = false := B2.frozen 0
  have k1 : w7.frozen? ⟨w.heap.size + 1, 1, none⟩ = false := B2.frozen 1
  have k2 : w7.frozen? ⟨w.heap.size + 1, 2, none⟩ = false := B2.frozen 2
  have k3 : w7.frozen? ⟨w.heap.size + 1, 3, none⟩ = false := B2.frozen 3
  have k4 : w7.frozen? ⟨w.heap.size + 1, 4, none⟩ = false := B2.frozen 4
  simp only [List.getElem?_toArray, List.getElem?_cons_succ, List.getElem?_cons_zero] at c3 c4
  clear B1 B2 B3 b7 hb6 S1 S2 S3 o6 T5 hb5 hz5 o7
  have HL64 := HL.out.tiles.2.1
  go_wp2_with fail
  refine bodyPost_ret (v := (f.at A' c' T' tc').val) (by simp [results, Try.results22, go_sem, g0, g1, g2, g3, g4, Fld.val, Fld.cs, Fld.at]) rfl ⟨A', c', T', tc', rfl, ?_, ?_⟩
  · refine FOwn.base (FOwn.touch (lo := w.heap.size) (hi := w.heap.size + 3) (base := w.heap.size + 3) ⟨O6.out, O7.out, HL64⟩ ?_ (Nat.le_refl _)) (by omega)
    repeat (refine touch_set ?_ (And.intro (by dsimp only; omega) (by dsimp only; omega)) _)
    exact Touch.refl _ _ _
  · refine hb7.out.trans (Touch.to_below (lo := w.heap.size) (hi := w.heap.size + 3) ?_ (Nat.le_refl _) hb7.out.size)
    repeat (refine touch_set ?_ (And.intro (by dsimp only; omega) (by dsimp only; omega)) _)
    exact Touch.refl _ _ _
set_option maxRecDepth 20000 in
set_option maxHeartbeats 2000000 in
theorem eqField_same (f : Fld) (A : Option Addr) (c : Nat) (T : Option Addr) (tc : Nat) (A' : Option Addr) (c' : Nat) (T' : Option Addr) (tc' : Nat) (w : World) (h : FRd w (f.at A c T tc)) (h' : FRd w (f.at A' c' T' tc')) :
    Calls Try.prog 25 #[(f.at A c T tc).val, (f.at A' c' T' tc').val] w fun e w' => e = .returned (.bool true) ∧ Below w.heap.size w w' := by
  have hb0 : Below w.heap.size w ((w.alloc (.cells (f.at A c T tc).cs 26)).alloc (.cells (f.at A' c' T' tc').cs 26)) := ((Below.refl _ _).alloc (Nat.le_refl _) _).alloc (by simp) _
  have x1 := (fbox_new w (f.at A c T tc) 26).below ((Below.refl _ _).alloc (Nat.le_refl _) (.cells (f.at A' c' T' tc').cs 26))
  have x2 := fbox_new (w.alloc (.cells (f.at A c T tc).cs 26)) (f.at A' c' T' tc') 26
  rw [show (w.alloc (.cells (f.at A c T tc).cs 26)).heap.size = w.heap.size + 1 by simp] at x2
  have X1 := Lib.hid x1
  have X2 := Lib.hid x2
  have HF := Lib.hid (h.below hb0)
  have HF' := Lib.hid (h'.below hb0)
  have HB0 := Lib.hid hb0
  have hn := h.hn
  have ht := h.ht
  clear x1 x2 hb0 h h'
  unfold Fld.val Fld.cs Fld.at at *
  simp only [] at hn ht
  go_enter Try.func25, Try.ntmps25
  go_wp2_with fail
  refine (eqIntS_same _ _ _ _ _ _ _ HF.out.map HF'.out.map (show f.n ≤ 9223372036854775807 by omega)).mono ?_
  rintro e w5 ⟨rfl, b5⟩
  obtain ⟨-, p0, p1, p2, p3, p4⟩ := X1.out.below b5
  obtain ⟨-, q0, q1, q2, q3, q4⟩ := X2.out.below b5
  simp only [] at p0 p1 p2 p3 p4 q0 q1 q2 q3 q4
  replace HF := Lib.hid (HF.out.below b5)
  replace HF' := Lib.hid (HF'.out.below b5)
  replace X1 := Lib.hid (X1.out.below b5)
  replace X2 := Lib.hid (X2.out.below b5)
  replace HB0 := Lib.hid (below_step HB0.out b5 HB0.out.size)
  clear b5
  go_wp2_with fail
  refine (eqTileS_same _ _ _ _ _ _ _ HF.out.tiles HF'.out.tiles (show f.tn ≤ 100000000 from ht)).mono ?_
  rintro e w6 ⟨rfl, b6⟩
  clear p0 p1 p2 p3 p4 q0 q1 q2 q3 q4
  obtain ⟨-, p0, p1, p2, p3, p4⟩ := X1.out.below b6
  obtain ⟨-, q0, q1, q2, q3, q4⟩ := X2.out.below b6
  simp only [] at p0 p1 p2 p3 p4 q0 q1 q2 q3 q4
  replace HB0 := Lib.hid (below_step HB0.out b6 HB0.out.size)
  clear b6
  go_wp2_with fail
  go_ret
  exact ⟨rfl, HB0.out⟩
theorem szIntS_anyF (A : Option Addr) (n c : Nat) (l : Int) (w : World) (h0 : 0 ≤ l) (h1 : l ≤ 1000000000) (hn : n ≤ 9223372036854775807) :
    Calls Try.prog 58 #[.slice A n c, .int .i64 l] w fun e w' => e = .returned (.int .i64 (if l - n < 0 then -1 else l - n)) ∧ w = w' := by
  have hw : IntKind.i64.wrap (l - n) = l - n := IntWalk.i64_in _ (by omega)
  by_cases hlt : l - (n : Int) < 0
  · rw [if_pos hlt]
    go_enter Try.func58, Try.ntmps58
    go_wp2
    go_ret
    exact ⟨rfl, rfl⟩
  · rw [if_neg hlt]
    go_enter Try.func58, Try.ntmps58
    go_wp2
    go_ret
    exact ⟨rfl, rfl⟩
def szFV (l : Int) (n m : Nat) : Int := if l - n < 0 then -1 else if l - n - m < 0 then -1 else l - n - m
theorem szField_any (f : Fld) (l : Int) (w : World) (h0 : 0 ≤ l) (h1 : l ≤ 1048576) (hn : f.n ≤ 9223372036854775807) (ht : f.tn ≤ 9223372036854775807) :
    Calls Try.prog 20 #[f.val, .int .i64 l] w fun e w' => e = .returned (.int .i64 (szFV l f.n f.tn)) ∧ Below w.heap.size w w' := by
  have HB := Lib.hid (show Below w.heap.size w (w.alloc (.cells f.cs 42)) from (Below.refl _ _).alloc (Nat.le_refl _) _)
  unfold Fld.val Fld.cs at *
  by_cases hq : l - (f.n : Int) < 0
  · have hi : (if l - (f.n : Int) < 0 then (-1 : Int) else l - f.n) = -1 := if_pos hq
    have hj := trivial
    have hr : szFV l f.n f.tn = -1 := if_pos hq
    rw [hr]
    go_enter Try.func20, Try.ntmps20
    go_wp2_with (first | (go_at_call 58; refine (szIntS_anyF f.A f.n f.c l _ h0 (by omega) hn).mono ?_; rintro e w2 ⟨rfl, rfl⟩; rw [hi]) | (go_at_call 59; refine (szTileS_any f.T f.tn f.tc (l - f.n) _ (by omega) (by omega) ht).mono ?_; rintro e w2 ⟨rfl, rfl⟩; rw [hj]))
    go_ret
    exact ⟨rfl, HB.out⟩
  · have hi : (if l - (f.n : Int) < 0 then (-1 : Int) else l - f.n) = l - f.n := if_neg hq
    have hq' : ¬ (l - (f.n : Int) < 0) := hq
    by_cases hq2 : l - (f.n : Int) - f.tn < 0
    · have hj : (if l - (f.n : Int) - f.tn < 0 then (-1 : Int) else l - f.n - f.tn) = -1 := if_pos hq2
      have hr : szFV l f.n f.tn = -1 := (if_neg hq).trans (if_pos hq2)
      rw [hr]
      go_enter Try.func20, Try.ntmps20
      go_wp2_with (first | (go_at_call 58; refine (szIntS_anyF f.A f.n f.c l _ h0 (by omega) hn).mono ?_; rintro e w2 ⟨rfl, rfl⟩; rw [hi]) | (go_at_call 59; refine (szTileS_any f.T f.tn f.tc (l - f.n) _ (by omega) (by omega) ht).mono ?_; rintro e w2 ⟨rfl, rfl⟩; rw [hj]))
      go_ret
      exact ⟨rfl, HB.out⟩
    · have hj : (if l - (f.n : Int) - f.tn < 0 then (-1 : Int) else l - f.n - f.tn) = l - f.n - f.tn := if_neg hq2
      have hr : szFV l f.n f.tn = l - f.n - f.tn := (if_neg hq).trans (if_neg hq2)
      rw [hr]
      go_enter Try.func20, Try.ntmps20
      go_wp2_with (first | (go_at_call 58; refine (szIntS_anyF f.A f.n f.c l _ h0 (by omega) hn).mono ?_; rintro e w2 ⟨rfl, rfl⟩; rw [hi]) | (go_at_call 59; refine (szTileS_any f.T f.tn f.tc (l - f.n) _ (by omega) (by omega) ht).mono ?_; rintro e w2 ⟨rfl, rfl⟩; rw [hj]))
      go_ret
      exact ⟨rfl, HB.out⟩
end Go.Proofs.Ytkcabllnlbcgdaa
