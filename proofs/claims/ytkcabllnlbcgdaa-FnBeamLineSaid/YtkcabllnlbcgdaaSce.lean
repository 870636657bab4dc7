/-
  Scenes: tested by both packages. No condition but that lengths stay in range.
-/
import Derived.Test.YtkcabllnlbcgdaaSpv
namespace Go.Proofs.Ytkcabllnlbcgdaa
open Go.RowKit
set_option linter.unusedVariables false
set_option linter.unusedSimpArgs false
/-- A scene's value. -/
def scV (f : Fld) (A : Option Addr) (n c : Nat) : Value := .agg #[.int .i64 f.W, .slice f.A f.n f.c, .slice f.T f.tn f.tc, .int .i64 f.sx, .int .i64 f.sy, .slice A n c]
/-- A scene's own box. -/
structure SBox (w : World) (b : Nat) (f : Fld) (A : Option Addr) (n c : Nat) : Prop where
  lt : b < w.heap.size
  c0 : w.cell? ⟨b, 0, none⟩ = some (.int .i64 f.W)
  c1 : w.cell? ⟨b, 1, none⟩ = some (.slice f.A f.n f.c)
  c2 : w.cell? ⟨b, 2, none⟩ = some (.slice f.T f.tn f.tc)
  c3 : w.cell? ⟨b, 3, none⟩ = some (.int .i64 f.sx)
  c4 : w.cell? ⟨b, 4, none⟩ = some (.int .i64 f.sy)
  c5 : w.cell? ⟨b, 5, none⟩ = some (.slice A n c)
section
variable {w w' : World} {b : Nat} {f : Fld} {A : Option Addr} {n c : Nat}
theorem SBox.below (h : SBox w b f A n c) (d : Below w.heap.size w w') : SBox w' b f A n c :=
  ⟨Nat.lt_of_lt_of_le h.lt d.size, (d.cell h.lt).trans h.c0, (d.cell h.lt).trans h.c1, (d.cell h.lt).trans h.c2, (d.cell h.lt).trans h.c3, (d.cell h.lt).trans h.c4, (d.cell h.lt).trans h.c5⟩
theorem SBox.back (h : SBox w b f A n c) : FBox w b f := ⟨h.lt, h.c0, h.c1, h.c2, h.c3, h.c4⟩
theorem SBox.new (w : World) (f : Fld) (A : Option Addr) (n c : Nat) (t : TypeId) : SBox (w.alloc (.cells #[.int .i64 f.W, .slice f.A f.n f.c, .slice f.T f.tn f.tc, .int .i64 f.sx, .int .i64 f.sy, .slice A n c] t)) w.heap.size f A n c :=
  ⟨by simp, cell_new .., cell_new .., cell_new .., cell_new .., cell_new .., cell_new ..⟩
end
/-- A sprite's own box. -/
structure PBox (w : World) (b : Nat) (s : Spr) : Prop where
  lt : b < w.heap.size
  c0 : w.cell? ⟨b, 0, none⟩ = some (.int .i64 s.X)
  c1 : w.cell? ⟨b, 1, none⟩ = some (.int .i64 s.Y)
  c2 : w.cell? ⟨b, 2, none⟩ = some (.int .i64 s.N)
  c3 : w.cell? ⟨b, 3, none⟩ = some (.bool s.ac)
  c4 : w.cell? ⟨b, 4, none⟩ = some (.bool s.dn)
  c5 : w.cell? ⟨b, 5, none⟩ = some (.bool s.be)
theorem PBox.below {w w' : World} {b : Nat} {s : Spr} (h : PBox w b s) (d : Below w.heap.size w w') : PBox w' b s :=
  ⟨Nat.lt_of_lt_of_le h.lt d.size, (d.cell h.lt).trans h.c0, (d.cell h.lt).trans h.c1, (d.cell h.lt).trans h.c2, (d.cell h.lt).trans h.c3, (d.cell h.lt).trans h.c4, (d.cell h.lt).trans h.c5⟩
theorem PBox.new (w : World) (s : Spr) (t : TypeId) : PBox (w.alloc (.cells #[.int .i64 s.X, .int .i64 s.Y, .int .i64 s.N, .bool s.ac, .bool s.dn, .bool s.be] t)) w.heap.size s :=
  ⟨by simp, cell_new .., cell_new .., cell_new .., cell_new .., cell_new .., cell_new ..⟩
def sceneB (f : Fld) (ss : List Spr) : Bool := fieldB f && spritesB ss f.ts
set_option maxRecDepth 20000 in
set_option maxHeartbeats 2000000 in
theorem sceneValid_impl (f : Fld) (A : Option Addr) (n c : Nat) (ss : List Spr) (w : World) (h : FRd w f) (hs : SpRd w w.heap.size A n ss) (hn : n ≤ 100000000) :
    Calls Try.prog 71 #[scV f A n c] w fun e w' => e = .returned (.bool (sceneB f ss)) ∧ Below w.heap.size w w' := by
  have hb0 : Below w.heap.size w (w.alloc (.cells #[.int .i64 f.W, .slice f.A f.n f.c, .slice f.T f.tn f.tc, .int .i64 f.sx, .int .i64 f.sy, .slice A n c] 61)) := (Below.refl _ _).alloc (Nat.le_refl _) _
  have HB := Lib.hid (SBox.new w f A n c 61)
  have HF := Lib.hid (h.below hb0)
  have HS := Lib.hid ((hs.below hb0).more hb0.size)
  have HB0 := Lib.hid hb0
  have hfn := h.hn
  have hft := h.ht
  clear h hs hb0
  unfold scV
  cases h1 : fieldB f
  · rw [show sceneB f ss = false by unfold sceneB; rw [h1, Bool.false_and]]
    go_enter Try.func71, Try.ntmps71
    go_wp2_with (go_at_call 52; refine (fieldValid_impl f _ HF.out).mono ?_; rintro e w5 ⟨rfl, b5⟩; rw [h1]; replace b5 := Lib.hid b5)
    go_ret
    exact ⟨rfl, below_step HB0.out b5.out HB0.out.size⟩
  · have hr : sceneB f ss = spritesB ss f.ts := by unfold sceneB; rw [h1, Bool.true_and]
    rw [hr]
    clear hr
    go_enter Try.func71, Try.ntmps71
    go_wp2_with (first | (go_at_call 52; refine (fieldValid_impl f _ HF.out).mono ?_; rintro e w5 ⟨rfl, b5⟩; rw [h1]; have c2 := (HB.out.below b5).c2; have c5 := (HB.out.below b5).c5; replace b5 := Lib.hid b5) | (go_at_call 90; refine (spritesValid_impl A n c ss f.T f.tn f.tc f.ts _ ((HS.out.below b5.out).more b5.out.size) (HF.out.below b5.out).tiles hn hft).mono ?_; rintro e w6 ⟨rfl, b6⟩; replace b6 := Lib.hid b6))
    go_ret
    exact ⟨rfl, below_step HB0.out (below_step b5.out b6.out b5.out.size) HB0.out.size⟩
set_option maxRecDepth 20000 in
set_option maxHeartbeats 2000000 in
theorem sceneValid_spec (f : Fld) (A : Option Addr) (n c : Nat) (ss : List Spr) (w : World) (h : FRd w f) (hs : SpRd w w.heap.size A n ss) (hn : n ≤ 100000000) :
    Calls Try.prog 67 #[scV f A n c] w fun e w' => e = .returned (.bool (sceneB f ss)) ∧ Below w.heap.size w w' := by
  have hb0 : Below w.heap.size w (w.alloc (.cells #[.int .i64 f.W, .slice f.A f.n f.c, .slice f.T f.tn f.tc, .int .i64 f.sx, .int .i64 f.sy, .slice A n c] 61)) := (Below.refl _ _).alloc (Nat.le_refl _) _
  have HB := Lib.hid (SBox.new w f A n c 61)
  have HF := Lib.hid (h.below hb0)
  have HS := Lib.hid ((hs.below hb0).more hb0.size)
  have HB0 := Lib.hid hb0
  have hfn := h.hn
  have hft := h.ht
  clear h hs hb0
  unfold scV
  cases h1 : fieldB f
  · rw [show sceneB f ss = false by unfold sceneB; rw [h1, Bool.false_and]]
    go_enter Try.func67, Try.ntmps67
    go_wp2_with (go_at_call 12; refine (fieldValid_spec f _ HF.out).mono ?_; rintro e w5 ⟨rfl, b5⟩; rw [h1]; replace b5 := Lib.hid b5)
    go_ret
    exact ⟨rfl, below_step HB0.out b5.out HB0.out.size⟩
  · have hr : sceneB f ss = spritesB ss f.ts := by unfold sceneB; rw [h1, Bool.true_and]
    rw [hr]
    clear hr
    go_enter Try.func67, Try.ntmps67
    go_wp2_with (first | (go_at_call 12; refine (fieldValid_spec f _ HF.out).mono ?_; rintro e w5 ⟨rfl, b5⟩; rw [h1]; have c2 := (HB.out.below b5).c2; have c5 := (HB.out.below b5).c5; replace b5 := Lib.hid b5) | (go_at_call 87; refine (spritesValid_spec A n c ss f.T f.tn f.tc f.ts _ ((HS.out.below b5.out).more b5.out.size) (HF.out.below b5.out).tiles hn hft).mono ?_; rintro e w6 ⟨rfl, b6⟩; replace b6 := Lib.hid b6))
    go_ret
    exact ⟨rfl, below_step HB0.out (below_step b5.out b6.out b5.out.size) HB0.out.size⟩
end Go.Proofs.Ytkcabllnlbcgdaa
