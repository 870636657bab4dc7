/-
  What the statements draw for saves: lists of numbers. No condition.
-/
import Derived.Test.YtkcabllnlbcgdaaPick
import Derived.Test.YtkcabllnlbcgdaaGrow
import Derived.Deep.Cut
namespace Go.Proofs.Ytkcabllnlbcgdaa
open Go.RowKit
set_option linter.unusedVariables false
set_option linter.unusedSimpArgs false
/-- What a drawing function comes to: its value meets Pr; the reader has moved by at most c. -/
def Draws (g : Nat) (A : Option Addr) (len cap p c : Nat) (w : World) (Pr : World → Value → Prop) (e : Ending) (w' : World) : Prop :=
  ∃ v, e = .returned v ∧ Pr w' v ∧ w.grownBy w' (some g) ∧ ∃ p', p' ≤ p + c ∧ Rd w' g A len cap p'
theorem below_rd {w w1 w2 : World} (hb : Below w.heap.size w w1) (hg : w1.grownBy w2 (some w.heap.size)) : Below w.heap.size w w2 :=
  hb.trans (below_of_grown hg hb.size (by intro k hk; injection hk with hk; omega))
/-- A list of numbers in a block from base on, that meets Pr. -/
def LRow (base : Nat) (Pr : List Int → Prop) (w : World) (v : Value) : Prop := ∃ A c xs, v = .slice A xs.length c ∧ w.ownsRow base 3 1 (.slice A xs.length c) xs.length (iv xs) ∧ Pr xs
theorem own_rd {w w' : World} {base e size n g : Nat} {v : Value} {xs : List Value} (h : w.ownsRow base e size v n xs) (hg : w.grownBy w' (some g)) (hb : g < base) : w'.ownsRow base e size v n xs := by
  refine h.kept hg ?_
  rcases hu : v.ownBlock with _ | k
  · exact .inl rfl
  · refine .inr fun e => ?_
    injection e with e
    have := (h.lt k hu).1
    omega
theorem st_lrow (base g : Nat) (Pr : List Int → Prop) (hb : g < base) : Stable (some g) (LRow base Pr) := by
  rintro w w' v hg ⟨A, c, xs, rfl, o, h⟩
  exact ⟨A, c, xs, rfl, own_rd o hg hb, h⟩
theorem grown_push {w W W' : World} {g : Nat} {row : Option Nat} (h : w.grownBy W (some g)) (h' : W.grownBy W' row) (hr : ∀ k, row = some k → w.heap.size ≤ k) : w.grownBy W' (some g) :=
  ⟨h'.os.trans h.os, h'.tape.trans h.tape, h'.output.trans h.output, Nat.le_trans h.size h'.size, fun k hk hne =>
    (h'.block k (Nat.lt_of_lt_of_le hk h.size) (fun e => by have := hr k e.symm; omega)).trans (h.block k hk hne)⟩
theorem Rd.push {w W W' : World} {g len cap p p0 : Nat} {A : Option Addr} {row : Option Nat} (h0 : Rd w g A len cap p0) (h : Rd W g A len cap p) (hg : w.grownBy W' (some g)) (h' : W.grownBy W' row) (hr : some g ≠ row) : Rd W' g A len cap p :=
  ⟨h.1.grown h' hr, h0.2.1.grown hg, h.2.2⟩
/-- The world of a drawing function's walk: the reader and what has grown since its start. -/
structure Drs (w W : World) (g : Nat) (A : Option Addr) (len cap p0 q : Nat) : Prop where
  r0 : Rd w g A len cap p0
  hg : w.grownBy W (some g)
  rd : ∃ p, p ≤ q ∧ Rd W g A len cap p
section
variable {w W W' : World} {g len cap p0 q : Nat} {A : Option Addr}
theorem Drs.start (h : Rd w g A len cap p0) : Drs w w g A len cap p0 p0 := ⟨h, World.grownBy.refl _ _, p0, Nat.le_refl _, h⟩
theorem Drs.step {q' : Nat} (h : Drs w W g A len cap p0 q) (hg : W.grownBy W' (some g)) (hr : ∃ p, p ≤ q' ∧ Rd W' g A len cap p) : Drs w W' g A len cap p0 q' := ⟨h.r0, h.hg.trans hg, hr⟩
theorem Drs.push {row : Option Nat} (h : Drs w W g A len cap p0 q) (hg : W.grownBy W' row) (hr : ∀ k, row = some k → w.heap.size ≤ k) : Drs w W' g A len cap p0 q := by
  obtain ⟨p, hp, hR⟩ := h.rd
  have hG := grown_push h.hg hg hr
  exact ⟨h.r0, hG, p, hp, h.r0.push hR hG hg (by intro e; have := hr g e.symm; have := h.r0.lt; omega)⟩
theorem Drs.alloc (h : Drs w W g A len cap p0 q) (o : Obj) : Drs w (W.alloc o) g A len cap p0 q := h.push (World.grownBy_alloc W o none) (by intro k hk; cases hk)
theorem Drs.drewN (h : Drs w W g A len cap p0 q) (n : Nat) : Drs w (W.drewN n) g A len cap p0 q := h.push (grown_of_below (below_drewN (Below.refl _ _) n) none) (by intro k hk; cases hk)
theorem Drs.below (h : Drs w W g A len cap p0 q) (hb : Below W.heap.size W W') : Drs w W' g A len cap p0 q := h.push (grown_of_below hb none) (by intro k hk; cases hk)
theorem Drs.more {q' : Nat} (h : Drs w W g A len cap p0 q) (hq : q ≤ q') : Drs w W g A len cap p0 q' := by
  obtain ⟨p, hp, hR⟩ := h.rd
  exact ⟨h.r0, h.hg, p, Nat.le_trans hp hq, hR⟩
theorem Drs.size (h : Drs w W g A len cap p0 q) : g < w.heap.size ∧ w.heap.size ≤ W.heap.size := ⟨h.r0.lt, h.hg.size⟩
theorem Drs.own {base e size n : Nat} {v : Value} {xs : List Value} (h : Drs w W g A len cap p0 q) (o : W.ownsRow base e size v n xs) (hg : W.grownBy W' (some g)) (hb : w.heap.size ≤ base) : W'.ownsRow base e size v n xs :=
  own_rd o hg (Nat.lt_of_lt_of_le h.r0.lt hb)
end
/-- What a drawing callee gives in such a walk. -/
def Dr (w W : World) (g : Nat) (A : Option Addr) (len cap p0 q : Nat) (Pr : World → Value → Prop) (e : Ending) (W' : World) : Prop :=
  ∃ v, e = .returned v ∧ Pr W' v ∧ Drs w W' g A len cap p0 q ∧ W.grownBy W' (some g)
theorem dr_of {f : FuncId} {args : Array Value} {w W : World} {g len cap p0 q c : Nat} {A : Option Addr} {Pr : World → Value → Prop} (h : Drs w W g A len cap p0 q) (M : Nat) (hq : q ≤ M)
    (hc : ∀ p, p ≤ M → Rd W g A len cap p → Calls Try.prog f args W (Draws g A len cap p c W Pr)) : Calls Try.prog f args W (Dr w W g A len cap p0 (q + c) Pr) := by
  obtain ⟨p, hp, hR⟩ := h.rd
  refine (hc p (by omega) hR).mono ?_
  rintro e W' ⟨v, rfl, hv, hg, p', hp', hr'⟩
  exact ⟨v, rfl, hv, h.step hg ⟨p', by omega, hr'⟩, hg⟩
theorem draws_of {w W : World} {g len cap p0 q c : Nat} {A : Option Addr} {Pr : World → Value → Prop} {v : Value} (h : Drs w W g A len cap p0 q) (hq : q ≤ p0 + c) (hv : Pr W v) : Draws g A len cap p0 c w Pr (.returned v) W := by
  obtain ⟨p, hp, hR⟩ := h.rd
  exact ⟨v, rfl, hv, h.hg, p, by omega, hR⟩
def LenP (m : Nat) (xs : List Int) : Prop := xs.length ≤ m
def BoolV (P : Bool → Prop) (_ : World) (v : Value) : Prop := ∃ b : Bool, v = .bool b ∧ P b
theorem pick_d {w W : World} {g len cap p0 q : Nat} {A : Option Addr} (h : Drs w W g A len cap p0 q) (n : Int) (hq : q ≤ 1000000000) (h0 : 1 ≤ n) (h1 : n ≤ 1000000000) :
    Calls Try.prog 47 #[.pointer (some ⟨g, 0, none⟩), .int .i64 n] W (Dr w W g A len cap p0 (q + 1) (IntIn 0 (n - 1))) :=
  dr_of h 1000000000 hq fun p hp hR => (pick_any g A len cap p n W hR hp h0 h1).mono fun e w' ⟨x, he, x0, x1, hr, hg⟩ => ⟨_, he, ⟨x, rfl, x0, x1⟩, hg, p + 1, Nat.le_refl _, hr⟩
theorem odd_d {w W : World} {g len cap p0 q : Nat} {A : Option Addr} (h : Drs w W g A len cap p0 q) (n : Int) (hq : q ≤ 1000000000) (h0 : 0 ≤ n) (h1 : n ≤ 1000000000) :
    Calls Try.prog 82 #[.pointer (some ⟨g, 0, none⟩), .int .i64 n] W (Dr w W g A len cap p0 (q + 1) (BoolV fun b => n = 0 → b = false)) := by
  by_cases hz : n = 0
  · subst hz
    have H := Lib.hid h
    clear h
    go_enter Try.func82, Try.ntmps82
    go_wp2_with fail
    go_ret
    exact ⟨_, rfl, ⟨false, rfl, fun _ => rfl⟩, H.out.more (by omega), World.grownBy.refl _ _⟩
  · exact dr_of h 1000000000 hq fun p hp hR => (odd_any g A len cap p n W hR hp h0 h1).mono fun e w' ⟨x, p', he, hp', hr, hg⟩ => ⟨_, he, ⟨x, rfl, fun h => absurd h hz⟩, hg, p', hp', hr⟩
end Go.Proofs.Ytkcabllnlbcgdaa
