/-
  What a law has made, zone by zone: of each zone of blocks a fact that speaks of these blocks alone; calls that make new blocks or write into one zone. Over any program. No condition.
-/
import Derived.Test.YtkcabllnlbcgdaaEnv
namespace Go.Proofs.Ytkcabllnlbcgdaa
open Go.RowKit
set_option linter.unusedVariables false
set_option linter.unusedSimpArgs false
/-- Old blocks have changed in lo .. hi alone. -/
structure Touch (lo hi : Nat) (w w' : World) : Prop where
  os : w'.os = w.os
  tape : w'.tape = w.tape
  output : w'.output = w.output
  size : w.heap.size ≤ w'.heap.size
  block : ∀ k, k < w.heap.size → (k < lo ∨ hi ≤ k) → w'.heap[k]? = w.heap[k]?
theorem Touch.refl (lo hi : Nat) (w : World) : Touch lo hi w w := ⟨rfl, rfl, rfl, Nat.le_refl _, fun _ _ _ => rfl⟩
theorem Touch.trans {lo hi : Nat} {a b c : World} (h : Touch lo hi a b) (k : Touch lo hi b c) : Touch lo hi a c :=
  ⟨k.os.trans h.os, k.tape.trans h.tape, k.output.trans h.output, Nat.le_trans h.size k.size, fun i hi o => (k.block i (Nat.lt_of_lt_of_le hi h.size) o).trans (h.block i hi o)⟩
theorem Touch.of_grown {lo hi : Nat} {w w' : World} {row : Option Nat} (h : w.grownBy w' row) (hr : ∀ k, row = some k → lo ≤ k ∧ k < hi) : Touch lo hi w w' :=
  ⟨h.os, h.tape, h.output, h.size, fun k hk o => h.block k hk fun e => by have := hr k e.symm; omega⟩
theorem Touch.of_below {lo hi : Nat} {w w' : World} (h : Below w.heap.size w w') : Touch lo hi w w' := ⟨h.os, h.tape, h.output, h.size, fun k hk _ => h.block k hk⟩
theorem Touch.drew {lo hi : Nat} {w w' : World} (h : Touch lo hi w w') (n : Nat) : Touch lo hi w (w'.drewN n) := ⟨h.os, h.tape, h.output, h.size, h.block⟩
theorem Touch.to_below {lo hi B : Nat} {w w' : World} (h : Touch lo hi w w') (hB : B ≤ lo) (hs : B ≤ w.heap.size) : Below B w w' := ⟨h.os, h.tape, h.output, h.size, fun k hk => h.block k (by omega) (.inl (by omega))⟩
theorem Touch.mono {lo hi lo' hi' : Nat} {w w' : World} (h : Touch lo hi w w') (h1 : lo' ≤ lo) (h2 : hi ≤ hi') : Touch lo' hi' w w' := ⟨h.os, h.tape, h.output, h.size, fun k hk o => h.block k hk (by omega)⟩
/-- P speaks of the blocks lo .. hi alone. -/
def Local (lo hi : Nat) (P : World → Prop) : Prop := ∀ w w', P w → w.heap.size ≤ w'.heap.size → (∀ k, lo ≤ k → k < hi → w'.heap[k]? = w.heap[k]?) → P w'
structure Zn where
  lo : Nat
  hi : Nat
  P : World → Prop
structure Zones (w0 w : World) (L : List Zn) : Prop where
  bel : Below w0.heap.size w0 w
  row : ∀ r ∈ L, r.P w ∧ Local r.lo r.hi r.P ∧ w0.heap.size ≤ r.lo ∧ r.hi ≤ w.heap.size
  ord : L.Pairwise fun a b => b.hi ≤ a.lo ∨ a.hi ≤ b.lo
theorem Zones.start (w : World) : Zones w w [] := ⟨Below.refl _ _, fun r hr => (by cases hr), List.Pairwise.nil⟩
theorem Zones.below {w0 w w' : World} {L : List Zn} (h : Zones w0 w L) (b : Below w.heap.size w w') : Zones w0 w' L :=
  ⟨h.bel.trans (b.mono h.bel.size), fun r hr => by
    obtain ⟨h1, h2, h3, h4⟩ := h.row r hr
    exact ⟨h2 w w' h1 b.size fun k _ hk => b.block k (by omega), h2, h3, Nat.le_trans h4 b.size⟩, h.ord⟩
theorem Zones.push {w0 w w' : World} {L : List Zn} (h : Zones w0 w L) {P : World → Prop} (p : P w') (hl : Local w.heap.size w'.heap.size P) (b : Below w.heap.size w w') : Zones w0 w' (⟨w.heap.size, w'.heap.size, P⟩ :: L) := by
  have h' := h.below b
  refine ⟨h'.bel, fun r hr => ?_, List.pairwise_cons.2 ⟨fun r hr => .inl (h.row r hr).2.2.2, h.ord⟩⟩
  rcases List.mem_cons.1 hr with rfl | hr
  · exact ⟨p, hl, h.bel.size, Nat.le_refl _⟩
  · exact h'.row r hr
theorem Zones.at_ {w0 w : World} {L : List Zn} (h : Zones w0 w L) (i : Nat) {r : Zn} (hr : L[i]? = some r) : r.P w := (h.row r (List.mem_of_getElem? hr)).1
theorem Zones.arg {w0 w : World} {L : List Zn} (h : Zones w0 w L) {A : Option Addr} {n : Nat} {xs : List Int} (a : Ints w0 w0.heap.size A n xs) : Ints w w.heap.size A n xs := (a.below h.bel).more h.bel.size
/-- A zone is written to: it has another fact; the others have stayed. -/
theorem Zones.mark {w0 w w' : World} {L : List Zn} (h : Zones w0 w L) (i : Nat) {lo hi : Nat} {P P' : World → Prop} (hr : L[i]? = some ⟨lo, hi, P⟩) (p : P' w') (hl : Local lo hi P') (g : Touch lo hi w w') : Zones w0 w' (L.set i ⟨lo, hi, P'⟩) := by
  have hm := h.row _ (List.mem_of_getElem? hr)
  refine ⟨h.bel.trans (g.to_below hm.2.2.1 h.bel.size), ?_, pairwise_set (R := fun a b : Zn => b.hi ≤ a.lo ∨ a.hi ≤ b.lo) (a := ⟨lo, hi, P⟩) (b := ⟨lo, hi, P'⟩) (fun _ h => h) (fun _ h => h) h.ord hr⟩
  intro r hr'
  obtain ⟨j, hj⟩ := List.getElem?_of_mem hr'
  by_cases hij : i = j
  · subst hij
    have hlt : i < L.length := by
      rcases Nat.lt_or_ge i L.length with h1 | h1
      · exact h1
      · rw [List.getElem?_eq_none h1] at hr; cases hr
    rw [List.getElem?_set_self hlt] at hj
    injection hj with hj
    subst hj
    exact ⟨p, hl, hm.2.2.1, Nat.le_trans hm.2.2.2 g.size⟩
  · rw [List.getElem?_set_ne hij] at hj
    obtain ⟨h1, h2, h3, h4⟩ := h.row r (List.mem_of_getElem? hj)
    refine ⟨h2 w w' h1 g.size fun k k1 k2 => g.block k (by omega) ?_, h2, h3, Nat.le_trans h4 g.size⟩
    rcases Nat.lt_or_gt_of_ne hij with hlt | hlt
    · have := pairwise_sep h.ord hr hj hlt
      simp at this; omega
    · have := pairwise_sep h.ord hj hr hlt
      simp at this; omega
theorem own_same {w w' : World} {base e size n : Nat} {v : Value} {xs : List Value} (h : w.ownsRow base e size v n xs) (hb : ∀ g, v.ownBlock = some g → w'.heap[g]? = w.heap[g]?) : w'.ownsRow base e size v n xs := by
  obtain ⟨h1, h2⟩ := h
  refine ⟨h1, ?_⟩
  rcases h2 with h2 | ⟨g, cap, cur, rfl, e2, e3⟩
  · exact .inl h2
  · exact .inr ⟨g, cap, cur, rfl, e2, by rw [hb g rfl]; exact e3⟩
/-- A row of numbers. -/
def ZI (lo hi : Nat) (A : Option Addr) (n c : Nat) (xs : List Int) (w : World) : Prop := w.ownsRow lo 3 1 (.slice A n c) n (iv xs) ∧ ∀ k, (Value.slice A n c).ownBlock = some k → k < hi
theorem local_ZI (lo hi : Nat) (A : Option Addr) (n c : Nat) (xs : List Int) : Local lo hi (ZI lo hi A n c xs) :=
  fun w w' p hs hk => ⟨own_same p.1 fun g hg => hk g (p.1.lt g hg).1 (p.2 g hg), p.2⟩
theorem Zones.pushI {w0 w w' : World} {L : List Zn} (h : Zones w0 w L) {A : Option Addr} {n c : Nat} {xs : List Int} (o : w'.ownsRow w.heap.size 3 1 (.slice A n c) n (iv xs)) (b : Below w.heap.size w w') :
    Zones w0 w' (⟨w.heap.size, w'.heap.size, ZI w.heap.size w'.heap.size A n c xs⟩ :: L) := h.push ⟨o, fun k hk => (o.lt k hk).2⟩ (local_ZI _ _ _ _ _ _) b
section
variable {w0 w w' : World} {L : List Zn} {A : Option Addr} {n c lo hi : Nat} {xs : List Int}
theorem Zones.own (h : Zones w0 w L) (i : Nat) (hr : L[i]? = some ⟨lo, hi, ZI lo hi A n c xs⟩) : w.ownsRow lo 3 1 (.slice A n c) n (iv xs) := (h.at_ i hr).1
theorem Zones.ints (h : Zones w0 w L) (i : Nat) (hr : L[i]? = some ⟨lo, hi, ZI lo hi A n c xs⟩) : Ints w w.heap.size A n xs := own_ints (h.at_ i hr).1
theorem Zones.cap (h : Zones w0 w L) (i : Nat) (hr : L[i]? = some ⟨lo, hi, ZI lo hi A n c xs⟩) : n ≤ c := own_cap (h.at_ i hr).1
theorem Zones.nil_ (h : Zones w0 w L) (i : Nat) (hr : L[i]? = some ⟨lo, hi, ZI lo hi A n c xs⟩) (hA : A = none) : c = 0 := by
  rcases own_block' (h.own i hr) with ⟨_, _, hc⟩ | ⟨g, e, _⟩
  · exact hc
  · rw [hA] at e; cases e
theorem Zones.markI {ys : List Int} (h : Zones w0 w L) (i : Nat) (hr : L[i]? = some ⟨lo, hi, ZI lo hi A n c xs⟩) (o : w'.ownsRow lo 3 1 (.slice A n c) n (iv ys)) (g : w.grownBy w' (Value.slice A n c).ownBlock) : Zones w0 w' (L.set i ⟨lo, hi, ZI lo hi A n c ys⟩) := by
  have hm := h.at_ i hr
  exact h.mark i hr ⟨o, hm.2⟩ (local_ZI _ _ _ _ _ _) (Touch.of_grown g fun k hk => ⟨(hm.1.lt k hk).1, hm.2 k hk⟩)
end
end Go.Proofs.Ytkcabllnlbcgdaa
