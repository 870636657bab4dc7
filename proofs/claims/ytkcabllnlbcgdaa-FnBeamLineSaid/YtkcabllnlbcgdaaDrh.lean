/-
  Drawn backgrounds and scenes: what the reader leaves alone; boxes set cell by cell; rows of structs grown; the operations of the drawing regions. No condition.
-/
import Derived.Test.YtkcabllnlbcgdaaDrt
import Derived.Test.YtkcabllnlbcgdaaZone
namespace Go.Proofs.Ytkcabllnlbcgdaa
open Go.RowKit
set_option linter.unusedVariables false
set_option linter.unusedSimpArgs false
theorem Blk.rd {w w' : World} {b g : Nat} {t : TypeId} {cs : Array Value} (h : Blk w b t cs) (hg : w.grownBy w' (some g)) (hne : b ≠ g) : Blk w' b t cs := h.grown hg (by intro e; injection e with e; exact hne e)
theorem Drs.set {w W : World} {g len cap p0 q : Nat} {A : Option Addr} (h : Drs w W g A len cap p0 q) (p : Addr) (v : Value) (hp : w.heap.size ≤ p.block) : Drs w (W.setCell p v) g A len cap p0 q :=
  h.push (row := some p.block) ⟨rfl, rfl, rfl, by simp [World.setCell], fun k hk hne => Below.heap_setCell W p v k (fun e => hne (by rw [e]))⟩ (by intro k hk; injection hk with hk; omega)
def setN (w : World) (b : Nat) : Nat → List Value → World
  | _, [] => w
  | k, v :: vs => setN (w.setCell ⟨b, k, none⟩ v) b (k + 1) vs
theorem setN_heap {b g : Nat} (h : g ≠ b) : ∀ (vs : List Value) (k : Nat) (w : World), (setN w b k vs).heap[g]? = w.heap[g]?
  | [], _, _ => rfl
  | v :: vs, k, w => (setN_heap h vs (k + 1) _).trans (Below.heap_setCell w ⟨b, k, none⟩ v g h)
theorem setN_size {b : Nat} : ∀ (vs : List Value) (k : Nat) (w : World), (setN w b k vs).heap.size = w.heap.size
  | [], _, _ => rfl
  | v :: vs, k, w => (setN_size vs (k + 1) _).trans (by simp [World.setCell])
theorem setN_below {b B : Nat} (hb : B ≤ b) : ∀ (vs : List Value) (k : Nat) (a w : World), Below B a w → Below B a (setN w b k vs)
  | [], _, _, _, h => h
  | v :: vs, k, a, w, h => setN_below hb vs (k + 1) a _ (h.setCell (p := ⟨b, k, none⟩) hb v)
theorem setN_far {b g : Nat} {t : TypeId} {cs : Array Value} {w : World} (h : Blk w g t cs) (hg : g ≠ b) (vs : List Value) (k : Nat) : Blk (setN w b k vs) g t cs := (setN_heap hg vs k w).trans h
def setA (cs : Array Value) : Nat → List Value → Array Value
  | _, [] => cs
  | k, v :: vs => setA (cs.setIfInBounds k v) (k + 1) vs
theorem setN_blk {b : Nat} {t : TypeId} : ∀ (vs : List Value) (k : Nat) (w : World) (cs : Array Value), Blk w b t cs → Blk (setN w b k vs) b t (setA cs k vs)
  | [], _, _, _, h => h
  | v :: vs, k, w, cs, h => setN_blk vs (k + 1) _ _ (h.set_ k v)
theorem Drs.setN {w : World} {g len cap p0 q b : Nat} {A : Option Addr} (hb : w.heap.size ≤ b) : ∀ (vs : List Value) (k : Nat) (W : World), Drs w W g A len cap p0 q → Drs w (setN W b k vs) g A len cap p0 q
  | [], _, _, h => h
  | v :: vs, k, W, h => Drs.setN hb vs (k + 1) _ (h.set ⟨b, k, none⟩ v hb)
/-- A type of boxes: backgrounds and scenes. -/
def BoxT (t : TypeId) : Prop := t = 26 ∨ t = 61
/-- Only block g and boxes of backgrounds and scenes may have changed. -/
structure Keep (g : Nat) (w w' : World) : Prop where
  size : w.heap.size ≤ w'.heap.size
  block : ∀ k, k < w.heap.size → k ≠ g → (∀ t cs, BoxT t → ¬ Blk w k t cs) → w'.heap[k]? = w.heap[k]?
theorem Keep.trans {g : Nat} {a b c : World} (h : Keep g a b) (k : Keep g b c) : Keep g a c :=
  ⟨Nat.le_trans h.size k.size, fun i hi hg hm => by
    have e := h.block i hi hg hm
    exact (k.block i (Nat.lt_of_lt_of_le hi h.size) hg fun t cs ht hb => hm t cs ht (e.symm.trans hb)).trans e⟩
theorem Keep.of_grown {g : Nat} {w w' : World} (h : w.grownBy w' (some g)) : Keep g w w' := ⟨h.size, fun k hk hg _ => h.block k hk (by intro e; injection e with e; exact hg e)⟩
theorem Keep.of_below {g : Nat} {w w' : World} (h : Below w.heap.size w w') : Keep g w w' := ⟨h.size, fun k hk _ _ => h.block k hk⟩
theorem Keep.refl (g : Nat) (w : World) : Keep g w w := ⟨Nat.le_refl _, fun _ _ _ _ => rfl⟩
theorem Keep.set {g b k : Nat} {w : World} {t : TypeId} {cs : Array Value} {v : Value} (h : Blk w b t cs) (ht : BoxT t) : Keep g w (w.setCell ⟨b, k, none⟩ v) :=
  ⟨by simp [World.setCell], fun i hi hg hm => Below.heap_setCell w ⟨b, k, none⟩ v i (fun e => hm t cs ht (by have e : i = b := e; rw [e]; exact h))⟩
theorem Keep.setN {g b : Nat} {t : TypeId} (ht : BoxT t) : ∀ (vs : List Value) (k : Nat) (w : World) (cs : Array Value), Blk w b t cs → Keep g w (setN w b k vs)
  | [], _, _, _, _ => Keep.refl _ _
  | v :: vs, k, w, cs, h => (Keep.set h ht).trans (Keep.setN ht vs (k + 1) _ _ (h.set_ k v))
theorem own_keep {w w' : World} {base e size n g : Nat} {v : Value} {xs : List Value} (h : w.ownsRow base e size v n xs) (hk : Keep g w w') (hb : g < base) (he : ∀ t, BoxT t → e ≠ t) : w'.ownsRow base e size v n xs :=
  own_same h fun q hq => hk.block q (h.lt q hq).2 (by have := (h.lt q hq).1; omega) fun t cs ht hb => by
    obtain ⟨A, c, rfl⟩ := own_form h
    exact own_blk_ne h hb (he t ht) hq
/-- P holds whatever the reader does from here. -/
def Sure (g : Nat) (P : World → Prop) (w : World) : Prop := ∀ w', Keep g w w' → P w'
theorem Sure.keep {g : Nat} {P : World → Prop} {w w' : World} (h : Sure g P w) (hg : Keep g w w') : Sure g P w' := fun w2 h2 => h w2 (hg.trans h2)
theorem Sure.rd {g : Nat} {P : World → Prop} {w w' : World} (h : Sure g P w) (hg : w.grownBy w' (some g)) : Sure g P w' := h.keep (Keep.of_grown hg)
theorem Sure.now {g : Nat} {P : World → Prop} {w : World} (h : Sure g P w) : P w := h w (Keep.refl _ _)
theorem ints_tail {w : World} {B m b o : Nat} {xs : List Int} (h : Ints w B (some ⟨b, o, none⟩) (m + 1) xs) : Ints w B (some ⟨b, o + 1, none⟩) m xs.tail := by
  obtain ⟨h1, h2⟩ := h
  have hl : xs.length = m + 1 := by simpa [iv_len] using h1
  refine ⟨by simp [iv_len, hl], fun hm => ?_⟩
  obtain ⟨ad, e, hb, hc⟩ := h2 (by omega)
  injection e with e
  subst e
  refine ⟨_, rfl, hb, fun j u hj => ?_⟩
  have := hc (j + 1) u (by
    match xs, hl with
    | x :: r, _ => simpa [iv] using hj)
  by_cases hj0 : j = 0
  · subst hj0; simpa [Addr.add] using this
  · simpa [Addr.add, hj0, Nat.add_assoc, Nat.add_comm 1 j] using this
set_option maxRecDepth 8000 in
/-- append of some structs that lie elsewhere. -/
theorem push_cells {ops : Array Oper} {rest : List Oper} {o : Oper} {a : Act} {Q : Exit → Act → World → Prop} (w : World) (hgd : o.guard = none) (s x : Operand) (S E : TypeId) (z : Value) (size b : Nat)
    (ho : o.op = .call { callee := .builtin .append, args := #[s, x], argTypes := #[S, S] })
    (hinfo : (Try.prog.info? E).map (fun i => (i.zero, i.size, i.bytes)) = some (some z, size, b)) (hS : Try.prog.underlying S = some (.slice E)) (hz : z.cells.size = size) (hs0 : 0 < size) (hbz : b ≤ 1000)
    (base n c m d B : Nat) (A X : Option Addr) (xs ys : List Value) (hs : a.eval s = .slice A n c) (hx : a.eval x = .slice X m d)
    (hown : w.ownsRow base E size (.slice A n c) n xs) (hy : Reads w B size X m ys) (hone : ∀ u ∈ ys, u.oneCell' = true) (hd : X = none → d = 0) (hn : n + m ≤ 1000000) (hb : base ≤ w.heap.size)
    (h : ∀ A' c' w', w'.ownsRow base E size (.slice A' (n + m) c') (n + m) (xs ++ ys) → w.grownBy w' (Value.slice A n c).ownBlock → wpList Try.prog ops Q rest (a.put o.dst (.slice A' (n + m) c')) w') :
    wpList Try.prog ops Q (o :: rest) a w := by
  obtain ⟨i0, hi0, hz0, hz1, hz2⟩ := info_parts hinfo
  cases X with
  | none =>
    have hm : m = 0 := by
      rcases Nat.eq_zero_or_pos m with h0 | h0
      · exact h0
      · obtain ⟨ad, e, _⟩ := hy.2 h0; cases e
    subst hm
    have hd := hd rfl
    subst hd
    have hl : ys = [] := by have := hy.1; simp at this; exact this
    subst hl
    refine wpList_append_own_none hgd s x S ho base E i0 size hS hi0 _ n xs hs hown hx ?_
    have := h A c w (by simpa using hown) (World.grownBy.refl _ _)
    simpa using this
  | some ad =>
    refine wpList_append_own_at w hgd s x S ho base E i0 z size b hS hi0 hz0 hz1 hz2 hz hs0 _ n xs hs hown ad m d ys hx hy.1 ?_ hone (by simp only [maxLen]; omega) (Nat.le_trans (Nat.mul_le_mul_left _ hbz) (by omega)) hb ?_
    · intro j u hj
      have hm : 0 < m := by
        have h1 := hy.1
        have h2 : j < ys.length := by
          rcases Nat.lt_or_ge j ys.length with h3 | h3
          · exact h3
          · rw [List.getElem?_eq_none h3] at hj; cases hj
        rcases Nat.eq_zero_or_pos m with h0 | h0
        · subst h0; omega
        · exact h0
      obtain ⟨ad', e, _, hc⟩ := hy.2 hm
      injection e with e
      subst e
      exact hc j u hj
    · intro v' w' ho' hg' _ hat
      obtain ⟨A', c', rfl⟩ := own_form ho'
      exact h A' c' w' ho' hg'
end Go.Proofs.Ytkcabllnlbcgdaa
