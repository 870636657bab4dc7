/-
  Drawing regions that store a channel into a second block: the relation between worlds, predicates, the store. No condition.
-/
import Derived.Test.YtmenehgbhgehjaaDrwV
import Derived.Test.YtmenehgbhgehjaaTypedG
namespace Go.Proofs.Ytmenehgbhgehjaa
open Go.RowKit
set_option linter.unusedVariables false
set_option linter.unusedSimpArgs false
/-- Two blocks may change; the second, once it holds u, holds u. -/
def G2 (g r : Nat) (u : Vo) (w w' : World) : Prop :=
  (w'.os = w.os ∧ w'.tape = w.tape ∧ w'.output = w.output) ∧ w.heap.size ≤ w'.heap.size ∧ (∀ k, k < w.heap.size → k ≠ g → k ≠ r → w'.heap[k]? = w.heap[k]?) ∧ (HasV w r u → HasV w' r u)
theorem G2.refl (g r : Nat) (u : Vo) (w : World) : G2 g r u w w := ⟨⟨rfl, rfl, rfl⟩, Nat.le_refl _, fun _ _ _ _ => rfl, fun h => h⟩
theorem G2.trans {g r : Nat} {u : Vo} {w w' w'' : World} (h : G2 g r u w w') (h' : G2 g r u w' w'') : G2 g r u w w'' :=
  ⟨⟨h'.1.1.trans h.1.1, h'.1.2.1.trans h.1.2.1, h'.1.2.2.trans h.1.2.2⟩, Nat.le_trans h.2.1 h'.2.1, fun k hk h1 h2 => (h'.2.2.1 k (Nat.lt_of_lt_of_le hk h.2.1) h1 h2).trans (h.2.2.1 k hk h1 h2), fun hv => h'.2.2.2 (h.2.2.2 hv)⟩
theorem G2.of {g r : Nat} {u : Vo} {w w' : World} (h : w.grownBy w' (some g)) (hgr : g ≠ r) : G2 g r u w w' :=
  ⟨⟨h.os, h.tape, h.output⟩, h.size, fun k hk h1 _ => h.block k hk (ne_some h1), fun hv => hv.kept h (ne_some hgr)⟩
theorem G2.store {g r : Nat} {u z : Vo} {w : World} (h : HasV w r z) : G2 g r u w (setV w r u) := by
  obtain ⟨h1, h2⟩ := h.set u
  exact ⟨⟨h2.os, h2.tape, h2.output⟩, h2.size, fun k hk _ hr => h2.block k hk (ne_some hr), fun _ => h1⟩
theorem G2.cell {g r b o : Nat} {u : Vo} {w w' : World} {v : Value} (h : G2 g r u w w') (hb : b < w.heap.size) (h1 : b ≠ g) (h2 : b ≠ r) (hc : w.cell? ⟨b, o, none⟩ = some v) : w'.cell? ⟨b, o, none⟩ = some v :=
  (World.cell?_of_block (h.2.2.1 b hb h1 h2)).trans hc
theorem HasV.keptG {g r b : Nat} {u v : Vo} {w w' : World} (h : HasV w b v) (hG : G2 g r u w w') (hne : b ≠ g ∧ b ≠ r) : HasV w' b v := by
  have e := hG.2.2.1 b h.lt hne.1 hne.2
  obtain ⟨h1, h2⟩ := h
  refine ⟨h1, ?_⟩
  rcases h2 with h2 | ⟨k, cap, cur, e1, e2, e3⟩
  · exact .inl h2
  · injection e1 with e4 _ e5
    injection e4 with e4
    injection e4 with e4
    subst e4
    subst e5
    exact .inr ⟨b, 1, cur, rfl, e2, by rw [e]; exact e3⟩
theorem Rd.store2 {w w' : World} {g r len cap p : Nat} {A : Option Addr} (h : Rd w g A len cap p) (hg : w.grownBy w' (some r)) (hgr : g ≠ r) (hcr : ∀ b off, 0 < len → A = some ⟨b, off, none⟩ → b ≠ r) : Rd w' g A len cap p := by
  refine ⟨h.1.grown hg (ne_some hgr), fun hl => ?_, h.2.2⟩
  obtain ⟨b, off, e, hne, hb, hc⟩ := h.2.1 hl
  refine ⟨b, off, e, hne, Nat.lt_of_lt_of_le hb hg.size, fun k hk => ?_⟩
  obtain ⟨x, hx, h0⟩ := hc k hk
  exact ⟨x, (World.cell?_of_block (hg.block b hb (ne_some (hcr b off hl e)))).trans hx, h0⟩
theorem code_far {w : World} {A : Option Addr} {n c len r : Nat} {zs : List Int} (h : IsRow .u8 w A n c zs) (hl : len ≤ n) (hr : w.heap.size ≤ r) : ∀ b off, 0 < len → A = some ⟨b, off, none⟩ → b ≠ r := by
  intro b off h0 e
  rcases h with ⟨_, h1, _⟩ | ⟨x, rfl, h1, h2, h3, hc, hw⟩
  · omega
  · injection e with e
    subst e
    have := lt_of_cell (hc 0 (by omega))
    rw [block_of_add] at this
    simp only at this
    omega
def Arr2 (g r n : Nat) (lo hi : Int) (w : World) (v : Value) : Prop :=
  ∃ b, v = .slice (some ⟨b, 0, none⟩) n n ∧ (b ≠ g ∧ b ≠ r) ∧ b < w.heap.size ∧ ∀ k, k < n → ∃ x : Int, w.cell? ⟨b, k, none⟩ = some (.int .i64 x) ∧ lo ≤ x ∧ x ≤ hi
def El2 (g r : Nat) (lo hi : Int) (w : World) (v : Value) : Prop := ∃ b j, v = .pointer (some ⟨b, j, none⟩) ∧ (b ≠ g ∧ b ≠ r) ∧ b < w.heap.size ∧ ∃ x : Int, w.cell? ⟨b, j, none⟩ = some (.int .i64 x) ∧ lo ≤ x ∧ x ≤ hi
theorem stG_arr (g r n : Nat) (u : Vo) (lo hi : Int) : StableG (G2 g r u) (Arr2 g r n lo hi) := by
  rintro w w' v hg ⟨b, rfl, hne, hb, hc⟩
  refine ⟨b, rfl, hne, Nat.lt_of_lt_of_le hb hg.2.1, fun k hk => ?_⟩
  obtain ⟨x, hx, h0⟩ := hc k hk
  exact ⟨x, hg.cell hb hne.1 hne.2 hx, h0⟩
theorem stG_el (g r : Nat) (u : Vo) (lo hi : Int) : StableG (G2 g r u) (El2 g r lo hi) := by
  rintro w w' v hg ⟨b, j, rfl, hne, hb, x, hx, h0⟩
  exact ⟨b, j, rfl, hne, Nat.lt_of_lt_of_le hb hg.2.1, x, hg.cell hb hne.1 hne.2 hx, h0⟩
section
variable {o : Oper} {a : Act} {w : World} {K : Act → World → Prop} {Q : Exit → Act → World → Prop}
theorem ob_storeV (x y : Operand) {r : Nat} {z u : Vo} (ho : o.op = .store 24 x y) (hd : o.dst = none) (hx : a.eval x = .pointer (some ⟨r, 0, none⟩)) (hy : a.eval y = u.val) (hv : HasV w r z)
    (h : K (a.put o.dst undef) (setV w r u)) : o.wp Try.prog a w K Q := by
  obtain ⟨h0, h1, h2, h3, h4⟩ := hv.cells
  obtain ⟨f0, f1, f2, f3, f4⟩ := hv.froz
  have hr : (Instr.storeAt 24 (.pointer (some ⟨r, 0, none⟩)) u.val).run Try.prog w = .ok () (setV w r u) := by
    simp [go_sem, setV, h0, h1, h2, h3, h4, f0, f1, f2, f3, f4]
  unfold Oper.wp execOp
  simp only [ho, hx, hy, hr, Sem.run_bind, Sem.run_pure, Result.andThen_ok]
  exact h
end
/-- The reader's making, with what it takes of the code. -/
theorem open_any2 (A : Option Addr) (n c : Nat) (zs : List Int) (w : World) (h : IsRow .u8 w A n c zs) :
    Calls Try.prog 53 #[.slice A n c] w fun e w' => ∃ len cap, e = .returned (.pointer (some ⟨w.heap.size, 0, none⟩)) ∧ Rd w' w.heap.size A len cap 0 ∧ Below w.heap.size w w' ∧ len ≤ n := by
  have hn : n ≤ c ∧ c ≤ 9223372036854775807 := by
    rcases h with ⟨_, h1, h2, _⟩ | ⟨x, _, h1, h2, _⟩
    · omega
    · unfold maxLen at h2; omega
  by_cases h0 : n ≤ 2000
  · have hc := code_of_row (g := w.heap.size) h (Nat.le_refl n) (Nat.le_refl _)
    have H := Lib.hid hc
    have hh := Lib.hid h
    clear hc h
    have h2 : ¬ (2000 < n) := by omega
    go_enter Try.func53, Try.ntmps53
    go_wp2
    go_ret
    exact ⟨n, c, rfl, ⟨Blk.new _ _ _, H.out.grown (World.grownBy_alloc _ _ _), h0, hn.1⟩, (Below.refl _ _).alloc (Nat.le_refl _) _, Nat.le_refl _⟩
  · have hc := code_of_row (g := w.heap.size) h (show 2000 ≤ n by omega) (Nat.le_refl _)
    have H := Lib.hid hc
    have hh := Lib.hid h
    clear hc h
    have h2 : 2000 < n := by omega
    have h3 : 2000 ≤ c := by omega
    have h4 : c ≤ 9223372036854775807 := hn.2
    go_enter Try.func53, Try.ntmps53
    go_wp2
    go_ret
    exact ⟨2000, c, rfl, ⟨Blk.new _ _ _, H.out.grown (World.grownBy_alloc _ _ _), by omega, h3⟩, (Below.refl _ _).alloc (Nat.le_refl _) _, by omega⟩
end Go.Proofs.Ytmenehgbhgehjaa
