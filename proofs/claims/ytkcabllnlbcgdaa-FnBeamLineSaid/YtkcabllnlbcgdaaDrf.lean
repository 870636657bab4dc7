/-
  Backgrounds that the statements draw: the reference's l20Field. No condition.
-/
import Derived.Test.YtkcabllnlbcgdaaDrh
import Derived.Test.YtkcabllnlbcgdaaFieL
import Derived.Great.BuildSlice
import Derived.Deep.DeepCutAuto
namespace Go.Proofs.Ytkcabllnlbcgdaa
open Go.RowKit
set_option linter.unusedVariables false
set_option linter.unusedSimpArgs false
abbrev Tl := { px : List Int // px.length = 64 }
def AggTile (_ : World) (v : Value) : Prop := ∃ t : Tl, v = .agg (iv t.1).toArray
theorem st_tileW (g : Nat) : Stable (some g) AggTile := fun _ _ _ _ h => h
def LitTile (g : Nat) (w : World) (v : Value) : Prop := ∃ (b : Nat) (t : Tl), v = .slice (some ⟨b, 0, none⟩) 1 1 ∧ b ≠ g ∧ Blk w b 83 (iv t.1).toArray
theorem st_litTile (g : Nat) : Stable (some g) (LitTile g) := by
  rintro w w' v hg ⟨b, t, rfl, hne, hb⟩
  exact ⟨b, t, rfl, hne, hb.rd hg hne⟩
theorem litTile_new {g : Nat} (t : Tl) (w : World) (hg : w.heap.size ≠ g) : LitTile g (w.alloc (.cells (iv t.1).toArray 83)) (.slice (some ⟨w.heap.size, 0, none⟩) 1 1) := ⟨_, t, rfl, hg, Blk.new _ _ _⟩
def zeroF : Array Value := #[.int .i64 0, .slice none 0 0, .slice none 0 0, .int .i64 0, .int .i64 0]
/-- A box just made. -/
def NewB (g s : Nat) (w : World) (v : Value) : Prop := ∃ b, v = .pointer (some ⟨b, 0, none⟩) ∧ b ≠ g ∧ s ≤ b ∧ Blk w b 26 zeroF
theorem st_newb (g s : Nat) : Stable (some g) (NewB g s) := by
  rintro w w' v hg ⟨b, e, h1, h2, h3⟩
  exact ⟨b, e, h1, h2, h3.rd hg h1⟩
theorem newB_new {g s : Nat} {w : World} (h1 : w.heap.size ≠ g) (h2 : s ≤ w.heap.size) : NewB g s (w.alloc (.cells zeroF 26)) (.pointer (some ⟨w.heap.size, 0, none⟩)) := ⟨_, rfl, h1, h2, Blk.new _ _ _⟩
def fz3 (t : Tri) : Value := .agg #[.int .i64 t.1, .slice none 0 0, .slice none 0 0, .int .i64 t.2.1, .int .i64 t.2.2]
def AggF (_ : World) (v : Value) : Prop := ∃ t : Tri, v = fz3 t ∧ 1 ≤ t.1 ∧ t.1 ≤ 5
theorem st_aggF (g : Nat) : Stable (some g) AggF := fun _ _ _ _ h => h
theorem aggF_mk {a b c : Int} (h1 : 1 ≤ a) (h2 : a ≤ 5) : 1 ≤ ((a, b, c) : Tri).1 ∧ ((a, b, c) : Tri).1 ≤ 5 := ⟨h1, h2⟩
def AggPt (b n : Nat) (_ : World) (v : Value) : Prop := ∃ j : Nat, v = .pointer (some ⟨b, j, none⟩) ∧ j < n
theorem st_ptin (g b n : Nat) : Stable (some g) (AggPt b n) := fun _ _ _ _ h => h
theorem buildslice_tile (W : World) (px : List Int) (hp : px.length = 64) : (Instr.buildSlice 24 1 #[(0, .agg (iv px).toArray)]).run Try.prog W = .ok (.slice (some ⟨W.heap.size, 0, none⟩) 1 1) (W.alloc (.cells (iv px).toArray 83)) := by
  obtain ⟨ie, hie, hz, hs, -⟩ := info_parts tile_infoZ
  have hs : ie.size = 64 := by rw [hs]; rfl
  refine run_buildSlice W 24 83 1 _ _ ie _ Try.underlying24 hie hz (by rw [hs]; decide) (by rw [hs]; decide) ?_
  rw [hs]
  have h1 : ∀ v ∈ [Value.agg (iv px).toArray], v.cells.size = 64 := fun v hv => by
    simp only [List.mem_singleton] at hv
    subst hv
    show (iv px).toArray.size = 64
    rw [List.size_toArray, iv_len, hp]
  have := Great.fill_whole (s := 64) (by decide) [Value.agg (iv px).toArray] ((Array.range (1 * 64)).map ((Value.agg (iv z64).toArray).cells[· % (Value.agg (iv z64).toArray).cells.size]!)) h1 (by simp)
  exact this.trans (by simp [Value.cells])
section
variable {o : Oper} {a : Act} {w : World} {K : Act → World → Prop} {Q : Exit → Act → World → Prop}
theorem ob_allocM (ho : o.op = .alloc 26) (h : K (a.put o.dst (.pointer (some ⟨w.heap.size, 0, none⟩))) (w.alloc (.cells zeroF 26))) : o.wp Try.prog a w K Q := by
  unfold Oper.wp execOp
  simp only [ho]
  simp [go_sem]
  exact h
theorem ob_agg_fld {x0 x1 x2 : Operand} {u0 u1 u2 : Int} (ho : o.op = .build 26 #[(0, x0), (3, x1), (4, x2)]) (h0 : a.eval x0 = .int .i64 u0) (h1 : a.eval x1 = .int .i64 u1) (h2 : a.eval x2 = .int .i64 u2)
    (h : K (a.put o.dst (fz3 (u0, u1, u2))) w) : o.wp Try.prog a w K Q := by
  have hr : (Instr.build 26 #[(0, .int .i64 u0), (3, .int .i64 u1), (4, .int .i64 u2)]).run Try.prog w = .ok (fz3 (u0, u1, u2)) w := by simp [go_sem, fz3]
  unfold Oper.wp execOp
  simp only [ho, Sem.run_bind, Sem.run_pure, Result.andThen_ok, List.map_toArray, List.map_cons, List.map_nil, h0, h1, h2, hr]
  exact h
theorem ob_fldK (x : Operand) (f : Nat) {b : Nat} (ho : o.op = .fieldAddr 26 x f) (hf : f < 5) (hx : a.eval x = .pointer (some ⟨b, 0, none⟩)) (h : K (a.put o.dst (.pointer (some ⟨b, f, none⟩))) w) : o.wp Try.prog a w K Q := by
  have hr : (Instr.fieldAt 26 (.pointer (some ⟨b, 0, none⟩)) f).run Try.prog w = .ok (.pointer (some ⟨b, f, none⟩)) w := by
    rcases (show f = 0 ∨ f = 1 ∨ f = 2 ∨ f = 3 ∨ f = 4 by omega) with rfl | rfl | rfl | rfl | rfl <;> simp [go_sem]
  unfold Oper.wp execOp
  simp only [ho, hx, hr, Sem.run_bind, Sem.run_pure, Result.andThen_ok]
  exact h
theorem ob_loadM (x : Operand) {b j : Nat} {v : Value} (ho : o.op = .load 23 x) (hx : a.eval x = .pointer (some ⟨b, j, none⟩)) (hc : w.cell? ⟨b, j, none⟩ = some v)
    (h : K (a.put o.dst v) w) : o.wp Try.prog a w K Q := by
  have hr : (Instr.loadAt 23 (.pointer (some ⟨b, j, none⟩))).run Try.prog w = .ok v w := by simp [go_sem, hc]
  unfold Oper.wp execOp
  simp only [ho, hx, hr, Sem.run_bind, Sem.run_pure, Result.andThen_ok]
  exact h
theorem ob_loadMT (x : Operand) {b j : Nat} {v : Value} (ho : o.op = .load 24 x) (hx : a.eval x = .pointer (some ⟨b, j, none⟩)) (hc : w.cell? ⟨b, j, none⟩ = some v)
    (h : K (a.put o.dst v) w) : o.wp Try.prog a w K Q := by
  have hr : (Instr.loadAt 24 (.pointer (some ⟨b, j, none⟩))).run Try.prog w = .ok v w := by simp [go_sem, hc]
  unfold Oper.wp execOp
  simp only [ho, hx, hr, Sem.run_bind, Sem.run_pure, Result.andThen_ok]
  exact h
theorem ob_lenT (x : Operand) {A : Option Addr} {n c : Nat} (ho : o.op = .call { callee := .builtin .len, args := #[x], argTypes := #[24] }) (hx : a.eval x = .slice A n c) (h : K (a.put o.dst (.int .i64 n)) w) : o.wp Try.prog a w K Q := by
  have hr : ∀ ty, (Builtin.len_ #[24] ty #[.slice A n c]).run Try.prog w = .ok (.int .i64 n) w := by intro ty; simp [go_sem]
  unfold Oper.wp execOp
  simp only [ho, resolve, invoke, builtin, Sem.run_bind, Sem.run_pure, Result.andThen_ok, List.map_toArray, List.map_cons, List.map_nil, hx, hr]
  exact h
theorem ob_indexT (x y : Operand) {b n c : Nat} (ho : o.op = .indexAddr 24 x y) (hx : a.eval x = .slice (some ⟨b, 0, none⟩) n c) (hy : a.eval y = .int .i64 0) (h1 : 0 < n)
    (h : K (a.put o.dst (.pointer (some ⟨b, 0, none⟩))) w) : o.wp Try.prog a w K Q := by
  have hr : (Instr.indexAt 24 (.slice (some ⟨b, 0, none⟩) n c) (.int .i64 0)).run Try.prog w = .ok (.pointer (some ⟨b, 0, none⟩)) w := by simp [go_sem, h1]
  unfold Oper.wp execOp
  simp only [ho, hx, hy, hr, Sem.run_bind, Sem.run_pure, Result.andThen_ok]
  exact h
theorem ob_build1 (x0 : Operand) {u0 : Int} (ho : o.op = .buildSlice 23 1 #[(0, x0)]) (h0 : a.eval x0 = .int .i64 u0)
    (h : K (a.put o.dst (.slice (some ⟨w.heap.size, 0, none⟩) 1 1)) (w.alloc (.cells #[.int .i64 u0] 3))) : o.wp Try.prog a w K Q := by
  have hr : (Instr.buildSlice 23 1 #[(0, .int .i64 u0)]).run Try.prog w = .ok (.slice (some ⟨w.heap.size, 0, none⟩) 1 1) (w.alloc (.cells #[.int .i64 u0] 3)) := by simp [go_sem]
  unfold Oper.wp execOp
  simp only [ho, Sem.run_bind, Sem.run_pure, Result.andThen_ok, List.map_toArray, List.map_cons, List.map_nil, h0, hr]
  exact h
theorem ob_lit_tile {x : Operand} {t : Tl} (ho : o.op = .buildSlice 24 1 #[(0, x)]) (hx : a.eval x = .agg (iv t.1).toArray)
    (h : K (a.put o.dst (.slice (some ⟨w.heap.size, 0, none⟩) 1 1)) (w.alloc (.cells (iv t.1).toArray 83))) : o.wp Try.prog a w K Q := by
  unfold Oper.wp execOp
  simp only [ho, Sem.run_bind, Sem.run_pure, Result.andThen_ok, List.map_toArray, List.map_cons, List.map_nil, hx, buildslice_tile w t.1 t.2]
  exact h
end
theorem l20Tile_z {n : Int} {w : World} (n0 : 0 ≤ n) (n1 : n ≤ 1000000000) (g : Nat) (A : Option Addr) (len cap p : Nat) (h : Rd w g A len cap p) (hp : p ≤ 600000000) :
    Calls Try.prog 81 #[.pointer (some ⟨g, 0, none⟩), .int .i64 n] w (Draws g A len cap p 200 w AggTile) :=
  (l20Tile_any g A len cap p n w h (by omega) n0 n1).mono fun e w' ⟨v, e1, ⟨px, h1, h2⟩, r⟩ => ⟨v, e1, ⟨⟨px, h1⟩, h2⟩, r⟩
/-- A background that is being drawn, in box bx. -/
structure FSt (g lo l2 bx : Nat) (f : Fld) (w : World) : Prop where
  blk : Blk w bx 26 f.cs
  til : w.ownsRow lo 83 64 (.slice f.T f.tn f.tc) f.tn (fl64 f.ts)
  t64 : ∀ t ∈ f.ts, t.length = 64
  tlt : ∀ q, (Value.slice f.T f.tn f.tc).ownBlock = some q → q < l2
  map : w.ownsRow l2 3 1 (.slice f.A f.n f.c) f.n (iv f.ms)
  ord : g < bx ∧ bx < lo ∧ lo ≤ l2 ∧ l2 ≤ w.heap.size
section
variable {g lo l2 bx : Nat} {f : Fld} {w w' : World}
theorem FSt.rd (h : FSt g lo l2 bx f w) (hg : w.grownBy w' (some g)) : FSt g lo l2 bx f w' := by
  obtain ⟨a, b, c, d, e, o1, o2, o3, o4⟩ := h
  exact ⟨a.rd hg (by omega), own_rd b hg (by omega), c, d, own_rd e hg (by omega), o1, o2, o3, Nat.le_trans o4 hg.size⟩
theorem FSt.below (h : FSt g lo l2 bx f w) (hb : Below w.heap.size w w') : FSt g lo l2 bx f w' := by
  obtain ⟨a, b, c, d, e, o1, o2, o3, o4⟩ := h
  exact ⟨a.below hb a.lt, own_below b hb, c, d, own_below e hb, o1, o2, o3, Nat.le_trans o4 hb.size⟩
theorem FSt.newT {W sx sy : Int} {T T' : Option Addr} {tn tc tn' tc' : Nat} {ts ts' : List (List Int)} (h : FSt g lo l2 bx ⟨W, none, 0, 0, [], T, tn, tc, ts, sx, sy⟩ w) (hg : w.grownBy w' (Value.slice T tn tc).ownBlock)
    (o : w'.ownsRow lo 83 64 (.slice T' tn' tc') tn' (fl64 ts')) (h64 : ∀ t ∈ ts', t.length = 64) :
    FSt g lo w'.heap.size bx ⟨W, none, 0, 0, [], T', tn', tc', ts', sx, sy⟩ (w'.setCell ⟨bx, 2, none⟩ (.slice T' tn' tc')) := by
  obtain ⟨a, b, c, d, e, o1, o2, o3, o4⟩ := h
  have hne : some bx ≠ (Value.slice T tn tc).ownBlock := fun q => by have := (b.lt bx q.symm).1; omega
  have a' := (a.grown hg hne).set_ 2 (.slice T' tn' tc')
  refine ⟨a', own_same o fun q hq => Below.heap_setCell w' ⟨bx, 2, none⟩ _ q (show q ≠ bx by have := (o.lt q hq).1; omega), h64, fun q hq => (o.lt q hq).2, World.ownsRow_nil _ _ _ _, o1, o2, ?_, by simp [World.setCell]⟩
  exact Nat.le_trans (Nat.le_trans o3 o4) hg.size
theorem FSt.newM {W sx sy : Int} {A A' T : Option Addr} {n c n' c' tn tc : Nat} {ms ms' : List Int} {ts : List (List Int)} (h : FSt g lo l2 bx ⟨W, A, n, c, ms, T, tn, tc, ts, sx, sy⟩ w) (hg : w.grownBy w' (Value.slice A n c).ownBlock)
    (o : w'.ownsRow l2 3 1 (.slice A' n' c') n' (iv ms')) :
    FSt g lo l2 bx ⟨W, A', n', c', ms', T, tn, tc, ts, sx, sy⟩ (w'.setCell ⟨bx, 1, none⟩ (.slice A' n' c')) := by
  obtain ⟨a, b, c, d, e, o1, o2, o3, o4⟩ := h
  have hne : some bx ≠ (Value.slice A n _).ownBlock := fun q => by have := (e.lt bx q.symm).1; omega
  have a' := (a.grown hg hne).set_ 1 (.slice A' n' c')
  have b' := own_same b fun q hq => hg.block q (b.lt q hq).2 (fun z => by have h1 := d q hq; have h2 := (e.lt q z.symm).1; omega)
  refine ⟨a', own_same b' fun q hq => Below.heap_setCell w' ⟨bx, 1, none⟩ _ q (show q ≠ bx by have := (b'.lt q hq).1; omega), c, d, own_same o fun q hq => Below.heap_setCell w' ⟨bx, 1, none⟩ _ q (show q ≠ bx by have := (o.lt q hq).1; omega), o1, o2, o3, ?_⟩
  have := hg.size
  simp [World.setCell]; omega
theorem FSt.setM {W sx sy : Int} {T : Option Addr} {b n c tn tc : Nat} {ms : List Int} {ts : List (List Int)} (h : FSt g lo l2 bx ⟨W, some ⟨b, 0, none⟩, n, c, ms, T, tn, tc, ts, sx, sy⟩ w) (j : Nat) (y : Int) :
    FSt g lo l2 bx ⟨W, some ⟨b, 0, none⟩, n, c, ms.set j y, T, tn, tc, ts, sx, sy⟩ (w.setCell ⟨b, j, none⟩ (.int .i64 y)) := by
  obtain ⟨a, b', c', d, e, o1, o2, o3, o4⟩ := h
  obtain ⟨s1, s2⟩ := e.stored j (.int .i64 y)
  have e2 : iv (ms.set j y) = (iv ms).set j (.int .i64 y) := by simp [iv, List.map_set]
  have hb := e.lt b rfl
  exact ⟨a.grown s2 (by intro q; injection q with q; omega), own_same b' fun q hq => s2.block q (b'.lt q hq).2 (fun z => by injection z with z; have := d q hq; omega), c', d, by rw [e2]; exact s1, o1, o2, o3, Nat.le_trans o4 s2.size⟩
theorem FSt.setT {W sx sy : Int} {B : Option Addr} {b n c tn tc : Nat} {ms : List Int} {ts : List (List Int)} (h : FSt g lo l2 bx ⟨W, B, n, c, ms, some ⟨b, 0, none⟩, tn, tc, ts, sx, sy⟩ w) (hl : 0 < ts.length) (px : List Int) (hp : px.length = 64) :
    FSt g lo l2 bx ⟨W, B, n, c, ms, some ⟨b, 0, none⟩, tn, tc, ts.set 0 px, sx, sy⟩ (w.setCells b 0 (iv px)) ∧ w.grownBy (w.setCells b 0 (iv px)) (some b) := by
  obtain ⟨a, b', c', d, e, o1, o2, o3, o4⟩ := h
  obtain ⟨s1, s2⟩ := own_setCells (iv px) 0 _ _ b'
  have hs := setL_fl64 (k := 0) c' hl px hp
  rw [Nat.zero_mul] at hs
  rw [hs] at s1
  have hb := b'.lt b rfl
  have hb2 := d b rfl
  exact ⟨⟨a.grown s2 (by intro q; injection q with q; omega), s1, fun u hu => by rcases List.mem_or_eq_of_mem_set hu with h | h; exact c' u h; rw [h]; exact hp, d, own_same e fun q hq => s2.block q (e.lt q hq).2 (fun z => by injection z with z; have := (e.lt q hq).1; omega), o1, o2, o3, Nat.le_trans o4 s2.size⟩, s2⟩
end
/-- What is known of a drawn background's slices. -/
def FldOk (f : Fld) : Prop := (f.A = none → f.c = 0) ∧ (f.T = none → f.tc = 0) ∧ f.n ≤ 50 ∧ f.tn ≤ 10 ∧ f.n ≤ f.c ∧ f.tn ≤ f.tc
structure FFin (g bx : Nat) (f : Fld) (w : World) : Prop where
  blk : Blk w bx 26 f.cs
  sure : Sure g (fun w => FRd w f) w
  ok : FldOk f
  hb : g < bx
section
variable {g lo l2 bx : Nat} {f : Fld} {w w' : World}
theorem FSt.fin (h : FSt g lo l2 bx f w) (hn : f.n ≤ 50) (ht : f.tn ≤ 10) : FFin g bx f w := by
  obtain ⟨a, b, c, d, e, o1, o2, o3, o4⟩ := h
  refine ⟨a, fun w' hk => ?_, ⟨own_nilc e, own_nilc b, hn, ht, own_cap e, own_cap b⟩, o1⟩
  have b' := own_keep b hk (by omega) (by rintro t (rfl | rfl) <;> decide)
  have e' := own_keep e hk (by omega) (by rintro t (rfl | rfl) <;> decide)
  exact ⟨own_ints e', ti_of_own b' c, by omega, by omega⟩
theorem FFin.rd (h : FFin g bx f w) (hg : w.grownBy w' (some g)) : FFin g bx f w' := ⟨h.blk.rd hg (by have := h.hb; omega), h.sure.rd hg, h.ok, h.hb⟩
theorem FFin.below (h : FFin g bx f w) (hb : Below w.heap.size w w') : FFin g bx f w' := ⟨h.blk.below hb h.blk.lt, h.sure.keep (Keep.of_below hb), h.ok, h.hb⟩
theorem FFin.set {f' : Fld} (h : FFin g bx f w) (k : Nat) (u : Value) (hcs : f'.cs = f.cs.setIfInBounds k u) (hf : (f'.A, f'.n, f'.c, f'.ms, f'.T, f'.tn, f'.tc, f'.ts) = (f.A, f.n, f.c, f.ms, f.T, f.tn, f.tc, f.ts)) : FFin g bx f' (w.setCell ⟨bx, k, none⟩ u) := by
  obtain ⟨W, A, n, c, ms, T, tn, tc, ts, sx, sy⟩ := f
  obtain ⟨W', A', n', c', ms', T', tn', tc', ts', sx', sy'⟩ := f'
  simp only [Prod.mk.injEq] at hf
  obtain ⟨rfl, rfl, rfl, rfl, rfl, rfl, rfl, rfl⟩ := hf
  exact ⟨by rw [hcs]; exact h.blk.set_ k u, fun w2 h2 => by have q := h.sure w2 ((Keep.set h.blk (.inl rfl)).trans h2); exact ⟨q.map, q.tiles, q.hn, q.ht⟩, h.ok, h.hb⟩
theorem FFin.tail {W sx sy : Int} {T : Option Addr} {b m c tn tc : Nat} {ms : List Int} {ts : List (List Int)} (h : FFin g bx ⟨W, some ⟨b, 0, none⟩, m + 1, c, ms, T, tn, tc, ts, sx, sy⟩ w) :
    FFin g bx ⟨W, some ⟨b, 1, none⟩, m, c - 1, ms.tail, T, tn, tc, ts, sx, sy⟩ (w.setCell ⟨bx, 1, none⟩ (.slice (some ⟨b, 1, none⟩) m (c - 1))) := by
  obtain ⟨k1, k2, k3, k4, k5, k6⟩ := h.ok
  simp only at k1 k2 k3 k4 k5 k6
  exact ⟨h.blk.set_ 1 _, fun w2 h2 => by have q := h.sure w2 ((Keep.set h.blk (.inl rfl)).trans h2); exact ⟨ints_tail q.map, q.tiles, by have := q.hn; simp only at this; show m ≤ _; omega, q.ht⟩, ⟨(by intro e; cases e), k2, (by show m ≤ 50; omega), k4, (by show m ≤ c - 1; omega), k6⟩, h.hb⟩
theorem FFin.noM {W sx sy : Int} {A T : Option Addr} {b n c c' tn tc : Nat} {ms : List Int} {ts : List (List Int)} (h : FFin g bx ⟨W, A, n, c, ms, T, tn, tc, ts, sx, sy⟩ w) :
    FFin g bx ⟨W, some ⟨b, 0, none⟩, 0, c', [], T, tn, tc, ts, sx, sy⟩ (w.setCell ⟨bx, 1, none⟩ (.slice (some ⟨b, 0, none⟩) 0 c')) := by
  obtain ⟨k1, k2, k3, k4, k5, k6⟩ := h.ok
  exact ⟨h.blk.set_ 1 _, fun w2 h2 => by have q := h.sure w2 ((Keep.set h.blk (.inl rfl)).trans h2); exact ⟨⟨rfl, fun h => absurd h (Nat.lt_irrefl 0)⟩, q.tiles, Nat.zero_le _, q.ht⟩, ⟨(by intro e; cases e), k2, Nat.zero_le _, k4, Nat.zero_le _, k6⟩, h.hb⟩
theorem FFin.noT {W sx sy : Int} {A T : Option Addr} {b n c tn tc : Nat} {ms : List Int} {ts : List (List Int)} (h : FFin g bx ⟨W, A, n, c, ms, T, tn, tc, ts, sx, sy⟩ w) :
    FFin g bx ⟨W, A, n, c, ms, some ⟨b, 0, none⟩, 0, 0, [], sx, sy⟩ (w.setCell ⟨bx, 2, none⟩ (.slice (some ⟨b, 0, none⟩) 0 0)) := by
  obtain ⟨k1, k2, k3, k4, k5, k6⟩ := h.ok
  exact ⟨h.blk.set_ 2 _, fun w2 h2 => by have q := h.sure w2 ((Keep.set h.blk (.inl rfl)).trans h2); exact ⟨q.map, ⟨rfl, (fun t ht => by cases ht), rfl, fun h => absurd h (Nat.lt_irrefl 0)⟩, q.hn, Nat.zero_le _⟩, ⟨k1, (by intro e; cases e), k3, Nat.zero_le _, k5, Nat.le_refl _⟩, h.hb⟩
end
/-- A background drawn. -/
def FldV (g : Nat) (w : World) (v : Value) : Prop := ∃ f : Fld, v = f.val ∧ Sure g (fun w => FRd w f) w ∧ FldOk f
theorem st_fldV (g : Nat) : Stable (some g) (FldV g) := by
  rintro w w' v hg ⟨f, e, h, ho⟩
  exact ⟨f, e, h.rd hg, ho⟩
set_option maxRecDepth 100000 in
set_option maxHeartbeats 4000000 in
theorem l20Field_any (g : Nat) (A : Option Addr) (len cap p0 : Nat) (N : Int) (w : World) (h : Rd w g A len cap p0) (hp0 : p0 ≤ 400000000) (n0 : 0 ≤ N) (n1 : N ≤ 1000000000) :
    Calls Try.prog 46 #[.pointer (some ⟨g, 0, none⟩), .int .i64 N] w (Draws g A len cap p0 6000 w (FldV g)) := by
  have hgl := h.lt
  have HD := Lib.hid ((Drs.start h).alloc (.cells zeroF 26))
  have HR := Lib.hid (Blk.new w 26 zeroF)
  clear h
  go_enter Try.func46, Try.ntmps46
  go_upto_region 1 with (fail)
  obtain ⟨p, hp1, hR⟩ := HD.out.rd
  have hp : p ≤ 400000000 := by omega
  obtain ⟨W0, hW0⟩ : ∃ W0, W0 = w.alloc (.cells zeroF 26) := ⟨_, rfl⟩
  have hz0 : W0.heap.size = w.heap.size + 1 := by rw [hW0]; simp
  rw [← hW0] at HD HR hR
  change Code.wp _ _ _ _ (w.alloc (.cells zeroF 26))
  rw [← hW0]
  replace hW0 := Lib.hid hW0
  refine region_tail 19 (some g) (IsPtr g :: IntIn (0) (4) :: IntIn (1) (5) :: IsPtr g :: IntIn (0) (255) :: ArrIn g 2 (0) (255) :: IsPtr g :: IntIn (0) (1) :: ElAt g (0) (255) :: IntIn (0) (255) :: IsPtr g :: IntIn (0) (255) :: ArrIn g 2 (0) (255) :: IsPtr g :: IntIn (0) (1) :: ElAt g (0) (255) :: IntIn (0) (255) :: AggF :: NewB g W0.heap.size :: []) (fun n w' => World.grownBy W0 w' (some g) ∧ ∃ p' : Nat, p' + 1 * n ≤ p + 19 ∧ Rd w' g A len cap p') ?_ ?_ ?_ ?_ ?_ ?_ ?_ ?_ ?_ ?_ ?_
  · kernel_rfl
  · exact ⟨st_ptr _ _, st_int _ _ _, st_int _ _ _, st_ptr _ _, st_int _ _ _, st_arr _ _ _ _, st_ptr _ _, st_int _ _ _, st_el _ _ _, st_int _ _ _, st_ptr _ _, st_int _ _ _, st_arr _ _ _ _, st_ptr _ _, st_int _ _ _, st_el _ _ _, st_int _ _ _, st_aggF _, st_newb _ _, trivial⟩
  · simp
  · exact of_decide_eq_true (by kernel_rfl)
  · kernel_rfl
  · kernel_rfl
  · kernel_rfl
  · kernel_rfl
  · exact ⟨grown_drew _ _, p, by simp, hR⟩
  · refine each_cons ?_ (each_cons ?_ (each_cons ?_ (each_cons ?_ (each_cons ?_ (each_cons ?_ (each_cons ?_ (each_cons ?_ (each_cons ?_ (each_cons ?_ (each_cons ?_ (each_cons ?_ (each_cons ?_ (each_cons ?_ (each_cons ?_ (each_cons ?_ (each_cons ?_ (each_cons ?_ (each_cons ?_ ( trivial)))))))))))))))))))
    · intro n vs aa w' haa hJ hd K hK
      refine ob_plain rfl ?_
      refine ob_move _ (v := .pointer (some ⟨g, 0, none⟩)) rfl (ev_of haa (by kernel_rfl)) ?_
      refine hK _ _ ?_ (World.grownBy.refl _ _) ⟨hJ.1, by obtain ⟨p', h1, h2⟩ := hJ.2; exact ⟨p', by omega, h2⟩⟩
      show (IsPtr g) w' _
      exact rfl
    · intro n vs aa w' haa hJ hd K hK
      refine ob_plain rfl ?_
      have d0 : (IsPtr g) w' (vs 0) := hd.1 rfl
      have e0 := d0
      obtain ⟨hg', p', hp', hr'⟩ := hJ
      refine ob_call 47 _ _ #[.pointer (some ⟨g, 0, none⟩), .int .i64 (5)] rfl (Eq.trans (b := #[vs 0, .int .i64 (5)]) (evs_of haa (by kernel_rfl)) (by rw [e0])) (fun _ _ => by kernel_rfl) ?_
      refine (pick_any g A len cap p' (5) _ hr' (by omega) (by omega) (by omega)).mono ?_
      rintro e w2 ⟨x, rfl, x0, x1, hr2, hg2⟩
      refine ⟨_, rfl, ?_⟩
      refine hK _ _ ?_ hg2 ⟨hg'.trans hg2, p' + 1, by omega, hr2⟩
      show (IntIn (0) (4)) w' _
      exact ⟨x, rfl, x0, by omega⟩
    · intro n vs aa w' haa hJ hd K hK
      refine ob_plain rfl ?_
      have d1 : (IntIn (0) (4)) w' (vs 1) := hd.1 rfl
      obtain ⟨x1, e1, l1, u1⟩ := d1
      refine ob_add _ _ (u := (1)) (v := x1) rfl (ev_of haa (by kernel_rfl)) (Eq.trans (b := vs 1) (ev_of haa (by kernel_rfl)) e1) (by omega) ?_
      refine hK _ _ ?_ (World.grownBy.refl _ _) ⟨hJ.1, by obtain ⟨p', h1, h2⟩ := hJ.2; exact ⟨p', by omega, h2⟩⟩
      show (IntIn (1) (5)) w' _
      exact ⟨_, rfl, by omega, by omega⟩
    · intro n vs aa w' haa hJ hd K hK
      refine ob_plain rfl ?_
      refine ob_move _ (v := .pointer (some ⟨g, 0, none⟩)) rfl (ev_of haa (by kernel_rfl)) ?_
      refine hK _ _ ?_ (World.grownBy.refl _ _) ⟨hJ.1, by obtain ⟨p', h1, h2⟩ := hJ.2; exact ⟨p', by omega, h2⟩⟩
      show (IsPtr g) w' _
      exact rfl
    · intro n vs aa w' haa hJ hd K hK
      refine ob_plain rfl ?_
      have d3 : (IsPtr g) w' (vs 3) := hd.1 rfl
      have e3 := d3
      obtain ⟨hg', p', hp', hr'⟩ := hJ
      refine ob_call 47 _ _ #[.pointer (some ⟨g, 0, none⟩), .int .i64 (256)] rfl (Eq.trans (b := #[vs 3, .int .i64 (256)]) (evs_of haa (by kernel_rfl)) (by rw [e3])) (fun _ _ => by kernel_rfl) ?_
      refine (pick_any g A len cap p' (256) _ hr' (by omega) (by omega) (by omega)).mono ?_
      rintro e w2 ⟨x, rfl, x0, x1, hr2, hg2⟩
      refine ⟨_, rfl, ?_⟩
      refine hK _ _ ?_ hg2 ⟨hg'.trans hg2, p' + 1, by omega, hr2⟩
      show (IntIn (0) (255)) w' _
      exact ⟨x, rfl, x0, by omega⟩
    · intro n vs aa w' haa hJ hd K hK
      refine ob_plain rfl ?_
      have d4 : (IntIn (0) (255)) w' (vs 4) := hd.1 rfl
      obtain ⟨x4, e4, l4, u4⟩ := d4
      refine ob_build2 _ _ (u0 := (0)) (u1 := x4) rfl (ev_of haa (by kernel_rfl)) (Eq.trans (b := vs 4) (ev_of haa (by kernel_rfl)) e4) ?_
      refine hK _ _ ⟨_, rfl, Nat.ne_of_gt hJ.2.choose_spec.2.lt, by simp, fun k hk => ?_⟩ (World.grownBy_alloc _ _ _) ⟨hJ.1.trans (World.grownBy_alloc _ _ _), by obtain ⟨p', h1, h2⟩ := hJ.2; exact ⟨p', by omega, h2.alloc _⟩⟩
      match k, hk with
      | 0, _ => exact ⟨(0), by simp [go_sem], by omega, by omega⟩
      | 1, _ => exact ⟨x4, by simp [go_sem], by omega, by omega⟩
    · intro n vs aa w' haa hJ hd K hK
      refine ob_plain rfl ?_
      refine ob_move _ (v := .pointer (some ⟨g, 0, none⟩)) rfl (ev_of haa (by kernel_rfl)) ?_
      refine hK _ _ ?_ (World.grownBy.refl _ _) ⟨hJ.1, by obtain ⟨p', h1, h2⟩ := hJ.2; exact ⟨p', by omega, h2⟩⟩
      show (IsPtr g) w' _
      exact rfl
    · intro n vs aa w' haa hJ hd K hK
      refine ob_plain rfl ?_
      have d6 : (IsPtr g) w' (vs 6) := hd.1 rfl
      have e6 := d6
      obtain ⟨hg', p', hp', hr'⟩ := hJ
      refine ob_call 47 _ _ #[.pointer (some ⟨g, 0, none⟩), .int .i64 (2)] rfl (Eq.trans (b := #[vs 6, .int .i64 (2)]) (evs_of haa (by kernel_rfl)) (by rw [e6])) (fun _ _ => by kernel_rfl) ?_
      refine (pick_any g A len cap p' (2) _ hr' (by omega) (by omega) (by omega)).mono ?_
      rintro e w2 ⟨x, rfl, x0, x1, hr2, hg2⟩
      refine ⟨_, rfl, ?_⟩
      refine hK _ _ ?_ hg2 ⟨hg'.trans hg2, p' + 1, by omega, hr2⟩
      show (IntIn (0) (1)) w' _
      exact ⟨x, rfl, x0, by omega⟩
    · intro n vs aa w' haa hJ hd K hK
      refine ob_plain rfl ?_
      have d5 : (ArrIn g 2 (0) (255)) w' (vs 5) := hd.1 rfl
      obtain ⟨b5, e5, n5, z5, c5⟩ := d5
      have d7 : (IntIn (0) (1)) w' (vs 7) := hd.2.1 rfl
      obtain ⟨x7, e7, l7, u7⟩ := d7
      refine ob_index _ _ _ (by simp) (u := x7) rfl (Eq.trans (b := vs 5) (ev_of haa (by kernel_rfl)) e5) (Eq.trans (b := vs 7) (ev_of haa (by kernel_rfl)) e7) (by omega) (by omega) ?_
      obtain ⟨y, hy, y0, y1⟩ := c5 x7.toNat (by omega)
      refine hK _ _ ?_ (World.grownBy.refl _ _) ⟨hJ.1, by obtain ⟨p', h1, h2⟩ := hJ.2; exact ⟨p', by omega, h2⟩⟩
      show (ElAt g (0) (255)) w' _
      exact ⟨b5, _, rfl, n5, z5, y, by rw [Nat.zero_add]; exact hy, y0, y1⟩
    · intro n vs aa w' haa hJ hd K hK
      refine ob_plain rfl ?_
      have d8 : (ElAt g (0) (255)) w' (vs 8) := hd.1 rfl
      obtain ⟨b8, j8, e8, n8, z8, x8, c8, l8, u8⟩ := d8
      refine ob_load _ _ (by simp) rfl (Eq.trans (b := vs 8) (ev_of haa (by kernel_rfl)) e8) c8 ?_
      refine hK _ _ ?_ (World.grownBy.refl _ _) ⟨hJ.1, by obtain ⟨p', h1, h2⟩ := hJ.2; exact ⟨p', by omega, h2⟩⟩
      show (IntIn (0) (255)) w' _
      exact ⟨_, rfl, l8, u8⟩
    · intro n vs aa w' haa hJ hd K hK
      refine ob_plain rfl ?_
      refine ob_move _ (v := .pointer (some ⟨g, 0, none⟩)) rfl (ev_of haa (by kernel_rfl)) ?_
      refine hK _ _ ?_ (World.grownBy.refl _ _) ⟨hJ.1, by obtain ⟨p', h1, h2⟩ := hJ.2; exact ⟨p', by omega, h2⟩⟩
      show (IsPtr g) w' _
      exact rfl
    · intro n vs aa w' haa hJ hd K hK
      refine ob_plain rfl ?_
      have d10 : (IsPtr g) w' (vs 10) := hd.1 rfl
      have e10 := d10
      obtain ⟨hg', p', hp', hr'⟩ := hJ
      refine ob_call 47 _ _ #[.pointer (some ⟨g, 0, none⟩), .int .i64 (256)] rfl (Eq.trans (b := #[vs 10, .int .i64 (256)]) (evs_of haa (by kernel_rfl)) (by rw [e10])) (fun _ _ => by kernel_rfl) ?_
      refine (pick_any g A len cap p' (256) _ hr' (by omega) (by omega) (by omega)).mono ?_
      rintro e w2 ⟨x, rfl, x0, x1, hr2, hg2⟩
      refine ⟨_, rfl, ?_⟩
      refine hK _ _ ?_ hg2 ⟨hg'.trans hg2, p' + 1, by omega, hr2⟩
      show (IntIn (0) (255)) w' _
      exact ⟨x, rfl, x0, by omega⟩
    · intro n vs aa w' haa hJ hd K hK
      refine ob_plain rfl ?_
      have d11 : (IntIn (0) (255)) w' (vs 11) := hd.1 rfl
      obtain ⟨x11, e11, l11, u11⟩ := d11
      refine ob_build2 _ _ (u0 := (0)) (u1 := x11) rfl (ev_of haa (by kernel_rfl)) (Eq.trans (b := vs 11) (ev_of haa (by kernel_rfl)) e11) ?_
      refine hK _ _ ⟨_, rfl, Nat.ne_of_gt hJ.2.choose_spec.2.lt, by simp, fun k hk => ?_⟩ (World.grownBy_alloc _ _ _) ⟨hJ.1.trans (World.grownBy_alloc _ _ _), by obtain ⟨p', h1, h2⟩ := hJ.2; exact ⟨p', by omega, h2.alloc _⟩⟩
      match k, hk with
      | 0, _ => exact ⟨(0), by simp [go_sem], by omega, by omega⟩
      | 1, _ => exact ⟨x11, by simp [go_sem], by omega, by omega⟩
    · intro n vs aa w' haa hJ hd K hK
      refine ob_plain rfl ?_
      refine ob_move _ (v := .pointer (some ⟨g, 0, none⟩)) rfl (ev_of haa (by kernel_rfl)) ?_
      refine hK _ _ ?_ (World.grownBy.refl _ _) ⟨hJ.1, by obtain ⟨p', h1, h2⟩ := hJ.2; exact ⟨p', by omega, h2⟩⟩
      show (IsPtr g) w' _
      exact rfl
    · intro n vs aa w' haa hJ hd K hK
      refine ob_plain rfl ?_
      have d13 : (IsPtr g) w' (vs 13) := hd.1 rfl
      have e13 := d13
      obtain ⟨hg', p', hp', hr'⟩ := hJ
      refine ob_call 47 _ _ #[.pointer (some ⟨g, 0, none⟩), .int .i64 (2)] rfl (Eq.trans (b := #[vs 13, .int .i64 (2)]) (evs_of haa (by kernel_rfl)) (by rw [e13])) (fun _ _ => by kernel_rfl) ?_
      refine (pick_any g A len cap p' (2) _ hr' (by omega) (by omega) (by omega)).mono ?_
      rintro e w2 ⟨x, rfl, x0, x1, hr2, hg2⟩
      refine ⟨_, rfl, ?_⟩
      refine hK _ _ ?_ hg2 ⟨hg'.trans hg2, p' + 1, by omega, hr2⟩
      show (IntIn (0) (1)) w' _
      exact ⟨x, rfl, x0, by omega⟩
    · intro n vs aa w' haa hJ hd K hK
      refine ob_plain rfl ?_
      have d12 : (ArrIn g 2 (0) (255)) w' (vs 12) := hd.1 rfl
      obtain ⟨b12, e12, n12, z12, c12⟩ := d12
      have d14 : (IntIn (0) (1)) w' (vs 14) := hd.2.1 rfl
      obtain ⟨x14, e14, l14, u14⟩ := d14
      refine ob_index _ _ _ (by simp) (u := x14) rfl (Eq.trans (b := vs 12) (ev_of haa (by kernel_rfl)) e12) (Eq.trans (b := vs 14) (ev_of haa (by kernel_rfl)) e14) (by omega) (by omega) ?_
      obtain ⟨y, hy, y0, y1⟩ := c12 x14.toNat (by omega)
      refine hK _ _ ?_ (World.grownBy.refl _ _) ⟨hJ.1, by obtain ⟨p', h1, h2⟩ := hJ.2; exact ⟨p', by omega, h2⟩⟩
      show (ElAt g (0) (255)) w' _
      exact ⟨b12, _, rfl, n12, z12, y, by rw [Nat.zero_add]; exact hy, y0, y1⟩
    · intro n vs aa w' haa hJ hd K hK
      refine ob_plain rfl ?_
      have d15 : (ElAt g (0) (255)) w' (vs 15) := hd.1 rfl
      obtain ⟨b15, j15, e15, n15, z15, x15, c15, l15, u15⟩ := d15
      refine ob_load _ _ (by simp) rfl (Eq.trans (b := vs 15) (ev_of haa (by kernel_rfl)) e15) c15 ?_
      refine hK _ _ ?_ (World.grownBy.refl _ _) ⟨hJ.1, by obtain ⟨p', h1, h2⟩ := hJ.2; exact ⟨p', by omega, h2⟩⟩
      show (IntIn (0) (255)) w' _
      exact ⟨_, rfl, l15, u15⟩
    · intro n vs aa w' haa hJ hd K hK
      refine ob_plain rfl ?_
      have d2 : (IntIn (1) (5)) w' (vs 2) := hd.1 rfl
      obtain ⟨x2, e2, l2, u2⟩ := d2
      have d9 : (IntIn (0) (255)) w' (vs 9) := hd.2.1 rfl
      obtain ⟨x9, e9, l9, u9⟩ := d9
      have d16 : (IntIn (0) (255)) w' (vs 16) := hd.2.2.1 rfl
      obtain ⟨x16, e16, l16, u16⟩ := d16
      refine ob_agg_fld (u0 := x2) (u1 := x9) (u2 := x16) rfl (Eq.trans (b := vs 2) (ev_of haa (by kernel_rfl)) e2) (Eq.trans (b := vs 9) (ev_of haa (by kernel_rfl)) e9) (Eq.trans (b := vs 16) (ev_of haa (by kernel_rfl)) e16) ?_
      refine hK _ _ ?_ (World.grownBy.refl _ _) ⟨hJ.1, by obtain ⟨p', h1, h2⟩ := hJ.2; exact ⟨p', by omega, h2⟩⟩
      show (AggF) w' _
      exact ⟨(x2, x9, x16), rfl, aggF_mk (by omega) (by omega)⟩
    · intro n vs aa w' haa hJ hd K hK
      refine ob_plain rfl ?_
      refine ob_allocM rfl ?_
      refine hK _ _ ?_ (World.grownBy_alloc _ _ _) ⟨hJ.1.trans (World.grownBy_alloc _ _ _), by obtain ⟨p', h1, h2⟩ := hJ.2; exact ⟨p', by omega, h2.alloc _⟩⟩
      show (NewB g W0.heap.size) _ _
      exact newB_new (Nat.ne_of_gt hJ.2.choose_spec.2.lt) hJ.1.size
  intro vs w' hJ hall
  obtain ⟨⟨fW, fx, fy⟩, hx, hW1, hW5⟩ : AggF w' (vs 17) := hall 17 (by decide)
  obtain ⟨bx, hb, hbg, hbl, hbx⟩ : NewB g W0.heap.size w' (vs 18) := hall 18 (by decide)
  clear hall
  obtain ⟨hgr, p', hp', hr'⟩ := hJ
  replace HD := Lib.hid (HD.out.step hgr ⟨p', hp', hr'⟩)
  replace HR := Lib.hid (HR.out.rd hgr (by omega))
  clear hr' hR hgr
  unfold zeroF at hbx
  have b0 := hbx.cell 0
  have b1 := hbx.cell 1
  have b2 := hbx.cell 2
  have b3 := hbx.cell 3
  have b4 := hbx.cell 4
  have f0 := hbx.frozen 0
  have f1 := hbx.frozen 1
  have f2 := hbx.frozen 2
  have f3 := hbx.frozen 3
  have f4 := hbx.frozen 4
  have hxl := hbx.lt
  unfold fz3 at hx
  have HBX := Lib.hid hbx
  clear hbx
  simp only [List.take_succ_cons, List.take_zero, List.drop_succ_cons, List.drop_zero, fill, Act.put, List.toList_toArray, List.setIfInBounds_toArray, List.set_cons_zero, List.set_cons_succ, Nat.zero_add, Nat.reduceAdd, hx, hb]
  go_wp2_with fail
  have hbw : w.heap.size ≤ bx := by omega
  have hbr : w.heap.size ≠ bx := by omega
  obtain ⟨lo, hlo⟩ : ∃ lo, lo = w'.heap.size := ⟨_, rfl⟩
  obtain ⟨WS, hWS⟩ : ∃ WS, WS = setN w' bx 0 [.int .i64 fW, .slice none 0 0, .slice none 0 0, .int .i64 fx, .int .i64 fy] := ⟨_, rfl⟩
  have hbk := setN_blk [.int .i64 fW, .slice none 0 0, .slice none 0 0, .int .i64 fx, .int .i64 fy] 0 _ _ HBX.out
  simp only [setA, List.setIfInBounds_toArray, List.set_cons_zero, List.set_cons_succ, Nat.zero_add, Nat.reduceAdd] at hbk
  have HQ := Lib.hid (show FSt g lo lo bx ⟨fW, none, 0, 0, [], none, 0, 0, [], fx, fy⟩ WS from
    ⟨by rw [hWS]; exact hbk, World.ownsRow_nil _ _ _ _, (fun t ht => by cases ht), (fun q hq => by cases hq), World.ownsRow_nil _ _ _ _, by omega, by omega, Nat.le_refl _, by rw [hWS, setN_size, hlo]; exact Nat.le_refl _⟩)
  replace HD := Lib.hid (Drs.setN hbw [.int .i64 fW, .slice none 0 0, .slice none 0 0, .int .i64 fx, .int .i64 fy] 0 _ HD.out)
  replace HR := Lib.hid (setN_far HR.out hbr [.int .i64 fW, .slice none 0 0, .slice none 0 0, .int .i64 fx, .int .i64 fy] 0)
  change Calls _ _ _ (setN w' bx 0 [.int .i64 fW, .slice none 0 0, .slice none 0 0, .int .i64 fx, .int .i64 fy]) _
  rw [← hWS] at HD HR ⊢
  replace hWS := Lib.hid hWS
  replace hlo := Lib.hid hlo
  clear hbk b0 b1 b2 b3 b4 f0 f1 f2 f3 f4 HBX
  go_wp2_with fail
  refine (pick_d HD.out 4 (by omega) (by omega) (by omega)).mono ?_
  rintro e W' ⟨v, rfl, ⟨x, rfl, x0, x1⟩, hD, hgr⟩
  replace HD := Lib.hid hD
  clear hD
  replace HR := Lib.hid (HR.out.rd hgr (by omega))
  replace HQ := Lib.hid (HQ.out.rd hgr)
  clear hgr
  obtain ⟨X, rfl⟩ := Int.eq_ofNat_of_zero_le x0
  have hX : X ≤ 3 := by omega
  clear x0 x1
  go_wp2_with fail
  go_loopw [6] (fun k wr => ∃ (K : Nat) (T : Option Addr) (tn tc l2 : Nat) (ts : List (List Int)), k = .int .i64 K ∧ tn + K = 1 + X ∧ Blk wr w.heap.size 26 zeroF ∧ FSt g lo l2 bx ⟨fW, none, 0, 0, [], T, tn, tc, ts, fx, fy⟩ wr ∧ Drs w wr g A len cap p0 (p0 + 30 + 1000 * (4 - K))) (fun k _ => (intOf k).toNat)
  case atStart => exact ⟨1 + X, none, 0, 0, lo, [], congrArg (Value.int .i64) (by omega), by omega, HR.out, HQ.out, HD.out.more (by omega)⟩
  case round =>
    obtain ⟨K, T, tn, tc, l2, ts, rfl, hK, hR0, hQ0, hD0⟩ := hrel
    replace HR := Lib.hid hR0
    replace HQ := Lib.hid hQ0
    replace HD := Lib.hid hD0
    clear hR0 hQ0 hD0
    by_cases hlt : 0 < K
    · have q1 : (K : Int) > 0 := by omega
      go_upto_region 5 with (fail)
      obtain ⟨p, hp1, hR⟩ := HD.out.rd
      have hp : p ≤ 500000000 := by omega
      have hnb : some bx ≠ some g := by intro e; injection e with e; exact hbg e
      refine region_tail 5 (some g) (IsVal (.pointer (some ⟨bx, 2, none⟩)) :: IsVal (.slice T tn tc) :: IsPtr g :: AggTile :: LitTile g :: []) (fun n w' => World.grownBy wr w' (some g) ∧ ∃ p' : Nat, p' + 200 * n ≤ p + 1000 ∧ Rd w' g A len cap p') ?_ ?_ ?_ ?_ ?_ ?_ ?_ ?_ ?_ ?_ ?_
      · kernel_rfl
      · exact ⟨st_val _ _, st_val _ _, st_ptr _ _, st_tileW _, st_litTile _, trivial⟩
      · simp
      · exact of_decide_eq_true (by kernel_rfl)
      · kernel_rfl
      · kernel_rfl
      · kernel_rfl
      · kernel_rfl
      · exact ⟨grown_drew _ _, p, by simp, hR⟩
      · refine each_cons ?_ (each_cons ?_ (each_cons ?_ (each_cons ?_ (each_cons ?_ ( trivial)))))
        · intro n vs aa w' haa hJ hd K hK
          refine ob_plain rfl ?_
          refine ob_fldK _ 2 (b := bx) rfl (by omega) (ev_of haa (by kernel_rfl)) ?_
          refine hK _ _ ?_ (World.grownBy.refl _ _) ⟨hJ.1, by obtain ⟨p', h1, h2⟩ := hJ.2; exact ⟨p', by omega, h2⟩⟩
          show (IsVal (.pointer (some ⟨bx, 2, none⟩))) w' _
          exact rfl
        · intro n vs aa w' haa hJ hd K hK
          refine ob_plain rfl ?_
          have d0 : (IsVal (.pointer (some ⟨bx, 2, none⟩))) w' (vs 0) := hd.1 rfl
          have e0 := d0
          refine ob_loadMT _ (v := .slice T tn tc) rfl (Eq.trans (b := vs 0) (ev_of haa (by kernel_rfl)) e0) ((Blk.grown HQ.out.blk hJ.1 hnb).cell 2) ?_
          refine hK _ _ ?_ (World.grownBy.refl _ _) ⟨hJ.1, by obtain ⟨p', h1, h2⟩ := hJ.2; exact ⟨p', by omega, h2⟩⟩
          show (IsVal (.slice T tn tc)) w' _
          exact rfl
        · intro n vs aa w' haa hJ hd K hK
          refine ob_plain rfl ?_
          refine ob_move _ (v := .pointer (some ⟨g, 0, none⟩)) rfl (ev_of haa (by kernel_rfl)) ?_
          refine hK _ _ ?_ (World.grownBy.refl _ _) ⟨hJ.1, by obtain ⟨p', h1, h2⟩ := hJ.2; exact ⟨p', by omega, h2⟩⟩
          show (IsPtr g) w' _
          exact rfl
        · intro n vs aa w' haa hJ hd K hK
          refine ob_plain rfl ?_
          have d2 : (IsPtr g) w' (vs 2) := hd.1 rfl
          have e2 := d2
          obtain ⟨hg', p', hp', hr'⟩ := hJ
          refine ob_call 81 _ _ #[.pointer (some ⟨g, 0, none⟩), .int .i64 (0)] rfl (Eq.trans (b := #[vs 2, .int .i64 (0)]) (evs_of haa (by kernel_rfl)) (by rw [e2])) (fun _ _ => by kernel_rfl) ?_
          refine (l20Tile_z (by omega) (by omega) g A len cap p' hr' (by omega)).mono ?_
          rintro e w2 ⟨v, rfl, hv, hg2, p2, hp2, hr2⟩
          refine ⟨_, rfl, ?_⟩
          refine hK _ _ ?_ hg2 ⟨hg'.trans hg2, p2, by omega, hr2⟩
          show (AggTile) w' _
          exact hv
        · intro n vs aa w' haa hJ hd K hK
          refine ob_plain rfl ?_
          have d3 : (AggTile) w' (vs 3) := hd.1 rfl
          obtain ⟨t3, e3⟩ := d3
          refine ob_lit_tile (t := t3) rfl (Eq.trans (b := vs 3) (ev_of haa (by kernel_rfl)) e3) ?_
          refine hK _ _ ?_ (World.grownBy_alloc _ _ _) ⟨hJ.1.trans (World.grownBy_alloc _ _ _), by obtain ⟨p', h1, h2⟩ := hJ.2; exact ⟨p', by omega, h2.alloc _⟩⟩
          show (LitTile g) _ _
          exact litTile_new t3 _ (Nat.ne_of_gt hJ.2.choose_spec.2.lt)
      intro vs w' hJ hall
      obtain ⟨ab, t, he, hab, hc⟩ : LitTile g w' (vs 4) := hall 4 (by decide)
      have hz : vs 1 = .slice T tn tc := hall 1 (by decide)
      clear hall
      obtain ⟨hgr, p', hp', hr'⟩ := hJ
      replace HD := Lib.hid (HD.out.step hgr ⟨p', hp', hr'⟩)
      replace HR := Lib.hid (HR.out.rd hgr (by omega))
      replace HQ := Lib.hid (HQ.out.rd hgr)
      clear hgr
      clear hr' hR
      simp only [List.take_succ_cons, List.take_zero, List.drop_succ_cons, List.drop_zero, fill, Act.put, List.toList_toArray, List.setIfInBounds_toArray, List.set_cons_zero, List.set_cons_succ, Nat.zero_add, Nat.reduceAdd, he, hz]
      obtain ⟨o1, o2, o3, o4⟩ := HQ.out.ord
      have hsz := HD.out.size.2
      have hrd : Reads w' w'.heap.size 64 (some ⟨ab, 0, none⟩) 1 (iv t.1) := ⟨by rw [iv_len, t.2], fun _ => ⟨_, rfl, hc.lt, fun j u hu => by rw [Addr.add_mid, Nat.zero_add]; exact (hc.cell j).trans (by simpa using hu)⟩⟩
      refine push_cells _ (by rfl) _ _ 24 83 (.agg (iv z64).toArray) 64 512 (by rfl) tile_infoZ Try.underlying24 rfl (by decide) (by decide) lo tn tc 1 1 w'.heap.size T (some ⟨ab, 0, none⟩) (fl64 ts) (iv t.1) (by rfl) (by rfl) HQ.out.til hrd (fun u hu => by simp only [iv, List.mem_map] at hu; obtain ⟨z, _, rfl⟩ := hu; rfl) (by intro e; cases e) (by omega) (by omega) ?_
      intro T7 tc7 w7 o7 g7
      have o8 : fl64 ts ++ iv t.1 = fl64 (ts ++ [t.1]) := by simp [fl64]
      rw [o8] at o7
      have hbn : some bx ≠ (Value.slice T tn tc).ownBlock := fun q => by have := (HQ.out.til.lt bx q.symm).1; omega
      have hQ7 := Lib.hid (HQ.out.newT g7 o7 (fun u hu => by rcases List.mem_append.1 hu with h | h; exact HQ.out.t64 u h; simp only [List.mem_singleton] at h; rw [h]; exact t.2))
      have hX7 := HQ.out.blk.grown g7 hbn
      have c2 : w7.cell? ⟨bx, 2, none⟩ = some (.slice T tn tc) := hX7.cell 2
      have d2 := hX7.frozen 2
      replace HR := Lib.hid ((HR.out.grown g7 (by intro e; have := (HQ.out.til.lt _ e.symm).1; omega)).far (p := ⟨bx, 2, none⟩) hbr (.slice T7 (tn + 1) tc7))
      replace HD := Lib.hid ((HD.out.push g7 (fun q hq => by have := (HQ.out.til.lt q hq).1; omega)).set ⟨bx, 2, none⟩ (.slice T7 (tn + 1) tc7) hbw)
      clear o7 g7 o8 hX7 HQ hrd hc o1 o2 o3 o4
      go_wp2_with fail
      go_roundw
      case rel => exact ⟨K - 1, T7, tn + 1, tc7, _, ts ++ [t.1], by rw [show (K : Int) - 1 = ((K - 1 : Nat) : Int) by omega], by omega, HR.out, hQ7.out, HD.out.more (by omega)⟩
      case measure => simp [intOf]; omega
    · obtain rfl : K = 0 := by omega
      have q1 : ¬ ((0 : Nat) : Int) > 0 := by omega
      have htn : 1 ≤ tn := by omega
      have htn4 : tn ≤ 4 := by omega
      clear hlt hK
      have x0 := HQ.out.blk.cell 0
      simp only [Fld.cs, List.getElem?_toArray, List.getElem?_cons_succ, List.getElem?_cons_zero] at x0
      have HQ0 := HQ
      have HR0 := HR
      go_wp2_with fail
      go_region_held3 (fun w' => w'.cell? ⟨bx, 0, none⟩ = some (.int .i64 fW)) (first | exact x0 | exact x00) ((go_at_call 47; refine (pick_d (HD.out.below (Below.refl _ _).drew) 4 (by omega) (by omega) (by omega)).mono ?_; rintro e W' ⟨v, rfl, ⟨x, rfl, z0, z1⟩, hD, hgr⟩; have HDn := Lib.hid hD; have HRn := Lib.hid ((HR.out.below (Below.refl _ _).drew HR.out.lt).rd hgr (by omega)); have HQn := Lib.hid ((HQ.out.below (Below.refl _ _).drew).rd hgr); clear hD hgr; have x00 : W'.cell? ⟨bx, 0, none⟩ = some (.int .i64 fW) := HQn.out.blk.cell 0; have hm : IntKind.i64.wrap (fW * (1 + x)) = fW * (1 + x) := IntWalk.i64_in _ (by rcases (show fW = 1 ∨ fW = 2 ∨ fW = 3 ∨ fW = 4 ∨ fW = 5 by omega) with rfl | rfl | rfl | rfl | rfl <;> omega)))
      clear HD HR HQ HQ0 HR0 x0 x00
      have hm1 : IntKind.i64.wrap (1 + x) = 1 + x := IntWalk.i64_in _ (by omega)
      obtain ⟨K0, hK0⟩ : ∃ K0 : Nat, fW * (1 + x) = (K0 : Int) := ⟨(fW * (1 + x)).toNat, by rcases (show fW = 1 ∨ fW = 2 ∨ fW = 3 ∨ fW = 4 ∨ fW = 5 by omega) with rfl | rfl | rfl | rfl | rfl <;> omega⟩
      have hK1 : 1 ≤ K0 ∧ K0 ≤ 20 := by rcases (show fW = 1 ∨ fW = 2 ∨ fW = 3 ∨ fW = 4 ∨ fW = 5 by omega) with rfl | rfl | rfl | rfl | rfl <;> omega
      rw [hm1, hm, hK0]
      clear hm hm1 hK0 z0 z1
      have HD := HDn
      have HR := HRn
      have HQ := HQn
      clear HDn HRn HQn
      go_wp2_with fail
      go_loopw [7] (fun k wr => ∃ (K : Nat) (B : Option Addr) (bn bc : Nat) (ms : List Int), k = .int .i64 K ∧ bn + K = K0 ∧ Blk wr w.heap.size 26 zeroF ∧ FSt g lo l2 bx ⟨fW, B, bn, bc, ms, T, tn, tc, ts, fx, fy⟩ wr ∧ Drs w wr g A len cap p0 (p0 + 4100 + 10 * (20 - K))) (fun k _ => (intOf k).toNat)
      case atStart => exact ⟨K0, none, 0, 0, [], rfl, by omega, HR.out, HQ.out, HD.out.more (by omega)⟩
      case round =>
        clear HR HQ HD
        obtain ⟨K, B, bn, bc, ms, rfl, hK, hR0, hQ0, hD0⟩ := hrel
        have HR := Lib.hid hR0
        have HQ := Lib.hid hQ0
        have HD := Lib.hid hD0
        clear hR0 hQ0 hD0
        by_cases hlt : 0 < K
        · have q1 : (K : Int) > 0 := by omega
          go_upto_region 9 with (fail)
          obtain ⟨p, hp1, hR⟩ := HD.out.rd
          have hp : p ≤ 500000000 := by omega
          have hnb : some bx ≠ some g := by intro e; injection e with e; exact hbg e
          refine region_tail 8 (some g) (IsVal (.pointer (some ⟨bx, 1, none⟩)) :: IsVal (.slice B bn bc) :: IsPtr g :: IsVal (.pointer (some ⟨bx, 2, none⟩)) :: IsVal (.slice T tn tc) :: IntIn ((tn : Int)) ((tn : Int)) :: IntIn (0) ((tn : Int) - (1)) :: ArrIn g 1 (0) (100) :: []) (fun n w' => World.grownBy wr w' (some g) ∧ ∃ p' : Nat, p' + 1 * n ≤ p + 8 ∧ Rd w' g A len cap p') ?_ ?_ ?_ ?_ ?_ ?_ ?_ ?_ ?_ ?_ ?_
          · kernel_rfl
          · exact ⟨st_val _ _, st_val _ _, st_ptr _ _, st_val _ _, st_val _ _, st_int _ _ _, st_int _ _ _, st_arr _ _ _ _, trivial⟩
          · simp
          · exact of_decide_eq_true (by kernel_rfl)
          · kernel_rfl
          · kernel_rfl
          · kernel_rfl
          · kernel_rfl
          · exact ⟨grown_drew _ _, p, by simp, hR⟩
          · refine each_cons ?_ (each_cons ?_ (each_cons ?_ (each_cons ?_ (each_cons ?_ (each_cons ?_ (each_cons ?_ (each_cons ?_ ( trivial))))))))
            · intro n vs aa w' haa hJ hd K hK
              refine ob_plain rfl ?_
              refine ob_fldK _ 1 (b := bx) rfl (by omega) (ev_of haa (by kernel_rfl)) ?_
              refine hK _ _ ?_ (World.grownBy.refl _ _) ⟨hJ.1, by obtain ⟨p', h1, h2⟩ := hJ.2; exact ⟨p', by omega, h2⟩⟩
              show (IsVal (.pointer (some ⟨bx, 1, none⟩))) w' _
              exact rfl
            · intro n vs aa w' haa hJ hd K hK
              refine ob_plain rfl ?_
              have d0 : (IsVal (.pointer (some ⟨bx, 1, none⟩))) w' (vs 0) := hd.1 rfl
              have e0 := d0
              refine ob_loadM _ (v := .slice B bn bc) rfl (Eq.trans (b := vs 0) (ev_of haa (by kernel_rfl)) e0) ((Blk.grown HQ.out.blk hJ.1 hnb).cell 1) ?_
              refine hK _ _ ?_ (World.grownBy.refl _ _) ⟨hJ.1, by obtain ⟨p', h1, h2⟩ := hJ.2; exact ⟨p', by omega, h2⟩⟩
              show (IsVal (.slice B bn bc)) w' _
              exact rfl
            · intro n vs aa w' haa hJ hd K hK
              refine ob_plain rfl ?_
              refine ob_move _ (v := .pointer (some ⟨g, 0, none⟩)) rfl (ev_of haa (by kernel_rfl)) ?_
              refine hK _ _ ?_ (World.grownBy.refl _ _) ⟨hJ.1, by obtain ⟨p', h1, h2⟩ := hJ.2; exact ⟨p', by omega, h2⟩⟩
              show (IsPtr g) w' _
              exact rfl
            · intro n vs aa w' haa hJ hd K hK
              refine ob_plain rfl ?_
              refine ob_fldK _ 2 (b := bx) rfl (by omega) (ev_of haa (by kernel_rfl)) ?_
              refine hK _ _ ?_ (World.grownBy.refl _ _) ⟨hJ.1, by obtain ⟨p', h1, h2⟩ := hJ.2; exact ⟨p', by omega, h2⟩⟩
              show (IsVal (.pointer (some ⟨bx, 2, none⟩))) w' _
              exact rfl
            · intro n vs aa w' haa hJ hd K hK
              refine ob_plain rfl ?_
              have d3 : (IsVal (.pointer (some ⟨bx, 2, none⟩))) w' (vs 3) := hd.1 rfl
              have e3 := d3
              refine ob_loadMT _ (v := .slice T tn tc) rfl (Eq.trans (b := vs 3) (ev_of haa (by kernel_rfl)) e3) ((Blk.grown HQ.out.blk hJ.1 hnb).cell 2) ?_
              refine hK _ _ ?_ (World.grownBy.refl _ _) ⟨hJ.1, by obtain ⟨p', h1, h2⟩ := hJ.2; exact ⟨p', by omega, h2⟩⟩
              show (IsVal (.slice T tn tc)) w' _
              exact rfl
            · intro n vs aa w' haa hJ hd K hK
              refine ob_plain rfl ?_
              have d4 : (IsVal (.slice T tn tc)) w' (vs 4) := hd.1 rfl
              have e4 := d4
              refine ob_lenT _ rfl (Eq.trans (b := vs 4) (ev_of haa (by kernel_rfl)) e4) ?_
              refine hK _ _ ?_ (World.grownBy.refl _ _) ⟨hJ.1, by obtain ⟨p', h1, h2⟩ := hJ.2; exact ⟨p', by omega, h2⟩⟩
              show (IntIn ((tn : Int)) ((tn : Int))) w' _
              exact ⟨_, rfl, Int.le_refl _, Int.le_refl _⟩
            · intro n vs aa w' haa hJ hd K hK
              refine ob_plain rfl ?_
              have d2 : (IsPtr g) w' (vs 2) := hd.1 rfl
              have e2 := d2
              have d5 : (IntIn ((tn : Int)) ((tn : Int))) w' (vs 5) := hd.2.1 rfl
              obtain ⟨x5, e5, l5, u5⟩ := d5
              obtain ⟨hg', p', hp', hr'⟩ := hJ
              refine ob_call 47 _ _ #[.pointer (some ⟨g, 0, none⟩), .int .i64 x5] rfl (Eq.trans (b := #[vs 2, vs 5]) (evs_of haa (by kernel_rfl)) (by rw [e2, e5])) (fun _ _ => by kernel_rfl) ?_
              refine (pick_any g A len cap p' x5 _ hr' (by omega) (by omega) (by omega)).mono ?_
              rintro e w2 ⟨x, rfl, x0, x1, hr2, hg2⟩
              refine ⟨_, rfl, ?_⟩
              refine hK _ _ ?_ hg2 ⟨hg'.trans hg2, p' + 1, by omega, hr2⟩
              show (IntIn (0) ((tn : Int) - (1))) w' _
              exact ⟨x, rfl, x0, by omega⟩
            · intro n vs aa w' haa hJ hd K hK
              refine ob_plain rfl ?_
              have d6 : (IntIn (0) ((tn : Int) - (1))) w' (vs 6) := hd.1 rfl
              obtain ⟨x6, e6, l6, u6⟩ := d6
              refine ob_build1 _ (u0 := x6) rfl (Eq.trans (b := vs 6) (ev_of haa (by kernel_rfl)) e6) ?_
              refine hK _ _ ⟨_, rfl, Nat.ne_of_gt hJ.2.choose_spec.2.lt, by simp, fun k hk => ?_⟩ (World.grownBy_alloc _ _ _) ⟨hJ.1.trans (World.grownBy_alloc _ _ _), by obtain ⟨p', h1, h2⟩ := hJ.2; exact ⟨p', by omega, h2.alloc _⟩⟩
              match k, hk with
              | 0, _ => exact ⟨x6, by simp [go_sem], by omega, by omega⟩
          intro vs w' hJ hall
          obtain ⟨ab, he, hn1, hn2, hc⟩ : ArrIn g 1 0 100 w' (vs 7) := hall 7 (by decide)
          obtain ⟨y, hy, -, -⟩ := hc 0 (by omega)
          have hz : vs 1 = .slice B bn bc := hall 1 (by decide)
          clear hall hc
          obtain ⟨hgr, p', hp', hr'⟩ := hJ
          replace HD := Lib.hid (HD.out.step hgr ⟨p', hp', hr'⟩)
          replace HR := Lib.hid (HR.out.rd hgr (by omega))
          replace HQ := Lib.hid (HQ.out.rd hgr)
          clear hgr
          clear hr' hR
          simp only [List.take_succ_cons, List.take_zero, List.drop_succ_cons, List.drop_zero, fill, Act.put, List.toList_toArray, List.setIfInBounds_toArray, List.set_cons_zero, List.set_cons_succ, Nat.zero_add, Nat.reduceAdd, he, hz]
          obtain ⟨o1, o2, o3, o4⟩ := HQ.out.ord
          have hsz := HD.out.size.2
          refine push_own_g _ (by rfl) _ _ (by rfl) l2 bn bc ab 1 B ms y (by rfl) (by rfl) HQ.out.map hy (by omega) (by omega) ?_
          intro B7 bc7 w7 o7 g7
          have hbn : some bx ≠ (Value.slice B bn bc).ownBlock := fun q => by have := (HQ.out.map.lt bx q.symm).1; omega
          have hQ7 := Lib.hid (HQ.out.newM g7 o7)
          have hX7 := HQ.out.blk.grown g7 hbn
          have c2 : w7.cell? ⟨bx, 1, none⟩ = some (.slice B bn bc) := hX7.cell 1
          have d2 := hX7.frozen 1
          replace HR := Lib.hid ((HR.out.grown g7 (by intro e; have := (HQ.out.map.lt _ e.symm).1; omega)).far (p := ⟨bx, 1, none⟩) hbr (.slice B7 (bn + 1) bc7))
          replace HD := Lib.hid ((HD.out.push g7 (fun q hq => by have := (HQ.out.map.lt q hq).1; omega)).set ⟨bx, 1, none⟩ (.slice B7 (bn + 1) bc7) hbw)
          clear o7 g7 hX7 HQ o1 o2 o3 o4
          go_wp2_with fail
          go_roundw
          case rel => exact ⟨K - 1, B7, bn + 1, bc7, ms ++ [y], by rw [show (K : Int) - 1 = ((K - 1 : Nat) : Int) by omega], by omega, HR.out, hQ7.out, HD.out.more (by omega)⟩
          case measure => simp [intOf]; omega
        · obtain rfl : K = 0 := by omega
          have q1 : ¬ ((0 : Nat) : Int) > 0 := by omega
          have hbn1 : 1 ≤ bn := by omega
          have hbn20 : bn ≤ 20 := by omega
          clear hlt hK
          go_wp2_with fail
          refine (odd_d HD.out N (by omega) n0 n1).mono ?_
          rintro e W' ⟨v, rfl, ⟨b, rfl, hb9⟩, hD, hgr⟩
          replace HD := Lib.hid hD
          clear hD
          replace HR := Lib.hid (HR.out.rd hgr (by omega))
          replace HQ := Lib.hid (HQ.out.rd hgr)
          clear hgr
          clear hb9
          cases b
          · replace HQ := Lib.hid (HQ.out.fin (by show bn ≤ 50; omega) (by show tn ≤ 10; omega))
            have x0 := HQ.out.blk.cell 0
            have x1 := HQ.out.blk.cell 1
            have x2 := HQ.out.blk.cell 2
            have x3 := HQ.out.blk.cell 3
            have x4 := HQ.out.blk.cell 4
            have y0' := HQ.out.blk.frozen 0
            have y1' := HQ.out.blk.frozen 1
            have y2' := HQ.out.blk.frozen 2
            have y3' := HQ.out.blk.frozen 3
            have y4' := HQ.out.blk.frozen 4
            have hql := HQ.out.blk.lt
            simp only [Fld.cs, List.getElem?_toArray, List.getElem?_cons_succ, List.getElem?_cons_zero] at x0 x1 x2 x3 x4
            have v0 := HR.out.cell 0
            have v1 := HR.out.cell 1
            have v2 := HR.out.cell 2
            have v3 := HR.out.cell 3
            have v4 := HR.out.cell 4
            have t0 := HR.out.frozen 0
            have t1 := HR.out.frozen 1
            have t2 := HR.out.frozen 2
            have t3 := HR.out.frozen 3
            have t4 := HR.out.frozen 4
            have hrl := HR.out.lt
            simp only [zeroF, List.getElem?_toArray, List.getElem?_cons_succ, List.getElem?_cons_zero] at v0 v1 v2 v3 v4
            go_wp2_with fail
            have hbk := setN_blk [.int .i64 (fW), .slice (B) (bn) (bc), .slice (T) (tn) (tc), .int .i64 (fx), .int .i64 (fy)] 0 _ _ HR.out
            simp only [setA, zeroF, List.setIfInBounds_toArray, List.set_cons_zero, List.set_cons_succ, Nat.zero_add, Nat.reduceAdd] at hbk
            refine bodyPost_ret (results_cell_row Try.results46 _ _ w.heap.size 26 #[.int .i64 (fW), .slice (B) (bn) (bc), .slice (T) (tn) (tc), .int .i64 (fx), .int .i64 (fy)] (0, 0) _ rfl hbk Try.underlying26 rfl rfl) rfl ?_
            refine draws_of (Drs.setN (Nat.le_refl _) [.int .i64 (fW), .slice (B) (bn) (bc), .slice (T) (tn) (tc), .int .i64 (fx), .int .i64 (fy)] 0 _ HD.out) (by omega) ?_
            exact ⟨_, rfl, HQ.out.sure.keep (Keep.setN (.inl rfl) [.int .i64 (fW), .slice (B) (bn) (bc), .slice (T) (tn) (tc), .int .i64 (fx), .int .i64 (fy)] 0 _ _ HR.out), HQ.out.ok⟩
          go_wp2_with fail
          refine (pick_d HD.out 6 (by omega) (by omega) (by omega)).mono ?_
          rintro e W' ⟨v, rfl, ⟨z, rfl, z0, z1⟩, hD, hgr⟩
          replace HD := Lib.hid hD
          clear hD
          replace HR := Lib.hid (HR.out.rd hgr (by omega))
          replace HQ := Lib.hid (HQ.out.rd hgr)
          clear hgr
          by_cases a0 : z = 0
          · subst a0
            clear z0 z1
            replace HQ := Lib.hid (HQ.out.fin (by show bn ≤ 50; omega) (by show tn ≤ 10; omega))
            go_wp2_with fail
            have hsz := HD.out.size.2
            replace HR := Lib.hid (HR.out.alloc (.cells #[.int .i64 (0), .int .i64 (9)] 3))
            replace HQ := Lib.hid (HQ.out.below ((Below.refl _ _).alloc (Nat.le_refl _) (.cells #[.int .i64 (0), .int .i64 (9)] 3)))
            replace HD := Lib.hid (HD.out.alloc (.cells #[.int .i64 (0), .int .i64 (9)] 3))
            go_wp2_with fail
            refine (pick_d HD.out 2 (by omega) (by omega) (by omega)).mono ?_
            rintro e W' ⟨v, rfl, ⟨y, rfl, u0, u1⟩, hD, hgr⟩
            replace HD := Lib.hid hD
            clear hD
            have l0 := grown_cell hgr (by simp) (by intro e; injection e with e; omega) (cell_new _ _ _ 0)
            have l1 := grown_cell hgr (by simp) (by intro e; injection e with e; omega) (cell_new _ _ _ 1)
            replace HR := Lib.hid (HR.out.rd hgr (by omega))
            replace HQ := Lib.hid (HQ.out.rd hgr)
            clear hgr
            have x0 := HQ.out.blk.cell 0
            have x1 := HQ.out.blk.cell 1
            have x2 := HQ.out.blk.cell 2
            have x3 := HQ.out.blk.cell 3
            have x4 := HQ.out.blk.cell 4
            have y0' := HQ.out.blk.frozen 0
            have y1' := HQ.out.blk.frozen 1
            have y2' := HQ.out.blk.frozen 2
            have y3' := HQ.out.blk.frozen 3
            have y4' := HQ.out.blk.frozen 4
            have hql := HQ.out.blk.lt
            simp only [Fld.cs, List.getElem?_toArray, List.getElem?_cons_succ, List.getElem?_cons_zero] at x0 x1 x2 x3 x4
            obtain rfl | rfl : y = 0 ∨ y = 1 := by omega
            · replace HQ := Lib.hid (HQ.out.set (f' := ⟨0, B, bn, bc, ms, T, tn, tc, ts, fx, fy⟩) 0 (.int .i64 0) rfl rfl)
              replace HR := Lib.hid (HR.out.far (p := ⟨bx, 0, none⟩) hbr (.int .i64 0))
              replace HD := Lib.hid (HD.out.set ⟨bx, 0, none⟩ (.int .i64 0) hbw)
              have x0 := HQ.out.blk.cell 0
              have x1 := HQ.out.blk.cell 1
              have x2 := HQ.out.blk.cell 2
              have x3 := HQ.out.blk.cell 3
              have x4 := HQ.out.blk.cell 4
              have y0' := HQ.out.blk.frozen 0
              have y1' := HQ.out.blk.frozen 1
              have y2' := HQ.out.blk.frozen 2
              have y3' := HQ.out.blk.frozen 3
              have y4' := HQ.out.blk.frozen 4
              have hql := HQ.out.blk.lt
              simp only [Fld.cs, List.getElem?_toArray, List.getElem?_cons_succ, List.getElem?_cons_zero] at x0 x1 x2 x3 x4
              have v0 := HR.out.cell 0
              have v1 := HR.out.cell 1
              have v2 := HR.out.cell 2
              have v3 := HR.out.cell 3
              have v4 := HR.out.cell 4
              have t0 := HR.out.frozen 0
              have t1 := HR.out.frozen 1
              have t2 := HR.out.frozen 2
              have t3 := HR.out.frozen 3
              have t4 := HR.out.frozen 4
              have hrl := HR.out.lt
              simp only [zeroF, List.getElem?_toArray, List.getElem?_cons_succ, List.getElem?_cons_zero] at v0 v1 v2 v3 v4
              go_wp2_with fail
              have hbk := setN_blk [.int .i64 (0), .slice (B) (bn) (bc), .slice (T) (tn) (tc), .int .i64 (fx), .int .i64 (fy)] 0 _ _ HR.out
              simp only [setA, zeroF, List.setIfInBounds_toArray, List.set_cons_zero, List.set_cons_succ, Nat.zero_add, Nat.reduceAdd] at hbk
              refine bodyPost_ret (results_cell_row Try.results46 _ _ w.heap.size 26 #[.int .i64 (0), .slice (B) (bn) (bc), .slice (T) (tn) (tc), .int .i64 (fx), .int .i64 (fy)] (0, 0) _ rfl hbk Try.underlying26 rfl rfl) rfl ?_
              refine draws_of (Drs.setN (Nat.le_refl _) [.int .i64 (0), .slice (B) (bn) (bc), .slice (T) (tn) (tc), .int .i64 (fx), .int .i64 (fy)] 0 _ HD.out) (by omega) ?_
              exact ⟨_, rfl, HQ.out.sure.keep (Keep.setN (.inl rfl) [.int .i64 (0), .slice (B) (bn) (bc), .slice (T) (tn) (tc), .int .i64 (fx), .int .i64 (fy)] 0 _ _ HR.out), HQ.out.ok⟩
            · replace HQ := Lib.hid (HQ.out.set (f' := ⟨9, B, bn, bc, ms, T, tn, tc, ts, fx, fy⟩) 0 (.int .i64 9) rfl rfl)
              replace HR := Lib.hid (HR.out.far (p := ⟨bx, 0, none⟩) hbr (.int .i64 9))
              replace HD := Lib.hid (HD.out.set ⟨bx, 0, none⟩ (.int .i64 9) hbw)
              have x0 := HQ.out.blk.cell 0
              have x1 := HQ.out.blk.cell 1
              have x2 := HQ.out.blk.cell 2
              have x3 := HQ.out.blk.cell 3
              have x4 := HQ.out.blk.cell 4
              have y0' := HQ.out.blk.frozen 0
              have y1' := HQ.out.blk.frozen 1
              have y2' := HQ.out.blk.frozen 2
              have y3' := HQ.out.blk.frozen 3
              have y4' := HQ.out.blk.frozen 4
              have hql := HQ.out.blk.lt
              simp only [Fld.cs, List.getElem?_toArray, List.getElem?_cons_succ, List.getElem?_cons_zero] at x0 x1 x2 x3 x4
              have v0 := HR.out.cell 0
              have v1 := HR.out.cell 1
              have v2 := HR.out.cell 2
              have v3 := HR.out.cell 3
              have v4 := HR.out.cell 4
              have t0 := HR.out.frozen 0
              have t1 := HR.out.frozen 1
              have t2 := HR.out.frozen 2
              have t3 := HR.out.frozen 3
              have t4 := HR.out.frozen 4
              have hrl := HR.out.lt
              simp only [zeroF, List.getElem?_toArray, List.getElem?_cons_succ, List.getElem?_cons_zero] at v0 v1 v2 v3 v4
              go_wp2_with fail
              have hbk := setN_blk [.int .i64 (9), .slice (B) (bn) (bc), .slice (T) (tn) (tc), .int .i64 (fx), .int .i64 (fy)] 0 _ _ HR.out
              simp only [setA, zeroF, List.setIfInBounds_toArray, List.set_cons_zero, List.set_cons_succ, Nat.zero_add, Nat.reduceAdd] at hbk
              refine bodyPost_ret (results_cell_row Try.results46 _ _ w.heap.size 26 #[.int .i64 (9), .slice (B) (bn) (bc), .slice (T) (tn) (tc), .int .i64 (fx), .int .i64 (fy)] (0, 0) _ rfl hbk Try.underlying26 rfl rfl) rfl ?_
              refine draws_of (Drs.setN (Nat.le_refl _) [.int .i64 (9), .slice (B) (bn) (bc), .slice (T) (tn) (tc), .int .i64 (fx), .int .i64 (fy)] 0 _ HD.out) (by omega) ?_
              exact ⟨_, rfl, HQ.out.sure.keep (Keep.setN (.inl rfl) [.int .i64 (9), .slice (B) (bn) (bc), .slice (T) (tn) (tc), .int .i64 (fx), .int .i64 (fy)] 0 _ _ HR.out), HQ.out.ok⟩
          by_cases a1 : z = 1
          · subst a1
            clear z0 z1 a0
            have htm := HQ.out.map
            obtain ⟨gb, cp, ev, gb0, gb1⟩ := htm.form (by show 0 < bn; omega)
            injection ev with ev _ ec
            simp only at ev ec
            subst ev ec
            clear htm
            go_upto_region 16 with (fail)
            obtain ⟨p, hp1, hR⟩ := HD.out.rd
            have hp : p ≤ 500000000 := by omega
            have hnb : some bx ≠ some g := by intro e; injection e with e; exact hbg e
            refine region_tail 16 (some g) (IsVal (.pointer (some ⟨bx, 1, none⟩)) :: IsVal (.slice (some ⟨gb, 0, none⟩) bn bc) :: IsPtr g :: IsVal (.pointer (some ⟨bx, 1, none⟩)) :: IsVal (.slice (some ⟨gb, 0, none⟩) bn bc) :: IntIn ((bn : Int)) ((bn : Int)) :: IntIn (0) ((bn : Int) - (1)) :: IsVal (.pointer (some ⟨bx, 2, none⟩)) :: IsVal (.slice T tn tc) :: IntIn ((tn : Int)) ((tn : Int)) :: ArrIn g 2 (-1) (100) :: IsPtr g :: IntIn (0) (1) :: ElAt g (-1) (100) :: IntIn (-1) (100) :: AggPt gb bn :: []) (fun n w' => World.grownBy W' w' (some g) ∧ ∃ p' : Nat, p' + 1 * n ≤ p + 16 ∧ Rd w' g A len cap p') ?_ ?_ ?_ ?_ ?_ ?_ ?_ ?_ ?_ ?_ ?_
            · kernel_rfl
            · exact ⟨st_val _ _, st_val _ _, st_ptr _ _, st_val _ _, st_val _ _, st_int _ _ _, st_int _ _ _, st_val _ _, st_val _ _, st_int _ _ _, st_arr _ _ _ _, st_ptr _ _, st_int _ _ _, st_el _ _ _, st_int _ _ _, st_ptin _ _ _, trivial⟩
            · simp
            · exact of_decide_eq_true (by kernel_rfl)
            · kernel_rfl
            · kernel_rfl
            · kernel_rfl
            · kernel_rfl
            · exact ⟨grown_drew _ _, p, by simp, hR⟩
            · refine each_cons ?_ (each_cons ?_ (each_cons ?_ (each_cons ?_ (each_cons ?_ (each_cons ?_ (each_cons ?_ (each_cons ?_ (each_cons ?_ (each_cons ?_ (each_cons ?_ (each_cons ?_ (each_cons ?_ (each_cons ?_ (each_cons ?_ (each_cons ?_ ( trivial))))))))))))))))
              · intro n vs aa w' haa hJ hd K hK
                refine ob_plain rfl ?_
                refine ob_fldK _ 1 (b := bx) rfl (by omega) (ev_of haa (by kernel_rfl)) ?_
                refine hK _ _ ?_ (World.grownBy.refl _ _) ⟨hJ.1, by obtain ⟨p', h1, h2⟩ := hJ.2; exact ⟨p', by omega, h2⟩⟩
                show (IsVal (.pointer (some ⟨bx, 1, none⟩))) w' _
                exact rfl
              · intro n vs aa w' haa hJ hd K hK
                refine ob_plain rfl ?_
                have d0 : (IsVal (.pointer (some ⟨bx, 1, none⟩))) w' (vs 0) := hd.1 rfl
                have e0 := d0
                refine ob_loadM _ (v := .slice (some ⟨gb, 0, none⟩) bn bc) rfl (Eq.trans (b := vs 0) (ev_of haa (by kernel_rfl)) e0) ((Blk.grown HQ.out.blk hJ.1 hnb).cell 1) ?_
                refine hK _ _ ?_ (World.grownBy.refl _ _) ⟨hJ.1, by obtain ⟨p', h1, h2⟩ := hJ.2; exact ⟨p', by omega, h2⟩⟩
                show (IsVal (.slice (some ⟨gb, 0, none⟩) bn bc)) w' _
                exact rfl
              · intro n vs aa w' haa hJ hd K hK
                refine ob_plain rfl ?_
                refine ob_move _ (v := .pointer (some ⟨g, 0, none⟩)) rfl (ev_of haa (by kernel_rfl)) ?_
                refine hK _ _ ?_ (World.grownBy.refl _ _) ⟨hJ.1, by obtain ⟨p', h1, h2⟩ := hJ.2; exact ⟨p', by omega, h2⟩⟩
                show (IsPtr g) w' _
                exact rfl
              · intro n vs aa w' haa hJ hd K hK
                refine ob_plain rfl ?_
                refine ob_fldK _ 1 (b := bx) rfl (by omega) (ev_of haa (by kernel_rfl)) ?_
                refine hK _ _ ?_ (World.grownBy.refl _ _) ⟨hJ.1, by obtain ⟨p', h1, h2⟩ := hJ.2; exact ⟨p', by omega, h2⟩⟩
                show (IsVal (.pointer (some ⟨bx, 1, none⟩))) w' _
                exact rfl
              · intro n vs aa w' haa hJ hd K hK
                refine ob_plain rfl ?_
                have d3 : (IsVal (.pointer (some ⟨bx, 1, none⟩))) w' (vs 3) := hd.1 rfl
                have e3 := d3
                refine ob_loadM _ (v := .slice (some ⟨gb, 0, none⟩) bn bc) rfl (Eq.trans (b := vs 3) (ev_of haa (by kernel_rfl)) e3) ((Blk.grown HQ.out.blk hJ.1 hnb).cell 1) ?_
                refine hK _ _ ?_ (World.grownBy.refl _ _) ⟨hJ.1, by obtain ⟨p', h1, h2⟩ := hJ.2; exact ⟨p', by omega, h2⟩⟩
                show (IsVal (.slice (some ⟨gb, 0, none⟩) bn bc)) w' _
                exact rfl
              · intro n vs aa w' haa hJ hd K hK
                refine ob_plain rfl ?_
                have d4 : (IsVal (.slice (some ⟨gb, 0, none⟩) bn bc)) w' (vs 4) := hd.1 rfl
                have e4 := d4
                refine ob_len _ _ (by simp) rfl (Eq.trans (b := vs 4) (ev_of haa (by kernel_rfl)) e4) ?_
                refine hK _ _ ?_ (World.grownBy.refl _ _) ⟨hJ.1, by obtain ⟨p', h1, h2⟩ := hJ.2; exact ⟨p', by omega, h2⟩⟩
                show (IntIn ((bn : Int)) ((bn : Int))) w' _
                exact ⟨_, rfl, Int.le_refl _, Int.le_refl _⟩
              · intro n vs aa w' haa hJ hd K hK
                refine ob_plain rfl ?_
                have d2 : (IsPtr g) w' (vs 2) := hd.1 rfl
                have e2 := d2
                have d5 : (IntIn ((bn : Int)) ((bn : Int))) w' (vs 5) := hd.2.1 rfl
                obtain ⟨x5, e5, l5, u5⟩ := d5
                obtain ⟨hg', p', hp', hr'⟩ := hJ
                refine ob_call 47 _ _ #[.pointer (some ⟨g, 0, none⟩), .int .i64 x5] rfl (Eq.trans (b := #[vs 2, vs 5]) (evs_of haa (by kernel_rfl)) (by rw [e2, e5])) (fun _ _ => by kernel_rfl) ?_
                refine (pick_any g A len cap p' x5 _ hr' (by omega) (by omega) (by omega)).mono ?_
                rintro e w2 ⟨x, rfl, x0, x1, hr2, hg2⟩
                refine ⟨_, rfl, ?_⟩
                refine hK _ _ ?_ hg2 ⟨hg'.trans hg2, p' + 1, by omega, hr2⟩
                show (IntIn (0) ((bn : Int) - (1))) w' _
                exact ⟨x, rfl, x0, by omega⟩
              · intro n vs aa w' haa hJ hd K hK
                refine ob_plain rfl ?_
                refine ob_fldK _ 2 (b := bx) rfl (by omega) (ev_of haa (by kernel_rfl)) ?_
                refine hK _ _ ?_ (World.grownBy.refl _ _) ⟨hJ.1, by obtain ⟨p', h1, h2⟩ := hJ.2; exact ⟨p', by omega, h2⟩⟩
                show (IsVal (.pointer (some ⟨bx, 2, none⟩))) w' _
                exact rfl
              · intro n vs aa w' haa hJ hd K hK
                refine ob_plain rfl ?_
                have d7 : (IsVal (.pointer (some ⟨bx, 2, none⟩))) w' (vs 7) := hd.1 rfl
                have e7 := d7
                refine ob_loadMT _ (v := .slice T tn tc) rfl (Eq.trans (b := vs 7) (ev_of haa (by kernel_rfl)) e7) ((Blk.grown HQ.out.blk hJ.1 hnb).cell 2) ?_
                refine hK _ _ ?_ (World.grownBy.refl _ _) ⟨hJ.1, by obtain ⟨p', h1, h2⟩ := hJ.2; exact ⟨p', by omega, h2⟩⟩
                show (IsVal (.slice T tn tc)) w' _
                exact rfl
              · intro n vs aa w' haa hJ hd K hK
                refine ob_plain rfl ?_
                have d8 : (IsVal (.slice T tn tc)) w' (vs 8) := hd.1 rfl
                have e8 := d8
                refine ob_lenT _ rfl (Eq.trans (b := vs 8) (ev_of haa (by kernel_rfl)) e8) ?_
                refine hK _ _ ?_ (World.grownBy.refl _ _) ⟨hJ.1, by obtain ⟨p', h1, h2⟩ := hJ.2; exact ⟨p', by omega, h2⟩⟩
                show (IntIn ((tn : Int)) ((tn : Int))) w' _
                exact ⟨_, rfl, Int.le_refl _, Int.le_refl _⟩
              · intro n vs aa w' haa hJ hd K hK
                refine ob_plain rfl ?_
                have d9 : (IntIn ((tn : Int)) ((tn : Int))) w' (vs 9) := hd.1 rfl
                obtain ⟨x9, e9, l9, u9⟩ := d9
                refine ob_build2 _ _ (u0 := (-1)) (u1 := x9) rfl (ev_of haa (by kernel_rfl)) (Eq.trans (b := vs 9) (ev_of haa (by kernel_rfl)) e9) ?_
                refine hK _ _ ⟨_, rfl, Nat.ne_of_gt hJ.2.choose_spec.2.lt, by simp, fun k hk => ?_⟩ (World.grownBy_alloc _ _ _) ⟨hJ.1.trans (World.grownBy_alloc _ _ _), by obtain ⟨p', h1, h2⟩ := hJ.2; exact ⟨p', by omega, h2.alloc _⟩⟩
                match k, hk with
                | 0, _ => exact ⟨(-1), by simp [go_sem], by omega, by omega⟩
                | 1, _ => exact ⟨x9, by simp [go_sem], by omega, by omega⟩
              · intro n vs aa w' haa hJ hd K hK
                refine ob_plain rfl ?_
                refine ob_move _ (v := .pointer (some ⟨g, 0, none⟩)) rfl (ev_of haa (by kernel_rfl)) ?_
                refine hK _ _ ?_ (World.grownBy.refl _ _) ⟨hJ.1, by obtain ⟨p', h1, h2⟩ := hJ.2; exact ⟨p', by omega, h2⟩⟩
                show (IsPtr g) w' _
                exact rfl
              · intro n vs aa w' haa hJ hd K hK
                refine ob_plain rfl ?_
                have d11 : (IsPtr g) w' (vs 11) := hd.1 rfl
                have e11 := d11
                obtain ⟨hg', p', hp', hr'⟩ := hJ
                refine ob_call 47 _ _ #[.pointer (some ⟨g, 0, none⟩), .int .i64 (2)] rfl (Eq.trans (b := #[vs 11, .int .i64 (2)]) (evs_of haa (by kernel_rfl)) (by rw [e11])) (fun _ _ => by kernel_rfl) ?_
                refine (pick_any g A len cap p' (2) _ hr' (by omega) (by omega) (by omega)).mono ?_
                rintro e w2 ⟨x, rfl, x0, x1, hr2, hg2⟩
                refine ⟨_, rfl, ?_⟩
                refine hK _ _ ?_ hg2 ⟨hg'.trans hg2, p' + 1, by omega, hr2⟩
                show (IntIn (0) (1)) w' _
                exact ⟨x, rfl, x0, by omega⟩
              · intro n vs aa w' haa hJ hd K hK
                refine ob_plain rfl ?_
                have d10 : (ArrIn g 2 (-1) (100)) w' (vs 10) := hd.1 rfl
                obtain ⟨b10, e10, n10, z10, c10⟩ := d10
                have d12 : (IntIn (0) (1)) w' (vs 12) := hd.2.1 rfl
                obtain ⟨x12, e12, l12, u12⟩ := d12
                refine ob_index _ _ _ (by simp) (u := x12) rfl (Eq.trans (b := vs 10) (ev_of haa (by kernel_rfl)) e10) (Eq.trans (b := vs 12) (ev_of haa (by kernel_rfl)) e12) (by omega) (by omega) ?_
                obtain ⟨y, hy, y0, y1⟩ := c10 x12.toNat (by omega)
                refine hK _ _ ?_ (World.grownBy.refl _ _) ⟨hJ.1, by obtain ⟨p', h1, h2⟩ := hJ.2; exact ⟨p', by omega, h2⟩⟩
                show (ElAt g (-1) (100)) w' _
                exact ⟨b10, _, rfl, n10, z10, y, by rw [Nat.zero_add]; exact hy, y0, y1⟩
              · intro n vs aa w' haa hJ hd K hK
                refine ob_plain rfl ?_
                have d13 : (ElAt g (-1) (100)) w' (vs 13) := hd.1 rfl
                obtain ⟨b13, j13, e13, n13, z13, x13, c13, l13, u13⟩ := d13
                refine ob_load _ _ (by simp) rfl (Eq.trans (b := vs 13) (ev_of haa (by kernel_rfl)) e13) c13 ?_
                refine hK _ _ ?_ (World.grownBy.refl _ _) ⟨hJ.1, by obtain ⟨p', h1, h2⟩ := hJ.2; exact ⟨p', by omega, h2⟩⟩
                show (IntIn (-1) (100)) w' _
                exact ⟨_, rfl, l13, u13⟩
              · intro n vs aa w' haa hJ hd K hK
                refine ob_plain rfl ?_
                have d1 : (IsVal (.slice (some ⟨gb, 0, none⟩) bn bc)) w' (vs 1) := hd.1 rfl
                have e1 := d1
                have d6 : (IntIn (0) ((bn : Int) - (1))) w' (vs 6) := hd.2.1 rfl
                obtain ⟨x6, e6, l6, u6⟩ := d6
                refine ob_index _ _ _ (by simp) (u := x6) rfl (Eq.trans (b := vs 1) (ev_of haa (by kernel_rfl)) e1) (Eq.trans (b := vs 6) (ev_of haa (by kernel_rfl)) e6) (by omega) (by omega) ?_
                refine hK _ _ ?_ (World.grownBy.refl _ _) ⟨hJ.1, by obtain ⟨p', h1, h2⟩ := hJ.2; exact ⟨p', by omega, h2⟩⟩
                show (AggPt gb bn) w' _
                exact ⟨_, rfl, by omega⟩
            intro vs w' hJ hall
            obtain ⟨j, hj, hjn⟩ : AggPt gb bn w' (vs 15) := hall 15 (by decide)
            obtain ⟨y, hy, -, -⟩ : IntIn (-1) 100 w' (vs 14) := hall 14 (by decide)
            clear hall
            obtain ⟨hgr, p', hp', hr'⟩ := hJ
            replace HD := Lib.hid (HD.out.step hgr ⟨p', hp', hr'⟩)
            replace HR := Lib.hid (HR.out.rd hgr (by omega))
            replace HQ := Lib.hid (HQ.out.rd hgr)
            clear hgr
            clear hr' hR
            simp only [List.take_succ_cons, List.take_zero, List.drop_succ_cons, List.drop_zero, fill, Act.put, List.toList_toArray, List.setIfInBounds_toArray, List.set_cons_zero, List.set_cons_succ, Nat.zero_add, Nat.reduceAdd, hj, hy]
            have hmap : w'.ownsRow l2 3 1 (.slice (some ⟨gb, 0, none⟩) bn bc) bn (iv ms) := HQ.out.map
            have hml := hmap.1
            have hcj : ∃ u, w'.cell? ⟨gb, j, none⟩ = some u := ⟨_, (hmap.cellAt j (by omega)).trans (List.getElem?_eq_getElem (by omega))⟩
            obtain ⟨u, hcj⟩ := hcj
            have hfj := hmap.frozenAt j
            obtain ⟨o1, o2, o3, o4⟩ := HQ.out.ord
            replace HQ := Lib.hid ((HQ.out.setM j y).fin (by show bn ≤ 50; omega) (by show tn ≤ 10; omega))
            replace HR := Lib.hid (HR.out.far (p := ⟨gb, j, none⟩) (by show w.heap.size ≠ gb; omega) (.int .i64 y))
            replace HD := Lib.hid (HD.out.set ⟨gb, j, none⟩ (.int .i64 y) (by show w.heap.size ≤ gb; omega))
            clear hmap o1 o2 o3 o4
            have x0 := HQ.out.blk.cell 0
            have x1 := HQ.out.blk.cell 1
            have x2 := HQ.out.blk.cell 2
            have x3 := HQ.out.blk.cell 3
            have x4 := HQ.out.blk.cell 4
            have y0' := HQ.out.blk.frozen 0
            have y1' := HQ.out.blk.frozen 1
            have y2' := HQ.out.blk.frozen 2
            have y3' := HQ.out.blk.frozen 3
            have y4' := HQ.out.blk.frozen 4
            have hql := HQ.out.blk.lt
            simp only [Fld.cs, List.getElem?_toArray, List.getElem?_cons_succ, List.getElem?_cons_zero] at x0 x1 x2 x3 x4
            have v0 := HR.out.cell 0
            have v1 := HR.out.cell 1
            have v2 := HR.out.cell 2
            have v3 := HR.out.cell 3
            have v4 := HR.out.cell 4
            have t0 := HR.out.frozen 0
            have t1 := HR.out.frozen 1
            have t2 := HR.out.frozen 2
            have t3 := HR.out.frozen 3
            have t4 := HR.out.frozen 4
            have hrl := HR.out.lt
            simp only [zeroF, List.getElem?_toArray, List.getElem?_cons_succ, List.getElem?_cons_zero] at v0 v1 v2 v3 v4
            go_wp2_with fail
            have hbk := setN_blk [.int .i64 (fW), .slice (some ⟨gb, 0, none⟩) (bn) (bc), .slice (T) (tn) (tc), .int .i64 (fx), .int .i64 (fy)] 0 _ _ HR.out
            simp only [setA, zeroF, List.setIfInBounds_toArray, List.set_cons_zero, List.set_cons_succ, Nat.zero_add, Nat.reduceAdd] at hbk
            refine bodyPost_ret (results_cell_row Try.results46 _ _ w.heap.size 26 #[.int .i64 (fW), .slice (some ⟨gb, 0, none⟩) (bn) (bc), .slice (T) (tn) (tc), .int .i64 (fx), .int .i64 (fy)] (0, 0) _ rfl hbk Try.underlying26 rfl rfl) rfl ?_
            refine draws_of (Drs.setN (Nat.le_refl _) [.int .i64 (fW), .slice (some ⟨gb, 0, none⟩) (bn) (bc), .slice (T) (tn) (tc), .int .i64 (fx), .int .i64 (fy)] 0 _ HD.out) (by omega) ?_
            exact ⟨_, rfl, HQ.out.sure.keep (Keep.setN (.inl rfl) [.int .i64 (fW), .slice (some ⟨gb, 0, none⟩) (bn) (bc), .slice (T) (tn) (tc), .int .i64 (fx), .int .i64 (fy)] 0 _ _ HR.out), HQ.out.ok⟩
          by_cases a2 : z = 2
          · subst a2
            clear z0 z1 a0 a1
            have htm := HQ.out.til
            obtain ⟨tb, cp, ev, tb0, tb1⟩ := htm.form (by show 0 < tn; omega)
            injection ev with ev _ ec
            simp only at ev ec
            subst ev ec
            clear htm
            go_upto_region 18 with (fail)
            obtain ⟨p, hp1, hR⟩ := HD.out.rd
            have hp : p ≤ 500000000 := by omega
            have hnb : some bx ≠ some g := by intro e; injection e with e; exact hbg e
            refine region_tail 5 (some g) (IsVal (.pointer (some ⟨bx, 2, none⟩)) :: IsVal (.slice (some ⟨tb, 0, none⟩) tn tc) :: IsPtr g :: AggTile :: IsVal (.pointer (some ⟨tb, 0, none⟩)) :: []) (fun n w' => World.grownBy W' w' (some g) ∧ ∃ p' : Nat, p' + 200 * n ≤ p + 1000 ∧ Rd w' g A len cap p') ?_ ?_ ?_ ?_ ?_ ?_ ?_ ?_ ?_ ?_ ?_
            · kernel_rfl
            · exact ⟨st_val _ _, st_val _ _, st_ptr _ _, st_tileW _, st_val _ _, trivial⟩
            · simp
            · exact of_decide_eq_true (by kernel_rfl)
            · kernel_rfl
            · kernel_rfl
            · kernel_rfl
            · kernel_rfl
            · exact ⟨grown_drew _ _, p, by simp, hR⟩
            · refine each_cons ?_ (each_cons ?_ (each_cons ?_ (each_cons ?_ (each_cons ?_ ( trivial)))))
              · intro n vs aa w' haa hJ hd K hK
                refine ob_plain rfl ?_
                refine ob_fldK _ 2 (b := bx) rfl (by omega) (ev_of haa (by kernel_rfl)) ?_
                refine hK _ _ ?_ (World.grownBy.refl _ _) ⟨hJ.1, by obtain ⟨p', h1, h2⟩ := hJ.2; exact ⟨p', by omega, h2⟩⟩
                show (IsVal (.pointer (some ⟨bx, 2, none⟩))) w' _
                exact rfl
              · intro n vs aa w' haa hJ hd K hK
                refine ob_plain rfl ?_
                have d0 : (IsVal (.pointer (some ⟨bx, 2, none⟩))) w' (vs 0) := hd.1 rfl
                have e0 := d0
                refine ob_loadMT _ (v := .slice (some ⟨tb, 0, none⟩) tn tc) rfl (Eq.trans (b := vs 0) (ev_of haa (by kernel_rfl)) e0) ((Blk.grown HQ.out.blk hJ.1 hnb).cell 2) ?_
                refine hK _ _ ?_ (World.grownBy.refl _ _) ⟨hJ.1, by obtain ⟨p', h1, h2⟩ := hJ.2; exact ⟨p', by omega, h2⟩⟩
                show (IsVal (.slice (some ⟨tb, 0, none⟩) tn tc)) w' _
                exact rfl
              · intro n vs aa w' haa hJ hd K hK
                refine ob_plain rfl ?_
                refine ob_move _ (v := .pointer (some ⟨g, 0, none⟩)) rfl (ev_of haa (by kernel_rfl)) ?_
                refine hK _ _ ?_ (World.grownBy.refl _ _) ⟨hJ.1, by obtain ⟨p', h1, h2⟩ := hJ.2; exact ⟨p', by omega, h2⟩⟩
                show (IsPtr g) w' _
                exact rfl
              · intro n vs aa w' haa hJ hd K hK
                refine ob_plain rfl ?_
                have d2 : (IsPtr g) w' (vs 2) := hd.1 rfl
                have e2 := d2
                obtain ⟨hg', p', hp', hr'⟩ := hJ
                refine ob_call 81 _ _ #[.pointer (some ⟨g, 0, none⟩), .int .i64 (1)] rfl (Eq.trans (b := #[vs 2, .int .i64 (1)]) (evs_of haa (by kernel_rfl)) (by rw [e2])) (fun _ _ => by kernel_rfl) ?_
                refine (l20Tile_z (by omega) (by omega) g A len cap p' hr' (by omega)).mono ?_
                rintro e w2 ⟨v, rfl, hv, hg2, p2, hp2, hr2⟩
                refine ⟨_, rfl, ?_⟩
                refine hK _ _ ?_ hg2 ⟨hg'.trans hg2, p2, by omega, hr2⟩
                show (AggTile) w' _
                exact hv
              · intro n vs aa w' haa hJ hd K hK
                refine ob_plain rfl ?_
                have d1 : (IsVal (.slice (some ⟨tb, 0, none⟩) tn tc)) w' (vs 1) := hd.1 rfl
                have e1 := d1
                refine ob_indexT _ _ rfl (Eq.trans (b := vs 1) (ev_of haa (by kernel_rfl)) e1) (ev_of haa (by kernel_rfl)) (by omega) ?_
                refine hK _ _ ?_ (World.grownBy.refl _ _) ⟨hJ.1, by obtain ⟨p', h1, h2⟩ := hJ.2; exact ⟨p', by omega, h2⟩⟩
                show (IsVal (.pointer (some ⟨tb, 0, none⟩))) w' _
                exact rfl
            intro vs w' hJ hall
            obtain ⟨t, ht⟩ : AggTile w' (vs 3) := hall 3 (by decide)
            have hz : vs 4 = .pointer (some ⟨tb, 0, none⟩) := hall 4 (by decide)
            clear hall
            obtain ⟨hgr, p', hp', hr'⟩ := hJ
            replace HD := Lib.hid (HD.out.step hgr ⟨p', hp', hr'⟩)
            replace HR := Lib.hid (HR.out.rd hgr (by omega))
            replace HQ := Lib.hid (HQ.out.rd hgr)
            clear hgr
            clear hr' hR
            simp only [List.take_succ_cons, List.take_zero, List.drop_succ_cons, List.drop_zero, fill, Act.put, List.toList_toArray, List.setIfInBounds_toArray, List.set_cons_zero, List.set_cons_succ, Nat.zero_add, Nat.reduceAdd, ht, hz]
            have htil : w'.ownsRow lo 83 64 (.slice (some ⟨tb, 0, none⟩) tn tc) tn (fl64 ts) := HQ.out.til
            have hthere : w'.there tb 0 (iv t.1).toArray.size := by rw [List.size_toArray, iv_len, t.2]; exact own_there htil (by omega)
            have hts : 0 < ts.length := by have h1 := htil.1; rw [fl64_len ts HQ.out.t64] at h1; omega
            obtain ⟨o1, o2, o3, o4⟩ := HQ.out.ord
            have hT9 := HQ.out.setT hts t.1 t.2
            replace HQ := Lib.hid (hT9.1.fin (by show bn ≤ 50; omega) (by show tn ≤ 10; omega))
            replace HR := Lib.hid (HR.out.grown hT9.2 (by intro e; injection e with e; omega))
            replace HD := Lib.hid (HD.out.push hT9.2 (by intro k hk; injection hk with hk; omega))
            refine wpList_store_mid rfl 83 _ _ rfl tb 0 (iv t.1).toArray (by rfl) (by rfl) hthere (tile_sizeA t.2) (iv_one _) ?_
            show wpList _ _ _ _ _ (w'.setCells tb 0 (iv t.1))
            obtain ⟨W9, hW9⟩ : ∃ W9, W9 = w'.setCells tb 0 (iv t.1) := ⟨_, rfl⟩
            rw [← hW9] at HQ HR HD ⊢
            clear hT9 hW9 htil hthere o1 o2 o3 o4
            have x0 := HQ.out.blk.cell 0
            have x1 := HQ.out.blk.cell 1
            have x2 := HQ.out.blk.cell 2
            have x3 := HQ.out.blk.cell 3
            have x4 := HQ.out.blk.cell 4
            have y0' := HQ.out.blk.frozen 0
            have y1' := HQ.out.blk.frozen 1
            have y2' := HQ.out.blk.frozen 2
            have y3' := HQ.out.blk.frozen 3
            have y4' := HQ.out.blk.frozen 4
            have hql := HQ.out.blk.lt
            simp only [Fld.cs, List.getElem?_toArray, List.getElem?_cons_succ, List.getElem?_cons_zero] at x0 x1 x2 x3 x4
            have v0 := HR.out.cell 0
            have v1 := HR.out.cell 1
            have v2 := HR.out.cell 2
            have v3 := HR.out.cell 3
            have v4 := HR.out.cell 4
            have t0 := HR.out.frozen 0
            have t1 := HR.out.frozen 1
            have t2 := HR.out.frozen 2
            have t3 := HR.out.frozen 3
            have t4 := HR.out.frozen 4
            have hrl := HR.out.lt
            simp only [zeroF, List.getElem?_toArray, List.getElem?_cons_succ, List.getElem?_cons_zero] at v0 v1 v2 v3 v4
            go_wp2_with fail
            have hbk := setN_blk [.int .i64 (fW), .slice (B) (bn) (bc), .slice (some ⟨tb, 0, none⟩) (tn) (tc), .int .i64 (fx), .int .i64 (fy)] 0 _ _ HR.out
            simp only [setA, zeroF, List.setIfInBounds_toArray, List.set_cons_zero, List.set_cons_succ, Nat.zero_add, Nat.reduceAdd] at hbk
            refine bodyPost_ret (results_cell_row Try.results46 _ _ w.heap.size 26 #[.int .i64 (fW), .slice (B) (bn) (bc), .slice (some ⟨tb, 0, none⟩) (tn) (tc), .int .i64 (fx), .int .i64 (fy)] (0, 0) _ rfl hbk Try.underlying26 rfl rfl) rfl ?_
            refine draws_of (Drs.setN (Nat.le_refl _) [.int .i64 (fW), .slice (B) (bn) (bc), .slice (some ⟨tb, 0, none⟩) (tn) (tc), .int .i64 (fx), .int .i64 (fy)] 0 _ HD.out) (by omega) ?_
            exact ⟨_, rfl, HQ.out.sure.keep (Keep.setN (.inl rfl) [.int .i64 (fW), .slice (B) (bn) (bc), .slice (some ⟨tb, 0, none⟩) (tn) (tc), .int .i64 (fx), .int .i64 (fy)] 0 _ _ HR.out), HQ.out.ok⟩
          have hform := HQ.out.map.form (by show 0 < bn; omega)
          replace HQ := Lib.hid (HQ.out.fin (by show bn ≤ 50; omega) (by show tn ≤ 10; omega))
          by_cases a3 : z = 3
          · subst a3
            clear z0 z1 a0 a1 a2
            go_wp2_with fail
            have hsz := HD.out.size.2
            replace HR := Lib.hid (HR.out.alloc (.cells #[.int .i64 (-1), .int .i64 (256)] 3))
            replace HQ := Lib.hid (HQ.out.below ((Below.refl _ _).alloc (Nat.le_refl _) (.cells #[.int .i64 (-1), .int .i64 (256)] 3)))
            replace HD := Lib.hid (HD.out.alloc (.cells #[.int .i64 (-1), .int .i64 (256)] 3))
            go_wp2_with fail
            refine (pick_d HD.out 2 (by omega) (by omega) (by omega)).mono ?_
            rintro e W' ⟨v, rfl, ⟨y, rfl, u0, u1⟩, hD, hgr⟩
            replace HD := Lib.hid hD
            clear hD
            have l0 := grown_cell hgr (by simp) (by intro e; injection e with e; omega) (cell_new _ _ _ 0)
            have l1 := grown_cell hgr (by simp) (by intro e; injection e with e; omega) (cell_new _ _ _ 1)
            replace HR := Lib.hid (HR.out.rd hgr (by omega))
            replace HQ := Lib.hid (HQ.out.rd hgr)
            clear hgr
            have x0 := HQ.out.blk.cell 0
            have x1 := HQ.out.blk.cell 1
            have x2 := HQ.out.blk.cell 2
            have x3 := HQ.out.blk.cell 3
            have x4 := HQ.out.blk.cell 4
            have y0' := HQ.out.blk.frozen 0
            have y1' := HQ.out.blk.frozen 1
            have y2' := HQ.out.blk.frozen 2
            have y3' := HQ.out.blk.frozen 3
            have y4' := HQ.out.blk.frozen 4
            have hql := HQ.out.blk.lt
            simp only [Fld.cs, List.getElem?_toArray, List.getElem?_cons_succ, List.getElem?_cons_zero] at x0 x1 x2 x3 x4
            obtain rfl | rfl : y = 0 ∨ y = 1 := by omega
            · replace HQ := Lib.hid (HQ.out.set (f' := ⟨fW, B, bn, bc, ms, T, tn, tc, ts, -1, fy⟩) 3 (.int .i64 (-1)) rfl rfl)
              replace HR := Lib.hid (HR.out.far (p := ⟨bx, 3, none⟩) hbr (.int .i64 (-1)))
              replace HD := Lib.hid (HD.out.set ⟨bx, 3, none⟩ (.int .i64 (-1)) hbw)
              have x0 := HQ.out.blk.cell 0
              have x1 := HQ.out.blk.cell 1
              have x2 := HQ.out.blk.cell 2
              have x3 := HQ.out.blk.cell 3
              have x4 := HQ.out.blk.cell 4
              have y0' := HQ.out.blk.frozen 0
              have y1' := HQ.out.blk.frozen 1
              have y2' := HQ.out.blk.frozen 2
              have y3' := HQ.out.blk.frozen 3
              have y4' := HQ.out.blk.frozen 4
              have hql := HQ.out.blk.lt
              simp only [Fld.cs, List.getElem?_toArray, List.getElem?_cons_succ, List.getElem?_cons_zero] at x0 x1 x2 x3 x4
              have v0 := HR.out.cell 0
              have v1 := HR.out.cell 1
              have v2 := HR.out.cell 2
              have v3 := HR.out.cell 3
              have v4 := HR.out.cell 4
              have t0 := HR.out.frozen 0
              have t1 := HR.out.frozen 1
              have t2 := HR.out.frozen 2
              have t3 := HR.out.frozen 3
              have t4 := HR.out.frozen 4
              have hrl := HR.out.lt
              simp only [zeroF, List.getElem?_toArray, List.getElem?_cons_succ, List.getElem?_cons_zero] at v0 v1 v2 v3 v4
              go_wp2_with fail
              have hbk := setN_blk [.int .i64 (fW), .slice (B) (bn) (bc), .slice (T) (tn) (tc), .int .i64 (-1), .int .i64 (fy)] 0 _ _ HR.out
              simp only [setA, zeroF, List.setIfInBounds_toArray, List.set_cons_zero, List.set_cons_succ, Nat.zero_add, Nat.reduceAdd] at hbk
              refine bodyPost_ret (results_cell_row Try.results46 _ _ w.heap.size 26 #[.int .i64 (fW), .slice (B) (bn) (bc), .slice (T) (tn) (tc), .int .i64 (-1), .int .i64 (fy)] (0, 0) _ rfl hbk Try.underlying26 rfl rfl) rfl ?_
              refine draws_of (Drs.setN (Nat.le_refl _) [.int .i64 (fW), .slice (B) (bn) (bc), .slice (T) (tn) (tc), .int .i64 (-1), .int .i64 (fy)] 0 _ HD.out) (by omega) ?_
              exact ⟨_, rfl, HQ.out.sure.keep (Keep.setN (.inl rfl) [.int .i64 (fW), .slice (B) (bn) (bc), .slice (T) (tn) (tc), .int .i64 (-1), .int .i64 (fy)] 0 _ _ HR.out), HQ.out.ok⟩
            · replace HQ := Lib.hid (HQ.out.set (f' := ⟨fW, B, bn, bc, ms, T, tn, tc, ts, 256, fy⟩) 3 (.int .i64 256) rfl rfl)
              replace HR := Lib.hid (HR.out.far (p := ⟨bx, 3, none⟩) hbr (.int .i64 256))
              replace HD := Lib.hid (HD.out.set ⟨bx, 3, none⟩ (.int .i64 256) hbw)
              have x0 := HQ.out.blk.cell 0
              have x1 := HQ.out.blk.cell 1
              have x2 := HQ.out.blk.cell 2
              have x3 := HQ.out.blk.cell 3
              have x4 := HQ.out.blk.cell 4
              have y0' := HQ.out.blk.frozen 0
              have y1' := HQ.out.blk.frozen 1
              have y2' := HQ.out.blk.frozen 2
              have y3' := HQ.out.blk.frozen 3
              have y4' := HQ.out.blk.frozen 4
              have hql := HQ.out.blk.lt
              simp only [Fld.cs, List.getElem?_toArray, List.getElem?_cons_succ, List.getElem?_cons_zero] at x0 x1 x2 x3 x4
              have v0 := HR.out.cell 0
              have v1 := HR.out.cell 1
              have v2 := HR.out.cell 2
              have v3 := HR.out.cell 3
              have v4 := HR.out.cell 4
              have t0 := HR.out.frozen 0
              have t1 := HR.out.frozen 1
              have t2 := HR.out.frozen 2
              have t3 := HR.out.frozen 3
              have t4 := HR.out.frozen 4
              have hrl := HR.out.lt
              simp only [zeroF, List.getElem?_toArray, List.getElem?_cons_succ, List.getElem?_cons_zero] at v0 v1 v2 v3 v4
              go_wp2_with fail
              have hbk := setN_blk [.int .i64 (fW), .slice (B) (bn) (bc), .slice (T) (tn) (tc), .int .i64 (256), .int .i64 (fy)] 0 _ _ HR.out
              simp only [setA, zeroF, List.setIfInBounds_toArray, List.set_cons_zero, List.set_cons_succ, Nat.zero_add, Nat.reduceAdd] at hbk
              refine bodyPost_ret (results_cell_row Try.results46 _ _ w.heap.size 26 #[.int .i64 (fW), .slice (B) (bn) (bc), .slice (T) (tn) (tc), .int .i64 (256), .int .i64 (fy)] (0, 0) _ rfl hbk Try.underlying26 rfl rfl) rfl ?_
              refine draws_of (Drs.setN (Nat.le_refl _) [.int .i64 (fW), .slice (B) (bn) (bc), .slice (T) (tn) (tc), .int .i64 (256), .int .i64 (fy)] 0 _ HD.out) (by omega) ?_
              exact ⟨_, rfl, HQ.out.sure.keep (Keep.setN (.inl rfl) [.int .i64 (fW), .slice (B) (bn) (bc), .slice (T) (tn) (tc), .int .i64 (256), .int .i64 (fy)] 0 _ _ HR.out), HQ.out.ok⟩
          by_cases a4 : z = 4
          · subst a4
            clear z0 z1 a0 a1 a2 a3
            obtain ⟨gb, cp, ev, gb0, gb1⟩ := hform
            injection ev with ev _ ec
            simp only at ev ec
            subst ev ec
            have x0 := HQ.out.blk.cell 0
            have x1 := HQ.out.blk.cell 1
            have x2 := HQ.out.blk.cell 2
            have x3 := HQ.out.blk.cell 3
            have x4 := HQ.out.blk.cell 4
            have y0' := HQ.out.blk.frozen 0
            have y1' := HQ.out.blk.frozen 1
            have y2' := HQ.out.blk.frozen 2
            have y3' := HQ.out.blk.frozen 3
            have y4' := HQ.out.blk.frozen 4
            have hql := HQ.out.blk.lt
            simp only [Fld.cs, List.getElem?_toArray, List.getElem?_cons_succ, List.getElem?_cons_zero] at x0 x1 x2 x3 x4
            have u0 : (1 : Int) ≤ (bn : Int) := by omega
            have u1 : (bn : Int) ≤ (bc : Int) := by have := HQ.out.ok.2.2.2.2.1; simp only at this; omega
            by_cases hbc : bc = 1
            · subst hbc
              obtain rfl : bn = 1 := by omega
              go_upto_region 23 with (fail)
              obtain ⟨W9, hW9⟩ : ∃ W9, W9 = W'.setCell ⟨bx, 1, none⟩ (.slice (some ⟨gb, 0, none⟩) 0 0) := ⟨_, rfl⟩
              replace HR := Lib.hid (HR.out.far (p := ⟨bx, 1, none⟩) hbr (.slice (some ⟨gb, 0, none⟩) 0 0))
              replace HD := Lib.hid (HD.out.set ⟨bx, 1, none⟩ (.slice (some ⟨gb, 0, none⟩) 0 0) hbw)
              replace HQ := Lib.hid (HQ.out.noM (b := gb) (c' := 0))
              rw [← hW9] at HQ HR HD ⊢
              clear x0 x1 x2 x3 x4 y0' y1' y2' y3' y4' hql
              clear hW9
              have x0 := HQ.out.blk.cell 0
              have x1 := HQ.out.blk.cell 1
              have x2 := HQ.out.blk.cell 2
              have x3 := HQ.out.blk.cell 3
              have x4 := HQ.out.blk.cell 4
              have y0' := HQ.out.blk.frozen 0
              have y1' := HQ.out.blk.frozen 1
              have y2' := HQ.out.blk.frozen 2
              have y3' := HQ.out.blk.frozen 3
              have y4' := HQ.out.blk.frozen 4
              have hql := HQ.out.blk.lt
              simp only [Fld.cs, List.getElem?_toArray, List.getElem?_cons_succ, List.getElem?_cons_zero] at x0 x1 x2 x3 x4
              have v0 := HR.out.cell 0
              have v1 := HR.out.cell 1
              have v2 := HR.out.cell 2
              have v3 := HR.out.cell 3
              have v4 := HR.out.cell 4
              have t0 := HR.out.frozen 0
              have t1 := HR.out.frozen 1
              have t2 := HR.out.frozen 2
              have t3 := HR.out.frozen 3
              have t4 := HR.out.frozen 4
              have hrl := HR.out.lt
              simp only [zeroF, List.getElem?_toArray, List.getElem?_cons_succ, List.getElem?_cons_zero] at v0 v1 v2 v3 v4
              go_wp2_with fail
              have hbk := setN_blk [.int .i64 (fW), .slice (some ⟨gb, 0, none⟩) (0) (0), .slice (T) (tn) (tc), .int .i64 (fx), .int .i64 (fy)] 0 _ _ HR.out
              simp only [setA, zeroF, List.setIfInBounds_toArray, List.set_cons_zero, List.set_cons_succ, Nat.zero_add, Nat.reduceAdd] at hbk
              refine bodyPost_ret (results_cell_row Try.results46 _ _ w.heap.size 26 #[.int .i64 (fW), .slice (some ⟨gb, 0, none⟩) (0) (0), .slice (T) (tn) (tc), .int .i64 (fx), .int .i64 (fy)] (0, 0) _ rfl hbk Try.underlying26 rfl rfl) rfl ?_
              refine draws_of (Drs.setN (Nat.le_refl _) [.int .i64 (fW), .slice (some ⟨gb, 0, none⟩) (0) (0), .slice (T) (tn) (tc), .int .i64 (fx), .int .i64 (fy)] 0 _ HD.out) (by omega) ?_
              exact ⟨_, rfl, HQ.out.sure.keep (Keep.setN (.inl rfl) [.int .i64 (fW), .slice (some ⟨gb, 0, none⟩) (0) (0), .slice (T) (tn) (tc), .int .i64 (fx), .int .i64 (fy)] 0 _ _ HR.out), HQ.out.ok⟩
            · obtain ⟨m, rfl⟩ : ∃ m, bn = m + 1 := ⟨bn - 1, by omega⟩
              go_upto_region 23 with (fail)
              obtain ⟨W9, hW9⟩ : ∃ W9, W9 = W'.setCell ⟨bx, 1, none⟩ (.slice (some ⟨gb, 1, none⟩) m (bc - 1)) := ⟨_, rfl⟩
              replace HR := Lib.hid (HR.out.far (p := ⟨bx, 1, none⟩) hbr (.slice (some ⟨gb, 1, none⟩) m (bc - 1)))
              replace HD := Lib.hid (HD.out.set ⟨bx, 1, none⟩ (.slice (some ⟨gb, 1, none⟩) m (bc - 1)) hbw)
              replace HQ := Lib.hid HQ.out.tail
              rw [← hW9] at HQ HR HD ⊢
              clear x0 x1 x2 x3 x4 y0' y1' y2' y3' y4' hql
              clear hW9
              have x0 := HQ.out.blk.cell 0
              have x1 := HQ.out.blk.cell 1
              have x2 := HQ.out.blk.cell 2
              have x3 := HQ.out.blk.cell 3
              have x4 := HQ.out.blk.cell 4
              have y0' := HQ.out.blk.frozen 0
              have y1' := HQ.out.blk.frozen 1
              have y2' := HQ.out.blk.frozen 2
              have y3' := HQ.out.blk.frozen 3
              have y4' := HQ.out.blk.frozen 4
              have hql := HQ.out.blk.lt
              simp only [Fld.cs, List.getElem?_toArray, List.getElem?_cons_succ, List.getElem?_cons_zero] at x0 x1 x2 x3 x4
              have v0 := HR.out.cell 0
              have v1 := HR.out.cell 1
              have v2 := HR.out.cell 2
              have v3 := HR.out.cell 3
              have v4 := HR.out.cell 4
              have t0 := HR.out.frozen 0
              have t1 := HR.out.frozen 1
              have t2 := HR.out.frozen 2
              have t3 := HR.out.frozen 3
              have t4 := HR.out.frozen 4
              have hrl := HR.out.lt
              simp only [zeroF, List.getElem?_toArray, List.getElem?_cons_succ, List.getElem?_cons_zero] at v0 v1 v2 v3 v4
              go_wp2_with fail
              have hbk := setN_blk [.int .i64 (fW), .slice (some ⟨gb, 1, none⟩) (m) (bc - 1), .slice (T) (tn) (tc), .int .i64 (fx), .int .i64 (fy)] 0 _ _ HR.out
              simp only [setA, zeroF, List.setIfInBounds_toArray, List.set_cons_zero, List.set_cons_succ, Nat.zero_add, Nat.reduceAdd] at hbk
              refine bodyPost_ret (results_cell_row Try.results46 _ _ w.heap.size 26 #[.int .i64 (fW), .slice (some ⟨gb, 1, none⟩) (m) (bc - 1), .slice (T) (tn) (tc), .int .i64 (fx), .int .i64 (fy)] (0, 0) _ rfl hbk Try.underlying26 rfl rfl) rfl ?_
              refine draws_of (Drs.setN (Nat.le_refl _) [.int .i64 (fW), .slice (some ⟨gb, 1, none⟩) (m) (bc - 1), .slice (T) (tn) (tc), .int .i64 (fx), .int .i64 (fy)] 0 _ HD.out) (by omega) ?_
              exact ⟨_, rfl, HQ.out.sure.keep (Keep.setN (.inl rfl) [.int .i64 (fW), .slice (some ⟨gb, 1, none⟩) (m) (bc - 1), .slice (T) (tn) (tc), .int .i64 (fx), .int .i64 (fy)] 0 _ _ HR.out), HQ.out.ok⟩
          have e0 : (z == 0) = false := by simp; omega
          have e1 : (z == 1) = false := by simp; omega
          have e2 : (z == 2) = false := by simp; omega
          have e3 : (z == 3) = false := by simp; omega
          have e4 : (z == 4) = false := by simp; omega
          clear hform
          have x0 := HQ.out.blk.cell 0
          have x1 := HQ.out.blk.cell 1
          have x2 := HQ.out.blk.cell 2
          have x3 := HQ.out.blk.cell 3
          have x4 := HQ.out.blk.cell 4
          have y0' := HQ.out.blk.frozen 0
          have y1' := HQ.out.blk.frozen 1
          have y2' := HQ.out.blk.frozen 2
          have y3' := HQ.out.blk.frozen 3
          have y4' := HQ.out.blk.frozen 4
          have hql := HQ.out.blk.lt
          simp only [Fld.cs, List.getElem?_toArray, List.getElem?_cons_succ, List.getElem?_cons_zero] at x0 x1 x2 x3 x4
          go_upto_region 23 with (fail)
          obtain ⟨W9, hW9⟩ : ∃ W9, W9 = (W'.setCell ⟨bx, 2, none⟩ (.slice (some ⟨W'.heap.size, 0, none⟩) 0 0)).alloc (.cells #[] 83) := ⟨_, rfl⟩
          replace HR := Lib.hid ((HR.out.far (p := ⟨bx, 2, none⟩) hbr (.slice (some ⟨W'.heap.size, 0, none⟩) 0 0)).alloc (.cells #[] 83))
          replace HD := Lib.hid ((HD.out.set ⟨bx, 2, none⟩ (.slice (some ⟨W'.heap.size, 0, none⟩) 0 0) hbw).alloc (.cells #[] 83))
          replace HQ := Lib.hid ((HQ.out.noT (b := W'.heap.size)).below ((Below.refl _ _).alloc (Nat.le_refl _) (.cells #[] 83)))
          rw [← hW9] at HQ HR HD ⊢
          clear x0 x1 x2 x3 x4 y0' y1' y2' y3' y4' hql
          clear hW9
          have x0 := HQ.out.blk.cell 0
          have x1 := HQ.out.blk.cell 1
          have x2 := HQ.out.blk.cell 2
          have x3 := HQ.out.blk.cell 3
          have x4 := HQ.out.blk.cell 4
          have y0' := HQ.out.blk.frozen 0
          have y1' := HQ.out.blk.frozen 1
          have y2' := HQ.out.blk.frozen 2
          have y3' := HQ.out.blk.frozen 3
          have y4' := HQ.out.blk.frozen 4
          have hql := HQ.out.blk.lt
          simp only [Fld.cs, List.getElem?_toArray, List.getElem?_cons_succ, List.getElem?_cons_zero] at x0 x1 x2 x3 x4
          have v0 := HR.out.cell 0
          have v1 := HR.out.cell 1
          have v2 := HR.out.cell 2
          have v3 := HR.out.cell 3
          have v4 := HR.out.cell 4
          have t0 := HR.out.frozen 0
          have t1 := HR.out.frozen 1
          have t2 := HR.out.frozen 2
          have t3 := HR.out.frozen 3
          have t4 := HR.out.frozen 4
          have hrl := HR.out.lt
          simp only [zeroF, List.getElem?_toArray, List.getElem?_cons_succ, List.getElem?_cons_zero] at v0 v1 v2 v3 v4
          go_wp2_with fail
          have hbk := setN_blk [.int .i64 (fW), .slice (B) (bn) (bc), .slice (some ⟨W'.heap.size, 0, none⟩) (0) (0), .int .i64 (fx), .int .i64 (fy)] 0 _ _ HR.out
          simp only [setA, zeroF, List.setIfInBounds_toArray, List.set_cons_zero, List.set_cons_succ, Nat.zero_add, Nat.reduceAdd] at hbk
          refine bodyPost_ret (results_cell_row Try.results46 _ _ w.heap.size 26 #[.int .i64 (fW), .slice (B) (bn) (bc), .slice (some ⟨W'.heap.size, 0, none⟩) (0) (0), .int .i64 (fx), .int .i64 (fy)] (0, 0) _ rfl hbk Try.underlying26 rfl rfl) rfl ?_
          refine draws_of (Drs.setN (Nat.le_refl _) [.int .i64 (fW), .slice (B) (bn) (bc), .slice (some ⟨W'.heap.size, 0, none⟩) (0) (0), .int .i64 (fx), .int .i64 (fy)] 0 _ HD.out) (by omega) ?_
          exact ⟨_, rfl, HQ.out.sure.keep (Keep.setN (.inl rfl) [.int .i64 (fW), .slice (B) (bn) (bc), .slice (some ⟨W'.heap.size, 0, none⟩) (0) (0), .int .i64 (fx), .int .i64 (fy)] 0 _ _ HR.out), HQ.out.ok⟩
theorem l20Field_d {w W : World} {g len cap p0 q : Nat} {A : Option Addr} (h : Drs w W g A len cap p0 q) (n : Int) (hq : q ≤ 400000000) (h0 : 0 ≤ n) (h1 : n ≤ 1000000000) :
    Calls Try.prog 46 #[.pointer (some ⟨g, 0, none⟩), .int .i64 n] W (Dr w W g A len cap p0 (q + 6000) (FldV g)) :=
  dr_of h 400000000 hq fun p hp hR => l20Field_any g A len cap p n W hR hp h0 h1
end Go.Proofs.Ytkcabllnlbcgdaa
