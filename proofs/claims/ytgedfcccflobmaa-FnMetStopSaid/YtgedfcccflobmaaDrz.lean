/-
  Machines that the statements draw: the reference's l20Machine. No condition.
-/
import Derived.Test.YtgedfcccflobmaaDrp
namespace Go.Proofs.Ytgedfcccflobmaa
open Go.RowKit
set_option linter.unusedVariables false
set_option linter.unusedSimpArgs false
def AggBoolP (_ : World) (v : Value) : Prop := ∃ b : Bool, v = .bool b
theorem st_boolp (g : Nat) : Stable (some g) AggBoolP := fun _ _ _ _ h => h
/-- A machine drawn, without return addresses. -/
def MachN (g : Nat) (w : World) (v : Value) : Prop := ∃ x : Mch, v = x.val ∧ x.B = none ∧ x.bn = 0 ∧ x.bc = 0 ∧ x.bs = [] ∧ Sure g (fun w => MemRd w x.A x.n x.rs x.R x.rn x.rows) w
theorem st_machn (g : Nat) : Stable (some g) (MachN g) := by
  rintro w w' v hg ⟨x, e, e1, e2, e3, e4, h⟩
  exact ⟨x, e, e1, e2, e3, e4, h.rd hg⟩
def zeroM : Array Value := #[.slice none 0 0, .slice none 0 0, .int .i64 0, .int .i64 0, .int .i64 0, .bool false, .slice none 0 0, .bool false, .int .i64 0]
/-- A box just made. -/
def NewB (g s : Nat) (w : World) (v : Value) : Prop := ∃ b, v = .pointer (some ⟨b, 0, none⟩) ∧ b ≠ g ∧ s ≤ b ∧ Blk w b 28 zeroM
theorem st_newb (g s : Nat) : Stable (some g) (NewB g s) := by
  rintro w w' v hg ⟨b, e, h1, h2, h3⟩
  exact ⟨b, e, h1, h2, h3.grown hg (by intro q; injection q with q; exact h1 q)⟩
theorem newB_new {g s : Nat} {w : World} (h1 : w.heap.size ≠ g) (h2 : s ≤ w.heap.size) : NewB g s (w.alloc (.cells zeroM 28)) (.pointer (some ⟨w.heap.size, 0, none⟩)) := ⟨_, rfl, h1, h2, Blk.new _ _ _⟩
section
variable {o : Oper} {a : Act} {w : World} {K : Act → World → Prop} {Q : Exit → Act → World → Prop}
theorem ob_eqlZ (x y : Operand) {u v : Int} (ho : o.op = .binOp .eql 3 x y 3) (hx : a.eval x = .int .i64 u) (hy : a.eval y = .int .i64 v) (h : K (a.put o.dst (.bool (u == v))) w) : o.wp Try.prog a w K Q := by
  have hr : (binOp .eql 3 (.int .i64 u) (.int .i64 v)).run Try.prog w = .ok (.bool (u == v)) w := by simp [go_sem]
  have hq : (eqGuard .eql 3 x y (.int .i64 u) (.int .i64 v)).run Try.prog w = .ok () w := by simp [eqGuard, go_sem]
  unfold Oper.wp execOp
  simp only [ho, hx, hy, hr, hq, Sem.run_bind, Sem.run_pure, Result.andThen_ok]
  exact h
theorem ob_allocM (ho : o.op = .alloc 28) (h : K (a.put o.dst (.pointer (some ⟨w.heap.size, 0, none⟩))) (w.alloc (.cells zeroM 28))) : o.wp Try.prog a w K Q := by
  unfold Oper.wp execOp
  simp only [ho]
  simp [go_sem]
  exact h
theorem ob_mach {x0 x1 x2 x3 x4 : Operand} {A R : Option Addr} {n c rn rc : Nat} {bank p q r : Int} {b : Bool} (ho : o.op = .build 28 #[(0, x0), (1, x1), (2, x2), (3, x3), (6, x4)])
    (h0 : a.eval x0 = memV A n c R rn rc bank) (h1 : a.eval x1 = .int .i64 p) (h2 : a.eval x2 = .int .i64 q) (h3 : a.eval x3 = .bool b) (h4 : a.eval x4 = .int .i64 r)
    (h : K (a.put o.dst (.agg #[.slice A n c, .slice R rn rc, .int .i64 bank, .int .i64 p, .int .i64 q, .bool b, .slice none 0 0, .bool false, .int .i64 r])) w) : o.wp Try.prog a w K Q := by
  have hr : (Instr.build 28 #[(0, memV A n c R rn rc bank), (1, .int .i64 p), (2, .int .i64 q), (3, .bool b), (6, .int .i64 r)]).run Try.prog w = .ok (.agg #[.slice A n c, .slice R rn rc, .int .i64 bank, .int .i64 p, .int .i64 q, .bool b, .slice none 0 0, .bool false, .int .i64 r]) w := by
    unfold memV
    simp [go_sem]
  unfold Oper.wp execOp
  simp only [ho, Sem.run_bind, Sem.run_pure, Result.andThen_ok, List.map_toArray, List.map_cons, List.map_nil, h0, h1, h2, h3, h4, hr]
  exact h
end
theorem Keep.grow {g : Nat} {a b c : World} {row : Option Nat} (h : Keep g a b) (hg : b.grownBy c row) (hr : ∀ q, row = some q → a.heap.size ≤ q) : Keep g a c :=
  ⟨Nat.le_trans h.size hg.size, fun i hi hig hm => (hg.block i (Nat.lt_of_lt_of_le hi h.size) (fun e => by have := hr i e.symm; omega)).trans (h.block i hi hig hm)⟩
theorem Keep.setN {g b : Nat} : ∀ (vs : List Value) (k : Nat) (w : World) (cs : Array Value), Blk w b 28 cs → Keep g w (setN w b k vs)
  | [], _, _, _, _ => Keep.refl _ _
  | v :: vs, k, w, cs, h => (Keep.set h).trans (Keep.setN vs (k + 1) _ _ (h.set_ k v))
theorem Drs.setN {w : World} {g len cap p0 q b : Nat} {A : Option Addr} (hb : w.heap.size ≤ b) : ∀ (vs : List Value) (k : Nat) (W : World), Drs w W g A len cap p0 q → Drs w (setN W b k vs) g A len cap p0 q
  | [], _, _, h => h
  | v :: vs, k, W, h => Drs.setN hb vs (k + 1) _ (h.set ⟨b, k, none⟩ v hb)
/-- A machine that is being drawn, in box b; its memory was there in w1. -/
structure MQ (w1 : World) (g b : Nat) (x : Mch) (w : World) : Prop where
  blk : Blk w b 28 x.cs
  mem : Keep g w1 w
  back : w.ownsRow w1.heap.size 3 1 (.slice x.B x.bn x.bc) x.bn (iv x.bs)
theorem MQ.rd {w1 : World} {g b : Nat} {x : Mch} {w w' : World} (h : MQ w1 g b x w) (hg : w.grownBy w' (some g)) (hb : b ≠ g) (hl : g < w1.heap.size) : MQ w1 g b x w' := ⟨h.blk.rd hg hb, h.mem.trans (Keep.of_grown hg), own_rd h.back hg hl⟩
theorem MQ.below {w1 : World} {g b : Nat} {x : Mch} {w w' : World} (h : MQ w1 g b x w) (d : Below w.heap.size w w') : MQ w1 g b x w' := ⟨h.blk.below d h.blk.lt, h.mem.trans (Keep.of_below d), own_below h.back d⟩
theorem MQ.field {w1 : World} {g b : Nat} {x x' : Mch} {w : World} (h : MQ w1 g b x w) (k : Nat) (u : Value) (hcs : x'.cs = x.cs.setIfInBounds k u) (hb : (x'.B, x'.bn, x'.bc, x'.bs) = (x.B, x.bn, x.bc, x.bs)) : MQ w1 g b x' (w.setCell ⟨b, k, none⟩ u) := by
  have hne := own_blk_ne h.back h.blk (by decide)
  obtain ⟨A, n, c, rs, R, rn, rc, rows, bank, a, pc, cy, B, bn, bc, bs, st, cyc⟩ := x
  obtain ⟨A', n', c', rs', R', rn', rc', rows', bank', a', pc', cy', B', bn', bc', bs', st', cyc'⟩ := x'
  simp only [Prod.mk.injEq] at hb
  obtain ⟨rfl, rfl, rfl, rfl⟩ := hb
  exact ⟨by rw [hcs]; exact h.blk.set_ k u, h.mem.trans (Keep.set h.blk), own_same h.back fun q hq => Below.heap_setCell w ⟨b, k, none⟩ u q (show q ≠ b from fun e => hne (e ▸ hq))⟩
/-- A new row of return addresses. -/
theorem MQ.newBack {w1 : World} {g b : Nat} {x : Mch} {w w2 : World} {B' : Option Addr} {bn' bc' : Nat} {bs' : List Int} (h : MQ w1 g b x w) (hb : Keep g w1 w2) (hx : Blk w2 b 28 x.cs) (o : w2.ownsRow w1.heap.size 3 1 (.slice B' bn' bc') bn' (iv bs')) :
    MQ w1 g b { x with B := B', bn := bn', bc := bc', bs := bs' } (w2.setCell ⟨b, 6, none⟩ (.slice B' bn' bc')) := by
  have hne := own_blk_ne o hx (by decide)
  exact ⟨hx.set_ 6 _, hb.trans (Keep.set hx), own_same o fun q hq => Below.heap_setCell w2 ⟨b, 6, none⟩ _ q (show q ≠ b from fun e => hne (e ▸ hq))⟩
/-- A machine drawn. -/
def MachV (g : Nat) (w : World) (v : Value) : Prop := ∃ x : Mch, v = x.val ∧ Sure g (fun w => MRd w x) w ∧ (x.B = none → x.bc = 0)
theorem MQ.out {w1 : World} {g b : Nat} {x : Mch} {w : World} (h : MQ w1 g b x w) (hs : Sure g (fun w => MemRd w x.A x.n x.rs x.R x.rn x.rows) w1) (hl : g < w1.heap.size) (hn : x.bn ≤ 1000) : MachV g w x.val :=
  ⟨x, rfl, fun w' hk => ⟨hs w' (h.mem.trans hk), own_ints (own_keep h.back hk hl (by decide)), by omega⟩, own_nilc h.back⟩
theorem ob_fldK {o : Oper} {a : Act} {w : World} {K : Act → World → Prop} {Q : Exit → Act → World → Prop} (x : Operand) (f : Nat) {b : Nat} (ho : o.op = .fieldAddr 28 x f) (hf : f = 4) (hx : a.eval x = .pointer (some ⟨b, 0, none⟩)) (h : K (a.put o.dst (.pointer (some ⟨b, 6, none⟩))) w) : o.wp Try.prog a w K Q := by
  have hr : (Instr.fieldAt 28 (.pointer (some ⟨b, 0, none⟩)) f).run Try.prog w = .ok (.pointer (some ⟨b, 6, none⟩)) w := by
    subst hf; simp [go_sem]
  unfold Oper.wp execOp
  simp only [ho, hx, hr, Sem.run_bind, Sem.run_pure, Result.andThen_ok]
  exact h
theorem ob_build1 {o : Oper} {a : Act} {w : World} {K : Act → World → Prop} {Q : Exit → Act → World → Prop} (x0 : Operand) {u0 : Int} (ho : o.op = .buildSlice 23 1 #[(0, x0)]) (h0 : a.eval x0 = .int .i64 u0)
    (h : K (a.put o.dst (.slice (some ⟨w.heap.size, 0, none⟩) 1 1)) (w.alloc (.cells #[.int .i64 u0] 3))) : o.wp Try.prog a w K Q := by
  have hr : (Instr.buildSlice 23 1 #[(0, .int .i64 u0)]).run Try.prog w = .ok (.slice (some ⟨w.heap.size, 0, none⟩) 1 1) (w.alloc (.cells #[.int .i64 u0] 3)) := by simp [go_sem]
  unfold Oper.wp execOp
  simp only [ho, Sem.run_bind, Sem.run_pure, Result.andThen_ok, List.map_toArray, List.map_cons, List.map_nil, h0, hr]
  exact h
theorem l20Memory_z {n : Int} {w : World} (n0 : 0 ≤ n) (n1 : n ≤ 1000000000) (g : Nat) (A : Option Addr) (len cap p : Nat) (h : Rd w g A len cap p) (hp : p ≤ 600000000) :
    Calls Try.prog 68 #[.pointer (some ⟨g, 0, none⟩), .int .i64 n] w (Draws g A len cap p 1100 w (MemV g)) := l20Memory_any g A len cap p n w h hp n0 n1
set_option maxRecDepth 100000 in
set_option maxHeartbeats 4000000 in
theorem l20Machine_any (g : Nat) (A : Option Addr) (len cap p0 : Nat) (N : Int) (w : World) (h : Rd w g A len cap p0) (hp0 : p0 ≤ 400000000) (n0 : 0 ≤ N) (n1 : N ≤ 1000000000) :
    Calls Try.prog 46 #[.pointer (some ⟨g, 0, none⟩), .int .i64 N] w (Draws g A len cap p0 40000 w (MachV g)) := by
  have hgl := h.lt
  have HD := Lib.hid ((Drs.start h).alloc (.cells zeroM 28))
  have HR := Lib.hid (Blk.new w 28 zeroM)
  clear h
  go_enter Try.func46, Try.ntmps46
  go_upto_region 1 with (fail)
  obtain ⟨p, hp1, hR⟩ := HD.out.rd
  have hp : p ≤ 400000000 := by omega
  obtain ⟨W0, hW0⟩ : ∃ W0, W0 = w.alloc (.cells zeroM 28) := ⟨_, rfl⟩
  have hz0 : W0.heap.size = w.heap.size + 1 := by rw [hW0]; simp
  rw [← hW0] at HD HR hR
  change Code.wp _ _ _ _ (w.alloc (.cells zeroM 28))
  rw [← hW0]
  replace hW0 := Lib.hid hW0
  refine region_tail 23 (some g) (IsPtr g :: IntIn (N) (N) :: MemV g :: IsPtr g :: IntIn (0) (255) :: IsPtr g :: IntIn (0) (29) :: IntIn (512) (541) :: IsPtr g :: IntIn (0) (255) :: IntIn (0) (1020) :: ArrIn g 3 (0) (1020) :: IsPtr g :: IntIn (0) (2) :: ElAt g (0) (1020) :: IntIn (0) (1020) :: IsPtr g :: IntIn (0) (1) :: AggBoolP :: IsPtr g :: IntIn (0) (99) :: MachN g :: NewB g W0.heap.size :: []) (fun n w' => World.grownBy W0 w' (some g) ∧ ∃ p' : Nat, p' + 1100 * n ≤ p + 25300 ∧ Rd w' g A len cap p') ?_ ?_ ?_ ?_ ?_ ?_ ?_ ?_ ?_ ?_ ?_
  · kernel_rfl
  · exact ⟨st_ptr _ _, st_int _ _ _, st_mem _, st_ptr _ _, st_int _ _ _, st_ptr _ _, st_int _ _ _, st_int _ _ _, st_ptr _ _, st_int _ _ _, st_int _ _ _, st_arr _ _ _ _, st_ptr _ _, st_int _ _ _, st_el _ _ _, st_int _ _ _, st_ptr _ _, st_int _ _ _, st_boolp _, st_ptr _ _, st_int _ _ _, st_machn _, st_newb _ _, trivial⟩
  · simp
  · exact of_decide_eq_true (by kernel_rfl)
  · kernel_rfl
  · kernel_rfl
  · kernel_rfl
  · kernel_rfl
  · exact ⟨grown_drew _ _, p, by simp, hR⟩
  · refine each_cons ?_ (each_cons ?_ (each_cons ?_ (each_cons ?_ (each_cons ?_ (each_cons ?_ (each_cons ?_ (each_cons ?_ (each_cons ?_ (each_cons ?_ (each_cons ?_ (each_cons ?_ (each_cons ?_ (each_cons ?_ (each_cons ?_ (each_cons ?_ (each_cons ?_ (each_cons ?_ (each_cons ?_ (each_cons ?_ (each_cons ?_ (each_cons ?_ (each_cons ?_ ( trivial)))))))))))))))))))))))
    · intro n vs aa w' haa hJ hd K hK
      refine ob_plain rfl ?_
      refine ob_move _ (v := .pointer (some ⟨g, 0, none⟩)) rfl (ev_of haa (by kernel_rfl)) ?_
      refine hK _ _ ?_ (World.grownBy.refl _ _) ⟨hJ.1, by obtain ⟨p', h1, h2⟩ := hJ.2; exact ⟨p', by omega, h2⟩⟩
      show (IsPtr g) w' _
      exact rfl
    · intro n vs aa w' haa hJ hd K hK
      refine ob_plain rfl ?_
      refine ob_move _ (v := .int .i64 (N)) rfl (ev_of haa (by kernel_rfl)) ?_
      refine hK _ _ ?_ (World.grownBy.refl _ _) ⟨hJ.1, by obtain ⟨p', h1, h2⟩ := hJ.2; exact ⟨p', by omega, h2⟩⟩
      show (IntIn (N) (N)) w' _
      exact ⟨_, rfl, Int.le_refl _, Int.le_refl _⟩
    · intro n vs aa w' haa hJ hd K hK
      refine ob_plain rfl ?_
      have d0 : (IsPtr g) w' (vs 0) := hd.1 rfl
      have e0 := d0
      have d1 : (IntIn (N) (N)) w' (vs 1) := hd.2.1 rfl
      obtain ⟨x1, e1, l1, u1⟩ := d1
      obtain ⟨hg', p', hp', hr'⟩ := hJ
      refine ob_call 68 _ _ #[.pointer (some ⟨g, 0, none⟩), .int .i64 x1] rfl (Eq.trans (b := #[vs 0, vs 1]) (evs_of haa (by kernel_rfl)) (by rw [e0, e1])) (fun _ _ => by kernel_rfl) ?_
      refine (l20Memory_z (by omega) (by omega) g A len cap p' hr' (by omega)).mono ?_
      rintro e w2 ⟨v, rfl, hv, hg2, p2, hp2, hr2⟩
      refine ⟨_, rfl, ?_⟩
      refine hK _ _ ?_ hg2 ⟨hg'.trans hg2, p2, by omega, hr2⟩
      show (MemV g) _ _
      exact hv
    · intro n vs aa w' haa hJ hd K hK
      refine ob_plain rfl ?_
      refine ob_move _ (v := .pointer (some ⟨g, 0, none⟩)) rfl (ev_of haa (by kernel_rfl)) ?_
      refine hK _ _ ?_ (World.grownBy.refl _ _) ⟨hJ.1, by obtain ⟨p', h1, h2⟩ := hJ.2; exact ⟨p', by omega, h2⟩⟩
      show (IsPtr g) w' _
      exact rfl
    · intro n vs aa w' haa hJ hd K hK
      refine ob_plain rfl ?_
      have d3 : (IsPtr g) w' (vs 3) := hd.1 rfl
      have e3 := d3
      obtain ⟨hg', p', hp', hr'⟩ := hJ
      refine ob_call 53 _ _ #[.pointer (some ⟨g, 0, none⟩), .int .i64 (256)] rfl (Eq.trans (b := #[vs 3, .int .i64 (256)]) (evs_of haa (by kernel_rfl)) (by rw [e3])) (fun _ _ => by kernel_rfl) ?_
      refine (pick_any g A len cap p' (256) _ hr' (by omega) (by omega) (by omega)).mono ?_
      rintro e w2 ⟨x, rfl, x0, x1, hr2, hg2⟩
      refine ⟨_, rfl, ?_⟩
      refine hK _ _ ?_ hg2 ⟨hg'.trans hg2, p' + 1, by omega, hr2⟩
      show (IntIn (0) (255)) w' _
      exact ⟨x, rfl, x0, by omega⟩
    · intro n vs aa w' haa hJ hd K hK
      refine ob_plain rfl ?_
      refine ob_move _ (v := .pointer (some ⟨g, 0, none⟩)) rfl (ev_of haa (by kernel_rfl)) ?_
      refine hK _ _ ?_ (World.grownBy.refl _ _) ⟨hJ.1, by obtain ⟨p', h1, h2⟩ := hJ.2; exact ⟨p', by omega, h2⟩⟩
      show (IsPtr g) w' _
      exact rfl
    · intro n vs aa w' haa hJ hd K hK
      refine ob_plain rfl ?_
      have d5 : (IsPtr g) w' (vs 5) := hd.1 rfl
      have e5 := d5
      obtain ⟨hg', p', hp', hr'⟩ := hJ
      refine ob_call 53 _ _ #[.pointer (some ⟨g, 0, none⟩), .int .i64 (30)] rfl (Eq.trans (b := #[vs 5, .int .i64 (30)]) (evs_of haa (by kernel_rfl)) (by rw [e5])) (fun _ _ => by kernel_rfl) ?_
      refine (pick_any g A len cap p' (30) _ hr' (by omega) (by omega) (by omega)).mono ?_
      rintro e w2 ⟨x, rfl, x0, x1, hr2, hg2⟩
      refine ⟨_, rfl, ?_⟩
      refine hK _ _ ?_ hg2 ⟨hg'.trans hg2, p' + 1, by omega, hr2⟩
      show (IntIn (0) (29)) w' _
      exact ⟨x, rfl, x0, by omega⟩
    · intro n vs aa w' haa hJ hd K hK
      refine ob_plain rfl ?_
      have d6 : (IntIn (0) (29)) w' (vs 6) := hd.1 rfl
      obtain ⟨x6, e6, l6, u6⟩ := d6
      refine ob_add _ _ (u := (512)) (v := x6) rfl (ev_of haa (by kernel_rfl)) (Eq.trans (b := vs 6) (ev_of haa (by kernel_rfl)) e6) (by omega) ?_
      refine hK _ _ ?_ (World.grownBy.refl _ _) ⟨hJ.1, by obtain ⟨p', h1, h2⟩ := hJ.2; exact ⟨p', by omega, h2⟩⟩
      show (IntIn (512) (541)) w' _
      exact ⟨_, rfl, by omega, by omega⟩
    · intro n vs aa w' haa hJ hd K hK
      refine ob_plain rfl ?_
      refine ob_move _ (v := .pointer (some ⟨g, 0, none⟩)) rfl (ev_of haa (by kernel_rfl)) ?_
      refine hK _ _ ?_ (World.grownBy.refl _ _) ⟨hJ.1, by obtain ⟨p', h1, h2⟩ := hJ.2; exact ⟨p', by omega, h2⟩⟩
      show (IsPtr g) w' _
      exact rfl
    · intro n vs aa w' haa hJ hd K hK
      refine ob_plain rfl ?_
      have d8 : (IsPtr g) w' (vs 8) := hd.1 rfl
      have e8 := d8
      obtain ⟨hg', p', hp', hr'⟩ := hJ
      refine ob_call 53 _ _ #[.pointer (some ⟨g, 0, none⟩), .int .i64 (256)] rfl (Eq.trans (b := #[vs 8, .int .i64 (256)]) (evs_of haa (by kernel_rfl)) (by rw [e8])) (fun _ _ => by kernel_rfl) ?_
      refine (pick_any g A len cap p' (256) _ hr' (by omega) (by omega) (by omega)).mono ?_
      rintro e w2 ⟨x, rfl, x0, x1, hr2, hg2⟩
      refine ⟨_, rfl, ?_⟩
      refine hK _ _ ?_ hg2 ⟨hg'.trans hg2, p' + 1, by omega, hr2⟩
      show (IntIn (0) (255)) w' _
      exact ⟨x, rfl, x0, by omega⟩
    · intro n vs aa w' haa hJ hd K hK
      refine ob_plain rfl ?_
      have d9 : (IntIn (0) (255)) w' (vs 9) := hd.1 rfl
      obtain ⟨x9, e9, l9, u9⟩ := d9
      refine ob_mul _ _ (u := x9) (v := (4)) rfl (Eq.trans (b := vs 9) (ev_of haa (by kernel_rfl)) e9) (ev_of haa (by kernel_rfl)) (by omega) ?_
      refine hK _ _ ?_ (World.grownBy.refl _ _) ⟨hJ.1, by obtain ⟨p', h1, h2⟩ := hJ.2; exact ⟨p', by omega, h2⟩⟩
      show (IntIn (0) (1020)) w' _
      exact ⟨_, rfl, by omega, by omega⟩
    · intro n vs aa w' haa hJ hd K hK
      refine ob_plain rfl ?_
      have d7 : (IntIn (512) (541)) w' (vs 7) := hd.1 rfl
      obtain ⟨x7, e7, l7, u7⟩ := d7
      have d10 : (IntIn (0) (1020)) w' (vs 10) := hd.2.1 rfl
      obtain ⟨x10, e10, l10, u10⟩ := d10
      refine ob_build3 _ _ _ (u0 := (512)) (u1 := x7) (u2 := x10) rfl (ev_of haa (by kernel_rfl)) (Eq.trans (b := vs 7) (ev_of haa (by kernel_rfl)) e7) (Eq.trans (b := vs 10) (ev_of haa (by kernel_rfl)) e10) ?_
      refine hK _ _ ⟨_, rfl, Nat.ne_of_gt hJ.2.choose_spec.2.lt, by simp, fun k hk => ?_⟩ (World.grownBy_alloc _ _ _) ⟨hJ.1.trans (World.grownBy_alloc _ _ _), by obtain ⟨p', h1, h2⟩ := hJ.2; exact ⟨p', by omega, h2.alloc _⟩⟩
      match k, hk with
      | 0, _ => exact ⟨(512), by simp [go_sem], by omega, by omega⟩
      | 1, _ => exact ⟨x7, by simp [go_sem], by omega, by omega⟩
      | 2, _ => exact ⟨x10, by simp [go_sem], by omega, by omega⟩
    · intro n vs aa w' haa hJ hd K hK
      refine ob_plain rfl ?_
      refine ob_move _ (v := .pointer (some ⟨g, 0, none⟩)) rfl (ev_of haa (by kernel_rfl)) ?_
      refine hK _ _ ?_ (World.grownBy.refl _ _) ⟨hJ.1, by obtain ⟨p', h1, h2⟩ := hJ.2; exact ⟨p', by omega, h2⟩⟩
      show (IsPtr g) w' _
      exact rfl
    · intro n vs aa w' haa hJ hd K hK
      refine ob_plain rfl ?_
      have d12 : (IsPtr g) w' (vs 12) := hd.1 rfl
      have e12 := d12
      obtain ⟨hg', p', hp', hr'⟩ := hJ
      refine ob_call 53 _ _ #[.pointer (some ⟨g, 0, none⟩), .int .i64 (3)] rfl (Eq.trans (b := #[vs 12, .int .i64 (3)]) (evs_of haa (by kernel_rfl)) (by rw [e12])) (fun _ _ => by kernel_rfl) ?_
      refine (pick_any g A len cap p' (3) _ hr' (by omega) (by omega) (by omega)).mono ?_
      rintro e w2 ⟨x, rfl, x0, x1, hr2, hg2⟩
      refine ⟨_, rfl, ?_⟩
      refine hK _ _ ?_ hg2 ⟨hg'.trans hg2, p' + 1, by omega, hr2⟩
      show (IntIn (0) (2)) w' _
      exact ⟨x, rfl, x0, by omega⟩
    · intro n vs aa w' haa hJ hd K hK
      refine ob_plain rfl ?_
      have d11 : (ArrIn g 3 (0) (1020)) w' (vs 11) := hd.1 rfl
      obtain ⟨b11, e11, n11, z11, c11⟩ := d11
      have d13 : (IntIn (0) (2)) w' (vs 13) := hd.2.1 rfl
      obtain ⟨x13, e13, l13, u13⟩ := d13
      refine ob_index _ _ _ (by simp) (u := x13) rfl (Eq.trans (b := vs 11) (ev_of haa (by kernel_rfl)) e11) (Eq.trans (b := vs 13) (ev_of haa (by kernel_rfl)) e13) (by omega) (by omega) ?_
      obtain ⟨y, hy, y0, y1⟩ := c11 x13.toNat (by omega)
      refine hK _ _ ?_ (World.grownBy.refl _ _) ⟨hJ.1, by obtain ⟨p', h1, h2⟩ := hJ.2; exact ⟨p', by omega, h2⟩⟩
      show (ElAt g (0) (1020)) w' _
      exact ⟨b11, _, rfl, n11, z11, y, by rw [Nat.zero_add]; exact hy, y0, y1⟩
    · intro n vs aa w' haa hJ hd K hK
      refine ob_plain rfl ?_
      have d14 : (ElAt g (0) (1020)) w' (vs 14) := hd.1 rfl
      obtain ⟨b14, j14, e14, n14, z14, x14, c14, l14, u14⟩ := d14
      refine ob_load _ _ (by simp) rfl (Eq.trans (b := vs 14) (ev_of haa (by kernel_rfl)) e14) c14 ?_
      refine hK _ _ ?_ (World.grownBy.refl _ _) ⟨hJ.1, by obtain ⟨p', h1, h2⟩ := hJ.2; exact ⟨p', by omega, h2⟩⟩
      show (IntIn (0) (1020)) w' _
      exact ⟨_, rfl, l14, u14⟩
    · intro n vs aa w' haa hJ hd K hK
      refine ob_plain rfl ?_
      refine ob_move _ (v := .pointer (some ⟨g, 0, none⟩)) rfl (ev_of haa (by kernel_rfl)) ?_
      refine hK _ _ ?_ (World.grownBy.refl _ _) ⟨hJ.1, by obtain ⟨p', h1, h2⟩ := hJ.2; exact ⟨p', by omega, h2⟩⟩
      show (IsPtr g) w' _
      exact rfl
    · intro n vs aa w' haa hJ hd K hK
      refine ob_plain rfl ?_
      have d16 : (IsPtr g) w' (vs 16) := hd.1 rfl
      have e16 := d16
      obtain ⟨hg', p', hp', hr'⟩ := hJ
      refine ob_call 53 _ _ #[.pointer (some ⟨g, 0, none⟩), .int .i64 (2)] rfl (Eq.trans (b := #[vs 16, .int .i64 (2)]) (evs_of haa (by kernel_rfl)) (by rw [e16])) (fun _ _ => by kernel_rfl) ?_
      refine (pick_any g A len cap p' (2) _ hr' (by omega) (by omega) (by omega)).mono ?_
      rintro e w2 ⟨x, rfl, x0, x1, hr2, hg2⟩
      refine ⟨_, rfl, ?_⟩
      refine hK _ _ ?_ hg2 ⟨hg'.trans hg2, p' + 1, by omega, hr2⟩
      show (IntIn (0) (1)) w' _
      exact ⟨x, rfl, x0, by omega⟩
    · intro n vs aa w' haa hJ hd K hK
      refine ob_plain rfl ?_
      have d17 : (IntIn (0) (1)) w' (vs 17) := hd.1 rfl
      obtain ⟨x17, e17, l17, u17⟩ := d17
      refine ob_eqlZ _ _ (u := x17) (v := (0)) rfl (Eq.trans (b := vs 17) (ev_of haa (by kernel_rfl)) e17) (ev_of haa (by kernel_rfl)) ?_
      refine hK _ _ ?_ (World.grownBy.refl _ _) ⟨hJ.1, by obtain ⟨p', h1, h2⟩ := hJ.2; exact ⟨p', by omega, h2⟩⟩
      show (AggBoolP) w' _
      exact ⟨_, rfl⟩
    · intro n vs aa w' haa hJ hd K hK
      refine ob_plain rfl ?_
      refine ob_move _ (v := .pointer (some ⟨g, 0, none⟩)) rfl (ev_of haa (by kernel_rfl)) ?_
      refine hK _ _ ?_ (World.grownBy.refl _ _) ⟨hJ.1, by obtain ⟨p', h1, h2⟩ := hJ.2; exact ⟨p', by omega, h2⟩⟩
      show (IsPtr g) w' _
      exact rfl
    · intro n vs aa w' haa hJ hd K hK
      refine ob_plain rfl ?_
      have d19 : (IsPtr g) w' (vs 19) := hd.1 rfl
      have e19 := d19
      obtain ⟨hg', p', hp', hr'⟩ := hJ
      refine ob_call 53 _ _ #[.pointer (some ⟨g, 0, none⟩), .int .i64 (100)] rfl (Eq.trans (b := #[vs 19, .int .i64 (100)]) (evs_of haa (by kernel_rfl)) (by rw [e19])) (fun _ _ => by kernel_rfl) ?_
      refine (pick_any g A len cap p' (100) _ hr' (by omega) (by omega) (by omega)).mono ?_
      rintro e w2 ⟨x, rfl, x0, x1, hr2, hg2⟩
      refine ⟨_, rfl, ?_⟩
      refine hK _ _ ?_ hg2 ⟨hg'.trans hg2, p' + 1, by omega, hr2⟩
      show (IntIn (0) (99)) w' _
      exact ⟨x, rfl, x0, by omega⟩
    · intro n vs aa w' haa hJ hd K hK
      refine ob_plain rfl ?_
      have d2 : (MemV g) w' (vs 2) := hd.1 rfl
      have d4 : (IntIn (0) (255)) w' (vs 4) := hd.2.1 rfl
      have d15 : (IntIn (0) (1020)) w' (vs 15) := hd.2.2.1 rfl
      have d18 : (AggBoolP) w' (vs 18) := hd.2.2.2.1 rfl
      have d20 : (IntIn (0) (99)) w' (vs 20) := hd.2.2.2.2.1 rfl
      obtain ⟨mA, mn, mc, mR, mrn, mrc, mrs, mrows, mbank, e2, hs2⟩ := d2
      obtain ⟨x4, e4, l4, u4⟩ := d4
      obtain ⟨x15, e15, l15, u15⟩ := d15
      obtain ⟨x20, e20, l20, u20⟩ := d20
      obtain ⟨x18, e18⟩ := d18
      refine ob_mach rfl (Eq.trans (b := vs 2) (ev_of haa (by kernel_rfl)) e2) (Eq.trans (b := vs 4) (ev_of haa (by kernel_rfl)) e4) (Eq.trans (b := vs 15) (ev_of haa (by kernel_rfl)) e15) (Eq.trans (b := vs 18) (ev_of haa (by kernel_rfl)) e18) (Eq.trans (b := vs 20) (ev_of haa (by kernel_rfl)) e20) ?_
      refine hK _ _ ?_ (World.grownBy.refl _ _) ⟨hJ.1, by obtain ⟨p', h1, h2⟩ := hJ.2; exact ⟨p', by omega, h2⟩⟩
      show (MachN g) _ _
      exact ⟨⟨mA, mn, mc, mrs, mR, mrn, mrc, mrows, mbank, x4, x15, x18, none, 0, 0, [], false, x20⟩, rfl, rfl, rfl, rfl, rfl, hs2⟩
    · intro n vs aa w' haa hJ hd K hK
      refine ob_plain rfl ?_
      refine ob_allocM rfl ?_
      refine hK _ _ ?_ (World.grownBy_alloc _ _ _) ⟨hJ.1.trans (World.grownBy_alloc _ _ _), by obtain ⟨p', h1, h2⟩ := hJ.2; exact ⟨p', by omega, h2.alloc _⟩⟩
      show (NewB g W0.heap.size) _ _
      exact newB_new (Nat.ne_of_gt hJ.2.choose_spec.2.lt) hJ.1.size
  intro vs w' hJ hall
  obtain ⟨x, hx, hB, hbn, hbc, hbs, hsure⟩ : MachN g w' (vs 21) := hall 21 (by decide)
  obtain ⟨bx, hb, hbg, hbl, hbx⟩ : NewB g W0.heap.size w' (vs 22) := hall 22 (by decide)
  clear hall
  obtain ⟨hgr, p', hp', hr'⟩ := hJ
  replace HD := Lib.hid (HD.out.step hgr ⟨p', hp', hr'⟩)
  replace HR := Lib.hid (HR.out.rd hgr (by omega))
  clear hr' hR hgr
  unfold zeroM at hbx
  have b0 := hbx.cell 0
  have b1 := hbx.cell 1
  have b2 := hbx.cell 2
  have b3 := hbx.cell 3
  have b4 := hbx.cell 4
  have b5 := hbx.cell 5
  have b6 := hbx.cell 6
  have b7 := hbx.cell 7
  have b8 := hbx.cell 8
  have f0 := hbx.frozen 0
  have f1 := hbx.frozen 1
  have f2 := hbx.frozen 2
  have f3 := hbx.frozen 3
  have f4 := hbx.frozen 4
  have f5 := hbx.frozen 5
  have f6 := hbx.frozen 6
  have f7 := hbx.frozen 7
  have f8 := hbx.frozen 8
  have hxl := hbx.lt
  obtain ⟨XA, Xn, Xc, Xrs, XR, Xrn, Xrc, Xrows, Xbank, Xa, Xpc, Xcy, XB, Xbn, Xbc, Xbs, Xst, Xcyc⟩ := x
  simp only at hB hbn hbc hbs
  subst hB hbn hbc hbs
  unfold Mch.val Mch.cs at hx
  have HBX := Lib.hid hbx
  have HS := Lib.hid hsure
  clear hbx hsure
  simp only [List.take_succ_cons, List.take_zero, List.drop_succ_cons, List.drop_zero, fill, Act.put, List.toList_toArray, List.setIfInBounds_toArray, List.set_cons_zero, List.set_cons_succ, Nat.zero_add, Nat.reduceAdd, hx, hb]
  go_wp2_with fail
  have hbw : w.heap.size ≤ bx := by omega
  have hbr : w.heap.size ≠ bx := by omega
  have hg1 : g < w'.heap.size := by omega
  have hws : w.heap.size < w'.heap.size := by omega
  have hq : MQ w' g bx ⟨XA, Xn, Xc, Xrs, XR, Xrn, Xrc, Xrows, Xbank, Xa, Xpc, Xcy, none, 0, 0, [], Xst, Xcyc⟩ (setN w' bx 0 [.slice XA Xn Xc, .slice XR Xrn Xrc, .int .i64 Xbank, .int .i64 Xa, .int .i64 Xpc, .bool Xcy, .slice none 0 0, .bool Xst, .int .i64 Xcyc]) :=
    ⟨by have q := setN_blk [.slice XA Xn Xc, .slice XR Xrn Xrc, .int .i64 Xbank, .int .i64 Xa, .int .i64 Xpc, .bool Xcy, .slice none 0 0, .bool Xst, .int .i64 Xcyc] 0 _ _ HBX.out; simpa [setA, Mch.cs] using q, Keep.setN _ _ _ _ HBX.out, World.ownsRow_nil _ _ _ _⟩
  have HQ := Lib.hid hq
  replace HD := Lib.hid (Drs.setN hbw [.slice XA Xn Xc, .slice XR Xrn Xrc, .int .i64 Xbank, .int .i64 Xa, .int .i64 Xpc, .bool Xcy, .slice none 0 0, .bool Xst, .int .i64 Xcyc] 0 _ HD.out)
  replace HR := Lib.hid (setN_far HR.out hbr [.slice XA Xn Xc, .slice XR Xrn Xrc, .int .i64 Xbank, .int .i64 Xa, .int .i64 Xpc, .bool Xcy, .slice none 0 0, .bool Xst, .int .i64 Xcyc] 0)
  change Calls _ _ _ (setN w' bx 0 [.slice XA Xn Xc, .slice XR Xrn Xrc, .int .i64 Xbank, .int .i64 Xa, .int .i64 Xpc, .bool Xcy, .slice none 0 0, .bool Xst, .int .i64 Xcyc]) _
  obtain ⟨WS, hWS⟩ : ∃ WS, WS = setN w' bx 0 [.slice XA Xn Xc, .slice XR Xrn Xrc, .int .i64 Xbank, .int .i64 Xa, .int .i64 Xpc, .bool Xcy, .slice none 0 0, .bool Xst, .int .i64 Xcyc] := ⟨_, rfl⟩
  rw [← hWS] at HQ HD HR ⊢
  replace hWS := Lib.hid hWS
  clear hq b0 b1 b2 b3 b4 b5 b6 b7 b8 f0 f1 f2 f3 f4 f5 f6 f7 f8 HBX
  obtain ⟨w1, hw1⟩ : ∃ w1, w1 = w' := ⟨_, rfl⟩
  rw [← hw1] at HQ HS hg1 hws
  replace hw1 := Lib.hid hw1
  go_wp2_with fail
  refine (pick_d HD.out 9 (by omega) (by omega) (by omega)).mono ?_
  rintro e W' ⟨v, rfl, ⟨k, rfl, k0, k1⟩, hD, hgr⟩
  replace HD := Lib.hid hD
  clear hD
  replace HR := Lib.hid (HR.out.rd hgr (by omega))
  replace HQ := Lib.hid (HQ.out.rd hgr hbg (by omega))
  clear hgr
  obtain ⟨K0, rfl⟩ := Int.eq_ofNat_of_zero_le k0
  have hK0 : K0 ≤ 8 := by omega
  clear k0 k1
  go_wp2_with fail
  go_loopw [6] (fun k wr => ∃ (K : Nat) (B : Option Addr) (bn bc : Nat) (bs : List Int), k = .int .i64 K ∧ K ≤ 8 ∧ bn + K ≤ 8 ∧ Blk wr w.heap.size 28 zeroM ∧ MQ w1 g bx ⟨XA, Xn, Xc, Xrs, XR, Xrn, Xrc, Xrows, Xbank, Xa, Xpc, Xcy, B, bn, bc, bs, Xst, Xcyc⟩ wr ∧ Drs w wr g A len cap p0 (p0 + 26000 + 10 * (8 - K))) (fun k _ => (intOf k).toNat)
  case atStart => exact ⟨K0, none, 0, 0, [], rfl, hK0, by omega, HR.out, HQ.out, HD.out.more (by omega)⟩
  case round =>
    obtain ⟨K, B, bn, bc, bs, rfl, hK, hbK, hR0, hQ0, hD0⟩ := hrel
    replace HR := Lib.hid hR0
    replace HQ := Lib.hid hQ0
    replace HD := Lib.hid hD0
    clear hR0 hQ0 hD0
    by_cases hlt : 0 < K
    · have q1 : (K : Int) > 0 := by omega
      go_wp2_with fail
      refine (pick_d HD.out 2 (by omega) (by omega) (by omega)).mono ?_
      rintro e W' ⟨v, rfl, ⟨z, rfl, z0, z1⟩, hD, hgr⟩
      replace HD := Lib.hid hD
      clear hD
      replace HR := Lib.hid (HR.out.rd hgr (by omega))
      replace HQ := Lib.hid (HQ.out.rd hgr hbg (by omega))
      clear hgr
      by_cases ez : z = 0
      · subst ez
        clear z0 z1
        go_upto_region 5 with (fail)
        obtain ⟨p, hp1, hR⟩ := HD.out.rd
        have hp : p ≤ 900000000 := by omega
        have hnb : some bx ≠ some g := by intro e; injection e with e; exact hbg e
        refine region_tail 6 (some g) (IsVal (.pointer (some ⟨bx, 6, none⟩)) :: IsVal (.slice B bn bc) :: IsPtr g :: IntIn (0) (29) :: IntIn (512) (541) :: ArrIn g 1 (512) (541) :: []) (fun n w' => World.grownBy W' w' (some g) ∧ ∃ p' : Nat, p' + 1 * n ≤ p + 6 ∧ Rd w' g A len cap p') ?_ ?_ ?_ ?_ ?_ ?_ ?_ ?_ ?_ ?_ ?_
        · kernel_rfl
        · exact ⟨st_val _ _, st_val _ _, st_ptr _ _, st_int _ _ _, st_int _ _ _, st_arr _ _ _ _, trivial⟩
        · simp
        · exact of_decide_eq_true (by kernel_rfl)
        · kernel_rfl
        · kernel_rfl
        · kernel_rfl
        · kernel_rfl
        · exact ⟨grown_drew _ _, p, by simp, hR⟩
        · refine each_cons ?_ (each_cons ?_ (each_cons ?_ (each_cons ?_ (each_cons ?_ (each_cons ?_ ( trivial))))))
          · intro n vs aa w' haa hJ hd K hK
            refine ob_plain rfl ?_
            refine ob_fldK _ 4 (b := bx) rfl (by omega) (ev_of haa (by kernel_rfl)) ?_
            refine hK _ _ ?_ (World.grownBy.refl _ _) ⟨hJ.1, by obtain ⟨p', h1, h2⟩ := hJ.2; exact ⟨p', by omega, h2⟩⟩
            show (IsVal (.pointer (some ⟨bx, 6, none⟩))) w' _
            exact rfl
          · intro n vs aa w' haa hJ hd K hK
            refine ob_plain rfl ?_
            have d0 : (IsVal (.pointer (some ⟨bx, 6, none⟩))) w' (vs 0) := hd.1 rfl
            have e0 := d0
            refine ob_loadM _ (v := .slice B bn bc) rfl (Eq.trans (b := vs 0) (ev_of haa (by kernel_rfl)) e0) ((Blk.grown HQ.out.blk hJ.1 hnb).cell 6) ?_
            refine hK _ _ ?_ (World.grownBy.refl _ _) ⟨hJ.1, by obtain ⟨p', h1, h2⟩ := hJ.2; exact ⟨p', by omega, h2⟩⟩
            show (IsVal (.slice B bn bc)) w' _
            exact rfl
          · intro n vs aa w' haa hJ hd K hK
            refine ob_plain rfl ?_
            refine ob_move _ (v := .pointer (some ⟨g, 0, none⟩)) rfl (ev_of haa (by kernel_rfl)) ?_
            refine hK _ _ ?_ (World.grownBy.refl _ _) ⟨hJ.1, by obtain ⟨p', h1, h2⟩ := hJ.2; exact ⟨p', by omega, h2⟩⟩
            show (IsPtr g) w' _
            exact rfl
          · intro n vs aa w' haa hJ hd K hK
            refine ob_plain rfl ?_
            have d2 : (IsPtr g) w' (vs 2) := hd.1 rfl
            have e2 := d2
            obtain ⟨hg', p', hp', hr'⟩ := hJ
            refine ob_call 53 _ _ #[.pointer (some ⟨g, 0, none⟩), .int .i64 (30)] rfl (Eq.trans (b := #[vs 2, .int .i64 (30)]) (evs_of haa (by kernel_rfl)) (by rw [e2])) (fun _ _ => by kernel_rfl) ?_
            refine (pick_any g A len cap p' (30) _ hr' (by omega) (by omega) (by omega)).mono ?_
            rintro e w2 ⟨x, rfl, x0, x1, hr2, hg2⟩
            refine ⟨_, rfl, ?_⟩
            refine hK _ _ ?_ hg2 ⟨hg'.trans hg2, p' + 1, by omega, hr2⟩
            show (IntIn (0) (29)) w' _
            exact ⟨x, rfl, x0, by omega⟩
          · intro n vs aa w' haa hJ hd K hK
            refine ob_plain rfl ?_
            have d3 : (IntIn (0) (29)) w' (vs 3) := hd.1 rfl
            obtain ⟨x3, e3, l3, u3⟩ := d3
            refine ob_add _ _ (u := (512)) (v := x3) rfl (ev_of haa (by kernel_rfl)) (Eq.trans (b := vs 3) (ev_of haa (by kernel_rfl)) e3) (by omega) ?_
            refine hK _ _ ?_ (World.grownBy.refl _ _) ⟨hJ.1, by obtain ⟨p', h1, h2⟩ := hJ.2; exact ⟨p', by omega, h2⟩⟩
            show (IntIn (512) (541)) w' _
            exact ⟨_, rfl, by omega, by omega⟩
          · intro n vs aa w' haa hJ hd K hK
            refine ob_plain rfl ?_
            have d4 : (IntIn (512) (541)) w' (vs 4) := hd.1 rfl
            obtain ⟨x4, e4, l4, u4⟩ := d4
            refine ob_build1 _ (u0 := x4) rfl (Eq.trans (b := vs 4) (ev_of haa (by kernel_rfl)) e4) ?_
            refine hK _ _ ⟨_, rfl, Nat.ne_of_gt hJ.2.choose_spec.2.lt, by simp, fun k hk => ?_⟩ (World.grownBy_alloc _ _ _) ⟨hJ.1.trans (World.grownBy_alloc _ _ _), by obtain ⟨p', h1, h2⟩ := hJ.2; exact ⟨p', by omega, h2.alloc _⟩⟩
            match k, hk with
            | 0, _ => exact ⟨x4, by simp [go_sem], by omega, by omega⟩
        intro vs w' hJ hall
        obtain ⟨ab, he, hn1, hn2, hc⟩ : ArrIn g 1 512 541 w' (vs 5) := hall 5 (by decide)
        obtain ⟨y, hy, y0, y1⟩ := hc 0 (by omega)
        have hz : vs 1 = .slice B bn bc := hall 1 (by decide)
        clear hall hc
        obtain ⟨hgr, p', hp', hr'⟩ := hJ
        replace HD := Lib.hid (HD.out.step hgr ⟨p', hp', hr'⟩)
        replace HR := Lib.hid (HR.out.rd hgr (by omega))
        replace HQ := Lib.hid (HQ.out.rd hgr hbg (by omega))
        clear hgr
        clear hr' hR
        have hne := own_blk_ne HQ.out.back HQ.out.blk (by decide)
        simp only [List.take_succ_cons, List.take_zero, List.drop_succ_cons, List.drop_zero, fill, Act.put, List.toList_toArray, List.setIfInBounds_toArray, List.set_cons_zero, List.set_cons_succ, Nat.zero_add, Nat.reduceAdd, he, hz]
        refine push_own_g _ (by rfl) _ _ (by rfl) w1.heap.size bn bc ab 1 B bs y (by rfl) (by rfl) HQ.out.back hy (by omega) HQ.out.mem.size ?_
        intro B7 bc7 w7 o7 g7
        have hK7 := HQ.out.mem.grow g7 (fun q hq => (HQ.out.back.lt q hq).1)
        have hX7 := HQ.out.blk.grown g7 (Ne.symm hne)
        have hQ7 := Lib.hid (HQ.out.newBack hK7 hX7 o7)
        have c6 : w7.cell? ⟨bx, 6, none⟩ = some (.slice B bn bc) := hX7.cell 6
        have d6 := hX7.frozen 6
        replace HR := Lib.hid ((HR.out.grown g7 (by intro e; have := (HQ.out.back.lt _ e.symm).1; omega)).far (p := ⟨bx, 6, none⟩) hbr (.slice B7 (bn + 1) bc7))
        replace HD := Lib.hid ((HD.out.push g7 (fun q hq => by have := (HQ.out.back.lt q hq).1; omega)).set ⟨bx, 6, none⟩ (.slice B7 (bn + 1) bc7) hbw)
        clear o7 g7 hK7 hX7 HQ
        go_wp2_with fail
        go_roundw
        case rel => exact ⟨K - 1, B7, bn + 1, bc7, bs ++ [y], by rw [show (K : Int) - 1 = ((K - 1 : Nat) : Int) by omega], by omega, by omega, HR.out, hQ7.out, HD.out.more (by omega)⟩
        case measure => simp [intOf]; omega
      · have ez1 : (z == 0) = false := by simp; omega
        have hbn9 : bn ≤ 9 := by omega
        go_wp2_with fail
        refine (odd_d HD.out 12 (by omega) (by omega) (by omega)).mono ?_
        rintro e W' ⟨v, rfl, ⟨sb, rfl, hsb⟩, hD, hgr⟩
        replace HD := Lib.hid hD
        clear hD
        replace HR := Lib.hid (HR.out.rd hgr (by omega))
        replace HQ := Lib.hid (HQ.out.rd hgr hbg (by omega))
        clear hgr
        have x0 := HQ.out.blk.cell 0
        have x1 := HQ.out.blk.cell 1
        have x2 := HQ.out.blk.cell 2
        have x3 := HQ.out.blk.cell 3
        have x4 := HQ.out.blk.cell 4
        have x5 := HQ.out.blk.cell 5
        have x6 := HQ.out.blk.cell 6
        have x7 := HQ.out.blk.cell 7
        have x8 := HQ.out.blk.cell 8
        have y3 := HQ.out.blk.frozen 3
        have y4 := HQ.out.blk.frozen 4
        have y6 := HQ.out.blk.frozen 6
        have y7 := HQ.out.blk.frozen 7
        have y8 := HQ.out.blk.frozen 8
        have hql := HQ.out.blk.lt
        simp only [Mch.cs, List.getElem?_toArray, List.getElem?_cons_succ, List.getElem?_cons_zero] at x0 x1 x2 x3 x4 x5 x6 x7 x8
        clear hsb
        replace HQ := Lib.hid (HQ.out.field (x' := ⟨XA, Xn, Xc, Xrs, XR, Xrn, Xrc, Xrows, Xbank, Xa, Xpc, Xcy, B, bn, bc, bs, sb, Xcyc⟩) 7 (.bool sb) rfl rfl)
        replace HR := Lib.hid (HR.out.far (p := ⟨bx, 7, none⟩) hbr (.bool sb))
        replace HD := Lib.hid (HD.out.set ⟨bx, 7, none⟩ (.bool sb) hbw)
        go_wp2_with fail
        refine (odd_d HD.out N (by omega) n0 n1).mono ?_
        rintro e W' ⟨v, rfl, ⟨ob, rfl, hob⟩, hD, hgr⟩
        replace HD := Lib.hid hD
        clear hD
        replace HR := Lib.hid (HR.out.rd hgr (by omega))
        replace HQ := Lib.hid (HQ.out.rd hgr hbg (by omega))
        clear hgr
        clear hob
        cases ob
        · have x0 := HQ.out.blk.cell 0
          have x1 := HQ.out.blk.cell 1
          have x2 := HQ.out.blk.cell 2
          have x3 := HQ.out.blk.cell 3
          have x4 := HQ.out.blk.cell 4
          have x5 := HQ.out.blk.cell 5
          have x6 := HQ.out.blk.cell 6
          have x7 := HQ.out.blk.cell 7
          have x8 := HQ.out.blk.cell 8
          have y3 := HQ.out.blk.frozen 3
          have y4 := HQ.out.blk.frozen 4
          have y6 := HQ.out.blk.frozen 6
          have y7 := HQ.out.blk.frozen 7
          have y8 := HQ.out.blk.frozen 8
          have hql := HQ.out.blk.lt
          simp only [Mch.cs, List.getElem?_toArray, List.getElem?_cons_succ, List.getElem?_cons_zero] at x0 x1 x2 x3 x4 x5 x6 x7 x8
          have hr0 := HR.out
          unfold zeroM at hr0
          have v0 := hr0.cell 0
          have v1 := hr0.cell 1
          have v2 := hr0.cell 2
          have v3 := hr0.cell 3
          have v4 := hr0.cell 4
          have v5 := hr0.cell 5
          have v6 := hr0.cell 6
          have v7 := hr0.cell 7
          have v8 := hr0.cell 8
          have t0 := hr0.frozen 0
          have t1 := hr0.frozen 1
          have t2 := hr0.frozen 2
          have t3 := hr0.frozen 3
          have t4 := hr0.frozen 4
          have t5 := hr0.frozen 5
          have t6 := hr0.frozen 6
          have t7 := hr0.frozen 7
          have t8 := hr0.frozen 8
          have hrl := hr0.lt
          replace hr0 := Lib.hid hr0
          go_wp2_with fail
          have hbk := setN_blk [.slice XA Xn Xc, .slice XR Xrn Xrc, .int .i64 Xbank, .int .i64 (Xa), .int .i64 (Xpc), .bool Xcy, .slice (B) (bn) (bc), .bool (sb), .int .i64 (Xcyc)] 0 _ _ hr0.out
          simp only [setA, List.setIfInBounds_toArray, List.set_cons_zero, List.set_cons_succ, Nat.zero_add, Nat.reduceAdd] at hbk
          refine bodyPost_ret (results_cell_row Try.results46 _ _ w.heap.size 28 #[.slice XA Xn Xc, .slice XR Xrn Xrc, .int .i64 Xbank, .int .i64 (Xa), .int .i64 (Xpc), .bool Xcy, .slice (B) (bn) (bc), .bool (sb), .int .i64 (Xcyc)] (0, 0) _ rfl hbk Try.underlying28 rfl rfl) rfl ?_
          refine draws_of (Drs.setN (Nat.le_refl _) [.slice XA Xn Xc, .slice XR Xrn Xrc, .int .i64 Xbank, .int .i64 (Xa), .int .i64 (Xpc), .bool Xcy, .slice (B) (bn) (bc), .bool (sb), .int .i64 (Xcyc)] 0 _ HD.out) (by omega) ?_
          have hfin := MQ.out (x := ⟨XA, Xn, Xc, Xrs, XR, Xrn, Xrc, Xrows, Xbank, Xa, Xpc, Xcy, B, bn, bc, bs, sb, Xcyc⟩) ⟨setN_far HQ.out.blk (Ne.symm hbr) [.slice XA Xn Xc, .slice XR Xrn Xrc, .int .i64 Xbank, .int .i64 (Xa), .int .i64 (Xpc), .bool Xcy, .slice (B) (bn) (bc), .bool (sb), .int .i64 (Xcyc)] 0, HQ.out.mem.trans (Keep.setN [.slice XA Xn Xc, .slice XR Xrn Xrc, .int .i64 Xbank, .int .i64 (Xa), .int .i64 (Xpc), .bool Xcy, .slice (B) (bn) (bc), .bool (sb), .int .i64 (Xcyc)] 0 _ _ hr0.out), own_same HQ.out.back fun q hq => setN_heap (by have := (HQ.out.back.lt q hq).1; omega) [.slice XA Xn Xc, .slice XR Xrn Xrc, .int .i64 Xbank, .int .i64 (Xa), .int .i64 (Xpc), .bool Xcy, .slice (B) (bn) (bc), .bool (sb), .int .i64 (Xcyc)] 0 _⟩ HS.out hg1 (by show (bn : Nat) ≤ 1000; omega)
          exact hfin
        go_wp2_with fail
        refine (pick_d HD.out 4 (by omega) (by omega) (by omega)).mono ?_
        rintro e W' ⟨v, rfl, ⟨zz, rfl, z0', z1'⟩, hD, hgr⟩
        replace HD := Lib.hid hD
        clear hD
        replace HR := Lib.hid (HR.out.rd hgr (by omega))
        replace HQ := Lib.hid (HQ.out.rd hgr hbg (by omega))
        clear hgr
        by_cases a0 : zz = 0
        · subst a0
          clear z0' z1'
          go_wp2_with fail
          have hsz := HD.out.size.2
          replace HR := Lib.hid (HR.out.alloc (.cells #[.int .i64 (-1), .int .i64 (256)] 3))
          replace HQ := Lib.hid (HQ.out.below ((Below.refl _ _).alloc (Nat.le_refl _) (.cells #[.int .i64 (-1), .int .i64 (256)] 3)))
          replace HD := Lib.hid (HD.out.alloc (.cells #[.int .i64 (-1), .int .i64 (256)] 3))
          go_wp2_with fail
          refine (pick_d HD.out 2 (by omega) (by omega) (by omega)).mono ?_
          rintro e W' ⟨v, rfl, ⟨y, rfl, u0, u1⟩, hD, hgr⟩
          replace HD := Lib.hid hD
          clear hD
          have l0 := grown_cell hgr (by simp) (by intro e; injection e with e; omega) (cell_new _ _ _ 0)
          have l1 := grown_cell hgr (by simp) (by intro e; injection e with e; omega) (cell_new _ _ _ 1)
          replace HR := Lib.hid (HR.out.rd hgr (by omega))
          replace HQ := Lib.hid (HQ.out.rd hgr hbg (by omega))
          clear hgr
          have x0 := HQ.out.blk.cell 0
          have x1 := HQ.out.blk.cell 1
          have x2 := HQ.out.blk.cell 2
          have x3 := HQ.out.blk.cell 3
          have x4 := HQ.out.blk.cell 4
          have x5 := HQ.out.blk.cell 5
          have x6 := HQ.out.blk.cell 6
          have x7 := HQ.out.blk.cell 7
          have x8 := HQ.out.blk.cell 8
          have y3 := HQ.out.blk.frozen 3
          have y4 := HQ.out.blk.frozen 4
          have y6 := HQ.out.blk.frozen 6
          have y7 := HQ.out.blk.frozen 7
          have y8 := HQ.out.blk.frozen 8
          have hql := HQ.out.blk.lt
          simp only [Mch.cs, List.getElem?_toArray, List.getElem?_cons_succ, List.getElem?_cons_zero] at x0 x1 x2 x3 x4 x5 x6 x7 x8
          obtain rfl | rfl : y = 0 ∨ y = 1 := by omega
          · replace HQ := Lib.hid (HQ.out.field (x' := ⟨XA, Xn, Xc, Xrs, XR, Xrn, Xrc, Xrows, Xbank, -1, Xpc, Xcy, B, bn, bc, bs, sb, Xcyc⟩) 3 (.int .i64 (-1)) rfl rfl)
            replace HR := Lib.hid (HR.out.far (p := ⟨bx, 3, none⟩) hbr (.int .i64 (-1)))
            replace HD := Lib.hid (HD.out.set ⟨bx, 3, none⟩ (.int .i64 (-1)) hbw)
            have x0 := HQ.out.blk.cell 0
            have x1 := HQ.out.blk.cell 1
            have x2 := HQ.out.blk.cell 2
            have x3 := HQ.out.blk.cell 3
            have x4 := HQ.out.blk.cell 4
            have x5 := HQ.out.blk.cell 5
            have x6 := HQ.out.blk.cell 6
            have x7 := HQ.out.blk.cell 7
            have x8 := HQ.out.blk.cell 8
            have y3 := HQ.out.blk.frozen 3
            have y4 := HQ.out.blk.frozen 4
            have y6 := HQ.out.blk.frozen 6
            have y7 := HQ.out.blk.frozen 7
            have y8 := HQ.out.blk.frozen 8
            have hql := HQ.out.blk.lt
            simp only [Mch.cs, List.getElem?_toArray, List.getElem?_cons_succ, List.getElem?_cons_zero] at x0 x1 x2 x3 x4 x5 x6 x7 x8
            have hr0 := HR.out
            unfold zeroM at hr0
            have v0 := hr0.cell 0
            have v1 := hr0.cell 1
            have v2 := hr0.cell 2
            have v3 := hr0.cell 3
            have v4 := hr0.cell 4
            have v5 := hr0.cell 5
            have v6 := hr0.cell 6
            have v7 := hr0.cell 7
            have v8 := hr0.cell 8
            have t0 := hr0.frozen 0
            have t1 := hr0.frozen 1
            have t2 := hr0.frozen 2
            have t3 := hr0.frozen 3
            have t4 := hr0.frozen 4
            have t5 := hr0.frozen 5
            have t6 := hr0.frozen 6
            have t7 := hr0.frozen 7
            have t8 := hr0.frozen 8
            have hrl := hr0.lt
            replace hr0 := Lib.hid hr0
            go_wp2_with fail
            have hbk := setN_blk [.slice XA Xn Xc, .slice XR Xrn Xrc, .int .i64 Xbank, .int .i64 (-1), .int .i64 (Xpc), .bool Xcy, .slice (B) (bn) (bc), .bool (sb), .int .i64 (Xcyc)] 0 _ _ hr0.out
            simp only [setA, List.setIfInBounds_toArray, List.set_cons_zero, List.set_cons_succ, Nat.zero_add, Nat.reduceAdd] at hbk
            refine bodyPost_ret (results_cell_row Try.results46 _ _ w.heap.size 28 #[.slice XA Xn Xc, .slice XR Xrn Xrc, .int .i64 Xbank, .int .i64 (-1), .int .i64 (Xpc), .bool Xcy, .slice (B) (bn) (bc), .bool (sb), .int .i64 (Xcyc)] (0, 0) _ rfl hbk Try.underlying28 rfl rfl) rfl ?_
            refine draws_of (Drs.setN (Nat.le_refl _) [.slice XA Xn Xc, .slice XR Xrn Xrc, .int .i64 Xbank, .int .i64 (-1), .int .i64 (Xpc), .bool Xcy, .slice (B) (bn) (bc), .bool (sb), .int .i64 (Xcyc)] 0 _ HD.out) (by omega) ?_
            have hfin := MQ.out (x := ⟨XA, Xn, Xc, Xrs, XR, Xrn, Xrc, Xrows, Xbank, -1, Xpc, Xcy, B, bn, bc, bs, sb, Xcyc⟩) ⟨setN_far HQ.out.blk (Ne.symm hbr) [.slice XA Xn Xc, .slice XR Xrn Xrc, .int .i64 Xbank, .int .i64 (-1), .int .i64 (Xpc), .bool Xcy, .slice (B) (bn) (bc), .bool (sb), .int .i64 (Xcyc)] 0, HQ.out.mem.trans (Keep.setN [.slice XA Xn Xc, .slice XR Xrn Xrc, .int .i64 Xbank, .int .i64 (-1), .int .i64 (Xpc), .bool Xcy, .slice (B) (bn) (bc), .bool (sb), .int .i64 (Xcyc)] 0 _ _ hr0.out), own_same HQ.out.back fun q hq => setN_heap (by have := (HQ.out.back.lt q hq).1; omega) [.slice XA Xn Xc, .slice XR Xrn Xrc, .int .i64 Xbank, .int .i64 (-1), .int .i64 (Xpc), .bool Xcy, .slice (B) (bn) (bc), .bool (sb), .int .i64 (Xcyc)] 0 _⟩ HS.out hg1 (by show (bn : Nat) ≤ 1000; omega)
            exact hfin
          · replace HQ := Lib.hid (HQ.out.field (x' := ⟨XA, Xn, Xc, Xrs, XR, Xrn, Xrc, Xrows, Xbank, 256, Xpc, Xcy, B, bn, bc, bs, sb, Xcyc⟩) 3 (.int .i64 256) rfl rfl)
            replace HR := Lib.hid (HR.out.far (p := ⟨bx, 3, none⟩) hbr (.int .i64 256))
            replace HD := Lib.hid (HD.out.set ⟨bx, 3, none⟩ (.int .i64 256) hbw)
            have x0 := HQ.out.blk.cell 0
            have x1 := HQ.out.blk.cell 1
            have x2 := HQ.out.blk.cell 2
            have x3 := HQ.out.blk.cell 3
            have x4 := HQ.out.blk.cell 4
            have x5 := HQ.out.blk.cell 5
            have x6 := HQ.out.blk.cell 6
            have x7 := HQ.out.blk.cell 7
            have x8 := HQ.out.blk.cell 8
            have y3 := HQ.out.blk.frozen 3
            have y4 := HQ.out.blk.frozen 4
            have y6 := HQ.out.blk.frozen 6
            have y7 := HQ.out.blk.frozen 7
            have y8 := HQ.out.blk.frozen 8
            have hql := HQ.out.blk.lt
            simp only [Mch.cs, List.getElem?_toArray, List.getElem?_cons_succ, List.getElem?_cons_zero] at x0 x1 x2 x3 x4 x5 x6 x7 x8
            have hr0 := HR.out
            unfold zeroM at hr0
            have v0 := hr0.cell 0
            have v1 := hr0.cell 1
            have v2 := hr0.cell 2
            have v3 := hr0.cell 3
            have v4 := hr0.cell 4
            have v5 := hr0.cell 5
            have v6 := hr0.cell 6
            have v7 := hr0.cell 7
            have v8 := hr0.cell 8
            have t0 := hr0.frozen 0
            have t1 := hr0.frozen 1
            have t2 := hr0.frozen 2
            have t3 := hr0.frozen 3
            have t4 := hr0.frozen 4
            have t5 := hr0.frozen 5
            have t6 := hr0.frozen 6
            have t7 := hr0.frozen 7
            have t8 := hr0.frozen 8
            have hrl := hr0.lt
            replace hr0 := Lib.hid hr0
            go_wp2_with fail
            have hbk := setN_blk [.slice XA Xn Xc, .slice XR Xrn Xrc, .int .i64 Xbank, .int .i64 (256), .int .i64 (Xpc), .bool Xcy, .slice (B) (bn) (bc), .bool (sb), .int .i64 (Xcyc)] 0 _ _ hr0.out
            simp only [setA, List.setIfInBounds_toArray, List.set_cons_zero, List.set_cons_succ, Nat.zero_add, Nat.reduceAdd] at hbk
            refine bodyPost_ret (results_cell_row Try.results46 _ _ w.heap.size 28 #[.slice XA Xn Xc, .slice XR Xrn Xrc, .int .i64 Xbank, .int .i64 (256), .int .i64 (Xpc), .bool Xcy, .slice (B) (bn) (bc), .bool (sb), .int .i64 (Xcyc)] (0, 0) _ rfl hbk Try.underlying28 rfl rfl) rfl ?_
            refine draws_of (Drs.setN (Nat.le_refl _) [.slice XA Xn Xc, .slice XR Xrn Xrc, .int .i64 Xbank, .int .i64 (256), .int .i64 (Xpc), .bool Xcy, .slice (B) (bn) (bc), .bool (sb), .int .i64 (Xcyc)] 0 _ HD.out) (by omega) ?_
            have hfin := MQ.out (x := ⟨XA, Xn, Xc, Xrs, XR, Xrn, Xrc, Xrows, Xbank, 256, Xpc, Xcy, B, bn, bc, bs, sb, Xcyc⟩) ⟨setN_far HQ.out.blk (Ne.symm hbr) [.slice XA Xn Xc, .slice XR Xrn Xrc, .int .i64 Xbank, .int .i64 (256), .int .i64 (Xpc), .bool Xcy, .slice (B) (bn) (bc), .bool (sb), .int .i64 (Xcyc)] 0, HQ.out.mem.trans (Keep.setN [.slice XA Xn Xc, .slice XR Xrn Xrc, .int .i64 Xbank, .int .i64 (256), .int .i64 (Xpc), .bool Xcy, .slice (B) (bn) (bc), .bool (sb), .int .i64 (Xcyc)] 0 _ _ hr0.out), own_same HQ.out.back fun q hq => setN_heap (by have := (HQ.out.back.lt q hq).1; omega) [.slice XA Xn Xc, .slice XR Xrn Xrc, .int .i64 Xbank, .int .i64 (256), .int .i64 (Xpc), .bool Xcy, .slice (B) (bn) (bc), .bool (sb), .int .i64 (Xcyc)] 0 _⟩ HS.out hg1 (by show (bn : Nat) ≤ 1000; omega)
            exact hfin
        by_cases a1 : zz = 1
        · subst a1
          clear z0' z1' a0
          go_wp2_with fail
          have hsz := HD.out.size.2
          replace HR := Lib.hid (HR.out.alloc (.cells #[.int .i64 (-1), .int .i64 (1024)] 3))
          replace HQ := Lib.hid (HQ.out.below ((Below.refl _ _).alloc (Nat.le_refl _) (.cells #[.int .i64 (-1), .int .i64 (1024)] 3)))
          replace HD := Lib.hid (HD.out.alloc (.cells #[.int .i64 (-1), .int .i64 (1024)] 3))
          go_wp2_with fail
          refine (pick_d HD.out 2 (by omega) (by omega) (by omega)).mono ?_
          rintro e W' ⟨v, rfl, ⟨y, rfl, u0, u1⟩, hD, hgr⟩
          replace HD := Lib.hid hD
          clear hD
          have l0 := grown_cell hgr (by simp) (by intro e; injection e with e; omega) (cell_new _ _ _ 0)
          have l1 := grown_cell hgr (by simp) (by intro e; injection e with e; omega) (cell_new _ _ _ 1)
          replace HR := Lib.hid (HR.out.rd hgr (by omega))
          replace HQ := Lib.hid (HQ.out.rd hgr hbg (by omega))
          clear hgr
          have x0 := HQ.out.blk.cell 0
          have x1 := HQ.out.blk.cell 1
          have x2 := HQ.out.blk.cell 2
          have x3 := HQ.out.blk.cell 3
          have x4 := HQ.out.blk.cell 4
          have x5 := HQ.out.blk.cell 5
          have x6 := HQ.out.blk.cell 6
          have x7 := HQ.out.blk.cell 7
          have x8 := HQ.out.blk.cell 8
          have y3 := HQ.out.blk.frozen 3
          have y4 := HQ.out.blk.frozen 4
          have y6 := HQ.out.blk.frozen 6
          have y7 := HQ.out.blk.frozen 7
          have y8 := HQ.out.blk.frozen 8
          have hql := HQ.out.blk.lt
          simp only [Mch.cs, List.getElem?_toArray, List.getElem?_cons_succ, List.getElem?_cons_zero] at x0 x1 x2 x3 x4 x5 x6 x7 x8
          obtain rfl | rfl : y = 0 ∨ y = 1 := by omega
          · replace HQ := Lib.hid (HQ.out.field (x' := ⟨XA, Xn, Xc, Xrs, XR, Xrn, Xrc, Xrows, Xbank, Xa, -1, Xcy, B, bn, bc, bs, sb, Xcyc⟩) 4 (.int .i64 (-1)) rfl rfl)
            replace HR := Lib.hid (HR.out.far (p := ⟨bx, 4, none⟩) hbr (.int .i64 (-1)))
            replace HD := Lib.hid (HD.out.set ⟨bx, 4, none⟩ (.int .i64 (-1)) hbw)
            have x0 := HQ.out.blk.cell 0
            have x1 := HQ.out.blk.cell 1
            have x2 := HQ.out.blk.cell 2
            have x3 := HQ.out.blk.cell 3
            have x4 := HQ.out.blk.cell 4
            have x5 := HQ.out.blk.cell 5
            have x6 := HQ.out.blk.cell 6
            have x7 := HQ.out.blk.cell 7
            have x8 := HQ.out.blk.cell 8
            have y3 := HQ.out.blk.frozen 3
            have y4 := HQ.out.blk.frozen 4
            have y6 := HQ.out.blk.frozen 6
            have y7 := HQ.out.blk.frozen 7
            have y8 := HQ.out.blk.frozen 8
            have hql := HQ.out.blk.lt
            simp only [Mch.cs, List.getElem?_toArray, List.getElem?_cons_succ, List.getElem?_cons_zero] at x0 x1 x2 x3 x4 x5 x6 x7 x8
            have hr0 := HR.out
            unfold zeroM at hr0
            have v0 := hr0.cell 0
            have v1 := hr0.cell 1
            have v2 := hr0.cell 2
            have v3 := hr0.cell 3
            have v4 := hr0.cell 4
            have v5 := hr0.cell 5
            have v6 := hr0.cell 6
            have v7 := hr0.cell 7
            have v8 := hr0.cell 8
            have t0 := hr0.frozen 0
            have t1 := hr0.frozen 1
            have t2 := hr0.frozen 2
            have t3 := hr0.frozen 3
            have t4 := hr0.frozen 4
            have t5 := hr0.frozen 5
            have t6 := hr0.frozen 6
            have t7 := hr0.frozen 7
            have t8 := hr0.frozen 8
            have hrl := hr0.lt
            replace hr0 := Lib.hid hr0
            go_wp2_with fail
            have hbk := setN_blk [.slice XA Xn Xc, .slice XR Xrn Xrc, .int .i64 Xbank, .int .i64 (Xa), .int .i64 (-1), .bool Xcy, .slice (B) (bn) (bc), .bool (sb), .int .i64 (Xcyc)] 0 _ _ hr0.out
            simp only [setA, List.setIfInBounds_toArray, List.set_cons_zero, List.set_cons_succ, Nat.zero_add, Nat.reduceAdd] at hbk
            refine bodyPost_ret (results_cell_row Try.results46 _ _ w.heap.size 28 #[.slice XA Xn Xc, .slice XR Xrn Xrc, .int .i64 Xbank, .int .i64 (Xa), .int .i64 (-1), .bool Xcy, .slice (B) (bn) (bc), .bool (sb), .int .i64 (Xcyc)] (0, 0) _ rfl hbk Try.underlying28 rfl rfl) rfl ?_
            refine draws_of (Drs.setN (Nat.le_refl _) [.slice XA Xn Xc, .slice XR Xrn Xrc, .int .i64 Xbank, .int .i64 (Xa), .int .i64 (-1), .bool Xcy, .slice (B) (bn) (bc), .bool (sb), .int .i64 (Xcyc)] 0 _ HD.out) (by omega) ?_
            have hfin := MQ.out (x := ⟨XA, Xn, Xc, Xrs, XR, Xrn, Xrc, Xrows, Xbank, Xa, -1, Xcy, B, bn, bc, bs, sb, Xcyc⟩) ⟨setN_far HQ.out.blk (Ne.symm hbr) [.slice XA Xn Xc, .slice XR Xrn Xrc, .int .i64 Xbank, .int .i64 (Xa), .int .i64 (-1), .bool Xcy, .slice (B) (bn) (bc), .bool (sb), .int .i64 (Xcyc)] 0, HQ.out.mem.trans (Keep.setN [.slice XA Xn Xc, .slice XR Xrn Xrc, .int .i64 Xbank, .int .i64 (Xa), .int .i64 (-1), .bool Xcy, .slice (B) (bn) (bc), .bool (sb), .int .i64 (Xcyc)] 0 _ _ hr0.out), own_same HQ.out.back fun q hq => setN_heap (by have := (HQ.out.back.lt q hq).1; omega) [.slice XA Xn Xc, .slice XR Xrn Xrc, .int .i64 Xbank, .int .i64 (Xa), .int .i64 (-1), .bool Xcy, .slice (B) (bn) (bc), .bool (sb), .int .i64 (Xcyc)] 0 _⟩ HS.out hg1 (by show (bn : Nat) ≤ 1000; omega)
            exact hfin
          · replace HQ := Lib.hid (HQ.out.field (x' := ⟨XA, Xn, Xc, Xrs, XR, Xrn, Xrc, Xrows, Xbank, Xa, 1024, Xcy, B, bn, bc, bs, sb, Xcyc⟩) 4 (.int .i64 1024) rfl rfl)
            replace HR := Lib.hid (HR.out.far (p := ⟨bx, 4, none⟩) hbr (.int .i64 1024))
            replace HD := Lib.hid (HD.out.set ⟨bx, 4, none⟩ (.int .i64 1024) hbw)
            have x0 := HQ.out.blk.cell 0
            have x1 := HQ.out.blk.cell 1
            have x2 := HQ.out.blk.cell 2
            have x3 := HQ.out.blk.cell 3
            have x4 := HQ.out.blk.cell 4
            have x5 := HQ.out.blk.cell 5
            have x6 := HQ.out.blk.cell 6
            have x7 := HQ.out.blk.cell 7
            have x8 := HQ.out.blk.cell 8
            have y3 := HQ.out.blk.frozen 3
            have y4 := HQ.out.blk.frozen 4
            have y6 := HQ.out.blk.frozen 6
            have y7 := HQ.out.blk.frozen 7
            have y8 := HQ.out.blk.frozen 8
            have hql := HQ.out.blk.lt
            simp only [Mch.cs, List.getElem?_toArray, List.getElem?_cons_succ, List.getElem?_cons_zero] at x0 x1 x2 x3 x4 x5 x6 x7 x8
            have hr0 := HR.out
            unfold zeroM at hr0
            have v0 := hr0.cell 0
            have v1 := hr0.cell 1
            have v2 := hr0.cell 2
            have v3 := hr0.cell 3
            have v4 := hr0.cell 4
            have v5 := hr0.cell 5
            have v6 := hr0.cell 6
            have v7 := hr0.cell 7
            have v8 := hr0.cell 8
            have t0 := hr0.frozen 0
            have t1 := hr0.frozen 1
            have t2 := hr0.frozen 2
            have t3 := hr0.frozen 3
            have t4 := hr0.frozen 4
            have t5 := hr0.frozen 5
            have t6 := hr0.frozen 6
            have t7 := hr0.frozen 7
            have t8 := hr0.frozen 8
            have hrl := hr0.lt
            replace hr0 := Lib.hid hr0
            go_wp2_with fail
            have hbk := setN_blk [.slice XA Xn Xc, .slice XR Xrn Xrc, .int .i64 Xbank, .int .i64 (Xa), .int .i64 (1024), .bool Xcy, .slice (B) (bn) (bc), .bool (sb), .int .i64 (Xcyc)] 0 _ _ hr0.out
            simp only [setA, List.setIfInBounds_toArray, List.set_cons_zero, List.set_cons_succ, Nat.zero_add, Nat.reduceAdd] at hbk
            refine bodyPost_ret (results_cell_row Try.results46 _ _ w.heap.size 28 #[.slice XA Xn Xc, .slice XR Xrn Xrc, .int .i64 Xbank, .int .i64 (Xa), .int .i64 (1024), .bool Xcy, .slice (B) (bn) (bc), .bool (sb), .int .i64 (Xcyc)] (0, 0) _ rfl hbk Try.underlying28 rfl rfl) rfl ?_
            refine draws_of (Drs.setN (Nat.le_refl _) [.slice XA Xn Xc, .slice XR Xrn Xrc, .int .i64 Xbank, .int .i64 (Xa), .int .i64 (1024), .bool Xcy, .slice (B) (bn) (bc), .bool (sb), .int .i64 (Xcyc)] 0 _ HD.out) (by omega) ?_
            have hfin := MQ.out (x := ⟨XA, Xn, Xc, Xrs, XR, Xrn, Xrc, Xrows, Xbank, Xa, 1024, Xcy, B, bn, bc, bs, sb, Xcyc⟩) ⟨setN_far HQ.out.blk (Ne.symm hbr) [.slice XA Xn Xc, .slice XR Xrn Xrc, .int .i64 Xbank, .int .i64 (Xa), .int .i64 (1024), .bool Xcy, .slice (B) (bn) (bc), .bool (sb), .int .i64 (Xcyc)] 0, HQ.out.mem.trans (Keep.setN [.slice XA Xn Xc, .slice XR Xrn Xrc, .int .i64 Xbank, .int .i64 (Xa), .int .i64 (1024), .bool Xcy, .slice (B) (bn) (bc), .bool (sb), .int .i64 (Xcyc)] 0 _ _ hr0.out), own_same HQ.out.back fun q hq => setN_heap (by have := (HQ.out.back.lt q hq).1; omega) [.slice XA Xn Xc, .slice XR Xrn Xrc, .int .i64 Xbank, .int .i64 (Xa), .int .i64 (1024), .bool Xcy, .slice (B) (bn) (bc), .bool (sb), .int .i64 (Xcyc)] 0 _⟩ HS.out hg1 (by show (bn : Nat) ≤ 1000; omega)
            exact hfin
        by_cases a2 : zz = 2
        · subst a2
          clear z0' z1' a0 a1
          go_upto_region 16 with (at_make; refine make_full _ rfl _ _ rfl 9 rfl rfl (by omega) w1.heap.size HQ.out.mem.size ?_; intro w8 o8 b8; have hQ8 := Lib.hid (HQ.out.newBack (HQ.out.mem.trans (Keep.of_below b8)) (HQ.out.blk.below b8 HQ.out.blk.lt) o8); have c6 : w8.cell? ⟨bx, 6, none⟩ = some (.slice B bn bc) := (HQ.out.blk.below b8 HQ.out.blk.lt).cell 6; have d6 := (HQ.out.blk.below b8 HQ.out.blk.lt).frozen 6; have hR8 := Lib.hid (HR.out.below b8 HR.out.lt); have hD8 := Lib.hid (HD.out.below b8); clear o8 b8)
          replace HQ := hQ8
          replace HR := Lib.hid (hR8.out.far (p := ⟨bx, 6, none⟩) hbr (.slice (some ⟨W'.heap.size, 0, none⟩) 9 9))
          replace HD := Lib.hid (hD8.out.set ⟨bx, 6, none⟩ (.slice (some ⟨W'.heap.size, 0, none⟩) 9 9) hbw)
          clear hQ8 hR8 hD8 c6 d6
          have x0 := HQ.out.blk.cell 0
          have x1 := HQ.out.blk.cell 1
          have x2 := HQ.out.blk.cell 2
          have x3 := HQ.out.blk.cell 3
          have x4 := HQ.out.blk.cell 4
          have x5 := HQ.out.blk.cell 5
          have x6 := HQ.out.blk.cell 6
          have x7 := HQ.out.blk.cell 7
          have x8 := HQ.out.blk.cell 8
          have y3 := HQ.out.blk.frozen 3
          have y4 := HQ.out.blk.frozen 4
          have y6 := HQ.out.blk.frozen 6
          have y7 := HQ.out.blk.frozen 7
          have y8 := HQ.out.blk.frozen 8
          have hql := HQ.out.blk.lt
          simp only [Mch.cs, List.getElem?_toArray, List.getElem?_cons_succ, List.getElem?_cons_zero] at x0 x1 x2 x3 x4 x5 x6 x7 x8
          have hr0 := HR.out
          unfold zeroM at hr0
          have v0 := hr0.cell 0
          have v1 := hr0.cell 1
          have v2 := hr0.cell 2
          have v3 := hr0.cell 3
          have v4 := hr0.cell 4
          have v5 := hr0.cell 5
          have v6 := hr0.cell 6
          have v7 := hr0.cell 7
          have v8 := hr0.cell 8
          have t0 := hr0.frozen 0
          have t1 := hr0.frozen 1
          have t2 := hr0.frozen 2
          have t3 := hr0.frozen 3
          have t4 := hr0.frozen 4
          have t5 := hr0.frozen 5
          have t6 := hr0.frozen 6
          have t7 := hr0.frozen 7
          have t8 := hr0.frozen 8
          have hrl := hr0.lt
          replace hr0 := Lib.hid hr0
          go_wp2_with fail
          have hbk := setN_blk [.slice XA Xn Xc, .slice XR Xrn Xrc, .int .i64 Xbank, .int .i64 (Xa), .int .i64 (Xpc), .bool Xcy, .slice (some ⟨W'.heap.size, 0, none⟩) (9) (9), .bool (sb), .int .i64 (Xcyc)] 0 _ _ hr0.out
          simp only [setA, List.setIfInBounds_toArray, List.set_cons_zero, List.set_cons_succ, Nat.zero_add, Nat.reduceAdd] at hbk
          refine bodyPost_ret (results_cell_row Try.results46 _ _ w.heap.size 28 #[.slice XA Xn Xc, .slice XR Xrn Xrc, .int .i64 Xbank, .int .i64 (Xa), .int .i64 (Xpc), .bool Xcy, .slice (some ⟨W'.heap.size, 0, none⟩) (9) (9), .bool (sb), .int .i64 (Xcyc)] (0, 0) _ rfl hbk Try.underlying28 rfl rfl) rfl ?_
          refine draws_of (Drs.setN (Nat.le_refl _) [.slice XA Xn Xc, .slice XR Xrn Xrc, .int .i64 Xbank, .int .i64 (Xa), .int .i64 (Xpc), .bool Xcy, .slice (some ⟨W'.heap.size, 0, none⟩) (9) (9), .bool (sb), .int .i64 (Xcyc)] 0 _ HD.out) (by omega) ?_
          have hfin := MQ.out (x := ⟨XA, Xn, Xc, Xrs, XR, Xrn, Xrc, Xrows, Xbank, Xa, Xpc, Xcy, some ⟨W'.heap.size, 0, none⟩, 9, 9, List.replicate 9 0, sb, Xcyc⟩) ⟨setN_far HQ.out.blk (Ne.symm hbr) [.slice XA Xn Xc, .slice XR Xrn Xrc, .int .i64 Xbank, .int .i64 (Xa), .int .i64 (Xpc), .bool Xcy, .slice (some ⟨W'.heap.size, 0, none⟩) (9) (9), .bool (sb), .int .i64 (Xcyc)] 0, HQ.out.mem.trans (Keep.setN [.slice XA Xn Xc, .slice XR Xrn Xrc, .int .i64 Xbank, .int .i64 (Xa), .int .i64 (Xpc), .bool Xcy, .slice (some ⟨W'.heap.size, 0, none⟩) (9) (9), .bool (sb), .int .i64 (Xcyc)] 0 _ _ hr0.out), own_same HQ.out.back fun q hq => setN_heap (by have := (HQ.out.back.lt q hq).1; omega) [.slice XA Xn Xc, .slice XR Xrn Xrc, .int .i64 Xbank, .int .i64 (Xa), .int .i64 (Xpc), .bool Xcy, .slice (some ⟨W'.heap.size, 0, none⟩) (9) (9), .bool (sb), .int .i64 (Xcyc)] 0 _⟩ HS.out hg1 (by show (9 : Nat) ≤ 1000; omega)
          exact hfin
        have e0 : (zz == 0) = false := by simp; omega
        have e1 : (zz == 1) = false := by simp; omega
        have e2 : (zz == 2) = false := by simp; omega
        have x0 := HQ.out.blk.cell 0
        have x1 := HQ.out.blk.cell 1
        have x2 := HQ.out.blk.cell 2
        have x3 := HQ.out.blk.cell 3
        have x4 := HQ.out.blk.cell 4
        have x5 := HQ.out.blk.cell 5
        have x6 := HQ.out.blk.cell 6
        have x7 := HQ.out.blk.cell 7
        have x8 := HQ.out.blk.cell 8
        have y3 := HQ.out.blk.frozen 3
        have y4 := HQ.out.blk.frozen 4
        have y6 := HQ.out.blk.frozen 6
        have y7 := HQ.out.blk.frozen 7
        have y8 := HQ.out.blk.frozen 8
        have hql := HQ.out.blk.lt
        simp only [Mch.cs, List.getElem?_toArray, List.getElem?_cons_succ, List.getElem?_cons_zero] at x0 x1 x2 x3 x4 x5 x6 x7 x8
        replace HQ := Lib.hid (HQ.out.field (x' := ⟨XA, Xn, Xc, Xrs, XR, Xrn, Xrc, Xrows, Xbank, Xa, Xpc, Xcy, B, bn, bc, bs, sb, -1⟩) 8 (.int .i64 (-1)) rfl rfl)
        replace HR := Lib.hid (HR.out.far (p := ⟨bx, 8, none⟩) hbr (.int .i64 (-1)))
        replace HD := Lib.hid (HD.out.set ⟨bx, 8, none⟩ (.int .i64 (-1)) hbw)
        have x0 := HQ.out.blk.cell 0
        have x1 := HQ.out.blk.cell 1
        have x2 := HQ.out.blk.cell 2
        have x3 := HQ.out.blk.cell 3
        have x4 := HQ.out.blk.cell 4
        have x5 := HQ.out.blk.cell 5
        have x6 := HQ.out.blk.cell 6
        have x7 := HQ.out.blk.cell 7
        have x8 := HQ.out.blk.cell 8
        have y3 := HQ.out.blk.frozen 3
        have y4 := HQ.out.blk.frozen 4
        have y6 := HQ.out.blk.frozen 6
        have y7 := HQ.out.blk.frozen 7
        have y8 := HQ.out.blk.frozen 8
        have hql := HQ.out.blk.lt
        simp only [Mch.cs, List.getElem?_toArray, List.getElem?_cons_succ, List.getElem?_cons_zero] at x0 x1 x2 x3 x4 x5 x6 x7 x8
        have hr0 := HR.out
        unfold zeroM at hr0
        have v0 := hr0.cell 0
        have v1 := hr0.cell 1
        have v2 := hr0.cell 2
        have v3 := hr0.cell 3
        have v4 := hr0.cell 4
        have v5 := hr0.cell 5
        have v6 := hr0.cell 6
        have v7 := hr0.cell 7
        have v8 := hr0.cell 8
        have t0 := hr0.frozen 0
        have t1 := hr0.frozen 1
        have t2 := hr0.frozen 2
        have t3 := hr0.frozen 3
        have t4 := hr0.frozen 4
        have t5 := hr0.frozen 5
        have t6 := hr0.frozen 6
        have t7 := hr0.frozen 7
        have t8 := hr0.frozen 8
        have hrl := hr0.lt
        replace hr0 := Lib.hid hr0
        go_wp2_with fail
        have hbk := setN_blk [.slice XA Xn Xc, .slice XR Xrn Xrc, .int .i64 Xbank, .int .i64 (Xa), .int .i64 (Xpc), .bool Xcy, .slice (B) (bn) (bc), .bool (sb), .int .i64 (-1)] 0 _ _ hr0.out
        simp only [setA, List.setIfInBounds_toArray, List.set_cons_zero, List.set_cons_succ, Nat.zero_add, Nat.reduceAdd] at hbk
        refine bodyPost_ret (results_cell_row Try.results46 _ _ w.heap.size 28 #[.slice XA Xn Xc, .slice XR Xrn Xrc, .int .i64 Xbank, .int .i64 (Xa), .int .i64 (Xpc), .bool Xcy, .slice (B) (bn) (bc), .bool (sb), .int .i64 (-1)] (0, 0) _ rfl hbk Try.underlying28 rfl rfl) rfl ?_
        refine draws_of (Drs.setN (Nat.le_refl _) [.slice XA Xn Xc, .slice XR Xrn Xrc, .int .i64 Xbank, .int .i64 (Xa), .int .i64 (Xpc), .bool Xcy, .slice (B) (bn) (bc), .bool (sb), .int .i64 (-1)] 0 _ HD.out) (by omega) ?_
        have hfin := MQ.out (x := ⟨XA, Xn, Xc, Xrs, XR, Xrn, Xrc, Xrows, Xbank, Xa, Xpc, Xcy, B, bn, bc, bs, sb, -1⟩) ⟨setN_far HQ.out.blk (Ne.symm hbr) [.slice XA Xn Xc, .slice XR Xrn Xrc, .int .i64 Xbank, .int .i64 (Xa), .int .i64 (Xpc), .bool Xcy, .slice (B) (bn) (bc), .bool (sb), .int .i64 (-1)] 0, HQ.out.mem.trans (Keep.setN [.slice XA Xn Xc, .slice XR Xrn Xrc, .int .i64 Xbank, .int .i64 (Xa), .int .i64 (Xpc), .bool Xcy, .slice (B) (bn) (bc), .bool (sb), .int .i64 (-1)] 0 _ _ hr0.out), own_same HQ.out.back fun q hq => setN_heap (by have := (HQ.out.back.lt q hq).1; omega) [.slice XA Xn Xc, .slice XR Xrn Xrc, .int .i64 Xbank, .int .i64 (Xa), .int .i64 (Xpc), .bool Xcy, .slice (B) (bn) (bc), .bool (sb), .int .i64 (-1)] 0 _⟩ HS.out hg1 (by show (bn : Nat) ≤ 1000; omega)
        exact hfin
    · obtain rfl : K = 0 := by omega
      have q1 : ¬ ((0 : Nat) : Int) > 0 := by omega
      have hbn9 : bn ≤ 9 := by omega
      go_wp2_with fail
      refine (odd_d HD.out 12 (by omega) (by omega) (by omega)).mono ?_
      rintro e W' ⟨v, rfl, ⟨sb, rfl, hsb⟩, hD, hgr⟩
      replace HD := Lib.hid hD
      clear hD
      replace HR := Lib.hid (HR.out.rd hgr (by omega))
      replace HQ := Lib.hid (HQ.out.rd hgr hbg (by omega))
      clear hgr
      have x0 := HQ.out.blk.cell 0
      have x1 := HQ.out.blk.cell 1
      have x2 := HQ.out.blk.cell 2
      have x3 := HQ.out.blk.cell 3
      have x4 := HQ.out.blk.cell 4
      have x5 := HQ.out.blk.cell 5
      have x6 := HQ.out.blk.cell 6
      have x7 := HQ.out.blk.cell 7
      have x8 := HQ.out.blk.cell 8
      have y3 := HQ.out.blk.frozen 3
      have y4 := HQ.out.blk.frozen 4
      have y6 := HQ.out.blk.frozen 6
      have y7 := HQ.out.blk.frozen 7
      have y8 := HQ.out.blk.frozen 8
      have hql := HQ.out.blk.lt
      simp only [Mch.cs, List.getElem?_toArray, List.getElem?_cons_succ, List.getElem?_cons_zero] at x0 x1 x2 x3 x4 x5 x6 x7 x8
      clear hsb
      replace HQ := Lib.hid (HQ.out.field (x' := ⟨XA, Xn, Xc, Xrs, XR, Xrn, Xrc, Xrows, Xbank, Xa, Xpc, Xcy, B, bn, bc, bs, sb, Xcyc⟩) 7 (.bool sb) rfl rfl)
      replace HR := Lib.hid (HR.out.far (p := ⟨bx, 7, none⟩) hbr (.bool sb))
      replace HD := Lib.hid (HD.out.set ⟨bx, 7, none⟩ (.bool sb) hbw)
      go_wp2_with fail
      refine (odd_d HD.out N (by omega) n0 n1).mono ?_
      rintro e W' ⟨v, rfl, ⟨ob, rfl, hob⟩, hD, hgr⟩
      replace HD := Lib.hid hD
      clear hD
      replace HR := Lib.hid (HR.out.rd hgr (by omega))
      replace HQ := Lib.hid (HQ.out.rd hgr hbg (by omega))
      clear hgr
      clear hob
      cases ob
      · have x0 := HQ.out.blk.cell 0
        have x1 := HQ.out.blk.cell 1
        have x2 := HQ.out.blk.cell 2
        have x3 := HQ.out.blk.cell 3
        have x4 := HQ.out.blk.cell 4
        have x5 := HQ.out.blk.cell 5
        have x6 := HQ.out.blk.cell 6
        have x7 := HQ.out.blk.cell 7
        have x8 := HQ.out.blk.cell 8
        have y3 := HQ.out.blk.frozen 3
        have y4 := HQ.out.blk.frozen 4
        have y6 := HQ.out.blk.frozen 6
        have y7 := HQ.out.blk.frozen 7
        have y8 := HQ.out.blk.frozen 8
        have hql := HQ.out.blk.lt
        simp only [Mch.cs, List.getElem?_toArray, List.getElem?_cons_succ, List.getElem?_cons_zero] at x0 x1 x2 x3 x4 x5 x6 x7 x8
        have hr0 := HR.out
        unfold zeroM at hr0
        have v0 := hr0.cell 0
        have v1 := hr0.cell 1
        have v2 := hr0.cell 2
        have v3 := hr0.cell 3
        have v4 := hr0.cell 4
        have v5 := hr0.cell 5
        have v6 := hr0.cell 6
        have v7 := hr0.cell 7
        have v8 := hr0.cell 8
        have t0 := hr0.frozen 0
        have t1 := hr0.frozen 1
        have t2 := hr0.frozen 2
        have t3 := hr0.frozen 3
        have t4 := hr0.frozen 4
        have t5 := hr0.frozen 5
        have t6 := hr0.frozen 6
        have t7 := hr0.frozen 7
        have t8 := hr0.frozen 8
        have hrl := hr0.lt
        replace hr0 := Lib.hid hr0
        go_wp2_with fail
        have hbk := setN_blk [.slice XA Xn Xc, .slice XR Xrn Xrc, .int .i64 Xbank, .int .i64 (Xa), .int .i64 (Xpc), .bool Xcy, .slice (B) (bn) (bc), .bool (sb), .int .i64 (Xcyc)] 0 _ _ hr0.out
        simp only [setA, List.setIfInBounds_toArray, List.set_cons_zero, List.set_cons_succ, Nat.zero_add, Nat.reduceAdd] at hbk
        refine bodyPost_ret (results_cell_row Try.results46 _ _ w.heap.size 28 #[.slice XA Xn Xc, .slice XR Xrn Xrc, .int .i64 Xbank, .int .i64 (Xa), .int .i64 (Xpc), .bool Xcy, .slice (B) (bn) (bc), .bool (sb), .int .i64 (Xcyc)] (0, 0) _ rfl hbk Try.underlying28 rfl rfl) rfl ?_
        refine draws_of (Drs.setN (Nat.le_refl _) [.slice XA Xn Xc, .slice XR Xrn Xrc, .int .i64 Xbank, .int .i64 (Xa), .int .i64 (Xpc), .bool Xcy, .slice (B) (bn) (bc), .bool (sb), .int .i64 (Xcyc)] 0 _ HD.out) (by omega) ?_
        have hfin := MQ.out (x := ⟨XA, Xn, Xc, Xrs, XR, Xrn, Xrc, Xrows, Xbank, Xa, Xpc, Xcy, B, bn, bc, bs, sb, Xcyc⟩) ⟨setN_far HQ.out.blk (Ne.symm hbr) [.slice XA Xn Xc, .slice XR Xrn Xrc, .int .i64 Xbank, .int .i64 (Xa), .int .i64 (Xpc), .bool Xcy, .slice (B) (bn) (bc), .bool (sb), .int .i64 (Xcyc)] 0, HQ.out.mem.trans (Keep.setN [.slice XA Xn Xc, .slice XR Xrn Xrc, .int .i64 Xbank, .int .i64 (Xa), .int .i64 (Xpc), .bool Xcy, .slice (B) (bn) (bc), .bool (sb), .int .i64 (Xcyc)] 0 _ _ hr0.out), own_same HQ.out.back fun q hq => setN_heap (by have := (HQ.out.back.lt q hq).1; omega) [.slice XA Xn Xc, .slice XR Xrn Xrc, .int .i64 Xbank, .int .i64 (Xa), .int .i64 (Xpc), .bool Xcy, .slice (B) (bn) (bc), .bool (sb), .int .i64 (Xcyc)] 0 _⟩ HS.out hg1 (by show (bn : Nat) ≤ 1000; omega)
        exact hfin
      go_wp2_with fail
      refine (pick_d HD.out 4 (by omega) (by omega) (by omega)).mono ?_
      rintro e W' ⟨v, rfl, ⟨zz, rfl, z0', z1'⟩, hD, hgr⟩
      replace HD := Lib.hid hD
      clear hD
      replace HR := Lib.hid (HR.out.rd hgr (by omega))
      replace HQ := Lib.hid (HQ.out.rd hgr hbg (by omega))
      clear hgr
      by_cases a0 : zz = 0
      · subst a0
        clear z0' z1'
        go_wp2_with fail
        have hsz := HD.out.size.2
        replace HR := Lib.hid (HR.out.alloc (.cells #[.int .i64 (-1), .int .i64 (256)] 3))
        replace HQ := Lib.hid (HQ.out.below ((Below.refl _ _).alloc (Nat.le_refl _) (.cells #[.int .i64 (-1), .int .i64 (256)] 3)))
        replace HD := Lib.hid (HD.out.alloc (.cells #[.int .i64 (-1), .int .i64 (256)] 3))
        go_wp2_with fail
        refine (pick_d HD.out 2 (by omega) (by omega) (by omega)).mono ?_
        rintro e W' ⟨v, rfl, ⟨y, rfl, u0, u1⟩, hD, hgr⟩
        replace HD := Lib.hid hD
        clear hD
        have l0 := grown_cell hgr (by simp) (by intro e; injection e with e; omega) (cell_new _ _ _ 0)
        have l1 := grown_cell hgr (by simp) (by intro e; injection e with e; omega) (cell_new _ _ _ 1)
        replace HR := Lib.hid (HR.out.rd hgr (by omega))
        replace HQ := Lib.hid (HQ.out.rd hgr hbg (by omega))
        clear hgr
        have x0 := HQ.out.blk.cell 0
        have x1 := HQ.out.blk.cell 1
        have x2 := HQ.out.blk.cell 2
        have x3 := HQ.out.blk.cell 3
        have x4 := HQ.out.blk.cell 4
        have x5 := HQ.out.blk.cell 5
        have x6 := HQ.out.blk.cell 6
        have x7 := HQ.out.blk.cell 7
        have x8 := HQ.out.blk.cell 8
        have y3 := HQ.out.blk.frozen 3
        have y4 := HQ.out.blk.frozen 4
        have y6 := HQ.out.blk.frozen 6
        have y7 := HQ.out.blk.frozen 7
        have y8 := HQ.out.blk.frozen 8
        have hql := HQ.out.blk.lt
        simp only [Mch.cs, List.getElem?_toArray, List.getElem?_cons_succ, List.getElem?_cons_zero] at x0 x1 x2 x3 x4 x5 x6 x7 x8
        obtain rfl | rfl : y = 0 ∨ y = 1 := by omega
        · replace HQ := Lib.hid (HQ.out.field (x' := ⟨XA, Xn, Xc, Xrs, XR, Xrn, Xrc, Xrows, Xbank, -1, Xpc, Xcy, B, bn, bc, bs, sb, Xcyc⟩) 3 (.int .i64 (-1)) rfl rfl)
          replace HR := Lib.hid (HR.out.far (p := ⟨bx, 3, none⟩) hbr (.int .i64 (-1)))
          replace HD := Lib.hid (HD.out.set ⟨bx, 3, none⟩ (.int .i64 (-1)) hbw)
          have x0 := HQ.out.blk.cell 0
          have x1 := HQ.out.blk.cell 1
          have x2 := HQ.out.blk.cell 2
          have x3 := HQ.out.blk.cell 3
          have x4 := HQ.out.blk.cell 4
          have x5 := HQ.out.blk.cell 5
          have x6 := HQ.out.blk.cell 6
          have x7 := HQ.out.blk.cell 7
          have x8 := HQ.out.blk.cell 8
          have y3 := HQ.out.blk.frozen 3
          have y4 := HQ.out.blk.frozen 4
          have y6 := HQ.out.blk.frozen 6
          have y7 := HQ.out.blk.frozen 7
          have y8 := HQ.out.blk.frozen 8
          have hql := HQ.out.blk.lt
          simp only [Mch.cs, List.getElem?_toArray, List.getElem?_cons_succ, List.getElem?_cons_zero] at x0 x1 x2 x3 x4 x5 x6 x7 x8
          have hr0 := HR.out
          unfold zeroM at hr0
          have v0 := hr0.cell 0
          have v1 := hr0.cell 1
          have v2 := hr0.cell 2
          have v3 := hr0.cell 3
          have v4 := hr0.cell 4
          have v5 := hr0.cell 5
          have v6 := hr0.cell 6
          have v7 := hr0.cell 7
          have v8 := hr0.cell 8
          have t0 := hr0.frozen 0
          have t1 := hr0.frozen 1
          have t2 := hr0.frozen 2
          have t3 := hr0.frozen 3
          have t4 := hr0.frozen 4
          have t5 := hr0.frozen 5
          have t6 := hr0.frozen 6
          have t7 := hr0.frozen 7
          have t8 := hr0.frozen 8
          have hrl := hr0.lt
          replace hr0 := Lib.hid hr0
          go_wp2_with fail
          have hbk := setN_blk [.slice XA Xn Xc, .slice XR Xrn Xrc, .int .i64 Xbank, .int .i64 (-1), .int .i64 (Xpc), .bool Xcy, .slice (B) (bn) (bc), .bool (sb), .int .i64 (Xcyc)] 0 _ _ hr0.out
          simp only [setA, List.setIfInBounds_toArray, List.set_cons_zero, List.set_cons_succ, Nat.zero_add, Nat.reduceAdd] at hbk
          refine bodyPost_ret (results_cell_row Try.results46 _ _ w.heap.size 28 #[.slice XA Xn Xc, .slice XR Xrn Xrc, .int .i64 Xbank, .int .i64 (-1), .int .i64 (Xpc), .bool Xcy, .slice (B) (bn) (bc), .bool (sb), .int .i64 (Xcyc)] (0, 0) _ rfl hbk Try.underlying28 rfl rfl) rfl ?_
          refine draws_of (Drs.setN (Nat.le_refl _) [.slice XA Xn Xc, .slice XR Xrn Xrc, .int .i64 Xbank, .int .i64 (-1), .int .i64 (Xpc), .bool Xcy, .slice (B) (bn) (bc), .bool (sb), .int .i64 (Xcyc)] 0 _ HD.out) (by omega) ?_
          have hfin := MQ.out (x := ⟨XA, Xn, Xc, Xrs, XR, Xrn, Xrc, Xrows, Xbank, -1, Xpc, Xcy, B, bn, bc, bs, sb, Xcyc⟩) ⟨setN_far HQ.out.blk (Ne.symm hbr) [.slice XA Xn Xc, .slice XR Xrn Xrc, .int .i64 Xbank, .int .i64 (-1), .int .i64 (Xpc), .bool Xcy, .slice (B) (bn) (bc), .bool (sb), .int .i64 (Xcyc)] 0, HQ.out.mem.trans (Keep.setN [.slice XA Xn Xc, .slice XR Xrn Xrc, .int .i64 Xbank, .int .i64 (-1), .int .i64 (Xpc), .bool Xcy, .slice (B) (bn) (bc), .bool (sb), .int .i64 (Xcyc)] 0 _ _ hr0.out), own_same HQ.out.back fun q hq => setN_heap (by have := (HQ.out.back.lt q hq).1; omega) [.slice XA Xn Xc, .slice XR Xrn Xrc, .int .i64 Xbank, .int .i64 (-1), .int .i64 (Xpc), .bool Xcy, .slice (B) (bn) (bc), .bool (sb), .int .i64 (Xcyc)] 0 _⟩ HS.out hg1 (by show (bn : Nat) ≤ 1000; omega)
          exact hfin
        · replace HQ := Lib.hid (HQ.out.field (x' := ⟨XA, Xn, Xc, Xrs, XR, Xrn, Xrc, Xrows, Xbank, 256, Xpc, Xcy, B, bn, bc, bs, sb, Xcyc⟩) 3 (.int .i64 256) rfl rfl)
          replace HR := Lib.hid (HR.out.far (p := ⟨bx, 3, none⟩) hbr (.int .i64 256))
          replace HD := Lib.hid (HD.out.set ⟨bx, 3, none⟩ (.int .i64 256) hbw)
          have x0 := HQ.out.blk.cell 0
          have x1 := HQ.out.blk.cell 1
          have x2 := HQ.out.blk.cell 2
          have x3 := HQ.out.blk.cell 3
          have x4 := HQ.out.blk.cell 4
          have x5 := HQ.out.blk.cell 5
          have x6 := HQ.out.blk.cell 6
          have x7 := HQ.out.blk.cell 7
          have x8 := HQ.out.blk.cell 8
          have y3 := HQ.out.blk.frozen 3
          have y4 := HQ.out.blk.frozen 4
          have y6 := HQ.out.blk.frozen 6
          have y7 := HQ.out.blk.frozen 7
          have y8 := HQ.out.blk.frozen 8
          have hql := HQ.out.blk.lt
          simp only [Mch.cs, List.getElem?_toArray, List.getElem?_cons_succ, List.getElem?_cons_zero] at x0 x1 x2 x3 x4 x5 x6 x7 x8
          have hr0 := HR.out
          unfold zeroM at hr0
          have v0 := hr0.cell 0
          have v1 := hr0.cell 1
          have v2 := hr0.cell 2
          have v3 := hr0.cell 3
          have v4 := hr0.cell 4
          have v5 := hr0.cell 5
          have v6 := hr0.cell 6
          have v7 := hr0.cell 7
          have v8 := hr0.cell 8
          have t0 := hr0.frozen 0
          have t1 := hr0.frozen 1
          have t2 := hr0.frozen 2
          have t3 := hr0.frozen 3
          have t4 := hr0.frozen 4
          have t5 := hr0.frozen 5
          have t6 := hr0.frozen 6
          have t7 := hr0.frozen 7
          have t8 := hr0.frozen 8
          have hrl := hr0.lt
          replace hr0 := Lib.hid hr0
          go_wp2_with fail
          have hbk := setN_blk [.slice XA Xn Xc, .slice XR Xrn Xrc, .int .i64 Xbank, .int .i64 (256), .int .i64 (Xpc), .bool Xcy, .slice (B) (bn) (bc), .bool (sb), .int .i64 (Xcyc)] 0 _ _ hr0.out
          simp only [setA, List.setIfInBounds_toArray, List.set_cons_zero, List.set_cons_succ, Nat.zero_add, Nat.reduceAdd] at hbk
          refine bodyPost_ret (results_cell_row Try.results46 _ _ w.heap.size 28 #[.slice XA Xn Xc, .slice XR Xrn Xrc, .int .i64 Xbank, .int .i64 (256), .int .i64 (Xpc), .bool Xcy, .slice (B) (bn) (bc), .bool (sb), .int .i64 (Xcyc)] (0, 0) _ rfl hbk Try.underlying28 rfl rfl) rfl ?_
          refine draws_of (Drs.setN (Nat.le_refl _) [.slice XA Xn Xc, .slice XR Xrn Xrc, .int .i64 Xbank, .int .i64 (256), .int .i64 (Xpc), .bool Xcy, .slice (B) (bn) (bc), .bool (sb), .int .i64 (Xcyc)] 0 _ HD.out) (by omega) ?_
          have hfin := MQ.out (x := ⟨XA, Xn, Xc, Xrs, XR, Xrn, Xrc, Xrows, Xbank, 256, Xpc, Xcy, B, bn, bc, bs, sb, Xcyc⟩) ⟨setN_far HQ.out.blk (Ne.symm hbr) [.slice XA Xn Xc, .slice XR Xrn Xrc, .int .i64 Xbank, .int .i64 (256), .int .i64 (Xpc), .bool Xcy, .slice (B) (bn) (bc), .bool (sb), .int .i64 (Xcyc)] 0, HQ.out.mem.trans (Keep.setN [.slice XA Xn Xc, .slice XR Xrn Xrc, .int .i64 Xbank, .int .i64 (256), .int .i64 (Xpc), .bool Xcy, .slice (B) (bn) (bc), .bool (sb), .int .i64 (Xcyc)] 0 _ _ hr0.out), own_same HQ.out.back fun q hq => setN_heap (by have := (HQ.out.back.lt q hq).1; omega) [.slice XA Xn Xc, .slice XR Xrn Xrc, .int .i64 Xbank, .int .i64 (256), .int .i64 (Xpc), .bool Xcy, .slice (B) (bn) (bc), .bool (sb), .int .i64 (Xcyc)] 0 _⟩ HS.out hg1 (by show (bn : Nat) ≤ 1000; omega)
          exact hfin
      by_cases a1 : zz = 1
      · subst a1
        clear z0' z1' a0
        go_wp2_with fail
        have hsz := HD.out.size.2
        replace HR := Lib.hid (HR.out.alloc (.cells #[.int .i64 (-1), .int .i64 (1024)] 3))
        replace HQ := Lib.hid (HQ.out.below ((Below.refl _ _).alloc (Nat.le_refl _) (.cells #[.int .i64 (-1), .int .i64 (1024)] 3)))
        replace HD := Lib.hid (HD.out.alloc (.cells #[.int .i64 (-1), .int .i64 (1024)] 3))
        go_wp2_with fail
        refine (pick_d HD.out 2 (by omega) (by omega) (by omega)).mono ?_
        rintro e W' ⟨v, rfl, ⟨y, rfl, u0, u1⟩, hD, hgr⟩
        replace HD := Lib.hid hD
        clear hD
        have l0 := grown_cell hgr (by simp) (by intro e; injection e with e; omega) (cell_new _ _ _ 0)
        have l1 := grown_cell hgr (by simp) (by intro e; injection e with e; omega) (cell_new _ _ _ 1)
        replace HR := Lib.hid (HR.out.rd hgr (by omega))
        replace HQ := Lib.hid (HQ.out.rd hgr hbg (by omega))
        clear hgr
        have x0 := HQ.out.blk.cell 0
        have x1 := HQ.out.blk.cell 1
        have x2 := HQ.out.blk.cell 2
        have x3 := HQ.out.blk.cell 3
        have x4 := HQ.out.blk.cell 4
        have x5 := HQ.out.blk.cell 5
        have x6 := HQ.out.blk.cell 6
        have x7 := HQ.out.blk.cell 7
        have x8 := HQ.out.blk.cell 8
        have y3 := HQ.out.blk.frozen 3
        have y4 := HQ.out.blk.frozen 4
        have y6 := HQ.out.blk.frozen 6
        have y7 := HQ.out.blk.frozen 7
        have y8 := HQ.out.blk.frozen 8
        have hql := HQ.out.blk.lt
        simp only [Mch.cs, List.getElem?_toArray, List.getElem?_cons_succ, List.getElem?_cons_zero] at x0 x1 x2 x3 x4 x5 x6 x7 x8
        obtain rfl | rfl : y = 0 ∨ y = 1 := by omega
        · replace HQ := Lib.hid (HQ.out.field (x' := ⟨XA, Xn, Xc, Xrs, XR, Xrn, Xrc, Xrows, Xbank, Xa, -1, Xcy, B, bn, bc, bs, sb, Xcyc⟩) 4 (.int .i64 (-1)) rfl rfl)
          replace HR := Lib.hid (HR.out.far (p := ⟨bx, 4, none⟩) hbr (.int .i64 (-1)))
          replace HD := Lib.hid (HD.out.set ⟨bx, 4, none⟩ (.int .i64 (-1)) hbw)
          have x0 := HQ.out.blk.cell 0
          have x1 := HQ.out.blk.cell 1
          have x2 := HQ.out.blk.cell 2
          have x3 := HQ.out.blk.cell 3
          have x4 := HQ.out.blk.cell 4
          have x5 := HQ.out.blk.cell 5
          have x6 := HQ.out.blk.cell 6
          have x7 := HQ.out.blk.cell 7
          have x8 := HQ.out.blk.cell 8
          have y3 := HQ.out.blk.frozen 3
          have y4 := HQ.out.blk.frozen 4
          have y6 := HQ.out.blk.frozen 6
          have y7 := HQ.out.blk.frozen 7
          have y8 := HQ.out.blk.frozen 8
          have hql := HQ.out.blk.lt
          simp only [Mch.cs, List.getElem?_toArray, List.getElem?_cons_succ, List.getElem?_cons_zero] at x0 x1 x2 x3 x4 x5 x6 x7 x8
          have hr0 := HR.out
          unfold zeroM at hr0
          have v0 := hr0.cell 0
          have v1 := hr0.cell 1
          have v2 := hr0.cell 2
          have v3 := hr0.cell 3
          have v4 := hr0.cell 4
          have v5 := hr0.cell 5
          have v6 := hr0.cell 6
          have v7 := hr0.cell 7
          have v8 := hr0.cell 8
          have t0 := hr0.frozen 0
          have t1 := hr0.frozen 1
          have t2 := hr0.frozen 2
          have t3 := hr0.frozen 3
          have t4 := hr0.frozen 4
          have t5 := hr0.frozen 5
          have t6 := hr0.frozen 6
          have t7 := hr0.frozen 7
          have t8 := hr0.frozen 8
          have hrl := hr0.lt
          replace hr0 := Lib.hid hr0
          go_wp2_with fail
          have hbk := setN_blk [.slice XA Xn Xc, .slice XR Xrn Xrc, .int .i64 Xbank, .int .i64 (Xa), .int .i64 (-1), .bool Xcy, .slice (B) (bn) (bc), .bool (sb), .int .i64 (Xcyc)] 0 _ _ hr0.out
          simp only [setA, List.setIfInBounds_toArray, List.set_cons_zero, List.set_cons_succ, Nat.zero_add, Nat.reduceAdd] at hbk
          refine bodyPost_ret (results_cell_row Try.results46 _ _ w.heap.size 28 #[.slice XA Xn Xc, .slice XR Xrn Xrc, .int .i64 Xbank, .int .i64 (Xa), .int .i64 (-1), .bool Xcy, .slice (B) (bn) (bc), .bool (sb), .int .i64 (Xcyc)] (0, 0) _ rfl hbk Try.underlying28 rfl rfl) rfl ?_
          refine draws_of (Drs.setN (Nat.le_refl _) [.slice XA Xn Xc, .slice XR Xrn Xrc, .int .i64 Xbank, .int .i64 (Xa), .int .i64 (-1), .bool Xcy, .slice (B) (bn) (bc), .bool (sb), .int .i64 (Xcyc)] 0 _ HD.out) (by omega) ?_
          have hfin := MQ.out (x := ⟨XA, Xn, Xc, Xrs, XR, Xrn, Xrc, Xrows, Xbank, Xa, -1, Xcy, B, bn, bc, bs, sb, Xcyc⟩) ⟨setN_far HQ.out.blk (Ne.symm hbr) [.slice XA Xn Xc, .slice XR Xrn Xrc, .int .i64 Xbank, .int .i64 (Xa), .int .i64 (-1), .bool Xcy, .slice (B) (bn) (bc), .bool (sb), .int .i64 (Xcyc)] 0, HQ.out.mem.trans (Keep.setN [.slice XA Xn Xc, .slice XR Xrn Xrc, .int .i64 Xbank, .int .i64 (Xa), .int .i64 (-1), .bool Xcy, .slice (B) (bn) (bc), .bool (sb), .int .i64 (Xcyc)] 0 _ _ hr0.out), own_same HQ.out.back fun q hq => setN_heap (by have := (HQ.out.back.lt q hq).1; omega) [.slice XA Xn Xc, .slice XR Xrn Xrc, .int .i64 Xbank, .int .i64 (Xa), .int .i64 (-1), .bool Xcy, .slice (B) (bn) (bc), .bool (sb), .int .i64 (Xcyc)] 0 _⟩ HS.out hg1 (by show (bn : Nat) ≤ 1000; omega)
          exact hfin
        · replace HQ := Lib.hid (HQ.out.field (x' := ⟨XA, Xn, Xc, Xrs, XR, Xrn, Xrc, Xrows, Xbank, Xa, 1024, Xcy, B, bn, bc, bs, sb, Xcyc⟩) 4 (.int .i64 1024) rfl rfl)
          replace HR := Lib.hid (HR.out.far (p := ⟨bx, 4, none⟩) hbr (.int .i64 1024))
          replace HD := Lib.hid (HD.out.set ⟨bx, 4, none⟩ (.int .i64 1024) hbw)
          have x0 := HQ.out.blk.cell 0
          have x1 := HQ.out.blk.cell 1
          have x2 := HQ.out.blk.cell 2
          have x3 := HQ.out.blk.cell 3
          have x4 := HQ.out.blk.cell 4
          have x5 := HQ.out.blk.cell 5
          have x6 := HQ.out.blk.cell 6
          have x7 := HQ.out.blk.cell 7
          have x8 := HQ.out.blk.cell 8
          have y3 := HQ.out.blk.frozen 3
          have y4 := HQ.out.blk.frozen 4
          have y6 := HQ.out.blk.frozen 6
          have y7 := HQ.out.blk.frozen 7
          have y8 := HQ.out.blk.frozen 8
          have hql := HQ.out.blk.lt
          simp only [Mch.cs, List.getElem?_toArray, List.getElem?_cons_succ, List.getElem?_cons_zero] at x0 x1 x2 x3 x4 x5 x6 x7 x8
          have hr0 := HR.out
          unfold zeroM at hr0
          have v0 := hr0.cell 0
          have v1 := hr0.cell 1
          have v2 := hr0.cell 2
          have v3 := hr0.cell 3
          have v4 := hr0.cell 4
          have v5 := hr0.cell 5
          have v6 := hr0.cell 6
          have v7 := hr0.cell 7
          have v8 := hr0.cell 8
          have t0 := hr0.frozen 0
          have t1 := hr0.frozen 1
          have t2 := hr0.frozen 2
          have t3 := hr0.frozen 3
          have t4 := hr0.frozen 4
          have t5 := hr0.frozen 5
          have t6 := hr0.frozen 6
          have t7 := hr0.frozen 7
          have t8 := hr0.frozen 8
          have hrl := hr0.lt
          replace hr0 := Lib.hid hr0
          go_wp2_with fail
          have hbk := setN_blk [.slice XA Xn Xc, .slice XR Xrn Xrc, .int .i64 Xbank, .int .i64 (Xa), .int .i64 (1024), .bool Xcy, .slice (B) (bn) (bc), .bool (sb), .int .i64 (Xcyc)] 0 _ _ hr0.out
          simp only [setA, List.setIfInBounds_toArray, List.set_cons_zero, List.set_cons_succ, Nat.zero_add, Nat.reduceAdd] at hbk
          refine bodyPost_ret (results_cell_row Try.results46 _ _ w.heap.size 28 #[.slice XA Xn Xc, .slice XR Xrn Xrc, .int .i64 Xbank, .int .i64 (Xa), .int .i64 (1024), .bool Xcy, .slice (B) (bn) (bc), .bool (sb), .int .i64 (Xcyc)] (0, 0) _ rfl hbk Try.underlying28 rfl rfl) rfl ?_
          refine draws_of (Drs.setN (Nat.le_refl _) [.slice XA Xn Xc, .slice XR Xrn Xrc, .int .i64 Xbank, .int .i64 (Xa), .int .i64 (1024), .bool Xcy, .slice (B) (bn) (bc), .bool (sb), .int .i64 (Xcyc)] 0 _ HD.out) (by omega) ?_
          have hfin := MQ.out (x := ⟨XA, Xn, Xc, Xrs, XR, Xrn, Xrc, Xrows, Xbank, Xa, 1024, Xcy, B, bn, bc, bs, sb, Xcyc⟩) ⟨setN_far HQ.out.blk (Ne.symm hbr) [.slice XA Xn Xc, .slice XR Xrn Xrc, .int .i64 Xbank, .int .i64 (Xa), .int .i64 (1024), .bool Xcy, .slice (B) (bn) (bc), .bool (sb), .int .i64 (Xcyc)] 0, HQ.out.mem.trans (Keep.setN [.slice XA Xn Xc, .slice XR Xrn Xrc, .int .i64 Xbank, .int .i64 (Xa), .int .i64 (1024), .bool Xcy, .slice (B) (bn) (bc), .bool (sb), .int .i64 (Xcyc)] 0 _ _ hr0.out), own_same HQ.out.back fun q hq => setN_heap (by have := (HQ.out.back.lt q hq).1; omega) [.slice XA Xn Xc, .slice XR Xrn Xrc, .int .i64 Xbank, .int .i64 (Xa), .int .i64 (1024), .bool Xcy, .slice (B) (bn) (bc), .bool (sb), .int .i64 (Xcyc)] 0 _⟩ HS.out hg1 (by show (bn : Nat) ≤ 1000; omega)
          exact hfin
      by_cases a2 : zz = 2
      · subst a2
        clear z0' z1' a0 a1
        go_upto_region 16 with (at_make; refine make_full _ rfl _ _ rfl 9 rfl rfl (by omega) w1.heap.size HQ.out.mem.size ?_; intro w8 o8 b8; have hQ8 := Lib.hid (HQ.out.newBack (HQ.out.mem.trans (Keep.of_below b8)) (HQ.out.blk.below b8 HQ.out.blk.lt) o8); have c6 : w8.cell? ⟨bx, 6, none⟩ = some (.slice B bn bc) := (HQ.out.blk.below b8 HQ.out.blk.lt).cell 6; have d6 := (HQ.out.blk.below b8 HQ.out.blk.lt).frozen 6; have hR8 := Lib.hid (HR.out.below b8 HR.out.lt); have hD8 := Lib.hid (HD.out.below b8); clear o8 b8)
        replace HQ := hQ8
        replace HR := Lib.hid (hR8.out.far (p := ⟨bx, 6, none⟩) hbr (.slice (some ⟨W'.heap.size, 0, none⟩) 9 9))
        replace HD := Lib.hid (hD8.out.set ⟨bx, 6, none⟩ (.slice (some ⟨W'.heap.size, 0, none⟩) 9 9) hbw)
        clear hQ8 hR8 hD8 c6 d6
        have x0 := HQ.out.blk.cell 0
        have x1 := HQ.out.blk.cell 1
        have x2 := HQ.out.blk.cell 2
        have x3 := HQ.out.blk.cell 3
        have x4 := HQ.out.blk.cell 4
        have x5 := HQ.out.blk.cell 5
        have x6 := HQ.out.blk.cell 6
        have x7 := HQ.out.blk.cell 7
        have x8 := HQ.out.blk.cell 8
        have y3 := HQ.out.blk.frozen 3
        have y4 := HQ.out.blk.frozen 4
        have y6 := HQ.out.blk.frozen 6
        have y7 := HQ.out.blk.frozen 7
        have y8 := HQ.out.blk.frozen 8
        have hql := HQ.out.blk.lt
        simp only [Mch.cs, List.getElem?_toArray, List.getElem?_cons_succ, List.getElem?_cons_zero] at x0 x1 x2 x3 x4 x5 x6 x7 x8
        have hr0 := HR.out
        unfold zeroM at hr0
        have v0 := hr0.cell 0
        have v1 := hr0.cell 1
        have v2 := hr0.cell 2
        have v3 := hr0.cell 3
        have v4 := hr0.cell 4
        have v5 := hr0.cell 5
        have v6 := hr0.cell 6
        have v7 := hr0.cell 7
        have v8 := hr0.cell 8
        have t0 := hr0.frozen 0
        have t1 := hr0.frozen 1
        have t2 := hr0.frozen 2
        have t3 := hr0.frozen 3
        have t4 := hr0.frozen 4
        have t5 := hr0.frozen 5
        have t6 := hr0.frozen 6
        have t7 := hr0.frozen 7
        have t8 := hr0.frozen 8
        have hrl := hr0.lt
        replace hr0 := Lib.hid hr0
        go_wp2_with fail
        have hbk := setN_blk [.slice XA Xn Xc, .slice XR Xrn Xrc, .int .i64 Xbank, .int .i64 (Xa), .int .i64 (Xpc), .bool Xcy, .slice (some ⟨W'.heap.size, 0, none⟩) (9) (9), .bool (sb), .int .i64 (Xcyc)] 0 _ _ hr0.out
        simp only [setA, List.setIfInBounds_toArray, List.set_cons_zero, List.set_cons_succ, Nat.zero_add, Nat.reduceAdd] at hbk
        refine bodyPost_ret (results_cell_row Try.results46 _ _ w.heap.size 28 #[.slice XA Xn Xc, .slice XR Xrn Xrc, .int .i64 Xbank, .int .i64 (Xa), .int .i64 (Xpc), .bool Xcy, .slice (some ⟨W'.heap.size, 0, none⟩) (9) (9), .bool (sb), .int .i64 (Xcyc)] (0, 0) _ rfl hbk Try.underlying28 rfl rfl) rfl ?_
        refine draws_of (Drs.setN (Nat.le_refl _) [.slice XA Xn Xc, .slice XR Xrn Xrc, .int .i64 Xbank, .int .i64 (Xa), .int .i64 (Xpc), .bool Xcy, .slice (some ⟨W'.heap.size, 0, none⟩) (9) (9), .bool (sb), .int .i64 (Xcyc)] 0 _ HD.out) (by omega) ?_
        have hfin := MQ.out (x := ⟨XA, Xn, Xc, Xrs, XR, Xrn, Xrc, Xrows, Xbank, Xa, Xpc, Xcy, some ⟨W'.heap.size, 0, none⟩, 9, 9, List.replicate 9 0, sb, Xcyc⟩) ⟨setN_far HQ.out.blk (Ne.symm hbr) [.slice XA Xn Xc, .slice XR Xrn Xrc, .int .i64 Xbank, .int .i64 (Xa), .int .i64 (Xpc), .bool Xcy, .slice (some ⟨W'.heap.size, 0, none⟩) (9) (9), .bool (sb), .int .i64 (Xcyc)] 0, HQ.out.mem.trans (Keep.setN [.slice XA Xn Xc, .slice XR Xrn Xrc, .int .i64 Xbank, .int .i64 (Xa), .int .i64 (Xpc), .bool Xcy, .slice (some ⟨W'.heap.size, 0, none⟩) (9) (9), .bool (sb), .int .i64 (Xcyc)] 0 _ _ hr0.out), own_same HQ.out.back fun q hq => setN_heap (by have := (HQ.out.back.lt q hq).1; omega) [.slice XA Xn Xc, .slice XR Xrn Xrc, .int .i64 Xbank, .int .i64 (Xa), .int .i64 (Xpc), .bool Xcy, .slice (some ⟨W'.heap.size, 0, none⟩) (9) (9), .bool (sb), .int .i64 (Xcyc)] 0 _⟩ HS.out hg1 (by show (9 : Nat) ≤ 1000; omega)
        exact hfin
      have e0 : (zz == 0) = false := by simp; omega
      have e1 : (zz == 1) = false := by simp; omega
      have e2 : (zz == 2) = false := by simp; omega
      have x0 := HQ.out.blk.cell 0
      have x1 := HQ.out.blk.cell 1
      have x2 := HQ.out.blk.cell 2
      have x3 := HQ.out.blk.cell 3
      have x4 := HQ.out.blk.cell 4
      have x5 := HQ.out.blk.cell 5
      have x6 := HQ.out.blk.cell 6
      have x7 := HQ.out.blk.cell 7
      have x8 := HQ.out.blk.cell 8
      have y3 := HQ.out.blk.frozen 3
      have y4 := HQ.out.blk.frozen 4
      have y6 := HQ.out.blk.frozen 6
      have y7 := HQ.out.blk.frozen 7
      have y8 := HQ.out.blk.frozen 8
      have hql := HQ.out.blk.lt
      simp only [Mch.cs, List.getElem?_toArray, List.getElem?_cons_succ, List.getElem?_cons_zero] at x0 x1 x2 x3 x4 x5 x6 x7 x8
      replace HQ := Lib.hid (HQ.out.field (x' := ⟨XA, Xn, Xc, Xrs, XR, Xrn, Xrc, Xrows, Xbank, Xa, Xpc, Xcy, B, bn, bc, bs, sb, -1⟩) 8 (.int .i64 (-1)) rfl rfl)
      replace HR := Lib.hid (HR.out.far (p := ⟨bx, 8, none⟩) hbr (.int .i64 (-1)))
      replace HD := Lib.hid (HD.out.set ⟨bx, 8, none⟩ (.int .i64 (-1)) hbw)
      have x0 := HQ.out.blk.cell 0
      have x1 := HQ.out.blk.cell 1
      have x2 := HQ.out.blk.cell 2
      have x3 := HQ.out.blk.cell 3
      have x4 := HQ.out.blk.cell 4
      have x5 := HQ.out.blk.cell 5
      have x6 := HQ.out.blk.cell 6
      have x7 := HQ.out.blk.cell 7
      have x8 := HQ.out.blk.cell 8
      have y3 := HQ.out.blk.frozen 3
      have y4 := HQ.out.blk.frozen 4
      have y6 := HQ.out.blk.frozen 6
      have y7 := HQ.out.blk.frozen 7
      have y8 := HQ.out.blk.frozen 8
      have hql := HQ.out.blk.lt
      simp only [Mch.cs, List.getElem?_toArray, List.getElem?_cons_succ, List.getElem?_cons_zero] at x0 x1 x2 x3 x4 x5 x6 x7 x8
      have hr0 := HR.out
      unfold zeroM at hr0
      have v0 := hr0.cell 0
      have v1 := hr0.cell 1
      have v2 := hr0.cell 2
      have v3 := hr0.cell 3
      have v4 := hr0.cell 4
      have v5 := hr0.cell 5
      have v6 := hr0.cell 6
      have v7 := hr0.cell 7
      have v8 := hr0.cell 8
      have t0 := hr0.frozen 0
      have t1 := hr0.frozen 1
      have t2 := hr0.frozen 2
      have t3 := hr0.frozen 3
      have t4 := hr0.frozen 4
      have t5 := hr0.frozen 5
      have t6 := hr0.frozen 6
      have t7 := hr0.frozen 7
      have t8 := hr0.frozen 8
      have hrl := hr0.lt
      replace hr0 := Lib.hid hr0
      go_wp2_with fail
      have hbk := setN_blk [.slice XA Xn Xc, .slice XR Xrn Xrc, .int .i64 Xbank, .int .i64 (Xa), .int .i64 (Xpc), .bool Xcy, .slice (B) (bn) (bc), .bool (sb), .int .i64 (-1)] 0 _ _ hr0.out
      simp only [setA, List.setIfInBounds_toArray, List.set_cons_zero, List.set_cons_succ, Nat.zero_add, Nat.reduceAdd] at hbk
      refine bodyPost_ret (results_cell_row Try.results46 _ _ w.heap.size 28 #[.slice XA Xn Xc, .slice XR Xrn Xrc, .int .i64 Xbank, .int .i64 (Xa), .int .i64 (Xpc), .bool Xcy, .slice (B) (bn) (bc), .bool (sb), .int .i64 (-1)] (0, 0) _ rfl hbk Try.underlying28 rfl rfl) rfl ?_
      refine draws_of (Drs.setN (Nat.le_refl _) [.slice XA Xn Xc, .slice XR Xrn Xrc, .int .i64 Xbank, .int .i64 (Xa), .int .i64 (Xpc), .bool Xcy, .slice (B) (bn) (bc), .bool (sb), .int .i64 (-1)] 0 _ HD.out) (by omega) ?_
      have hfin := MQ.out (x := ⟨XA, Xn, Xc, Xrs, XR, Xrn, Xrc, Xrows, Xbank, Xa, Xpc, Xcy, B, bn, bc, bs, sb, -1⟩) ⟨setN_far HQ.out.blk (Ne.symm hbr) [.slice XA Xn Xc, .slice XR Xrn Xrc, .int .i64 Xbank, .int .i64 (Xa), .int .i64 (Xpc), .bool Xcy, .slice (B) (bn) (bc), .bool (sb), .int .i64 (-1)] 0, HQ.out.mem.trans (Keep.setN [.slice XA Xn Xc, .slice XR Xrn Xrc, .int .i64 Xbank, .int .i64 (Xa), .int .i64 (Xpc), .bool Xcy, .slice (B) (bn) (bc), .bool (sb), .int .i64 (-1)] 0 _ _ hr0.out), own_same HQ.out.back fun q hq => setN_heap (by have := (HQ.out.back.lt q hq).1; omega) [.slice XA Xn Xc, .slice XR Xrn Xrc, .int .i64 Xbank, .int .i64 (Xa), .int .i64 (Xpc), .bool Xcy, .slice (B) (bn) (bc), .bool (sb), .int .i64 (-1)] 0 _⟩ HS.out hg1 (by show (bn : Nat) ≤ 1000; omega)
      exact hfin
theorem l20Machine_d {w W : World} {g len cap p0 q : Nat} {A : Option Addr} (h : Drs w W g A len cap p0 q) (n : Int) (hq : q ≤ 400000000) (h0 : 0 ≤ n) (h1 : n ≤ 1000000000) :
    Calls Try.prog 46 #[.pointer (some ⟨g, 0, none⟩), .int .i64 n] W (Dr w W g A len cap p0 (q + 40000) (MachV g)) :=
  dr_of h 400000000 hq fun p hp hR => l20Machine_any g A len cap p n W hR hp h0 h1
end Go.Proofs.Ytgedfcccflobmaa
