/-
  Drawing regions that store a machine into a second block; a machine and a number, drawn. No condition.
-/
import Derived.Test.YtgedfcccflobmaaDrz
import Derived.Test.YtgedfcccflobmaaTypedG
namespace Go.Proofs.Ytgedfcccflobmaa
open Go.RowKit
set_option linter.unusedVariables false
set_option linter.unusedSimpArgs false
theorem ne_someK {a b : Nat} (h : a ≠ b) : some a ≠ some b := by intro e; injection e with e; exact h e
def HasK (w : World) (b : Nat) (x : Mch) : Prop := Blk w b 28 x.cs
def setK (w : World) (b : Nat) (x : Mch) : World := setN w b 0 [.slice x.A x.n x.c, .slice x.R x.rn x.rc, .int .i64 x.bank, .int .i64 x.a, .int .i64 x.pc, .bool x.cy, .slice x.B x.bn x.bc, .bool x.st, .int .i64 x.cyc]
theorem HasK.lt {w : World} {b : Nat} {x : Mch} (h : HasK w b x) : b < w.heap.size := Blk.lt h
theorem HasK.alloc {w : World} {b : Nat} {x : Mch} (h : HasK w b x) (o : Obj) : HasK (w.alloc o) b x := Blk.alloc h o
theorem HasK.kept {w w' : World} {b : Nat} {x : Mch} {row : Option Nat} (h : HasK w b x) (hg : w.grownBy w' row) (hne : row ≠ some b) : HasK w' b x := Blk.grown h hg (Ne.symm hne)
theorem HasK.set {w : World} {b : Nat} {z : Mch} (h : HasK w b z) (x : Mch) : HasK (setK w b x) b x ∧ w.grownBy (setK w b x) (some b) := by
  have hb := setN_below (B := 0) (Nat.zero_le b) [.slice x.A x.n x.c, .slice x.R x.rn x.rc, .int .i64 x.bank, .int .i64 x.a, .int .i64 x.pc, .bool x.cy, .slice x.B x.bn x.bc, .bool x.st, .int .i64 x.cyc] 0 w w (Below.refl 0 w)
  refine ⟨?_, hb.os, hb.tape, hb.output, hb.size, fun k _ hk => setN_heap (fun e => hk (by rw [e])) _ 0 w⟩
  have q := setN_blk [.slice x.A x.n x.c, .slice x.R x.rn x.rc, .int .i64 x.bank, .int .i64 x.a, .int .i64 x.pc, .bool x.cy, .slice x.B x.bn x.bc, .bool x.st, .int .i64 x.cyc] 0 w _ h
  simp only [setA, Mch.cs, List.setIfInBounds_toArray, List.set_cons_zero, List.set_cons_succ, Nat.zero_add, Nat.reduceAdd] at q
  exact q
/-- Two blocks may change; the second, once it holds u, holds u. -/
def K2 (g r : Nat) (u : Mch) (w w' : World) : Prop :=
  (w'.os = w.os ∧ w'.tape = w.tape ∧ w'.output = w.output) ∧ w.heap.size ≤ w'.heap.size ∧ (∀ k, k < w.heap.size → k ≠ g → k ≠ r → w'.heap[k]? = w.heap[k]?) ∧ (HasK w r u → HasK w' r u)
theorem K2.refl (g r : Nat) (u : Mch) (w : World) : K2 g r u w w := ⟨⟨rfl, rfl, rfl⟩, Nat.le_refl _, fun _ _ _ _ => rfl, fun h => h⟩
theorem K2.trans {g r : Nat} {u : Mch} {w w' w'' : World} (h : K2 g r u w w') (h' : K2 g r u w' w'') : K2 g r u w w'' :=
  ⟨⟨h'.1.1.trans h.1.1, h'.1.2.1.trans h.1.2.1, h'.1.2.2.trans h.1.2.2⟩, Nat.le_trans h.2.1 h'.2.1, fun k hk h1 h2 => (h'.2.2.1 k (Nat.lt_of_lt_of_le hk h.2.1) h1 h2).trans (h.2.2.1 k hk h1 h2), fun hv => h'.2.2.2 (h.2.2.2 hv)⟩
theorem K2.of {g r : Nat} {u : Mch} {w w' : World} (h : w.grownBy w' (some g)) (hgr : g ≠ r) : K2 g r u w w' :=
  ⟨⟨h.os, h.tape, h.output⟩, h.size, fun k hk h1 _ => h.block k hk (ne_someK h1), fun hv => hv.kept h (ne_someK hgr)⟩
theorem K2.store {g r : Nat} {u z : Mch} {w : World} (h : HasK w r z) : K2 g r u w (setK w r u) := by
  obtain ⟨h1, h2⟩ := h.set u
  exact ⟨⟨h2.os, h2.tape, h2.output⟩, h2.size, fun k hk _ hr => h2.block k hk (ne_someK hr), fun _ => h1⟩
theorem K2.cell {g r b o : Nat} {u : Mch} {w w' : World} {v : Value} (h : K2 g r u w w') (hb : b < w.heap.size) (h1 : b ≠ g) (h2 : b ≠ r) (hc : w.cell? ⟨b, o, none⟩ = some v) : w'.cell? ⟨b, o, none⟩ = some v :=
  (World.cell?_of_block (h.2.2.1 b hb h1 h2)).trans hc
theorem K2.keep {g r : Nat} {u z : Mch} {w w' : World} (h : K2 g r u w w') (hz : HasK w r z) : Keep g w w' :=
  ⟨h.2.1, fun k hk hg hm => h.2.2.1 k hk hg fun e => hm z.cs (by rw [e]; exact hz)⟩
theorem HasK.keptG {g r b : Nat} {u v : Mch} {w w' : World} (h : HasK w b v) (hG : K2 g r u w w') (hne : b ≠ g ∧ b ≠ r) : HasK w' b v := (hG.2.2.1 b h.lt hne.1 hne.2).trans h
theorem Rd.storeK {w w' : World} {g r len cap p : Nat} {A : Option Addr} (h : Rd w g A len cap p) (hg : w.grownBy w' (some r)) (hgr : g ≠ r) (hcr : ∀ b off, 0 < len → A = some ⟨b, off, none⟩ → b ≠ r) : Rd w' g A len cap p := by
  refine ⟨h.1.grown hg (ne_someK hgr), fun hl => ?_, h.2.2⟩
  obtain ⟨b, off, e, hne, hb, hc⟩ := h.2.1 hl
  refine ⟨b, off, e, hne, Nat.lt_of_lt_of_le hb hg.size, fun k hk => ?_⟩
  obtain ⟨x, hx, h0⟩ := hc k hk
  exact ⟨x, (World.cell?_of_block (hg.block b hb (ne_someK (hcr b off hl e)))).trans hx, h0⟩
theorem code_farK {w : World} {A : Option Addr} {n c len r : Nat} {zs : List Int} (h : IsRow .u8 w A n c zs) (hl : len ≤ n) (hr : w.heap.size ≤ r) : ∀ b off, 0 < len → A = some ⟨b, off, none⟩ → b ≠ r := by
  intro b off h0 e
  rcases h with ⟨_, h1, _⟩ | ⟨x, rfl, h1, h2, h3, hc, hw⟩
  · omega
  · injection e with e
    subst e
    have := lt_of_cell (hc 0 (by omega))
    rw [block_of_add] at this
    simp only at this
    omega
def ArrK (g r n : Nat) (lo hi : Int) (w : World) (v : Value) : Prop :=
  ∃ b, v = .slice (some ⟨b, 0, none⟩) n n ∧ (b ≠ g ∧ b ≠ r) ∧ b < w.heap.size ∧ ∀ k, k < n → ∃ x : Int, w.cell? ⟨b, k, none⟩ = some (.int .i64 x) ∧ lo ≤ x ∧ x ≤ hi
def ElK (g r : Nat) (lo hi : Int) (w : World) (v : Value) : Prop := ∃ b j, v = .pointer (some ⟨b, j, none⟩) ∧ (b ≠ g ∧ b ≠ r) ∧ b < w.heap.size ∧ ∃ x : Int, w.cell? ⟨b, j, none⟩ = some (.int .i64 x) ∧ lo ≤ x ∧ x ≤ hi
theorem stK_arr (g r n : Nat) (u : Mch) (lo hi : Int) : StableG (K2 g r u) (ArrK g r n lo hi) := by
  rintro w w' v hg ⟨b, rfl, hne, hb, hc⟩
  refine ⟨b, rfl, hne, Nat.lt_of_lt_of_le hb hg.2.1, fun k hk => ?_⟩
  obtain ⟨x, hx, h0⟩ := hc k hk
  exact ⟨x, hg.cell hb hne.1 hne.2 hx, h0⟩
theorem stK_el (g r : Nat) (u : Mch) (lo hi : Int) : StableG (K2 g r u) (ElK g r lo hi) := by
  rintro w w' v hg ⟨b, j, rfl, hne, hb, x, hx, h0⟩
  exact ⟨b, j, rfl, hne, Nat.lt_of_lt_of_le hb hg.2.1, x, hg.cell hb hne.1 hne.2 hx, h0⟩
section
variable {o : Oper} {a : Act} {w : World} {K : Act → World → Prop} {Q : Exit → Act → World → Prop}
/-- A machine is read whole. -/
theorem ob_loadK (x : Operand) {b : Nat} {u : Mch} (ho : o.op = .load 28 x) (hx : a.eval x = .pointer (some ⟨b, 0, none⟩)) (hb : HasK w b u) (h : K (a.put o.dst u.val) w) : o.wp Try.prog a w K Q := by
  have x0 := Blk.cell hb 0
  have x1 := Blk.cell hb 1
  have x2 := Blk.cell hb 2
  have x3 := Blk.cell hb 3
  have x4 := Blk.cell hb 4
  have x5 := Blk.cell hb 5
  have x6 := Blk.cell hb 6
  have x7 := Blk.cell hb 7
  have x8 := Blk.cell hb 8
  simp only [Mch.cs, List.getElem?_toArray, List.getElem?_cons_succ, List.getElem?_cons_zero] at x0 x1 x2 x3 x4 x5 x6 x7 x8
  have hr : (Instr.loadAt 28 (.pointer (some ⟨b, 0, none⟩))).run Try.prog w = .ok u.val w := by
    unfold Mch.val Mch.cs
    simp [go_sem, x0, x1, x2, x3, x4, x5, x6, x7, x8]
  unfold Oper.wp execOp
  simp only [ho, hx, hr, Sem.run_bind, Sem.run_pure, Result.andThen_ok]
  exact h
theorem ob_storeK (x y : Operand) {r : Nat} {z u : Mch} (ho : o.op = .store 28 x y) (hd : o.dst = none) (hx : a.eval x = .pointer (some ⟨r, 0, none⟩)) (hy : a.eval y = u.val) (hv : HasK w r z)
    (h : K (a.put o.dst undef) (setK w r u)) : o.wp Try.prog a w K Q := by
  have x0 := Blk.cell hv 0
  have x1 := Blk.cell hv 1
  have x2 := Blk.cell hv 2
  have x3 := Blk.cell hv 3
  have x4 := Blk.cell hv 4
  have x5 := Blk.cell hv 5
  have x6 := Blk.cell hv 6
  have x7 := Blk.cell hv 7
  have x8 := Blk.cell hv 8
  have f0 := Blk.frozen hv 0
  have f1 := Blk.frozen hv 1
  have f2 := Blk.frozen hv 2
  have f3 := Blk.frozen hv 3
  have f4 := Blk.frozen hv 4
  have f5 := Blk.frozen hv 5
  have f6 := Blk.frozen hv 6
  have f7 := Blk.frozen hv 7
  have f8 := Blk.frozen hv 8
  simp only [Mch.cs, List.getElem?_toArray, List.getElem?_cons_succ, List.getElem?_cons_zero] at x0 x1 x2 x3 x4 x5 x6 x7 x8
  have hr : (Instr.storeAt 28 (.pointer (some ⟨r, 0, none⟩)) u.val).run Try.prog w = .ok () (setK w r u) := by
    unfold Mch.val Mch.cs
    simp [go_sem, setK, setN, x0, x1, x2, x3, x4, x5, x6, x7, x8, f0, f1, f2, f3, f4, f5, f6, f7, f8]
  unfold Oper.wp execOp
  simp only [ho, hx, hy, hr, Sem.run_bind, Sem.run_pure, Result.andThen_ok]
  exact h
end
/-- The reader's making, with what it takes of the code. -/
theorem open_anyK (A : Option Addr) (n c : Nat) (zs : List Int) (w : World) (h : IsRow .u8 w A n c zs) :
    Calls Try.prog 45 #[.slice A n c] w fun e w' => ∃ len cap, e = .returned (.pointer (some ⟨w.heap.size, 0, none⟩)) ∧ Rd w' w.heap.size A len cap 0 ∧ Below w.heap.size w w' ∧ len ≤ n := by
  have hn : n ≤ c ∧ c ≤ 9223372036854775807 := by
    rcases h with ⟨_, h1, h2, _⟩ | ⟨x, _, h1, h2, _⟩
    · omega
    · unfold maxLen at h2; omega
  by_cases h0 : n ≤ 2000
  · have hc := code_of_row (g := w.heap.size) h (Nat.le_refl n) (Nat.le_refl _)
    have H := Lib.hid hc
    have hh := Lib.hid h
    clear hc h
    have h2 : ¬ (2000 < n) := by omega
    go_enter Try.func45, Try.ntmps45
    go_wp2
    go_ret
    exact ⟨n, c, rfl, ⟨Blk.new _ _ _, H.out.grown (World.grownBy_alloc _ _ _), h0, hn.1⟩, (Below.refl _ _).alloc (Nat.le_refl _) _, Nat.le_refl _⟩
  · have hc := code_of_row (g := w.heap.size) h (show 2000 ≤ n by omega) (Nat.le_refl _)
    have H := Lib.hid hc
    have hh := Lib.hid h
    clear hc h
    have h2 : 2000 < n := by omega
    have h3 : 2000 ≤ c := by omega
    have h4 : c ≤ 9223372036854775807 := hn.2
    go_enter Try.func45, Try.ntmps45
    go_wp2
    go_ret
    exact ⟨2000, c, rfl, ⟨Blk.new _ _ _, H.out.grown (World.grownBy_alloc _ _ _), by omega, h3⟩, (Below.refl _ _).alloc (Nat.le_refl _) _, by omega⟩
def zMch : Mch := ⟨none, 0, 0, [], none, 0, 0, [], 0, 0, 0, false, none, 0, 0, [], false, 0⟩
theorem row_alloc {k : IntKind} {w : World} {A : Option Addr} {n c : Nat} {zs : List Int} (h : IsRow k w A n c zs) (o : Obj) : IsRow k (w.alloc o) A n c zs := by
  rcases h with h | ⟨x, h0, h1, h2, h3, h4, h5⟩
  · exact .inl h
  · refine .inr ⟨x, h0, h1, h2, h3, fun i hi => ?_, h5⟩
    have := h4 i hi
    rw [World.cell?_alloc_lt w o _ (lt_of_cell this)]
    exact this
/-- A machine and a number, drawn. -/
def GivesMN (w : World) (e : Ending) (w' : World) : Prop := ∃ (x : Mch) (n : Int) (g : Nat), e = .returned (.tuple #[x.val, .int .i64 n]) ∧ Sure g (fun w => MRd w x) w' ∧ (x.B = none → x.bc = 0) ∧ -1 ≤ n ∧ n ≤ 501 ∧ Below w.heap.size w w'
set_option maxRecDepth 100000 in
set_option maxHeartbeats 4000000 in
theorem drawRunMachine_any (A : Option Addr) (n c : Nat) (zs : List Int) (w : World) (h : IsRow .u8 w A n c zs) :
    Calls Try.prog 28 #[.slice A n c] w (GivesMN w) := by
  obtain ⟨W0, hW0⟩ : ∃ W0, W0 = w.alloc (.cells #[.slice none 0 0, .slice none 0 0, .int .i64 0, .int .i64 0, .int .i64 0, .bool false, .slice none 0 0, .bool false, .int .i64 0] 28) := ⟨_, rfl⟩
  have HI := Lib.hid (show IsRow .u8 W0 A n c zs by rw [hW0]; exact row_alloc h _)
  have HZ := Lib.hid (show HasK W0 w.heap.size zMch by rw [hW0]; exact Blk.new _ _ _)
  have HB0 := Lib.hid (show Below w.heap.size w W0 by rw [hW0]; exact (Below.refl _ _).alloc (Nat.le_refl _) _)
  have hs0 : W0.heap.size = w.heap.size + 1 := by rw [hW0, World.size_alloc]
  replace hW0 := Lib.hid hW0
  have HX0 := Lib.hid h
  clear h
  go_enter Try.func28, Try.ntmps28
  go_wp2_with fail
  rw [← hW0.out]
  refine (open_anyK A n c zs _ HI.out).mono ?_
  rintro e w1 ⟨len, cap, rfl, hR, hb1, hlen⟩
  have hcr := code_farK HX0.out hlen (Nat.le_refl w.heap.size)
  have HR := Lib.hid (show HasK w1 w.heap.size zMch from Blk.below HZ.out hb1 HZ.out.lt)
  have HB := Lib.hid (below_step HB0.out hb1 (by omega))
  obtain ⟨g, hg0⟩ : ∃ g, g = W0.heap.size := ⟨_, rfl⟩
  rw [← hg0] at hR ⊢
  rw [hs0] at hg0
  have hgw : w.heap.size < g := by omega
  have HD := Lib.hid (Drs.start hR)
  have hgl := hR.lt
  clear hR hb1 HZ HB0 HI hs0 hg0
  go_wp2_with fail
  refine (l20Machine_d HD.out 14 (by omega) (by omega) (by omega)).mono ?_
  rintro e W' ⟨v, rfl, ⟨x, rfl, hsure, hnil⟩, hD, hgr⟩
  replace HD := Lib.hid hD
  clear hD
  have hx : x.val = .agg #[.slice x.A x.n x.c, .slice x.R x.rn x.rc, .int .i64 x.bank, .int .i64 x.a, .int .i64 x.pc, .bool x.cy, .slice x.B x.bn x.bc, .bool x.st, .int .i64 x.cyc] := rfl
  rw [hx]
  go_upto_region 3 with (fail)
  have HS := Lib.hid hsure
  replace HR := Lib.hid (HR.out.kept hgr (by intro e; injection e with e; omega))
  clear hgr hsure
  obtain ⟨W2, hW2⟩ : ∃ W2, W2 = W'.alloc (.cells x.cs 28) := ⟨_, rfl⟩
  change Code.wp _ _ _ _ (W'.alloc (.cells x.cs 28))
  rw [← hW2]
  have hsz := HD.out.size.2
  have hrl := HR.out.lt
  have hbw2 : Below W'.heap.size W' W2 := by rw [hW2]; exact (Below.refl _ _).alloc (Nat.le_refl _) _
  have HV := Lib.hid (show HasK W2 W'.heap.size x by rw [hW2]; exact Blk.new _ _ _)
  replace HR := Lib.hid (show HasK W2 w.heap.size zMch from Blk.below HR.out hbw2 HR.out.lt)
  replace HD := Lib.hid (HD.out.below hbw2)
  replace HS := Lib.hid (HS.out.keep (Keep.of_below hbw2))
  obtain ⟨bx, hbx⟩ : ∃ bx, bx = W'.heap.size := ⟨_, rfl⟩
  rw [← hbx] at HV ⊢
  obtain ⟨r, hr⟩ : ∃ r, r = w.heap.size := ⟨_, rfl⟩
  have hnb : bx ≠ g ∧ bx ≠ r := ⟨by omega, by omega⟩
  have hgr2 : g ≠ r := by omega
  rw [← hr] at HR hcr ⊢
  have HRW := Lib.hid hr
  clear hr
  replace hW2 := Lib.hid hW2
  replace hbx := Lib.hid hbx
  clear hbw2
  obtain ⟨p, hp1, hR⟩ := HD.out.rd
  have hp : p ≤ 100000 := by omega
  refine region_tailG 12 (K2 g r x) (IsVal ((x).val) :: IsPtr g :: IntIn (0) (39) :: ArrK g r 4 (-1) (501) :: ArrK g r 7 (0) (3) :: IsPtr g :: IntIn (0) (6) :: ElK g r (0) (3) :: IntIn (0) (3) :: ElK g r (-1) (501) :: IntIn (-1) (501) :: (fun w _ => HasK w r x) :: []) (fun n w' => K2 g r x W2 w' ∧ (∃ p' : Nat, p' + 1 * n ≤ p + 12 ∧ Rd w' g A len cap p') ∧ ∃ z, HasK w' r z) ?_ ?_ ?_ ?_ ?_ ?_ ?_ ?_ ?_ ?_ ?_
  · kernel_rfl
  · exact ⟨(fun _ _ _ _ h => h), (fun _ _ _ _ h => h), (fun _ _ _ _ h => h), stK_arr _ _ _ _ _ _, stK_arr _ _ _ _ _ _, (fun _ _ _ _ h => h), (fun _ _ _ _ h => h), stK_el _ _ _ _ _, (fun _ _ _ _ h => h), stK_el _ _ _ _ _, (fun _ _ _ _ h => h), (fun _ _ _ h hv => h.2.2.2 hv), trivial⟩
  · simp
  · exact of_decide_eq_true (by kernel_rfl)
  · kernel_rfl
  · kernel_rfl
  · kernel_rfl
  · kernel_rfl
  · exact ⟨K2.of (grown_drew _ _) hgr2, ⟨p, by simp, hR⟩, _, HR.out⟩
  · refine each_cons ?_ (each_cons ?_ (each_cons ?_ (each_cons ?_ (each_cons ?_ (each_cons ?_ (each_cons ?_ (each_cons ?_ (each_cons ?_ (each_cons ?_ (each_cons ?_ (each_cons ?_ ( trivial))))))))))))
    · intro n vs aa w' haa hJ hd K hK
      refine ob_plain rfl ?_
      have hbv := (HV.out).keptG hJ.1 hnb
      refine ob_loadK _ (b := bx) (u := x) rfl (ev_of haa (by kernel_rfl)) hbv ?_
      refine hK _ _ ?_ (K2.refl _ _ _ _) ⟨hJ.1, (by obtain ⟨p', h1, h2⟩ := hJ.2.1; exact ⟨p', by omega, h2⟩), hJ.2.2⟩
      show (IsVal ((x).val)) w' _
      exact rfl
    · intro n vs aa w' haa hJ hd K hK
      refine ob_plain rfl ?_
      refine ob_move _ (v := .pointer (some ⟨g, 0, none⟩)) rfl (ev_of haa (by kernel_rfl)) ?_
      refine hK _ _ ?_ (K2.refl _ _ _ _) ⟨hJ.1, (by obtain ⟨p', h1, h2⟩ := hJ.2.1; exact ⟨p', by omega, h2⟩), hJ.2.2⟩
      show (IsPtr g) w' _
      exact rfl
    · intro n vs aa w' haa hJ hd K hK
      refine ob_plain rfl ?_
      have d1 : (IsPtr g) w' (vs 1) := hd.1 rfl
      have e1 := d1
      obtain ⟨hg', ⟨p', hp', hr'⟩, z, hz⟩ := hJ
      refine ob_call 53 _ _ #[.pointer (some ⟨g, 0, none⟩), .int .i64 (40)] rfl (Eq.trans (b := #[vs 1, .int .i64 (40)]) (evs_of haa (by kernel_rfl)) (by rw [e1])) (fun _ _ => by kernel_rfl) ?_
      refine (pick_any g A len cap p' (40) _ hr' (by omega) (by omega) (by omega)).mono ?_
      rintro e w2 ⟨x, rfl, x0, x1, hr2, hg2⟩
      refine ⟨_, rfl, ?_⟩
      refine hK _ _ ?_ (K2.of hg2 hgr2) ⟨hg'.trans (K2.of hg2 hgr2), ⟨p' + 1, by omega, hr2⟩, z, hz.kept hg2 (ne_someK hgr2)⟩
      show (IntIn (0) (39)) w' _
      exact ⟨x, rfl, x0, by omega⟩
    · intro n vs aa w' haa hJ hd K hK
      refine ob_plain rfl ?_
      have d2 : (IntIn (0) (39)) w' (vs 2) := hd.1 rfl
      obtain ⟨x2, e2, l2, u2⟩ := d2
      refine ob_build4 _ _ _ _ (u0 := x2) (u1 := (500)) (u2 := (-1)) (u3 := (501)) rfl (Eq.trans (b := vs 2) (ev_of haa (by kernel_rfl)) e2) (ev_of haa (by kernel_rfl)) (ev_of haa (by kernel_rfl)) (ev_of haa (by kernel_rfl)) ?_
      refine hK _ _ ⟨_, rfl, ⟨Nat.ne_of_gt hJ.2.1.choose_spec.2.lt, Nat.ne_of_gt hJ.2.2.choose_spec.lt⟩, by simp, fun k hk => ?_⟩ (K2.of (World.grownBy_alloc _ _ _) hgr2) ⟨hJ.1.trans (K2.of (World.grownBy_alloc _ _ _) hgr2), (by obtain ⟨p', h1, h2⟩ := hJ.2.1; exact ⟨p', by omega, h2.alloc _⟩), _, hJ.2.2.choose_spec.alloc _⟩
      match k, hk with
      | 0, _ => exact ⟨x2, by simp [go_sem], by omega, by omega⟩
      | 1, _ => exact ⟨(500), by simp [go_sem], by omega, by omega⟩
      | 2, _ => exact ⟨(-1), by simp [go_sem], by omega, by omega⟩
      | 3, _ => exact ⟨(501), by simp [go_sem], by omega, by omega⟩
    · intro n vs aa w' haa hJ hd K hK
      refine ob_plain rfl ?_
      refine ob_build7 _ _ _ _ _ _ _ (u0 := (0)) (u1 := (0)) (u2 := (0)) (u3 := (0)) (u4 := (1)) (u5 := (2)) (u6 := (3)) rfl (ev_of haa (by kernel_rfl)) (ev_of haa (by kernel_rfl)) (ev_of haa (by kernel_rfl)) (ev_of haa (by kernel_rfl)) (ev_of haa (by kernel_rfl)) (ev_of haa (by kernel_rfl)) (ev_of haa (by kernel_rfl)) ?_
      refine hK _ _ ⟨_, rfl, ⟨Nat.ne_of_gt hJ.2.1.choose_spec.2.lt, Nat.ne_of_gt hJ.2.2.choose_spec.lt⟩, by simp, fun k hk => ?_⟩ (K2.of (World.grownBy_alloc _ _ _) hgr2) ⟨hJ.1.trans (K2.of (World.grownBy_alloc _ _ _) hgr2), (by obtain ⟨p', h1, h2⟩ := hJ.2.1; exact ⟨p', by omega, h2.alloc _⟩), _, hJ.2.2.choose_spec.alloc _⟩
      match k, hk with
      | 0, _ => exact ⟨(0), by simp [go_sem], by omega, by omega⟩
      | 1, _ => exact ⟨(0), by simp [go_sem], by omega, by omega⟩
      | 2, _ => exact ⟨(0), by simp [go_sem], by omega, by omega⟩
      | 3, _ => exact ⟨(0), by simp [go_sem], by omega, by omega⟩
      | 4, _ => exact ⟨(1), by simp [go_sem], by omega, by omega⟩
      | 5, _ => exact ⟨(2), by simp [go_sem], by omega, by omega⟩
      | 6, _ => exact ⟨(3), by simp [go_sem], by omega, by omega⟩
    · intro n vs aa w' haa hJ hd K hK
      refine ob_plain rfl ?_
      refine ob_move _ (v := .pointer (some ⟨g, 0, none⟩)) rfl (ev_of haa (by kernel_rfl)) ?_
      refine hK _ _ ?_ (K2.refl _ _ _ _) ⟨hJ.1, (by obtain ⟨p', h1, h2⟩ := hJ.2.1; exact ⟨p', by omega, h2⟩), hJ.2.2⟩
      show (IsPtr g) w' _
      exact rfl
    · intro n vs aa w' haa hJ hd K hK
      refine ob_plain rfl ?_
      have d5 : (IsPtr g) w' (vs 5) := hd.1 rfl
      have e5 := d5
      obtain ⟨hg', ⟨p', hp', hr'⟩, z, hz⟩ := hJ
      refine ob_call 53 _ _ #[.pointer (some ⟨g, 0, none⟩), .int .i64 (7)] rfl (Eq.trans (b := #[vs 5, .int .i64 (7)]) (evs_of haa (by kernel_rfl)) (by rw [e5])) (fun _ _ => by kernel_rfl) ?_
      refine (pick_any g A len cap p' (7) _ hr' (by omega) (by omega) (by omega)).mono ?_
      rintro e w2 ⟨x, rfl, x0, x1, hr2, hg2⟩
      refine ⟨_, rfl, ?_⟩
      refine hK _ _ ?_ (K2.of hg2 hgr2) ⟨hg'.trans (K2.of hg2 hgr2), ⟨p' + 1, by omega, hr2⟩, z, hz.kept hg2 (ne_someK hgr2)⟩
      show (IntIn (0) (6)) w' _
      exact ⟨x, rfl, x0, by omega⟩
    · intro n vs aa w' haa hJ hd K hK
      refine ob_plain rfl ?_
      have d4 : (ArrK g r 7 (0) (3)) w' (vs 4) := hd.1 rfl
      obtain ⟨b4, e4, n4, z4, c4⟩ := d4
      have d6 : (IntIn (0) (6)) w' (vs 6) := hd.2.1 rfl
      obtain ⟨x6, e6, l6, u6⟩ := d6
      refine ob_index _ _ _ (by simp) (u := x6) rfl (Eq.trans (b := vs 4) (ev_of haa (by kernel_rfl)) e4) (Eq.trans (b := vs 6) (ev_of haa (by kernel_rfl)) e6) (by omega) (by omega) ?_
      obtain ⟨y, hy, y0, y1⟩ := c4 x6.toNat (by omega)
      refine hK _ _ ?_ (K2.refl _ _ _ _) ⟨hJ.1, (by obtain ⟨p', h1, h2⟩ := hJ.2.1; exact ⟨p', by omega, h2⟩), hJ.2.2⟩
      show (ElK g r (0) (3)) w' _
      exact ⟨b4, _, rfl, n4, z4, y, by rw [Nat.zero_add]; exact hy, y0, y1⟩
    · intro n vs aa w' haa hJ hd K hK
      refine ob_plain rfl ?_
      have d7 : (ElK g r (0) (3)) w' (vs 7) := hd.1 rfl
      obtain ⟨b7, j7, e7, n7, z7, x7, c7, l7, u7⟩ := d7
      refine ob_load _ _ (by simp) rfl (Eq.trans (b := vs 7) (ev_of haa (by kernel_rfl)) e7) c7 ?_
      refine hK _ _ ?_ (K2.refl _ _ _ _) ⟨hJ.1, (by obtain ⟨p', h1, h2⟩ := hJ.2.1; exact ⟨p', by omega, h2⟩), hJ.2.2⟩
      show (IntIn (0) (3)) w' _
      exact ⟨_, rfl, l7, u7⟩
    · intro n vs aa w' haa hJ hd K hK
      refine ob_plain rfl ?_
      have d3 : (ArrK g r 4 (-1) (501)) w' (vs 3) := hd.1 rfl
      obtain ⟨b3, e3, n3, z3, c3⟩ := d3
      have d8 : (IntIn (0) (3)) w' (vs 8) := hd.2.1 rfl
      obtain ⟨x8, e8, l8, u8⟩ := d8
      refine ob_index _ _ _ (by simp) (u := x8) rfl (Eq.trans (b := vs 3) (ev_of haa (by kernel_rfl)) e3) (Eq.trans (b := vs 8) (ev_of haa (by kernel_rfl)) e8) (by omega) (by omega) ?_
      obtain ⟨y, hy, y0, y1⟩ := c3 x8.toNat (by omega)
      refine hK _ _ ?_ (K2.refl _ _ _ _) ⟨hJ.1, (by obtain ⟨p', h1, h2⟩ := hJ.2.1; exact ⟨p', by omega, h2⟩), hJ.2.2⟩
      show (ElK g r (-1) (501)) w' _
      exact ⟨b3, _, rfl, n3, z3, y, by rw [Nat.zero_add]; exact hy, y0, y1⟩
    · intro n vs aa w' haa hJ hd K hK
      refine ob_plain rfl ?_
      have d9 : (ElK g r (-1) (501)) w' (vs 9) := hd.1 rfl
      obtain ⟨b9, j9, e9, n9, z9, x9, c9, l9, u9⟩ := d9
      refine ob_load _ _ (by simp) rfl (Eq.trans (b := vs 9) (ev_of haa (by kernel_rfl)) e9) c9 ?_
      refine hK _ _ ?_ (K2.refl _ _ _ _) ⟨hJ.1, (by obtain ⟨p', h1, h2⟩ := hJ.2.1; exact ⟨p', by omega, h2⟩), hJ.2.2⟩
      show (IntIn (-1) (501)) w' _
      exact ⟨_, rfl, l9, u9⟩
    · intro n vs aa w' haa hJ hd K hK
      refine ob_plain rfl ?_
      have d0 : (IsVal ((x).val)) w' (vs 0) := hd.1 rfl
      have e0 := d0
      refine ob_storeK _ _ (r := r) (u := x) rfl rfl (ev_of haa (by kernel_rfl)) (Eq.trans (b := vs 0) (ev_of haa (by kernel_rfl)) e0) hJ.2.2.choose_spec ?_
      have hst := hJ.2.2.choose_spec.set x
      refine hK undef _ ?_ (K2.store hJ.2.2.choose_spec) ⟨hJ.1.trans (K2.store hJ.2.2.choose_spec), (by obtain ⟨p', h1, h2⟩ := hJ.2.1; exact ⟨p', by omega, h2.storeK hst.2 hgr2 hcr⟩), _, hst.1⟩
      exact hst.1
  intro vs w' hJ hall
  obtain ⟨N, hN, N0, N1⟩ : IntIn (-1) 501 w' (vs 10) := hall 10 (by decide)
  have hM : vs 0 = x.val := hall 0 (by decide)
  have hru : HasK w' r x := hall 11 (by decide)
  clear hall
  obtain ⟨hg, ⟨p', hp', hr'⟩, -⟩ := hJ
  have HG := Lib.hid hg
  replace HS := Lib.hid (HS.out.keep (hg.keep HR.out))
  have h2 := HB.out.grown HD.out.hg HB.out.size (by intro k hk; injection hk with hk; omega)
  clear hr' hg hR
  simp only [List.take_succ_cons, List.take_zero, List.drop_succ_cons, List.drop_zero, fill, Act.put, List.toList_toArray, List.setIfInBounds_toArray, List.set_cons_zero, List.set_cons_succ, Nat.zero_add, Nat.reduceAdd, hM, hN]
  have hr0 : Blk w' r 28 #[.slice x.A x.n x.c, .slice x.R x.rn x.rc, .int .i64 x.bank, .int .i64 x.a, .int .i64 x.pc, .bool x.cy, .slice x.B x.bn x.bc, .bool x.st, .int .i64 x.cyc] := hru
  have v0 := Blk.cell hr0 0
  have v1 := Blk.cell hr0 1
  have v2 := Blk.cell hr0 2
  have v3 := Blk.cell hr0 3
  have v4 := Blk.cell hr0 4
  have v5 := Blk.cell hr0 5
  have v6 := Blk.cell hr0 6
  have v7 := Blk.cell hr0 7
  have v8 := Blk.cell hr0 8
  simp only [List.getElem?_toArray, List.getElem?_cons_succ, List.getElem?_cons_zero] at v0 v1 v2 v3 v4 v5 v6 v7 v8
  have t0 := Blk.frozen hr0 0
  have t1 := Blk.frozen hr0 1
  have t2 := Blk.frozen hr0 2
  have t3 := Blk.frozen hr0 3
  have t4 := Blk.frozen hr0 4
  have t5 := Blk.frozen hr0 5
  have t6 := Blk.frozen hr0 6
  have t7 := Blk.frozen hr0 7
  have t8 := Blk.frozen hr0 8
  replace hr0 := Lib.hid hr0
  go_wp2_with fail
  refine bodyPost_ret (v := .tuple #[x.val, .int .i64 N]) (by rw [hx]; simp [results, Try.results28, go_sem, v0, v1, v2, v3, v4, v5, v6, v7, v8]) rfl ?_
  exact ⟨x, N, g, rfl, HS.out, hnil, N0, N1, ⟨HG.out.1.1.trans h2.os, HG.out.1.2.1.trans h2.tape, HG.out.1.2.2.trans h2.output, Nat.le_trans h2.size HG.out.2.1, fun k hk => (HG.out.2.2.1 k (Nat.lt_of_lt_of_le hk h2.size) (by omega) (by have := HRW.out; omega)).trans (h2.block k hk)⟩⟩
set_option maxRecDepth 100000 in
set_option maxHeartbeats 4000000 in
theorem drawTraceMachine_any (A : Option Addr) (n c : Nat) (zs : List Int) (w : World) (h : IsRow .u8 w A n c zs) :
    Calls Try.prog 7 #[.slice A n c] w (GivesMN w) := by
  obtain ⟨W0, hW0⟩ : ∃ W0, W0 = w.alloc (.cells #[.slice none 0 0, .slice none 0 0, .int .i64 0, .int .i64 0, .int .i64 0, .bool false, .slice none 0 0, .bool false, .int .i64 0] 28) := ⟨_, rfl⟩
  have HI := Lib.hid (show IsRow .u8 W0 A n c zs by rw [hW0]; exact row_alloc h _)
  have HZ := Lib.hid (show HasK W0 w.heap.size zMch by rw [hW0]; exact Blk.new _ _ _)
  have HB0 := Lib.hid (show Below w.heap.size w W0 by rw [hW0]; exact (Below.refl _ _).alloc (Nat.le_refl _) _)
  have hs0 : W0.heap.size = w.heap.size + 1 := by rw [hW0, World.size_alloc]
  replace hW0 := Lib.hid hW0
  clear h
  go_enter Try.func7, Try.ntmps7
  go_wp2_with fail
  rw [← hW0.out]
  refine (drawRunMachine_any A n c zs _ HI.out).mono ?_
  rintro e w1 ⟨x, N, g, rfl, hs, hnil, N0, N1, hb⟩
  have HR := Lib.hid (show HasK w1 w.heap.size zMch from Blk.below HZ.out hb HZ.out.lt)
  have HB := Lib.hid (below_step HB0.out hb (by omega))
  have HS := Lib.hid hs
  clear hs hb
  have hr0 : Blk w1 w.heap.size 28 #[.slice none 0 0, .slice none 0 0, .int .i64 0, .int .i64 0, .int .i64 0, .bool false, .slice none 0 0, .bool false, .int .i64 0] := HR.out
  have v0 := Blk.cell hr0 0
  have v1 := Blk.cell hr0 1
  have v2 := Blk.cell hr0 2
  have v3 := Blk.cell hr0 3
  have v4 := Blk.cell hr0 4
  have v5 := Blk.cell hr0 5
  have v6 := Blk.cell hr0 6
  have v7 := Blk.cell hr0 7
  have v8 := Blk.cell hr0 8
  simp only [List.getElem?_toArray, List.getElem?_cons_succ, List.getElem?_cons_zero] at v0 v1 v2 v3 v4 v5 v6 v7 v8
  have t0 := Blk.frozen hr0 0
  have t1 := Blk.frozen hr0 1
  have t2 := Blk.frozen hr0 2
  have t3 := Blk.frozen hr0 3
  have t4 := Blk.frozen hr0 4
  have t5 := Blk.frozen hr0 5
  have t6 := Blk.frozen hr0 6
  have t7 := Blk.frozen hr0 7
  have t8 := Blk.frozen hr0 8
  replace hr0 := Lib.hid hr0
  have hx : x.val = .agg #[.slice x.A x.n x.c, .slice x.R x.rn x.rc, .int .i64 x.bank, .int .i64 x.a, .int .i64 x.pc, .bool x.cy, .slice x.B x.bn x.bc, .bool x.st, .int .i64 x.cyc] := rfl
  rw [hx]
  go_wp2_with fail
  clear v0 v1 v2 v3 v4 v5 v6 v7 v8 t0 t1 t2 t3 t4 t5 t6 t7 t8 hr0
  have hbel := (HR.out.set x).2
  have hr0 : Blk (setK w1 w.heap.size x) w.heap.size 28 #[.slice x.A x.n x.c, .slice x.R x.rn x.rc, .int .i64 x.bank, .int .i64 x.a, .int .i64 x.pc, .bool x.cy, .slice x.B x.bn x.bc, .bool x.st, .int .i64 x.cyc] := (HR.out.set x).1
  unfold setK at hr0
  simp only [setN, Nat.zero_add, Nat.reduceAdd] at hr0
  have v0 := Blk.cell hr0 0
  have v1 := Blk.cell hr0 1
  have v2 := Blk.cell hr0 2
  have v3 := Blk.cell hr0 3
  have v4 := Blk.cell hr0 4
  have v5 := Blk.cell hr0 5
  have v6 := Blk.cell hr0 6
  have v7 := Blk.cell hr0 7
  have v8 := Blk.cell hr0 8
  simp only [List.getElem?_toArray, List.getElem?_cons_succ, List.getElem?_cons_zero] at v0 v1 v2 v3 v4 v5 v6 v7 v8
  have t0 := Blk.frozen hr0 0
  have t1 := Blk.frozen hr0 1
  have t2 := Blk.frozen hr0 2
  have t3 := Blk.frozen hr0 3
  have t4 := Blk.frozen hr0 4
  have t5 := Blk.frozen hr0 5
  have t6 := Blk.frozen hr0 6
  have t7 := Blk.frozen hr0 7
  have t8 := Blk.frozen hr0 8
  replace hr0 := Lib.hid hr0
  refine bodyPost_ret (v := .tuple #[x.val, .int .i64 N]) (by rw [hx]; simp [results, Try.results7, go_sem, v0, v1, v2, v3, v4, v5, v6, v7, v8]) rfl ?_
  change GivesMN w _ (setK w1 w.heap.size x)
  have hk : Keep g w1 (setK w1 w.heap.size x) := (K2.store (g := g) (u := x) HR.out).keep HR.out
  have hb2 : Below w.heap.size w (setK w1 w.heap.size x) := HB.out.grown hbel HB.out.size (by intro k hk; injection hk with hk; omega)
  exact ⟨x, N, g, rfl, HS.out.keep hk, hnil, N0, N1, hb2⟩
end Go.Proofs.Ytgedfcccflobmaa
