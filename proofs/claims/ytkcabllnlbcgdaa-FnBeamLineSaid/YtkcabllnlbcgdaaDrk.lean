/-
  Drawing regions that store a background into a second block; a background, a line and changes, drawn. No condition.
-/
import Derived.Test.YtkcabllnlbcgdaaDrf
import Derived.Test.YtkcabllnlbcgdaaTypedG
namespace Go.Proofs.Ytkcabllnlbcgdaa
open Go.RowKit
set_option linter.unusedVariables false
set_option linter.unusedSimpArgs false
theorem ne_someK {a b : Nat} (h : a ≠ b) : some a ≠ some b := by intro e; injection e with e; exact h e
def HasK (w : World) (b : Nat) (x : Fld) : Prop := Blk w b 26 x.cs
def setK (w : World) (b : Nat) (x : Fld) : World := setN w b 0 [.int .i64 x.W, .slice x.A x.n x.c, .slice x.T x.tn x.tc, .int .i64 x.sx, .int .i64 x.sy]
theorem HasK.lt {w : World} {b : Nat} {x : Fld} (h : HasK w b x) : b < w.heap.size := Blk.lt h
theorem HasK.alloc {w : World} {b : Nat} {x : Fld} (h : HasK w b x) (o : Obj) : HasK (w.alloc o) b x := Blk.alloc h o
theorem HasK.kept {w w' : World} {b : Nat} {x : Fld} {row : Option Nat} (h : HasK w b x) (hg : w.grownBy w' row) (hne : row ≠ some b) : HasK w' b x := Blk.grown h hg (Ne.symm hne)
theorem HasK.set {w : World} {b : Nat} {z : Fld} (h : HasK w b z) (x : Fld) : HasK (setK w b x) b x ∧ w.grownBy (setK w b x) (some b) := by
  have hb := setN_below (B := 0) (Nat.zero_le b) [.int .i64 x.W, .slice x.A x.n x.c, .slice x.T x.tn x.tc, .int .i64 x.sx, .int .i64 x.sy] 0 w w (Below.refl 0 w)
  refine ⟨?_, hb.os, hb.tape, hb.output, hb.size, fun k _ hk => setN_heap (fun e => hk (by rw [e])) _ 0 w⟩
  have q := setN_blk [.int .i64 x.W, .slice x.A x.n x.c, .slice x.T x.tn x.tc, .int .i64 x.sx, .int .i64 x.sy] 0 w _ h
  simp only [setA, Fld.cs, List.setIfInBounds_toArray, List.set_cons_zero, List.set_cons_succ, Nat.zero_add, Nat.reduceAdd] at q
  exact q
/-- Two blocks may change; the second, once it holds u, holds u. -/
def K2 (g r : Nat) (u : Fld) (w w' : World) : Prop :=
  (w'.os = w.os ∧ w'.tape = w.tape ∧ w'.output = w.output) ∧ w.heap.size ≤ w'.heap.size ∧ (∀ k, k < w.heap.size → k ≠ g → k ≠ r → w'.heap[k]? = w.heap[k]?) ∧ (HasK w r u → HasK w' r u)
theorem K2.refl (g r : Nat) (u : Fld) (w : World) : K2 g r u w w := ⟨⟨rfl, rfl, rfl⟩, Nat.le_refl _, fun _ _ _ _ => rfl, fun h => h⟩
theorem K2.trans {g r : Nat} {u : Fld} {w w' w'' : World} (h : K2 g r u w w') (h' : K2 g r u w' w'') : K2 g r u w w'' :=
  ⟨⟨h'.1.1.trans h.1.1, h'.1.2.1.trans h.1.2.1, h'.1.2.2.trans h.1.2.2⟩, Nat.le_trans h.2.1 h'.2.1, fun k hk h1 h2 => (h'.2.2.1 k (Nat.lt_of_lt_of_le hk h.2.1) h1 h2).trans (h.2.2.1 k hk h1 h2), fun hv => h'.2.2.2 (h.2.2.2 hv)⟩
theorem K2.of {g r : Nat} {u : Fld} {w w' : World} (h : w.grownBy w' (some g)) (hgr : g ≠ r) : K2 g r u w w' :=
  ⟨⟨h.os, h.tape, h.output⟩, h.size, fun k hk h1 _ => h.block k hk (ne_someK h1), fun hv => hv.kept h (ne_someK hgr)⟩
theorem K2.store {g r : Nat} {u z : Fld} {w : World} (h : HasK w r z) : K2 g r u w (setK w r u) := by
  obtain ⟨h1, h2⟩ := h.set u
  exact ⟨⟨h2.os, h2.tape, h2.output⟩, h2.size, fun k hk _ hr => h2.block k hk (ne_someK hr), fun _ => h1⟩
theorem K2.cell {g r b o : Nat} {u : Fld} {w w' : World} {v : Value} (h : K2 g r u w w') (hb : b < w.heap.size) (h1 : b ≠ g) (h2 : b ≠ r) (hc : w.cell? ⟨b, o, none⟩ = some v) : w'.cell? ⟨b, o, none⟩ = some v :=
  (World.cell?_of_block (h.2.2.1 b hb h1 h2)).trans hc
theorem K2.keep {g r : Nat} {u z : Fld} {w w' : World} (h : K2 g r u w w') (hz : HasK w r z) : Keep g w w' :=
  ⟨h.2.1, fun k hk hg hm => h.2.2.1 k hk hg fun e => hm _ z.cs (.inl rfl) (by rw [e]; exact hz)⟩
theorem HasK.keptG {g r b : Nat} {u v : Fld} {w w' : World} (h : HasK w b v) (hG : K2 g r u w w') (hne : b ≠ g ∧ b ≠ r) : HasK w' b v := (hG.2.2.1 b h.lt hne.1 hne.2).trans h
theorem Rd.storeK {w w' : World} {g r len cap p : Nat} {A : Option Addr} (h : Rd w g A len cap p) (hg : w.grownBy w' (some r)) (hgr : g ≠ r) (hcr : ∀ b off, 0 < len → A = some ⟨b, off, none⟩ → b ≠ r) : Rd w' g A len cap p := by
  refine ⟨h.1.grown hg (ne_someK hgr), fun hl => ?_, h.2.2⟩
  obtain ⟨b, off, e, hne, hb, hc⟩ := h.2.1 hl
  refine ⟨b, off, e, hne, Nat.lt_of_lt_of_le hb hg.size, fun k hk => ?_⟩
  obtain ⟨x, hx, h0⟩ := hc k hk
  exact ⟨x, (World.cell?_of_block (hg.block b hb (ne_someK (hcr b off hl e)))).trans hx, h0⟩
theorem code_farK {w : World} {A : Option Addr} {n c len r : Nat} {zs : List Int} (h : IsRow .u8 w A n c zs) (hl : len ≤ n) (hr : w.heap.size ≤ r) : ∀ b off, 0 < len → A = some ⟨b, off, none⟩ → b ≠ r := by
  intro b off h0 e
  rcases h with ⟨_, h1, _⟩ | ⟨x, rfl, h1, h2, h3, hc, hw⟩
  · omega
  · injection e with e
    subst e
    have := lt_of_cell (hc 0 (by omega))
    rw [block_of_add] at this
    simp only at this
    omega
def ArrK (g r n : Nat) (lo hi : Int) (w : World) (v : Value) : Prop :=
  ∃ b, v = .slice (some ⟨b, 0, none⟩) n n ∧ (b ≠ g ∧ b ≠ r) ∧ b < w.heap.size ∧ ∀ k, k < n → ∃ x : Int, w.cell? ⟨b, k, none⟩ = some (.int .i64 x) ∧ lo ≤ x ∧ x ≤ hi
def ElK (g r : Nat) (lo hi : Int) (w : World) (v : Value) : Prop := ∃ b j, v = .pointer (some ⟨b, j, none⟩) ∧ (b ≠ g ∧ b ≠ r) ∧ b < w.heap.size ∧ ∃ x : Int, w.cell? ⟨b, j, none⟩ = some (.int .i64 x) ∧ lo ≤ x ∧ x ≤ hi
theorem stK_arr (g r n : Nat) (u : Fld) (lo hi : Int) : StableG (K2 g r u) (ArrK g r n lo hi) := by
  rintro w w' v hg ⟨b, rfl, hne, hb, hc⟩
  refine ⟨b, rfl, hne, Nat.lt_of_lt_of_le hb hg.2.1, fun k hk => ?_⟩
  obtain ⟨x, hx, h0⟩ := hc k hk
  exact ⟨x, hg.cell hb hne.1 hne.2 hx, h0⟩
theorem stK_el (g r : Nat) (u : Fld) (lo hi : Int) : StableG (K2 g r u) (ElK g r lo hi) := by
  rintro w w' v hg ⟨b, j, rfl, hne, hb, x, hx, h0⟩
  exact ⟨b, j, rfl, hne, Nat.lt_of_lt_of_le hb hg.2.1, x, hg.cell hb hne.1 hne.2 hx, h0⟩
section
variable {o : Oper} {a : Act} {w : World} {K : Act → World → Prop} {Q : Exit → Act → World → Prop}
/-- A machine is read whole. -/
theorem ob_loadK (x : Operand) {b : Nat} {u : Fld} (ho : o.op = .load 26 x) (hx : a.eval x = .pointer (some ⟨b, 0, none⟩)) (hb : HasK w b u) (h : K (a.put o.dst u.val) w) : o.wp Try.prog a w K Q := by
  have x0 := Blk.cell hb 0
  have x1 := Blk.cell hb 1
  have x2 := Blk.cell hb 2
  have x3 := Blk.cell hb 3
  have x4 := Blk.cell hb 4
  simp only [Fld.cs, List.getElem?_toArray, List.getElem?_cons_succ, List.getElem?_cons_zero] at x0 x1 x2 x3 x4
  have hr : (Instr.loadAt 26 (.pointer (some ⟨b, 0, none⟩))).run Try.prog w = .ok u.val w := by
    unfold Fld.val Fld.cs
    simp [go_sem, x0, x1, x2, x3, x4]
  unfold Oper.wp execOp
  simp only [ho, hx, hr, Sem.run_bind, Sem.run_pure, Result.andThen_ok]
  exact h
theorem ob_storeK (x y : Operand) {r : Nat} {z u : Fld} (ho : o.op = .store 26 x y) (hd : o.dst = none) (hx : a.eval x = .pointer (some ⟨r, 0, none⟩)) (hy : a.eval y = u.val) (hv : HasK w r z)
    (h : K (a.put o.dst undef) (setK w r u)) : o.wp Try.prog a w K Q := by
  have x0 := Blk.cell hv 0
  have x1 := Blk.cell hv 1
  have x2 := Blk.cell hv 2
  have x3 := Blk.cell hv 3
  have x4 := Blk.cell hv 4
  have f0 := Blk.frozen hv 0
  have f1 := Blk.frozen hv 1
  have f2 := Blk.frozen hv 2
  have f3 := Blk.frozen hv 3
  have f4 := Blk.frozen hv 4
  simp only [Fld.cs, List.getElem?_toArray, List.getElem?_cons_succ, List.getElem?_cons_zero] at x0 x1 x2 x3 x4
  have hr : (Instr.storeAt 26 (.pointer (some ⟨r, 0, none⟩)) u.val).run Try.prog w = .ok () (setK w r u) := by
    unfold Fld.val Fld.cs
    simp [go_sem, setK, setN, x0, x1, x2, x3, x4, f0, f1, f2, f3, f4]
  unfold Oper.wp execOp
  simp only [ho, hx, hy, hr, Sem.run_bind, Sem.run_pure, Result.andThen_ok]
  exact h
end
/-- The reader's making, with what it takes of the code. -/
theorem open_anyK (A : Option Addr) (n c : Nat) (zs : List Int) (w : World) (h : IsRow .u8 w A n c zs) :
    Calls Try.prog 45 #[.slice A n c] w fun e w' => ∃ len cap, e = .returned (.pointer (some ⟨w.heap.size, 0, none⟩)) ∧ Rd w' w.heap.size A len cap 0 ∧ Below w.heap.size w w' ∧ len ≤ n := by
  have hn : n ≤ c ∧ c ≤ 9223372036854775807 := by
    rcases h with ⟨_, h1, h2, _⟩ | ⟨x, _, h1, h2, _⟩
    · omega
    · unfold maxLen at h2; omega
  by_cases h0 : n ≤ 2000
  · have hc := code_of_row (g := w.heap.size) h (Nat.le_refl n) (Nat.le_refl _)
    have H := Lib.hid hc
    have hh := Lib.hid h
    clear hc h
    have h2 : ¬ (2000 < n) := by omega
    go_enter Try.func45, Try.ntmps45
    go_wp2
    go_ret
    exact ⟨n, c, rfl, ⟨Blk.new _ _ _, H.out.grown (World.grownBy_alloc _ _ _), h0, hn.1⟩, (Below.refl _ _).alloc (Nat.le_refl _) _, Nat.le_refl _⟩
  · have hc := code_of_row (g := w.heap.size) h (show 2000 ≤ n by omega) (Nat.le_refl _)
    have H := Lib.hid hc
    have hh := Lib.hid h
    clear hc h
    have h2 : 2000 < n := by omega
    have h3 : 2000 ≤ c := by omega
    have h4 : c ≤ 9223372036854775807 := hn.2
    go_enter Try.func45, Try.ntmps45
    go_wp2
    go_ret
    exact ⟨2000, c, rfl, ⟨Blk.new _ _ _, H.out.grown (World.grownBy_alloc _ _ _), by omega, h3⟩, (Below.refl _ _).alloc (Nat.le_refl _) _, by omega⟩
def zFld : Fld := ⟨0, none, 0, 0, [], none, 0, 0, [], 0, 0⟩
theorem row_alloc {k : IntKind} {w : World} {A : Option Addr} {n c : Nat} {zs : List Int} (h : IsRow k w A n c zs) (o : Obj) : IsRow k (w.alloc o) A n c zs := by
  rcases h with h | ⟨x, h0, h1, h2, h3, h4, h5⟩
  · exact .inl h
  · refine .inr ⟨x, h0, h1, h2, h3, fun i hi => ?_, h5⟩
    have := h4 i hi
    rw [World.cell?_alloc_lt w o _ (lt_of_cell this)]
    exact this
/-- A background, a line and changes, drawn. -/
def GivesBL (w : World) (e : Ending) (w' : World) : Prop := ∃ (f : Fld) (Y : Int) (A : Option Addr) (c : Nat) (ts : List Tri) (g : Nat), e = .returned (.tuple #[f.val, .int .i64 Y, .slice A ts.length c]) ∧ (Sure g (fun w => FRd w f) w' ∧ FldOk f) ∧ (-1 ≤ Y ∧ Y ≤ 16) ∧ (ts.length ≤ c ∧ (A = none → c = 0)) ∧ Reads w' w'.heap.size 3 A ts.length (iv (fl3 ts)) ∧ ts.length ≤ 9 ∧ Below w.heap.size w w'
theorem l20Changes_b {w : World} (B : Nat) (hb : B ≤ w.heap.size) (g : Nat) (A : Option Addr) (len cap p : Nat) (h : Rd w g A len cap p) (hp : p ≤ 600000000) :
    Calls Try.prog 48 #[.pointer (some ⟨g, 0, none⟩), .int .i64 14] w (Draws g A len cap p 400 w (TRow 34 B 9)) :=
  (l20Changes_any g A len cap p 14 w h (by omega) (by omega) (by omega)).mono fun e w' ⟨v, e1, ⟨A', c', ts, e2, o, hl⟩, r⟩ => ⟨v, e1, ⟨A', c', ts, e2, own_base o hb, hl⟩, r⟩
theorem stK_trow (E base m g r : Nat) (u : Fld) (hg : g < base) (hr : r < base) : StableG (K2 g r u) (TRow E base m) := by
  rintro w w' v h ⟨A, c, xs, rfl, o, hl⟩
  exact ⟨A, c, xs, rfl, own_same o fun q hq => h.2.2.1 q (o.lt q hq).2 (by have := (o.lt q hq).1; omega) (by have := (o.lt q hq).1; omega), hl⟩
set_option maxRecDepth 100000 in
set_option maxHeartbeats 4000000 in
theorem drawBeamLine_any (A : Option Addr) (n c : Nat) (zs : List Int) (w : World) (h : IsRow .u8 w A n c zs) :
    Calls Try.prog 11 #[.slice A n c] w (GivesBL w) := by
  obtain ⟨W0, hW0⟩ : ∃ W0, W0 = w.alloc (.cells zeroF 26) := ⟨_, rfl⟩
  have HI := Lib.hid (show IsRow .u8 W0 A n c zs by rw [hW0]; exact row_alloc h _)
  have HZ := Lib.hid (show HasK W0 w.heap.size zFld by rw [hW0]; exact Blk.new _ _ _)
  have HB0 := Lib.hid (show Below w.heap.size w W0 by rw [hW0]; exact (Below.refl _ _).alloc (Nat.le_refl _) _)
  have hs0 : W0.heap.size = w.heap.size + 1 := by rw [hW0, World.size_alloc]
  replace hW0 := Lib.hid hW0
  have HX0 := Lib.hid h
  clear h
  go_enter Try.func11, Try.ntmps11
  go_wp2_with fail
  change Calls _ _ _ (w.alloc (.cells zeroF 26)) _
  rw [← hW0.out]
  refine (open_anyK A n c zs _ HI.out).mono ?_
  rintro e w1 ⟨len, cap, rfl, hR, hb1, hlen⟩
  have hcr := code_farK HX0.out hlen (Nat.le_refl w.heap.size)
  have HR := Lib.hid (show HasK w1 w.heap.size zFld from Blk.below HZ.out hb1 HZ.out.lt)
  have HB := Lib.hid (below_step HB0.out hb1 (by omega))
  obtain ⟨g, hg0⟩ : ∃ g, g = W0.heap.size := ⟨_, rfl⟩
  rw [← hg0] at hR ⊢
  rw [hs0] at hg0
  have hgw : w.heap.size < g := by omega
  have HD := Lib.hid (Drs.start hR)
  have hgl := hR.lt
  clear hR hb1 HZ HB0 HI hs0 hg0
  go_wp2_with fail
  refine (l20Field_d HD.out 14 (by omega) (by omega) (by omega)).mono ?_
  rintro e W' ⟨v, rfl, ⟨x, rfl, hsure, hok⟩, hD, hgr⟩
  replace HD := Lib.hid hD
  clear hD
  have hx : x.val = .agg #[.int .i64 x.W, .slice x.A x.n x.c, .slice x.T x.tn x.tc, .int .i64 x.sx, .int .i64 x.sy] := rfl
  rw [hx]
  go_upto_region 3 with (fail)
  have HS := Lib.hid hsure
  replace HR := Lib.hid (HR.out.kept hgr (by intro e; injection e with e; omega))
  clear hgr hsure
  obtain ⟨W2, hW2⟩ : ∃ W2, W2 = W'.alloc (.cells x.cs 26) := ⟨_, rfl⟩
  change Code.wp _ _ _ _ (W'.alloc (.cells x.cs 26))
  rw [← hW2]
  have hsz := HD.out.size.2
  have hrl := HR.out.lt
  have hbw2 : Below W'.heap.size W' W2 := by rw [hW2]; exact (Below.refl _ _).alloc (Nat.le_refl _) _
  have HV := Lib.hid (show HasK W2 W'.heap.size x by rw [hW2]; exact Blk.new _ _ _)
  replace HR := Lib.hid (show HasK W2 w.heap.size zFld from Blk.below HR.out hbw2 HR.out.lt)
  replace HD := Lib.hid (HD.out.below hbw2)
  replace HS := Lib.hid (HS.out.keep (Keep.of_below hbw2))
  obtain ⟨bx, hbx⟩ : ∃ bx, bx = W'.heap.size := ⟨_, rfl⟩
  rw [← hbx] at HV ⊢
  obtain ⟨r, hr⟩ : ∃ r, r = w.heap.size := ⟨_, rfl⟩
  have hnb : bx ≠ g ∧ bx ≠ r := ⟨by omega, by omega⟩
  have hgr2 : g ≠ r := by omega
  rw [← hr] at HR hcr ⊢
  have HRW := Lib.hid hr
  clear hr
  replace hW2 := Lib.hid hW2
  replace hbx := Lib.hid hbx
  clear hbw2
  go_wp2_with fail
  refine (pick_d HD.out 18 (by omega) (by omega) (by omega)).mono ?_
  rintro e W' ⟨v, rfl, ⟨y, rfl, y0, y1⟩, hD, hgr⟩
  replace HD := Lib.hid hD
  clear hD
  replace HR := Lib.hid (HR.out.kept hgr (by intro e; injection e with e; omega))
  replace HV := Lib.hid (HV.out.kept hgr (by intro e; injection e with e; omega))
  replace HS := Lib.hid (HS.out.rd hgr)
  clear hgr
  go_upto_region 4 with (fail)
  obtain ⟨Y, hY⟩ : ∃ Y, y - 1 = Y := ⟨_, rfl⟩
  have hY2 : -1 ≤ Y ∧ Y ≤ 16 := by omega
  rw [hY]
  replace hY := Lib.hid hY
  clear y0 y1
  have hgb : g < W'.heap.size := by have := HD.out.size; omega
  have hrb : r < W'.heap.size := HR.out.lt
  obtain ⟨p, hp1, hR⟩ := HD.out.rd
  have hp : p ≤ 100000 := by omega
  refine region_tailG 5 (K2 g r x) (IsVal ((x).val) :: IntIn (Y) (Y) :: IsPtr g :: TRow 34 W'.heap.size 9 :: (fun w _ => HasK w r x) :: []) (fun n w' => K2 g r x W' w' ∧ (∃ p' : Nat, p' + 400 * n ≤ p + 2000 ∧ Rd w' g A len cap p') ∧ ∃ z, HasK w' r z) ?_ ?_ ?_ ?_ ?_ ?_ ?_ ?_ ?_ ?_ ?_
  · kernel_rfl
  · exact ⟨(fun _ _ _ _ h => h), (fun _ _ _ _ h => h), (fun _ _ _ _ h => h), stK_trow _ _ _ _ _ _ hgb hrb, (fun _ _ _ h hv => h.2.2.2 hv), trivial⟩
  · simp
  · exact of_decide_eq_true (by kernel_rfl)
  · kernel_rfl
  · kernel_rfl
  · kernel_rfl
  · kernel_rfl
  · exact ⟨K2.of (grown_drew _ _) hgr2, ⟨p, by simp, hR⟩, _, HR.out⟩
  · refine each_cons ?_ (each_cons ?_ (each_cons ?_ (each_cons ?_ (each_cons ?_ ( trivial)))))
    · intro n vs aa w' haa hJ hd K hK
      refine ob_plain rfl ?_
      have hbv := (HV.out).keptG hJ.1 hnb
      refine ob_loadK _ (b := bx) (u := x) rfl (ev_of haa (by kernel_rfl)) hbv ?_
      refine hK _ _ ?_ (K2.refl _ _ _ _) ⟨hJ.1, (by obtain ⟨p', h1, h2⟩ := hJ.2.1; exact ⟨p', by omega, h2⟩), hJ.2.2⟩
      show (IsVal ((x).val)) w' _
      exact rfl
    · intro n vs aa w' haa hJ hd K hK
      refine ob_plain rfl ?_
      refine ob_move _ (v := .int .i64 (Y)) rfl (ev_of haa (by kernel_rfl)) ?_
      refine hK _ _ ?_ (K2.refl _ _ _ _) ⟨hJ.1, (by obtain ⟨p', h1, h2⟩ := hJ.2.1; exact ⟨p', by omega, h2⟩), hJ.2.2⟩
      show (IntIn (Y) (Y)) w' _
      exact ⟨_, rfl, Int.le_refl _, Int.le_refl _⟩
    · intro n vs aa w' haa hJ hd K hK
      refine ob_plain rfl ?_
      refine ob_move _ (v := .pointer (some ⟨g, 0, none⟩)) rfl (ev_of haa (by kernel_rfl)) ?_
      refine hK _ _ ?_ (K2.refl _ _ _ _) ⟨hJ.1, (by obtain ⟨p', h1, h2⟩ := hJ.2.1; exact ⟨p', by omega, h2⟩), hJ.2.2⟩
      show (IsPtr g) w' _
      exact rfl
    · intro n vs aa w' haa hJ hd K hK
      refine ob_plain rfl ?_
      have d2 : (IsPtr g) w' (vs 2) := hd.1 rfl
      have e2 := d2
      obtain ⟨hg', ⟨p', hp', hr'⟩, z, hz⟩ := hJ
      refine ob_call 48 _ _ #[.pointer (some ⟨g, 0, none⟩), .int .i64 (14)] rfl (Eq.trans (b := #[vs 2, .int .i64 (14)]) (evs_of haa (by kernel_rfl)) (by rw [e2])) (fun _ _ => by kernel_rfl) ?_
      refine (l20Changes_b W'.heap.size hg'.2.1 g A len cap p' hr' (by omega)).mono ?_
      rintro e w2 ⟨v, rfl, hv, hg2, p2, hp2, hr2⟩
      refine ⟨_, rfl, ?_⟩
      refine hK _ _ ?_ (K2.of hg2 hgr2) ⟨hg'.trans (K2.of hg2 hgr2), ⟨p2, by omega, hr2⟩, z, hz.kept hg2 (ne_someK hgr2)⟩
      show (TRow 34 W'.heap.size 9) _ _
      exact hv
    · intro n vs aa w' haa hJ hd K hK
      refine ob_plain rfl ?_
      have d0 : (IsVal ((x).val)) w' (vs 0) := hd.1 rfl
      have e0 := d0
      refine ob_storeK _ _ (r := r) (u := x) rfl rfl (ev_of haa (by kernel_rfl)) (Eq.trans (b := vs 0) (ev_of haa (by kernel_rfl)) e0) hJ.2.2.choose_spec ?_
      have hst := hJ.2.2.choose_spec.set x
      refine hK undef _ ?_ (K2.store hJ.2.2.choose_spec) ⟨hJ.1.trans (K2.store hJ.2.2.choose_spec), (by obtain ⟨p', h1, h2⟩ := hJ.2.1; exact ⟨p', by omega, h2.storeK hst.2 hgr2 hcr⟩), _, hst.1⟩
      exact hst.1
  intro vs w' hJ hall
  have hM : vs 0 = x.val := hall 0 (by decide)
  obtain ⟨Z, hY9, z0, z1⟩ : IntIn Y Y w' (vs 1) := hall 1 (by decide)
  obtain rfl : Z = Y := by omega
  obtain ⟨A7, c7, ts, hT, o7, l7⟩ : TRow 34 W'.heap.size 9 w' (vs 3) := hall 3 (by decide)
  have hru : HasK w' r x := hall 4 (by decide)
  clear hall
  obtain ⟨hg, ⟨p', hp', hr'⟩, -⟩ := hJ
  have HG := Lib.hid hg
  replace HS := Lib.hid (HS.out.keep (hg.keep HR.out))
  have h2 := HB.out.grown HD.out.hg HB.out.size (by intro k hk; injection hk with hk; omega)
  clear hr' hg hR
  simp only [List.take_succ_cons, List.take_zero, List.drop_succ_cons, List.drop_zero, fill, Act.put, List.toList_toArray, List.setIfInBounds_toArray, List.set_cons_zero, List.set_cons_succ, Nat.zero_add, Nat.reduceAdd, hM, hT, hY9]
  have hr0 : Blk w' r 26 #[.int .i64 x.W, .slice x.A x.n x.c, .slice x.T x.tn x.tc, .int .i64 x.sx, .int .i64 x.sy] := hru
  have v0 := Blk.cell hr0 0
  have v1 := Blk.cell hr0 1
  have v2 := Blk.cell hr0 2
  have v3 := Blk.cell hr0 3
  have v4 := Blk.cell hr0 4
  simp only [List.getElem?_toArray, List.getElem?_cons_succ, List.getElem?_cons_zero] at v0 v1 v2 v3 v4
  replace hr0 := Lib.hid hr0
  go_wp2_with fail
  refine bodyPost_ret (v := .tuple #[x.val, .int .i64 Z, .slice A7 ts.length c7]) (by rw [hx]; simp [results, Try.results11, go_sem, v0, v1, v2, v3, v4]) rfl ?_
  exact ⟨x, Z, A7, c7, ts, g, rfl, ⟨HS.out, hok⟩, hY2, ⟨own_cap o7, own_nilc o7⟩, Reads.of_own o7, l7, ⟨HG.out.1.1.trans h2.os, HG.out.1.2.1.trans h2.tape, HG.out.1.2.2.trans h2.output, Nat.le_trans h2.size HG.out.2.1, fun k hk => (HG.out.2.2.1 k (Nat.lt_of_lt_of_le hk h2.size) (by omega) (by have := HRW.out; omega)).trans (h2.block k hk)⟩⟩
end Go.Proofs.Ytkcabllnlbcgdaa
