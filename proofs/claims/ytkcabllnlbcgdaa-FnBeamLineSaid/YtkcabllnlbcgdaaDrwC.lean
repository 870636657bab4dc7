/-
  What the statements on changes and stops draw: lists of structs of three numbers. No condition.
-/
import Derived.Test.YtkcabllnlbcgdaaDrw
import Derived.Test.YtkcabllnlbcgdaaTypedT
import Derived.Test.YtkcabllnlbcgdaaTriE
import Derived.Test.YtkcabllnlbcgdaaGrow
namespace Go.Proofs.Ytkcabllnlbcgdaa
open Go.RowKit
set_option linter.unusedVariables false
set_option linter.unusedSimpArgs false
theorem push_change_inf : (Try.prog.info? 34).map (fun i => (i.zero, i.size, i.bytes)) = some (some (t3 (0, 0, 0)), 3, 24) := by kernel_rfl
set_option maxRecDepth 8000 in
/-- append of some structs that lie elsewhere. -/
theorem push_change {ops : Array Oper} {rest : List Oper} {o : Oper} {a : Act} {Q : Exit → Act → World → Prop} (w : World) (hgd : o.guard = none) (s x : Operand)
    (ho : o.op = .call { callee := .builtin .append, args := #[s, x], argTypes := #[27, 27] })
    (base n c m d B : Nat) (A X : Option Addr) (xs ys : List Int) (hs : a.eval s = .slice A n c) (hx : a.eval x = .slice X m d)
    (hown : w.ownsRow base 34 3 (.slice A n c) n (iv xs)) (hy : Reads w B 3 X m (iv ys)) (hd : X = none → d = 0) (hn : n + m ≤ 10000000) (hb : base ≤ w.heap.size)
    (h : ∀ A' c' w', w'.ownsRow base 34 3 (.slice A' (n + m) c') (n + m) (iv (xs ++ ys)) → w.grownBy w' (Value.slice A n c).ownBlock → wpList Try.prog ops Q rest (a.put o.dst (.slice A' (n + m) c')) w') :
    wpList Try.prog ops Q (o :: rest) a w := by
  obtain ⟨i0, hi0, hz0, hz1, hz2⟩ := info_parts push_change_inf
  cases X with
  | none =>
    have hm : m = 0 := by
      rcases Nat.eq_zero_or_pos m with h0 | h0
      · exact h0
      · obtain ⟨ad, e, _⟩ := hy.2 h0; cases e
    subst hm
    have hd := hd rfl
    subst hd
    have hl : ys = [] := by have := hy.1; simp [iv_len] at this; exact this
    subst hl
    refine wpList_append_own_none hgd s x 27 ho base 34 i0 3 Try.underlying27 hi0 _ n (iv xs) hs hown hx ?_
    have := h A c w (by simpa using hown) (World.grownBy.refl _ _)
    simpa using this
  | some ad =>
    refine wpList_append_own_at w hgd s x 27 ho base 34 i0 (t3 (0, 0, 0)) 3 24 Try.underlying27 hi0 hz0 hz1 hz2 rfl (by omega) _ n (iv xs) hs hown ad m d (iv ys) hx hy.1 ?_ ?_ (by simp only [maxLen]; omega) (by omega) hb ?_
    · intro j u hj
      have hm : 0 < m := by
        obtain ⟨hk, _⟩ := iv_get hj
        have := hy.1; rw [iv_len] at this
        rcases Nat.eq_zero_or_pos m with h0 | h0
        · subst h0; omega
        · exact h0
      obtain ⟨ad', e, _, hc⟩ := hy.2 hm
      injection e with e
      subst e
      exact hc j u hj
    · intro u hu
      simp only [iv, List.mem_map] at hu
      obtain ⟨z, _, rfl⟩ := hu
      rfl
    · intro v' w' ho' hg' _ hat
      obtain ⟨A', c', rfl⟩ := own_form ho'
      rw [← iv_append] at ho'
      exact h A' c' w' ho' hg'
theorem fl3_app : ∀ ts us : List Tri, fl3 (ts ++ us) = fl3 ts ++ fl3 us
  | [], us => rfl
  | t :: ts, us => by simp [fl3, fl3_app ts us]
/-- A list of structs of three numbers in a block from base on. -/
def TRow (E base m : Nat) (w : World) (v : Value) : Prop := ∃ A c ts, v = .slice A ts.length c ∧ w.ownsRow base E 3 (.slice A ts.length c) ts.length (iv (fl3 ts)) ∧ ts.length ≤ m
theorem st_trow (E base m g : Nat) (hb : g < base) : Stable (some g) (TRow E base m) := by
  rintro w w' v hg ⟨A, c, xs, rfl, o, h⟩
  exact ⟨A, c, xs, rfl, own_rd o hg hb, h⟩
/-- Three cells of a box of the call's own. -/
theorem reads_lit3 {w : World} {E : TypeId} (ts : List Tri) (cs : Array Value) (h : cs.toList = iv (fl3 ts)) (hm : ts.length ≤ 1000) : Reads (w.alloc (.cells cs E)) (w.heap.size + 1) 3 (some ⟨w.heap.size, 0, none⟩) ts.length (iv (fl3 ts)) := by
  have hs : cs.size = ts.length * 3 := by rw [← Array.length_toList, h, iv_len, fl3_len]
  have o : (w.alloc (.cells cs E)).ownsRow w.heap.size E 3 (.slice (some ⟨w.heap.size, 0, none⟩) ts.length ts.length) ts.length cs.toList := World.ownsRow_lit w cs ts.length (Nat.le_refl _) (by simp only [maxLen]; omega) hs
  rw [h] at o
  have := Reads.of_own o
  simpa using this
theorem own3_set {w : World} {g c n base E : Nat} {ts : List Tri} (h : w.ownsRow base E 3 (.slice (some ⟨g, 0, none⟩) n c) n (iv (fl3 ts))) (hl : ts.length = n) (hn : 0 < n) (f : Nat) (hf : f < 3) (y : Int) :
    (∃ v, w.cell? ⟨g, f, none⟩ = some v) ∧ w.frozen? ⟨g, f, none⟩ = false ∧ ∃ ts' : List Tri, ts'.length = n ∧ (w.setCell ⟨g, f, none⟩ (.int .i64 y)).ownsRow base E 3 (.slice (some ⟨g, 0, none⟩) n c) n (iv (fl3 ts')) ∧ w.grownBy (w.setCell ⟨g, f, none⟩ (.int .i64 y)) (some g) := by
  have hm : (iv (fl3 ts)).length = n * 3 := h.1
  refine ⟨⟨(iv (fl3 ts))[f]'(by omega), (h.cellAt f (by omega)).trans (List.getElem?_eq_getElem (by omega))⟩, h.frozenAt f, ?_⟩
  obtain ⟨a1, b1⟩ := h.stored f (.int .i64 y)
  match ts, hl with
  | t :: r, hl =>
    have : f = 0 ∨ f = 1 ∨ f = 2 := by omega
    rcases this with rfl | rfl | rfl
    · exact ⟨(y, t.2.1, t.2.2) :: r, by simpa using hl, by simpa [fl3, iv] using a1, b1⟩
    · exact ⟨(t.1, y, t.2.2) :: r, by simpa using hl, by simpa [fl3, iv] using a1, b1⟩
    · exact ⟨(t.1, t.2.1, y) :: r, by simpa using hl, by simpa [fl3, iv] using a1, b1⟩
  | [], hl => simp at hl; omega
def AggT (_ : World) (v : Value) : Prop := ∃ t : Tri, v = t3 t
theorem st_agg (g : Nat) : Stable (some g) AggT := fun _ _ _ _ h => h
def LitT (g : Nat) (w : World) (v : Value) : Prop := ∃ (b : Nat) (t : Tri), v = .slice (some ⟨b, 0, none⟩) 1 1 ∧ b ≠ g ∧ b < w.heap.size ∧ w.cell? ⟨b, 0, none⟩ = some (.int .i64 t.1) ∧ w.cell? ⟨b, 1, none⟩ = some (.int .i64 t.2.1) ∧ w.cell? ⟨b, 2, none⟩ = some (.int .i64 t.2.2)
theorem st_lit (g : Nat) : Stable (some g) (LitT g) := by
  rintro w w' v hg ⟨b, t, rfl, hne, hb, h0, h1, h2⟩
  have hc : ∀ o, w'.cell? ⟨b, o, none⟩ = w.cell? ⟨b, o, none⟩ := fun o => World.cell?_of_block (hg.block b hb (by intro e; injection e with e; exact hne e))
  exact ⟨b, t, rfl, hne, Nat.lt_of_lt_of_le hb hg.size, (hc 0).trans h0, (hc 1).trans h1, (hc 2).trans h2⟩
theorem LitT.reads {g : Nat} {w : World} {b : Nat} {t : Tri} (hb : b < w.heap.size) (h0 : w.cell? ⟨b, 0, none⟩ = some (.int .i64 t.1)) (h1 : w.cell? ⟨b, 1, none⟩ = some (.int .i64 t.2.1)) (h2 : w.cell? ⟨b, 2, none⟩ = some (.int .i64 t.2.2)) : Reads w w.heap.size 3 (some ⟨b, 0, none⟩) 1 (iv (fl3 [t])) := by
  refine ⟨by simp [fl3, iv], fun _ => ⟨_, rfl, hb, fun j u hu => ?_⟩⟩
  match j, hu with
  | 0, hu => simp [fl3, iv] at hu; subst hu; simpa [Addr.add] using h0
  | 1, hu => simp [fl3, iv] at hu; subst hu; simpa [Addr.add] using h1
  | 2, hu => simp [fl3, iv] at hu; subst hu; simpa [Addr.add] using h2
theorem lit_new {g : Nat} {E : TypeId} (t : Tri) (w : World) (hg : w.heap.size ≠ g) : LitT g (w.alloc (.cells #[.int .i64 t.1, .int .i64 t.2.1, .int .i64 t.2.2] E)) (.slice (some ⟨w.heap.size, 0, none⟩) 1 1) :=
  ⟨_, t, rfl, hg, by simp, cell_new _ _ _ 0, cell_new _ _ _ 1, cell_new _ _ _ 2⟩
theorem grownBy_set (w : World) (b i : Nat) (v : Value) : w.grownBy (w.setCell ⟨b, i, none⟩ v) (some b) := ⟨rfl, rfl, rfl, by simp, fun k hk hne => Below.heap_setCell w ⟨b, i, none⟩ _ k (by intro e; exact hne (by rw [e]))⟩
set_option maxRecDepth 100000 in
set_option maxHeartbeats 4000000 in
theorem l20Changes_any (g : Nat) (A : Option Addr) (len cap p0 : Nat) (n : Int) (w : World) (h : Rd w g A len cap p0) (hp0 : p0 ≤ 800000000) (n0 : 0 ≤ n) (n1 : n ≤ 1000000000) :
    Calls Try.prog 48 #[.pointer (some ⟨g, 0, none⟩), .int .i64 n] w (Draws g A len cap p0 400 w (TRow 34 w.heap.size 9)) := by
  have hown0 : (w.alloc (.cells #[] 34)).ownsRow w.heap.size 34 3 (.slice (some ⟨w.heap.size, 0, none⟩) 0 0) 0 (iv (fl3 [])) := World.ownsRow_lit w #[] 0 (Nat.le_refl _) (by simp [maxLen]) rfl
  have HO := Lib.hid hown0
  have hgl := h.lt
  have HD := Lib.hid ((Drs.start h).alloc (.cells #[] 34))
  clear h hown0
  go_enter Try.func48, Try.ntmps48
  go_wp2_with fail
  refine (pick_d HD.out 6 (by omega) (by omega) (by omega)).mono ?_
  rintro e W' ⟨v, rfl, ⟨x, rfl, x0, x1⟩, hD, hgr⟩
  replace HD := Lib.hid hD
  clear hD
  replace HO := Lib.hid (own_rd HO.out hgr hgl)
  clear hgr
  obtain ⟨K0, rfl⟩ := Int.eq_ofNat_of_zero_le x0
  have hK0 : K0 ≤ 5 := by omega
  clear x0 x1
  go_wp2_with fail
  go_loopw [5, 6, 7] (fun out at_ k wr => ∃ (K : Nat) (x : Int) (A' : Option Addr) (c' : Nat) (o : List Tri), out = .slice A' o.length c' ∧ at_ = .int .i64 x ∧ k = .int .i64 K ∧ 0 ≤ x ∧ x ≤ 31 ∧ o.length + K ≤ 5 ∧ wr.ownsRow w.heap.size 34 3 (.slice A' o.length c') o.length (iv (fl3 o)) ∧ Drs w wr g A len cap p0 (p0 + 1 + 10 * (5 - K))) (fun _ _ k _ => (intOf k).toNat)
  case atStart => exact ⟨K0, 0, _, _, [], rfl, rfl, rfl, by omega, by omega, by simpa using hK0, HO.out, HD.out.more (by omega)⟩
  case round =>
    obtain ⟨K, x, A', c', o, rfl, rfl, rfl, hx0, hx1, hl, hown, hD⟩ := hrel
    replace HD := Lib.hid hD
    replace HO := Lib.hid hown
    clear hD hown
    by_cases hlt : 0 < K
    · have q1 : (K : Int) > 0 := by omega
      go_wp2_with fail
      refine (pick_d HD.out 9 (by omega) (by omega) (by omega)).mono ?_
      rintro e W' ⟨v, rfl, ⟨z, rfl, z0, z1⟩, hD, hgr⟩
      replace HD := Lib.hid hD
      clear hD
      replace HO := Lib.hid (own_rd HO.out hgr hgl)
      clear hgr
      by_cases hm : x + z < 31
      · go_wp2_with fail
        refine (pick_d HD.out 256 (by omega) (by omega) (by omega)).mono ?_
        rintro e W' ⟨v, rfl, ⟨sx, rfl, a0, a1⟩, hD, hgr⟩
        replace HD := Lib.hid hD
        clear hD
        replace HO := Lib.hid (own_rd HO.out hgr hgl)
        clear hgr
        go_wp2_with fail
        refine (pick_d HD.out 20 (by omega) (by omega) (by omega)).mono ?_
        rintro e W' ⟨v, rfl, ⟨sy, rfl, b0, b1⟩, hD, hgr⟩
        replace HD := Lib.hid hD
        clear hD
        replace HO := Lib.hid (own_rd HO.out hgr hgl)
        clear hgr
        have hs := HD.out.size
        obtain ⟨W2, hW2⟩ : ∃ W2, W2 = W'.alloc (.cells #[.int .i64 (x + z), .int .i64 sx, .int .i64 sy] 34) := ⟨_, rfl⟩
        have k0 : W2.cell? ⟨W'.heap.size, 0, none⟩ = some (.int .i64 (x + z)) := by rw [hW2]; exact cell_new _ _ _ 0
        have k1 : W2.cell? ⟨W'.heap.size, 1, none⟩ = some (.int .i64 sx) := by rw [hW2]; exact cell_new _ _ _ 1
        have k2 : W2.cell? ⟨W'.heap.size, 2, none⟩ = some (.int .i64 sy) := by rw [hW2]; exact cell_new _ _ _ 2
        have f1 : W2.frozen? ⟨W'.heap.size, 1, none⟩ = false := by rw [hW2]; exact (Blk.new _ _ _).frozen 1
        have f2 : W2.frozen? ⟨W'.heap.size, 2, none⟩ = false := by rw [hW2]; exact (Blk.new _ _ _).frozen 2
        have hne : Hid ((Value.slice A' o.length c').ownBlock ≠ some W'.heap.size) := Lib.hid (by intro e; have := (HO.out.lt _ e).2; omega)
        replace HD := Lib.hid (show Drs w W2 g A len cap p0 _ by rw [hW2]; exact HD.out.alloc _)
        replace HO := Lib.hid (show W2.ownsRow w.heap.size 34 3 (.slice A' o.length c') o.length (iv (fl3 o)) by rw [hW2]; exact HO.out.alloc _)
        have hbx1 : W'.heap.size < W2.heap.size := by rw [hW2]; simp
        obtain ⟨bx, hbx⟩ : ∃ bx, bx = W'.heap.size := ⟨_, rfl⟩
        rw [← hbx] at k0 k1 k2 f1 f2 hne hbx1 hs
        have HW2 := Lib.hid (And.intro hW2 hbx)
        clear hW2 hbx
        by_cases ho : o.length = 0
        · have q2 : ¬ (o.length : Int) > 0 := by omega
          clear ho
          go_upto_region 11 with (fail)
          rw [← HW2.out.1, ← HW2.out.2]
          go_wp2_with (at_builtin; refine push_change _ rfl _ _ rfl w.heap.size o.length c' 1 1 _ A' (some ⟨(W2).heap.size, 0, none⟩) (fl3 o) (fl3 [(x + z, sx, sy)]) rfl rfl (HO.out.alloc _) (reads_lit3 [(x + z, sx, sy)] _ rfl (by simp)) (by intro h; cases h) (by omega) (Nat.le_trans HD.out.size.2 (size_alloc_le _ _)) ?_; intro A3 c3 w3 hown3 hg3; rw [← fl3_app] at hown3; have hD3 := (HD.out.alloc _).push hg3 (fun k hk => (HO.out.lt k hk).1); replace hown3 := Lib.hid hown3; replace hD3 := Lib.hid hD3; clear hg3)
          go_roundw
          case rel => exact ⟨K - 1, x + z, A3, c3, o ++ [(x + z, sx, sy)], by simp, rfl, by rw [show (K : Int) - 1 = ((K - 1 : Nat) : Int) by omega], by omega, by omega, by simp; omega, by rw [List.length_append]; exact hown3.out, hD3.out.more (by omega)⟩
          case measure => simp [intOf]; omega
        · have q2 : (o.length : Int) > 0 := by omega
          go_wp2_with fail
          rw [← HW2.out.1, ← HW2.out.2]
          refine (pick_d HD.out 3 (by omega) (by omega) (by omega)).mono ?_
          rintro e W3 ⟨v, rfl, ⟨u, rfl, u0, u1⟩, hD, hgr⟩
          replace k0 := grown_cell hgr hbx1 (by intro e; injection e with e; omega) k0
          replace k1 := grown_cell hgr hbx1 (by intro e; injection e with e; omega) k1
          replace k2 := grown_cell hgr hbx1 (by intro e; injection e with e; omega) k2
          replace f1 : W3.frozen? ⟨bx, 1, none⟩ = false := (World.frozen?_of_block (hgr.block bx hbx1 (by intro e; injection e with e; omega))).trans f1
          replace f2 : W3.frozen? ⟨bx, 2, none⟩ = false := (World.frozen?_of_block (hgr.block bx hbx1 (by intro e; injection e with e; omega))).trans f2
          replace HO := Lib.hid (own_rd HO.out hgr hgl)
          replace HD := Lib.hid hD
          replace hbx1 := Nat.lt_of_lt_of_le hbx1 hgr.size
          clear hD hgr
          by_cases hu : u = 0
          · subst hu
            obtain ⟨gb, cp, ev, gb0, gb1⟩ := HO.out.form (by omega)
            injection ev with ev _ ec
            subst ev ec
            obtain ⟨-, -, c1, c2⟩ := Tri.cells (Reads.of_own HO.out) (show o.length - 1 < o.length by omega)
            rw [Nat.zero_add] at c1 c2
            have w1 : IntKind.i64.wrap ((o.length : Int) - 1) = ((o.length - 1 : Nat) : Int) := by rw [IntWalk.i64_in _ (by omega)]; omega
            have w2 : (o.length : Int) - 1 = ((o.length - 1 : Nat) : Int) := by omega
            have w3 : ((o.length - 1 : Nat) : Int) < (o.length : Int) := by omega
            generalize ht : o.getD (o.length - 1) (0, 0, 0) = t at c1 c2
            obtain ⟨t0, t1, t2⟩ := t
            have hgx : gb ≠ bx := by intro e; exact hne.out (by rw [e]; rfl)
            obtain ⟨W4, hW4⟩ : ∃ W4, W4 = (W3.setCell ⟨bx, 1, none⟩ (.int .i64 t1)).setCell ⟨bx, 2, none⟩ (.int .i64 t2) := ⟨_, rfl⟩
            have HG4 : Hid (W3.grownBy W4 (some bx)) := Lib.hid (by rw [hW4]; exact (grownBy_set _ _ _ _).trans (grownBy_set _ _ _ _))
            have d0 : W4.cell? ⟨bx, 0, none⟩ = some (.int .i64 (x + z)) := by rw [hW4, World.cell?_setCell_other _ _ _ _ (by simp), World.cell?_setCell_other _ _ _ _ (by simp)]; exact k0
            have d1 : W4.cell? ⟨bx, 1, none⟩ = some (.int .i64 t1) := by rw [hW4]; simp [go_sem, k1]
            have d2 : W4.cell? ⟨bx, 2, none⟩ = some (.int .i64 t2) := by rw [hW4]; simp [go_sem, k2]
            have HW4 := Lib.hid hW4
            clear hW4 ht
            go_upto_region 11 with (fail)
            rw [← HW4.out]
            replace HO := Lib.hid (HO.out.kept HG4.out (.inr hne.out))
            replace HD := Lib.hid (HD.out.push HG4.out (by intro k hk; injection hk with hk; omega))
            clear k0 k1 k2 f1 f2 c1 c2
            go_wp2_with (at_builtin; refine push_change _ rfl _ _ rfl w.heap.size o.length c' 1 1 _ (some ⟨gb, 0, none⟩) (some ⟨(W4).heap.size, 0, none⟩) (fl3 o) (fl3 [(x + z, t1, t2)]) rfl rfl (HO.out.alloc _) (reads_lit3 [(x + z, t1, t2)] _ rfl (by simp)) (by intro h; cases h) (by omega) (Nat.le_trans HD.out.size.2 (size_alloc_le _ _)) ?_; intro A3 c3 w5 hown3 hg3; rw [← fl3_app] at hown3; have hD3 := (HD.out.alloc _).push hg3 (fun k hk => (HO.out.lt k hk).1); replace hown3 := Lib.hid hown3; replace hD3 := Lib.hid hD3; clear hg3)
            go_roundw
            case rel => exact ⟨K - 1, x + z, A3, c3, o ++ [(x + z, t1, t2)], by simp, rfl, by rw [show (K : Int) - 1 = ((K - 1 : Nat) : Int) by omega], by omega, by omega, by simp; omega, by rw [List.length_append]; exact hown3.out, hD3.out.more (by omega)⟩
            case measure => simp [intOf]; omega
          · have hu2 : (u == 0) = false := by simp; omega
            go_upto_region 11 with (fail)
            go_wp2_with (at_builtin; refine push_change _ rfl _ _ rfl w.heap.size o.length c' 1 1 _ A' (some ⟨(W3).heap.size, 0, none⟩) (fl3 o) (fl3 [(x + z, sx, sy)]) rfl rfl (HO.out.alloc _) (reads_lit3 [(x + z, sx, sy)] _ rfl (by simp)) (by intro h; cases h) (by omega) (Nat.le_trans HD.out.size.2 (size_alloc_le _ _)) ?_; intro A3 c3 w3 hown3 hg3; rw [← fl3_app] at hown3; have hD3 := (HD.out.alloc _).push hg3 (fun k hk => (HO.out.lt k hk).1); replace hown3 := Lib.hid hown3; replace hD3 := Lib.hid hD3; clear hg3)
            go_roundw
            case rel => exact ⟨K - 1, x + z, A3, c3, o ++ [(x + z, sx, sy)], by simp, rfl, by rw [show (K : Int) - 1 = ((K - 1 : Nat) : Int) by omega], by omega, by omega, by simp; omega, by rw [List.length_append]; exact hown3.out, hD3.out.more (by omega)⟩
            case measure => simp [intOf]; omega
      · go_wp2_with fail
        refine (pick_d HD.out 256 (by omega) (by omega) (by omega)).mono ?_
        rintro e W' ⟨v, rfl, ⟨sx, rfl, a0, a1⟩, hD, hgr⟩
        replace HD := Lib.hid hD
        clear hD
        replace HO := Lib.hid (own_rd HO.out hgr hgl)
        clear hgr
        go_wp2_with fail
        refine (pick_d HD.out 20 (by omega) (by omega) (by omega)).mono ?_
        rintro e W' ⟨v, rfl, ⟨sy, rfl, b0, b1⟩, hD, hgr⟩
        replace HD := Lib.hid hD
        clear hD
        replace HO := Lib.hid (own_rd HO.out hgr hgl)
        clear hgr
        have hs := HD.out.size
        obtain ⟨W2, hW2⟩ : ∃ W2, W2 = W'.alloc (.cells #[.int .i64 (31), .int .i64 sx, .int .i64 sy] 34) := ⟨_, rfl⟩
        have k0 : W2.cell? ⟨W'.heap.size, 0, none⟩ = some (.int .i64 (31)) := by rw [hW2]; exact cell_new _ _ _ 0
        have k1 : W2.cell? ⟨W'.heap.size, 1, none⟩ = some (.int .i64 sx) := by rw [hW2]; exact cell_new _ _ _ 1
        have k2 : W2.cell? ⟨W'.heap.size, 2, none⟩ = some (.int .i64 sy) := by rw [hW2]; exact cell_new _ _ _ 2
        have f1 : W2.frozen? ⟨W'.heap.size, 1, none⟩ = false := by rw [hW2]; exact (Blk.new _ _ _).frozen 1
        have f2 : W2.frozen? ⟨W'.heap.size, 2, none⟩ = false := by rw [hW2]; exact (Blk.new _ _ _).frozen 2
        have hne : Hid ((Value.slice A' o.length c').ownBlock ≠ some W'.heap.size) := Lib.hid (by intro e; have := (HO.out.lt _ e).2; omega)
        replace HD := Lib.hid (show Drs w W2 g A len cap p0 _ by rw [hW2]; exact HD.out.alloc _)
        replace HO := Lib.hid (show W2.ownsRow w.heap.size 34 3 (.slice A' o.length c') o.length (iv (fl3 o)) by rw [hW2]; exact HO.out.alloc _)
        have hbx1 : W'.heap.size < W2.heap.size := by rw [hW2]; simp
        obtain ⟨bx, hbx⟩ : ∃ bx, bx = W'.heap.size := ⟨_, rfl⟩
        rw [← hbx] at k0 k1 k2 f1 f2 hne hbx1 hs
        have HW2 := Lib.hid (And.intro hW2 hbx)
        clear hW2 hbx
        by_cases ho : o.length = 0
        · have q2 : ¬ (o.length : Int) > 0 := by omega
          clear ho
          go_upto_region 11 with (fail)
          rw [← HW2.out.1, ← HW2.out.2]
          go_wp2_with (at_builtin; refine push_change _ rfl _ _ rfl w.heap.size o.length c' 1 1 _ A' (some ⟨(W2).heap.size, 0, none⟩) (fl3 o) (fl3 [(31, sx, sy)]) rfl rfl (HO.out.alloc _) (reads_lit3 [(31, sx, sy)] _ rfl (by simp)) (by intro h; cases h) (by omega) (Nat.le_trans HD.out.size.2 (size_alloc_le _ _)) ?_; intro A3 c3 w3 hown3 hg3; rw [← fl3_app] at hown3; have hD3 := (HD.out.alloc _).push hg3 (fun k hk => (HO.out.lt k hk).1); replace hown3 := Lib.hid hown3; replace hD3 := Lib.hid hD3; clear hg3)
          go_roundw
          case rel => exact ⟨K - 1, 31, A3, c3, o ++ [(31, sx, sy)], by simp, rfl, by rw [show (K : Int) - 1 = ((K - 1 : Nat) : Int) by omega], by omega, by omega, by simp; omega, by rw [List.length_append]; exact hown3.out, hD3.out.more (by omega)⟩
          case measure => simp [intOf]; omega
        · have q2 : (o.length : Int) > 0 := by omega
          go_wp2_with fail
          rw [← HW2.out.1, ← HW2.out.2]
          refine (pick_d HD.out 3 (by omega) (by omega) (by omega)).mono ?_
          rintro e W3 ⟨v, rfl, ⟨u, rfl, u0, u1⟩, hD, hgr⟩
          replace k0 := grown_cell hgr hbx1 (by intro e; injection e with e; omega) k0
          replace k1 := grown_cell hgr hbx1 (by intro e; injection e with e; omega) k1
          replace k2 := grown_cell hgr hbx1 (by intro e; injection e with e; omega) k2
          replace f1 : W3.frozen? ⟨bx, 1, none⟩ = false := (World.frozen?_of_block (hgr.block bx hbx1 (by intro e; injection e with e; omega))).trans f1
          replace f2 : W3.frozen? ⟨bx, 2, none⟩ = false := (World.frozen?_of_block (hgr.block bx hbx1 (by intro e; injection e with e; omega))).trans f2
          replace HO := Lib.hid (own_rd HO.out hgr hgl)
          replace HD := Lib.hid hD
          replace hbx1 := Nat.lt_of_lt_of_le hbx1 hgr.size
          clear hD hgr
          by_cases hu : u = 0
          · subst hu
            obtain ⟨gb, cp, ev, gb0, gb1⟩ := HO.out.form (by omega)
            injection ev with ev _ ec
            subst ev ec
            obtain ⟨-, -, c1, c2⟩ := Tri.cells (Reads.of_own HO.out) (show o.length - 1 < o.length by omega)
            rw [Nat.zero_add] at c1 c2
            have w1 : IntKind.i64.wrap ((o.length : Int) - 1) = ((o.length - 1 : Nat) : Int) := by rw [IntWalk.i64_in _ (by omega)]; omega
            have w2 : (o.length : Int) - 1 = ((o.length - 1 : Nat) : Int) := by omega
            have w3 : ((o.length - 1 : Nat) : Int) < (o.length : Int) := by omega
            generalize ht : o.getD (o.length - 1) (0, 0, 0) = t at c1 c2
            obtain ⟨t0, t1, t2⟩ := t
            have hgx : gb ≠ bx := by intro e; exact hne.out (by rw [e]; rfl)
            obtain ⟨W4, hW4⟩ : ∃ W4, W4 = (W3.setCell ⟨bx, 1, none⟩ (.int .i64 t1)).setCell ⟨bx, 2, none⟩ (.int .i64 t2) := ⟨_, rfl⟩
            have HG4 : Hid (W3.grownBy W4 (some bx)) := Lib.hid (by rw [hW4]; exact (grownBy_set _ _ _ _).trans (grownBy_set _ _ _ _))
            have d0 : W4.cell? ⟨bx, 0, none⟩ = some (.int .i64 (31)) := by rw [hW4, World.cell?_setCell_other _ _ _ _ (by simp), World.cell?_setCell_other _ _ _ _ (by simp)]; exact k0
            have d1 : W4.cell? ⟨bx, 1, none⟩ = some (.int .i64 t1) := by rw [hW4]; simp [go_sem, k1]
            have d2 : W4.cell? ⟨bx, 2, none⟩ = some (.int .i64 t2) := by rw [hW4]; simp [go_sem, k2]
            have HW4 := Lib.hid hW4
            clear hW4 ht
            go_upto_region 11 with (fail)
            rw [← HW4.out]
            replace HO := Lib.hid (HO.out.kept HG4.out (.inr hne.out))
            replace HD := Lib.hid (HD.out.push HG4.out (by intro k hk; injection hk with hk; omega))
            clear k0 k1 k2 f1 f2 c1 c2
            go_wp2_with (at_builtin; refine push_change _ rfl _ _ rfl w.heap.size o.length c' 1 1 _ (some ⟨gb, 0, none⟩) (some ⟨(W4).heap.size, 0, none⟩) (fl3 o) (fl3 [(31, t1, t2)]) rfl rfl (HO.out.alloc _) (reads_lit3 [(31, t1, t2)] _ rfl (by simp)) (by intro h; cases h) (by omega) (Nat.le_trans HD.out.size.2 (size_alloc_le _ _)) ?_; intro A3 c3 w5 hown3 hg3; rw [← fl3_app] at hown3; have hD3 := (HD.out.alloc _).push hg3 (fun k hk => (HO.out.lt k hk).1); replace hown3 := Lib.hid hown3; replace hD3 := Lib.hid hD3; clear hg3)
            go_roundw
            case rel => exact ⟨K - 1, 31, A3, c3, o ++ [(31, t1, t2)], by simp, rfl, by rw [show (K : Int) - 1 = ((K - 1 : Nat) : Int) by omega], by omega, by omega, by simp; omega, by rw [List.length_append]; exact hown3.out, hD3.out.more (by omega)⟩
            case measure => simp [intOf]; omega
          · have hu2 : (u == 0) = false := by simp; omega
            go_upto_region 11 with (fail)
            go_wp2_with (at_builtin; refine push_change _ rfl _ _ rfl w.heap.size o.length c' 1 1 _ A' (some ⟨(W3).heap.size, 0, none⟩) (fl3 o) (fl3 [(31, sx, sy)]) rfl rfl (HO.out.alloc _) (reads_lit3 [(31, sx, sy)] _ rfl (by simp)) (by intro h; cases h) (by omega) (Nat.le_trans HD.out.size.2 (size_alloc_le _ _)) ?_; intro A3 c3 w3 hown3 hg3; rw [← fl3_app] at hown3; have hD3 := (HD.out.alloc _).push hg3 (fun k hk => (HO.out.lt k hk).1); replace hown3 := Lib.hid hown3; replace hD3 := Lib.hid hD3; clear hg3)
            go_roundw
            case rel => exact ⟨K - 1, 31, A3, c3, o ++ [(31, sx, sy)], by simp, rfl, by rw [show (K : Int) - 1 = ((K - 1 : Nat) : Int) by omega], by omega, by omega, by simp; omega, by rw [List.length_append]; exact hown3.out, hD3.out.more (by omega)⟩
            case measure => simp [intOf]; omega
    · obtain rfl : K = 0 := by omega
      by_cases ho : o.length = 0
      · have q1 : ¬ (o.length : Int) > 0 := by omega
        clear ho
        go_wp2_with fail
        go_ret
        exact draws_of HD.out (by omega) ⟨A', c', o, rfl, HO.out, by omega⟩
      have q1 : (o.length : Int) > 0 := by omega
      go_wp2_with fail
      refine (odd_d HD.out n (by omega) n0 n1).mono ?_
      rintro e W' ⟨v, rfl, ⟨b, rfl, hb⟩, hD, hgr⟩
      replace HD := Lib.hid hD
      clear hD
      replace HO := Lib.hid (own_rd HO.out hgr hgl)
      clear hgr hb
      cases b
      · go_wp2_with fail
        go_ret
        exact draws_of HD.out (by omega) ⟨A', c', o, rfl, HO.out, by omega⟩
      go_wp2_with fail
      refine (pick_d HD.out 3 (by omega) (by omega) (by omega)).mono ?_
      rintro e W' ⟨v, rfl, ⟨z, rfl, z0, z1⟩, hD, hgr⟩
      replace HD := Lib.hid hD
      clear hD
      replace HO := Lib.hid (own_rd HO.out hgr hgl)
      clear hgr
      obtain ⟨gb, cp, ev, gb0, gb1⟩ := HO.out.form (by omega)
      injection ev with ev _ ec
      subst ev ec
      have ho2 : 0 < o.length := by omega
      have ho3 : (0 : Int) < (o.length : Int) := by omega
      by_cases e0 : z = 0
      · subst e0
        clear z0 z1
        go_wp2_with fail
        refine (pick_d (HD.out.alloc _) 2 (by omega) (by omega) (by omega)).mono ?_
        rintro e W3 ⟨v, rfl, ⟨y, rfl, y0, y1⟩, hD, hgr⟩
        have hne := HD.out.size
        have k0 : W3.cell? ⟨W'.heap.size, 0, none⟩ = some (.int .i64 (-1)) := grown_cell hgr (by simp) (by intro e; injection e with e; omega) (cell_new _ _ _ 0)
        have k1 : W3.cell? ⟨W'.heap.size, 1, none⟩ = some (.int .i64 (32)) := grown_cell hgr (by simp) (by intro e; injection e with e; omega) (cell_new _ _ _ 1)
        replace HO := Lib.hid (own_rd (HO.out.alloc _) hgr hgl)
        replace HD := Lib.hid hD
        clear hD hgr
        by_cases ey : y = 0
        · subst ey
          obtain ⟨⟨vf, cf⟩, ff, ts', hl', o', g'⟩ := own3_set HO.out rfl ho2 0 (by omega) (-1)
          replace o' := Lib.hid o'
          replace g' := Lib.hid g'
          replace hl' := Lib.hid hl'
          go_wp2_with fail
          go_ret
          exact draws_of (HD.out.push g'.out (by intro k hk; injection hk with hk; omega)) (by omega) ⟨some ⟨gb, 0, none⟩, c', ts', by simp [hl'.out], by rw [hl'.out]; exact o'.out, by rw [hl'.out]; omega⟩
        · obtain rfl : y = 1 := by omega
          obtain ⟨⟨vf, cf⟩, ff, ts', hl', o', g'⟩ := own3_set HO.out rfl ho2 0 (by omega) (32)
          replace o' := Lib.hid o'
          replace g' := Lib.hid g'
          replace hl' := Lib.hid hl'
          go_wp2_with fail
          go_ret
          exact draws_of (HD.out.push g'.out (by intro k hk; injection hk with hk; omega)) (by omega) ⟨some ⟨gb, 0, none⟩, c', ts', by simp [hl'.out], by rw [hl'.out]; exact o'.out, by rw [hl'.out]; omega⟩
      by_cases e1 : z = 1
      · subst e1
        clear z0 z1 e0
        go_wp2_with fail
        refine (pick_d (HD.out.alloc _) 2 (by omega) (by omega) (by omega)).mono ?_
        rintro e W3 ⟨v, rfl, ⟨y, rfl, y0, y1⟩, hD, hgr⟩
        have hne := HD.out.size
        have k0 : W3.cell? ⟨W'.heap.size, 0, none⟩ = some (.int .i64 (-1)) := grown_cell hgr (by simp) (by intro e; injection e with e; omega) (cell_new _ _ _ 0)
        have k1 : W3.cell? ⟨W'.heap.size, 1, none⟩ = some (.int .i64 (256)) := grown_cell hgr (by simp) (by intro e; injection e with e; omega) (cell_new _ _ _ 1)
        replace HO := Lib.hid (own_rd (HO.out.alloc _) hgr hgl)
        replace HD := Lib.hid hD
        clear hD hgr
        by_cases ey : y = 0
        · subst ey
          obtain ⟨⟨vf, cf⟩, ff, ts', hl', o', g'⟩ := own3_set HO.out rfl ho2 1 (by omega) (-1)
          replace o' := Lib.hid o'
          replace g' := Lib.hid g'
          replace hl' := Lib.hid hl'
          go_wp2_with fail
          go_ret
          exact draws_of (HD.out.push g'.out (by intro k hk; injection hk with hk; omega)) (by omega) ⟨some ⟨gb, 0, none⟩, c', ts', by simp [hl'.out], by rw [hl'.out]; exact o'.out, by rw [hl'.out]; omega⟩
        · obtain rfl : y = 1 := by omega
          obtain ⟨⟨vf, cf⟩, ff, ts', hl', o', g'⟩ := own3_set HO.out rfl ho2 1 (by omega) (256)
          replace o' := Lib.hid o'
          replace g' := Lib.hid g'
          replace hl' := Lib.hid hl'
          go_wp2_with fail
          go_ret
          exact draws_of (HD.out.push g'.out (by intro k hk; injection hk with hk; omega)) (by omega) ⟨some ⟨gb, 0, none⟩, c', ts', by simp [hl'.out], by rw [hl'.out]; exact o'.out, by rw [hl'.out]; omega⟩
      · have f0 : (z == 0) = false := by simp; omega
        have f1 : (z == 1) = false := by simp; omega
        have hs := HD.out.size.2
        go_wp2_with (first | (at_builtin; refine push_change _ rfl _ _ rfl w.heap.size o.length c' 1 1 _ (some ⟨gb, 0, none⟩) (some ⟨W'.heap.size, 0, none⟩) (fl3 o) (fl3 [(0, 0, 0)]) rfl rfl (HO.out.alloc _) (reads_lit3 [(0, 0, 0)] _ rfl (by simp)) (by intro h; cases h) (by omega) (Nat.le_trans hs (size_alloc_le _ _)) ?_; intro A3 c3 w3 hown3 hg3; rw [← fl3_app] at hown3; have hD3 := (HD.out.alloc _).push hg3 (fun k hk => (HO.out.lt k hk).1); replace hown3 := Lib.hid hown3; replace hD3 := Lib.hid hD3; clear hg3) | (at_builtin; refine push_change _ rfl _ _ rfl w.heap.size (o.length + 1) c3 2 2 _ A3 (some ⟨w3.heap.size, 0, none⟩) (fl3 (o ++ [(0, 0, 0)])) (fl3 [(5, 0, 0), (1, 0, 0)]) rfl rfl (hown3.out.alloc _) (reads_lit3 [(5, 0, 0), (1, 0, 0)] _ rfl (by simp)) (by intro h; cases h) (by omega) (Nat.le_trans hD3.out.size.2 (size_alloc_le _ _)) ?_; intro A4 c4 w4 hown4 hg4; rw [← fl3_app] at hown4; have hD4 := (hD3.out.alloc _).push hg4 (fun k hk => (hown3.out.lt k hk).1); replace hown4 := Lib.hid hown4; replace hD4 := Lib.hid hD4; clear hg4))
        go_ret
        exact draws_of hD4.out (by omega) ⟨A4, c4, (o ++ [(0, 0, 0)]) ++ [(5, 0, 0), (1, 0, 0)], by simp, by rw [List.length_append, List.length_append]; exact hown4.out, by simp; omega⟩
theorem l20Changes_d {w W : World} {g len cap p0 q : Nat} {A : Option Addr} (h : Drs w W g A len cap p0 q) (n : Int) (hq : q ≤ 800000000) (h0 : 0 ≤ n) (h1 : n ≤ 1000000000) :
    Calls Try.prog 48 #[.pointer (some ⟨g, 0, none⟩), .int .i64 n] W (Dr w W g A len cap p0 (q + 400) (TRow 34 W.heap.size 9)) :=
  dr_of h 800000000 hq fun p hp hR => l20Changes_any g A len cap p n W hR hp h0 h1
end Go.Proofs.Ytkcabllnlbcgdaa
