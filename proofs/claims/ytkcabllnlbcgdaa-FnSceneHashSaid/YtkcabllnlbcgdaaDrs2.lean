/-
  Sprites that the statements draw: the reference's l20Sprites. No condition.
-/
import Derived.Test.YtkcabllnlbcgdaaDrf
namespace Go.Proofs.Ytkcabllnlbcgdaa
open Go.RowKit
set_option linter.unusedVariables false
set_option linter.unusedSimpArgs false
/-- Sprites in a block from base on. -/
def PRow (base m : Nat) (w : World) (v : Value) : Prop := ∃ A c ss, v = .slice A ss.length c ∧ w.ownsRow base 70 6 (.slice A ss.length c) ss.length (fl6 ss) ∧ ss.length ≤ m
theorem st_prow (base m g : Nat) (hb : g < base) : Stable (some g) (PRow base m) := by
  rintro w w' v hg ⟨A, c, xs, rfl, o, h⟩
  exact ⟨A, c, xs, rfl, own_rd o hg hb, h⟩
theorem fl6_set : ∀ (ss : List Spr) (k f : Nat) (v : Value) (s' : Spr), k < ss.length → f < 6 → s'.cs = (ss.getD k Spr.z).cs.set f v → (fl6 ss).set (k * 6 + f) v = fl6 (ss.set k s')
  | [], k, f, v, s', hk, _, _ => by simp at hk
  | s :: ss, 0, f, v, s', _, hf, h => by
    simp only [List.getD_cons_zero] at h
    simp only [fl6, List.map_cons, List.flatten_cons, Nat.zero_mul, Nat.zero_add, List.set_cons_zero, h]
    rw [List.set_append_left _ _ (by show f < 6; exact hf)]
  | s :: ss, k + 1, f, v, s', hk, hf, h => by
    simp only [List.getD_cons_succ] at h
    have ih := fl6_set ss k f v s' (by simpa using hk) hf h
    simp only [fl6, List.map_cons, List.flatten_cons, List.set_cons_succ] at ih ⊢
    rw [List.set_append_right _ _ (by show 6 ≤ _; rw [Nat.succ_mul]; omega), ← ih]
    congr 2
    show (k + 1) * 6 + f - 6 = k * 6 + f
    omega
theorem own6_set {w : World} {g c base E : Nat} {ss : List Spr} (h : w.ownsRow base E 6 (.slice (some ⟨g, 0, none⟩) ss.length c) ss.length (fl6 ss)) {k f : Nat} (hk : k < ss.length) (hf : f < 6) (v : Value) (s' : Spr) (hs : s'.cs = (ss.getD k Spr.z).cs.set f v) :
    (∃ u, w.cell? ⟨g, k * 6 + f, none⟩ = some u) ∧ w.frozen? ⟨g, k * 6 + f, none⟩ = false ∧ (w.setCell ⟨g, k * 6 + f, none⟩ v).ownsRow base E 6 (.slice (some ⟨g, 0, none⟩) (ss.set k s').length c) (ss.set k s').length (fl6 (ss.set k s')) ∧ w.grownBy (w.setCell ⟨g, k * 6 + f, none⟩ v) (some g) := by
  have hl := fl6_len ss
  obtain ⟨a1, b1⟩ := h.stored (k * 6 + f) v
  refine ⟨⟨_, (h.cellAt (k * 6 + f) (by omega)).trans (List.getElem?_eq_getElem (by omega))⟩, h.frozenAt _, ?_, b1⟩
  rw [fl6_set ss k f v s' hk hf hs] at a1
  simpa using a1
theorem fl6_one (ss : List Spr) : ∀ u ∈ fl6 ss, u.oneCell' = true := fun u hu => by
  simp only [fl6, List.mem_flatten, List.mem_map] at hu
  obtain ⟨l, ⟨s, _, rfl⟩, hu⟩ := hu
  simp only [Spr.cs, List.mem_cons, List.not_mem_nil, or_false] at hu
  rcases hu with rfl | rfl | rfl | rfl | rfl | rfl <;> rfl
theorem sprOneL (s : Spr) : ∀ u ∈ s.cs, u.oneCell' = true := fun u hu => by
  simp only [Spr.cs, List.mem_cons, List.not_mem_nil, or_false] at hu
  rcases hu with rfl | rfl | rfl | rfl | rfl | rfl <;> rfl
theorem reads_litS (W : World) (E : TypeId) (s : Spr) : Reads (W.alloc (.cells s.cs.toArray E)) (W.alloc (.cells s.cs.toArray E)).heap.size 6 (some ⟨W.heap.size, 0, none⟩) 1 s.cs :=
  ⟨rfl, fun _ => ⟨_, rfl, by simp, fun j u hu => by rw [Addr.add_mid, Nat.zero_add, cell_new]; simpa using hu⟩⟩
theorem fl6_app (ss us : List Spr) : fl6 (ss ++ us) = fl6 ss ++ fl6 us := by simp [fl6]
set_option maxRecDepth 100000 in
set_option maxHeartbeats 2000000 in
theorem l20Sprites_any (g : Nat) (A : Option Addr) (len cap p0 : Nat) (M N : Int) (w : World) (h : Rd w g A len cap p0) (hp0 : p0 ≤ 800000000) (m0 : 0 ≤ M) (m1 : M ≤ 1000) (n0 : 0 ≤ N) (n1 : N ≤ 1000000000) :
    Calls Try.prog 94 #[.pointer (some ⟨g, 0, none⟩), .int .i64 M, .int .i64 N] w (Draws g A len cap p0 400 w (PRow w.heap.size 30)) := by
  have hown0 : (w.alloc (.cells #[] 70)).ownsRow w.heap.size 70 6 (.slice (some ⟨w.heap.size, 0, none⟩) 0 0) 0 (fl6 []) := World.ownsRow_lit w #[] 0 (Nat.le_refl _) (by simp [maxLen]) rfl
  have HO := Lib.hid hown0
  have hgl := h.lt
  have HD := Lib.hid ((Drs.start h).alloc (.cells #[] 70))
  clear h hown0
  obtain ⟨M', hM'⟩ : ∃ M', max 1 M = M' := ⟨_, rfl⟩
  have hM1 : 1 ≤ M' ∧ M' ≤ 1000 := by omega
  replace hM' := Lib.hid hM'
  go_enter Try.func94, Try.ntmps94
  go_wp2_with fail
  refine (pick_d HD.out 16 (by omega) (by omega) (by omega)).mono ?_
  rintro e W' ⟨v, rfl, ⟨y9, rfl, y90, y91⟩, hD, hgr⟩
  replace HD := Lib.hid hD
  clear hD
  replace HO := Lib.hid (own_rd HO.out hgr hgl)
  clear hgr
  go_wp2_with fail
  refine (pick_d HD.out 9 (by omega) (by omega) (by omega)).mono ?_
  rintro e W' ⟨v, rfl, ⟨x, rfl, x0, x1⟩, hD, hgr⟩
  replace HD := Lib.hid hD
  clear hD
  replace HO := Lib.hid (own_rd HO.out hgr hgl)
  clear hgr
  obtain ⟨K0, rfl⟩ := Int.eq_ofNat_of_zero_le x0
  have hK0 : K0 ≤ 8 := by omega
  clear x0 x1 y90 y91
  go_wp2_with fail
  go_loopw [7, 9] (fun out k wr => ∃ (K : Nat) (A' : Option Addr) (c' : Nat) (o : List Spr), out = .slice A' o.length c' ∧ k = .int .i64 K ∧ o.length + K ≤ 8 ∧ wr.ownsRow w.heap.size 70 6 (.slice A' o.length c') o.length (fl6 o) ∧ Drs w wr g A len cap p0 (p0 + 2 + 10 * (8 - K))) (fun _ k _ => (intOf k).toNat)
  case atStart => exact ⟨K0, _, _, [], rfl, rfl, by simpa using hK0, HO.out, HD.out.more (by omega)⟩
  case round =>
    obtain ⟨K, A', c', o, rfl, rfl, hl, hown, hD⟩ := hrel
    replace HD := Lib.hid hD
    replace HO := Lib.hid hown
    clear hD hown
    by_cases hlt : 0 < K
    · have q1 : (K : Int) > 0 := by omega
      go_wp2_with fail
      refine (pick_d HD.out 40 (by omega) (by omega) (by omega)).mono ?_
      rintro e W' ⟨v, rfl, ⟨a, rfl, a0, a1⟩, hD, hgr⟩
      replace HD := Lib.hid hD
      clear hD
      replace HO := Lib.hid (own_rd HO.out hgr hgl)
      clear hgr
      go_wp2_with fail
      refine (pick_d HD.out 24 (by omega) (by omega) (by omega)).mono ?_
      rintro e W' ⟨v, rfl, ⟨b, rfl, b0, b1⟩, hD, hgr⟩
      replace HD := Lib.hid hD
      clear hD
      replace HO := Lib.hid (own_rd HO.out hgr hgl)
      clear hgr
      by_cases hM : 1 < M
      · go_wp2_with fail
        refine (pick_d HD.out (M) (by omega) (by omega) (by omega)).mono ?_
        rintro e W' ⟨v, rfl, ⟨u, rfl, u0, u1⟩, hD, hgr⟩
        replace HD := Lib.hid hD
        clear hD
        replace HO := Lib.hid (own_rd HO.out hgr hgl)
        clear hgr
        go_wp2_with fail
        refine (pick_d HD.out 2 (by omega) (by omega) (by omega)).mono ?_
        rintro e W' ⟨v, rfl, ⟨d, rfl, d0, d1⟩, hD, hgr⟩
        replace HD := Lib.hid hD
        clear hD
        replace HO := Lib.hid (own_rd HO.out hgr hgl)
        clear hgr
        go_wp2_with fail
        refine (pick_d HD.out 2 (by omega) (by omega) (by omega)).mono ?_
        rintro e W' ⟨v, rfl, ⟨e, rfl, e0, e1⟩, hD, hgr⟩
        replace HD := Lib.hid hD
        clear hD
        replace HO := Lib.hid (own_rd HO.out hgr hgl)
        clear hgr
        go_wp2_with fail
        refine (pick_d HD.out 3 (by omega) (by omega) (by omega)).mono ?_
        rintro e W' ⟨v, rfl, ⟨f, rfl, f0, f1⟩, hD, hgr⟩
        replace HD := Lib.hid hD
        clear hD
        replace HO := Lib.hid (own_rd HO.out hgr hgl)
        clear hgr
        go_wp2_with fail
        clear a0 a1 b0 b1 u0 u1 d0 d1 e0 e1 f0 f1
        generalize a - 8 = sx
        generalize b - 8 = sy
        generalize (d == 0) = sa
        generalize (e == 0) = sd
        generalize (f == 0) = sb
        refine (pick_d (HD.out.alloc _) 2 (by omega) (by omega) (by omega)).mono ?_
        rintro e9 W3 ⟨v9, rfl, ⟨z, rfl, z0, z1⟩, hD, hgr⟩
        have hs3 := HD.out.size
        have hbl : W'.heap.size < W3.heap.size := Nat.lt_of_lt_of_le (by simp) hgr.size
        have HB := Lib.hid ((Blk.new W' 70 (Spr.mk sx sy u sa sd sb).cs.toArray).rd hgr (by omega))
        have HO3 := Lib.hid (own_rd (HO.out.alloc _) hgr hgl)
        have HD3 := Lib.hid hD
        have HLT := Lib.hid (show ∀ q, (Value.slice A' o.length c').ownBlock = some q → q < W'.heap.size from fun q hq => (HO.out.lt q hq).2)
        clear hD hgr HO HD
        obtain ⟨bs, hbs⟩ : ∃ bs, bs = W'.heap.size := ⟨_, rfl⟩
        rw [← hbs] at HB hbl HLT ⊢
        have hwb : w.heap.size ≤ bs := by omega
        clear hbs hs3
        have c0 := HB.out.cell 0
        have c1 := HB.out.cell 1
        have c2 := HB.out.cell 2
        have c3 := HB.out.cell 3
        have c4 := HB.out.cell 4
        have c5 := HB.out.cell 5
        have g1 := HB.out.frozen 1
        simp only [Spr.cs, List.getElem?_toArray, List.getElem?_cons_succ, List.getElem?_cons_zero] at c0 c1 c2 c3 c4 c5
        by_cases ez : z = 0
        · subst ez
          clear z0 z1
          go_upto_region 9 with (fail)
          have c1 : (W3.setCell ⟨bs, 1, none⟩ (.int .i64 y9)).cell? ⟨bs, 1, none⟩ = some (.int .i64 y9) := by have := (HB.out.set_ 1 (.int .i64 y9)).cell 1; simpa [Spr.cs] using this
          have c0 : (W3.setCell ⟨bs, 1, none⟩ (.int .i64 y9)).cell? ⟨bs, 0, none⟩ = some (.int .i64 sx) := by have := (HB.out.set_ 1 (.int .i64 y9)).cell 0; simpa [Spr.cs] using this
          have c2 : (W3.setCell ⟨bs, 1, none⟩ (.int .i64 y9)).cell? ⟨bs, 2, none⟩ = some (.int .i64 u) := by have := (HB.out.set_ 1 (.int .i64 y9)).cell 2; simpa [Spr.cs] using this
          have c3 : (W3.setCell ⟨bs, 1, none⟩ (.int .i64 y9)).cell? ⟨bs, 3, none⟩ = some (.bool sa) := by have := (HB.out.set_ 1 (.int .i64 y9)).cell 3; simpa [Spr.cs] using this
          have c4 : (W3.setCell ⟨bs, 1, none⟩ (.int .i64 y9)).cell? ⟨bs, 4, none⟩ = some (.bool sd) := by have := (HB.out.set_ 1 (.int .i64 y9)).cell 4; simpa [Spr.cs] using this
          have c5 : (W3.setCell ⟨bs, 1, none⟩ (.int .i64 y9)).cell? ⟨bs, 5, none⟩ = some (.bool sb) := by have := (HB.out.set_ 1 (.int .i64 y9)).cell 5; simpa [Spr.cs] using this
          have HO4 := Lib.hid (own_same HO3.out fun q hq => Below.heap_setCell W3 ⟨bs, 1, none⟩ (.int .i64 y9) q (show q ≠ bs by have := HLT.out q hq; omega))
          have HD4 := Lib.hid (HD3.out.set ⟨bs, 1, none⟩ (.int .i64 y9) hwb)
          obtain ⟨W4, hW4⟩ : ∃ W4, W4 = W3.setCell ⟨bs, 1, none⟩ (.int .i64 y9) := ⟨_, rfl⟩
          rw [← hW4] at c0 c1 c2 c3 c4 c5 HO4 HD4 ⊢
          clear hW4 HO3 HD3 HB g1 hbl
          have hs := HD4.out.size.2
          go_wp2_with (at_builtin; refine push_cells _ rfl _ _ 59 70 (.agg Spr.z.cs.toArray) 6 32 rfl spr_info Try.underlying59 rfl (by decide) (by decide) w.heap.size o.length c' 1 1 _ A' (some ⟨(W4).heap.size, 0, none⟩) (fl6 o) (Spr.mk sx (y9) u sa sd sb).cs rfl rfl (HO4.out.alloc _) (reads_litS _ _ (Spr.mk sx (y9) u sa sd sb)) (sprOneL _) (by intro h; cases h) (by omega) (Nat.le_trans hs (size_alloc_le _ _)) ?_; intro A3 c3 w3 hown3 hg3; have hD5 := Lib.hid ((HD4.out.alloc _).push hg3 (fun k hk => (HO4.out.lt k hk).1)); replace hown3 := Lib.hid hown3; clear hg3)
          go_roundw
          case rel => exact ⟨K - 1, A3, c3, o ++ [Spr.mk sx (y9) u sa sd sb], by simp, by rw [show (K : Int) - 1 = ((K - 1 : Nat) : Int) by omega], by simp; omega, by have := hown3.out; rw [List.length_append, fl6_app]; simpa [fl6] using this, hD5.out.more (by omega)⟩
          case measure => simp [intOf]; omega
        · have f0 : (z == 0) = false := by simp; omega
          clear z0 z1 ez
          go_upto_region 9 with (fail)
          have HO4 := HO3
          have HD4 := HD3
          clear HO3 HD3 HB g1 hbl
          have hs := HD4.out.size.2
          go_wp2_with (at_builtin; refine push_cells _ rfl _ _ 59 70 (.agg Spr.z.cs.toArray) 6 32 rfl spr_info Try.underlying59 rfl (by decide) (by decide) w.heap.size o.length c' 1 1 _ A' (some ⟨(W3).heap.size, 0, none⟩) (fl6 o) (Spr.mk sx (sy) u sa sd sb).cs rfl rfl (HO4.out.alloc _) (reads_litS _ _ (Spr.mk sx (sy) u sa sd sb)) (sprOneL _) (by intro h; cases h) (by omega) (Nat.le_trans hs (size_alloc_le _ _)) ?_; intro A3 c3 w3 hown3 hg3; have hD5 := Lib.hid ((HD4.out.alloc _).push hg3 (fun k hk => (HO4.out.lt k hk).1)); replace hown3 := Lib.hid hown3; clear hg3)
          go_roundw
          case rel => exact ⟨K - 1, A3, c3, o ++ [Spr.mk sx (sy) u sa sd sb], by simp, by rw [show (K : Int) - 1 = ((K - 1 : Nat) : Int) by omega], by simp; omega, by have := hown3.out; rw [List.length_append, fl6_app]; simpa [fl6] using this, hD5.out.more (by omega)⟩
          case measure => simp [intOf]; omega
      · go_wp2_with fail
        refine (pick_d HD.out (1) (by omega) (by omega) (by omega)).mono ?_
        rintro e W' ⟨v, rfl, ⟨u, rfl, u0, u1⟩, hD, hgr⟩
        replace HD := Lib.hid hD
        clear hD
        replace HO := Lib.hid (own_rd HO.out hgr hgl)
        clear hgr
        go_wp2_with fail
        refine (pick_d HD.out 2 (by omega) (by omega) (by omega)).mono ?_
        rintro e W' ⟨v, rfl, ⟨d, rfl, d0, d1⟩, hD, hgr⟩
        replace HD := Lib.hid hD
        clear hD
        replace HO := Lib.hid (own_rd HO.out hgr hgl)
        clear hgr
        go_wp2_with fail
        refine (pick_d HD.out 2 (by omega) (by omega) (by omega)).mono ?_
        rintro e W' ⟨v, rfl, ⟨e, rfl, e0, e1⟩, hD, hgr⟩
        replace HD := Lib.hid hD
        clear hD
        replace HO := Lib.hid (own_rd HO.out hgr hgl)
        clear hgr
        go_wp2_with fail
        refine (pick_d HD.out 3 (by omega) (by omega) (by omega)).mono ?_
        rintro e W' ⟨v, rfl, ⟨f, rfl, f0, f1⟩, hD, hgr⟩
        replace HD := Lib.hid hD
        clear hD
        replace HO := Lib.hid (own_rd HO.out hgr hgl)
        clear hgr
        go_wp2_with fail
        clear a0 a1 b0 b1 u0 u1 d0 d1 e0 e1 f0 f1
        generalize a - 8 = sx
        generalize b - 8 = sy
        generalize (d == 0) = sa
        generalize (e == 0) = sd
        generalize (f == 0) = sb
        refine (pick_d (HD.out.alloc _) 2 (by omega) (by omega) (by omega)).mono ?_
        rintro e9 W3 ⟨v9, rfl, ⟨z, rfl, z0, z1⟩, hD, hgr⟩
        have hs3 := HD.out.size
        have hbl : W'.heap.size < W3.heap.size := Nat.lt_of_lt_of_le (by simp) hgr.size
        have HB := Lib.hid ((Blk.new W' 70 (Spr.mk sx sy u sa sd sb).cs.toArray).rd hgr (by omega))
        have HO3 := Lib.hid (own_rd (HO.out.alloc _) hgr hgl)
        have HD3 := Lib.hid hD
        have HLT := Lib.hid (show ∀ q, (Value.slice A' o.length c').ownBlock = some q → q < W'.heap.size from fun q hq => (HO.out.lt q hq).2)
        clear hD hgr HO HD
        obtain ⟨bs, hbs⟩ : ∃ bs, bs = W'.heap.size := ⟨_, rfl⟩
        rw [← hbs] at HB hbl HLT ⊢
        have hwb : w.heap.size ≤ bs := by omega
        clear hbs hs3
        have c0 := HB.out.cell 0
        have c1 := HB.out.cell 1
        have c2 := HB.out.cell 2
        have c3 := HB.out.cell 3
        have c4 := HB.out.cell 4
        have c5 := HB.out.cell 5
        have g1 := HB.out.frozen 1
        simp only [Spr.cs, List.getElem?_toArray, List.getElem?_cons_succ, List.getElem?_cons_zero] at c0 c1 c2 c3 c4 c5
        by_cases ez : z = 0
        · subst ez
          clear z0 z1
          go_upto_region 9 with (fail)
          have c1 : (W3.setCell ⟨bs, 1, none⟩ (.int .i64 y9)).cell? ⟨bs, 1, none⟩ = some (.int .i64 y9) := by have := (HB.out.set_ 1 (.int .i64 y9)).cell 1; simpa [Spr.cs] using this
          have c0 : (W3.setCell ⟨bs, 1, none⟩ (.int .i64 y9)).cell? ⟨bs, 0, none⟩ = some (.int .i64 sx) := by have := (HB.out.set_ 1 (.int .i64 y9)).cell 0; simpa [Spr.cs] using this
          have c2 : (W3.setCell ⟨bs, 1, none⟩ (.int .i64 y9)).cell? ⟨bs, 2, none⟩ = some (.int .i64 u) := by have := (HB.out.set_ 1 (.int .i64 y9)).cell 2; simpa [Spr.cs] using this
          have c3 : (W3.setCell ⟨bs, 1, none⟩ (.int .i64 y9)).cell? ⟨bs, 3, none⟩ = some (.bool sa) := by have := (HB.out.set_ 1 (.int .i64 y9)).cell 3; simpa [Spr.cs] using this
          have c4 : (W3.setCell ⟨bs, 1, none⟩ (.int .i64 y9)).cell? ⟨bs, 4, none⟩ = some (.bool sd) := by have := (HB.out.set_ 1 (.int .i64 y9)).cell 4; simpa [Spr.cs] using this
          have c5 : (W3.setCell ⟨bs, 1, none⟩ (.int .i64 y9)).cell? ⟨bs, 5, none⟩ = some (.bool sb) := by have := (HB.out.set_ 1 (.int .i64 y9)).cell 5; simpa [Spr.cs] using this
          have HO4 := Lib.hid (own_same HO3.out fun q hq => Below.heap_setCell W3 ⟨bs, 1, none⟩ (.int .i64 y9) q (show q ≠ bs by have := HLT.out q hq; omega))
          have HD4 := Lib.hid (HD3.out.set ⟨bs, 1, none⟩ (.int .i64 y9) hwb)
          obtain ⟨W4, hW4⟩ : ∃ W4, W4 = W3.setCell ⟨bs, 1, none⟩ (.int .i64 y9) := ⟨_, rfl⟩
          rw [← hW4] at c0 c1 c2 c3 c4 c5 HO4 HD4 ⊢
          clear hW4 HO3 HD3 HB g1 hbl
          have hs := HD4.out.size.2
          go_wp2_with (at_builtin; refine push_cells _ rfl _ _ 59 70 (.agg Spr.z.cs.toArray) 6 32 rfl spr_info Try.underlying59 rfl (by decide) (by decide) w.heap.size o.length c' 1 1 _ A' (some ⟨(W4).heap.size, 0, none⟩) (fl6 o) (Spr.mk sx (y9) u sa sd sb).cs rfl rfl (HO4.out.alloc _) (reads_litS _ _ (Spr.mk sx (y9) u sa sd sb)) (sprOneL _) (by intro h; cases h) (by omega) (Nat.le_trans hs (size_alloc_le _ _)) ?_; intro A3 c3 w3 hown3 hg3; have hD5 := Lib.hid ((HD4.out.alloc _).push hg3 (fun k hk => (HO4.out.lt k hk).1)); replace hown3 := Lib.hid hown3; clear hg3)
          go_roundw
          case rel => exact ⟨K - 1, A3, c3, o ++ [Spr.mk sx (y9) u sa sd sb], by simp, by rw [show (K : Int) - 1 = ((K - 1 : Nat) : Int) by omega], by simp; omega, by have := hown3.out; rw [List.length_append, fl6_app]; simpa [fl6] using this, hD5.out.more (by omega)⟩
          case measure => simp [intOf]; omega
        · have f0 : (z == 0) = false := by simp; omega
          clear z0 z1 ez
          go_upto_region 9 with (fail)
          have HO4 := HO3
          have HD4 := HD3
          clear HO3 HD3 HB g1 hbl
          have hs := HD4.out.size.2
          go_wp2_with (at_builtin; refine push_cells _ rfl _ _ 59 70 (.agg Spr.z.cs.toArray) 6 32 rfl spr_info Try.underlying59 rfl (by decide) (by decide) w.heap.size o.length c' 1 1 _ A' (some ⟨(W3).heap.size, 0, none⟩) (fl6 o) (Spr.mk sx (sy) u sa sd sb).cs rfl rfl (HO4.out.alloc _) (reads_litS _ _ (Spr.mk sx (sy) u sa sd sb)) (sprOneL _) (by intro h; cases h) (by omega) (Nat.le_trans hs (size_alloc_le _ _)) ?_; intro A3 c3 w3 hown3 hg3; have hD5 := Lib.hid ((HD4.out.alloc _).push hg3 (fun k hk => (HO4.out.lt k hk).1)); replace hown3 := Lib.hid hown3; clear hg3)
          go_roundw
          case rel => exact ⟨K - 1, A3, c3, o ++ [Spr.mk sx (sy) u sa sd sb], by simp, by rw [show (K : Int) - 1 = ((K - 1 : Nat) : Int) by omega], by simp; omega, by have := hown3.out; rw [List.length_append, fl6_app]; simpa [fl6] using this, hD5.out.more (by omega)⟩
          case measure => simp [intOf]; omega
    · obtain rfl : K = 0 := by omega
      by_cases ho : o.length = 0
      · have q1 : ¬ (o.length : Int) > 0 := by omega
        clear ho
        go_wp2_with fail
        go_ret
        exact draws_of HD.out (by omega) ⟨A', c', o, rfl, HO.out, by omega⟩
      have q1 : (o.length : Int) > 0 := by omega
      go_wp2_with fail
      refine (odd_d HD.out N (by omega) n0 n1).mono ?_
      rintro e W' ⟨v, rfl, ⟨b, rfl, hb⟩, hD, hgr⟩
      replace HD := Lib.hid hD
      clear hD
      replace HO := Lib.hid (own_rd HO.out hgr hgl)
      clear hgr
      clear hb
      cases b
      · go_wp2_with fail
        go_ret
        exact draws_of HD.out (by omega) ⟨A', c', o, rfl, HO.out, by omega⟩
      go_wp2_with fail
      refine (pick_d HD.out (o.length : Int) (by omega) (by omega) (by omega)).mono ?_
      rintro e W' ⟨v, rfl, ⟨k, rfl, k0, k1⟩, hD, hgr⟩
      replace HD := Lib.hid hD
      clear hD
      replace HO := Lib.hid (own_rd HO.out hgr hgl)
      clear hgr
      obtain ⟨J, rfl⟩ := Int.eq_ofNat_of_zero_le k0
      have hJ : J < o.length := by omega
      go_wp2_with fail
      refine (pick_d HD.out 3 (by omega) (by omega) (by omega)).mono ?_
      rintro e W' ⟨v, rfl, ⟨z, rfl, z0, z1⟩, hD, hgr⟩
      replace HD := Lib.hid hD
      clear hD
      replace HO := Lib.hid (own_rd HO.out hgr hgl)
      clear hgr
      obtain ⟨gb, cp, ev, gb0, gb1⟩ := HO.out.form (by omega)
      injection ev with ev _ ec
      subst ev ec
      have j0 : (0 : Int) ≤ (J : Int) := by omega
      have j1 : (J : Int) < (o.length : Int) := by omega
      by_cases e0 : z = 0
      · subst e0
        clear z0 z1
        go_wp2_with fail
        refine (pick_d (HD.out.alloc _) 2 (by omega) (by omega) (by omega)).mono ?_
        rintro e W3 ⟨v, rfl, ⟨y, rfl, y0, y1⟩, hD, hgr⟩
        have hne := HD.out.size
        have k0 : W3.cell? ⟨W'.heap.size, 0, none⟩ = some (.int .i64 (-17)) := grown_cell hgr (by simp) (by intro e; injection e with e; omega) (cell_new _ _ _ 0)
        have k1 : W3.cell? ⟨W'.heap.size, 1, none⟩ = some (.int .i64 (65)) := grown_cell hgr (by simp) (by intro e; injection e with e; omega) (cell_new _ _ _ 1)
        replace HO := Lib.hid (own_rd (HO.out.alloc _) hgr hgl)
        replace HD := Lib.hid hD
        clear hD hgr
        by_cases ey : y = 0
        · subst ey
          obtain ⟨⟨uf, cf⟩, ff, o', g'⟩ := own6_set (f := 0) HO.out hJ (by omega) (.int .i64 (-17)) { (o.getD J Spr.z) with X := -17 } rfl
          try simp only [Nat.add_zero] at cf ff o' g'
          replace o' := Lib.hid o'
          replace g' := Lib.hid g'
          go_wp2_with fail
          go_ret
          exact draws_of (HD.out.push g'.out (by intro k hk; injection hk with hk; omega)) (by omega) ⟨some ⟨gb, 0, none⟩, c', o.set J { (o.getD J Spr.z) with X := -17 }, by simp, o'.out, by simp; omega⟩
        · obtain rfl : y = 1 := by omega
          obtain ⟨⟨uf, cf⟩, ff, o', g'⟩ := own6_set (f := 0) HO.out hJ (by omega) (.int .i64 (65)) { (o.getD J Spr.z) with X := 65 } rfl
          try simp only [Nat.add_zero] at cf ff o' g'
          replace o' := Lib.hid o'
          replace g' := Lib.hid g'
          go_wp2_with fail
          go_ret
          exact draws_of (HD.out.push g'.out (by intro k hk; injection hk with hk; omega)) (by omega) ⟨some ⟨gb, 0, none⟩, c', o.set J { (o.getD J Spr.z) with X := 65 }, by simp, o'.out, by simp; omega⟩
      by_cases e1 : z = 1
      · subst e1
        clear z0 z1 e0
        go_wp2_with fail
        refine (pick_d (HD.out.alloc _) 2 (by omega) (by omega) (by omega)).mono ?_
        rintro e W3 ⟨v, rfl, ⟨y, rfl, y0, y1⟩, hD, hgr⟩
        have hne := HD.out.size
        have k0 : W3.cell? ⟨W'.heap.size, 0, none⟩ = some (.int .i64 (-1)) := grown_cell hgr (by simp) (by intro e; injection e with e; omega) (cell_new _ _ _ 0)
        have k1 : W3.cell? ⟨W'.heap.size, 1, none⟩ = some (.int .i64 (M)) := grown_cell hgr (by simp) (by intro e; injection e with e; omega) (cell_new _ _ _ 1)
        replace HO := Lib.hid (own_rd (HO.out.alloc _) hgr hgl)
        replace HD := Lib.hid hD
        clear hD hgr
        by_cases ey : y = 0
        · subst ey
          obtain ⟨⟨uf, cf⟩, ff, o', g'⟩ := own6_set (f := 2) HO.out hJ (by omega) (.int .i64 (-1)) { (o.getD J Spr.z) with N := -1 } rfl
          try simp only [Nat.add_zero] at cf ff o' g'
          replace o' := Lib.hid o'
          replace g' := Lib.hid g'
          go_wp2_with fail
          go_ret
          exact draws_of (HD.out.push g'.out (by intro k hk; injection hk with hk; omega)) (by omega) ⟨some ⟨gb, 0, none⟩, c', o.set J { (o.getD J Spr.z) with N := -1 }, by simp, o'.out, by simp; omega⟩
        · obtain rfl : y = 1 := by omega
          obtain ⟨⟨uf, cf⟩, ff, o', g'⟩ := own6_set (f := 2) HO.out hJ (by omega) (.int .i64 (M)) { (o.getD J Spr.z) with N := M } rfl
          try simp only [Nat.add_zero] at cf ff o' g'
          replace o' := Lib.hid o'
          replace g' := Lib.hid g'
          go_wp2_with fail
          go_ret
          exact draws_of (HD.out.push g'.out (by intro k hk; injection hk with hk; omega)) (by omega) ⟨some ⟨gb, 0, none⟩, c', o.set J { (o.getD J Spr.z) with N := M }, by simp, o'.out, by simp; omega⟩
      have f0 : (z == 0) = false := by simp; omega
      have f1 : (z == 1) = false := by simp; omega
      clear e0 e1 z0 z1
      go_wp2_with fail
      go_loopw [7] (fun out wr => ∃ (A' : Option Addr) (c' : Nat) (o : List Spr), out = .slice A' o.length c' ∧ 1 ≤ o.length ∧ o.length ≤ 24 ∧ wr.ownsRow w.heap.size 70 6 (.slice A' o.length c') o.length (fl6 o) ∧ Drs w wr g A len cap p0 (p0 + 100)) (fun out _ => match out with | .slice _ m _ => 30 - m | _ => 0)
      case atStart => exact ⟨some ⟨gb, 0, none⟩, c', o, rfl, by omega, by omega, HO.out, HD.out.more (by omega)⟩
      case round =>
        clear HO HD
        obtain ⟨A1, c1, o1, rfl, l1, l2, hown, hD⟩ := hrel
        have HD := Lib.hid hD
        have HO := Lib.hid hown
        clear hD hown
        by_cases h12 : o1.length ≤ 12
        · have q2 : (o1.length : Int) ≤ 12 := by omega
          have hs := HD.out.size.2
          go_wp2_with (at_builtin; refine push_cells _ rfl _ _ 59 70 (.agg Spr.z.cs.toArray) 6 32 rfl spr_info Try.underlying59 rfl (by decide) (by decide) w.heap.size o1.length c1 o1.length c1 _ A1 A1 (fl6 o1) (fl6 o1) rfl rfl HO.out (Reads.of_own HO.out) (fl6_one _) (own_nilc HO.out) (by omega) hs ?_; intro A3 c3 w3 hown3 hg3; have hD5 := Lib.hid (HD.out.push hg3 (fun k hk => (HO.out.lt k hk).1)); replace hown3 := Lib.hid hown3; clear hg3)
          go_roundw
          case rel => exact ⟨A3, c3, o1 ++ o1, by simp, by simp; omega, by simp; omega, by have := hown3.out; rw [List.length_append, fl6_app]; exact this, hD5.out⟩
          case measure => simp; omega
        · have q2 : ¬ (o1.length : Int) ≤ 12 := by omega
          go_wp2_with fail
          go_ret
          exact draws_of HD.out (by omega) ⟨A1, c1, o1, rfl, HO.out, by omega⟩
theorem l20Sprites_d {w W : World} {g len cap p0 q : Nat} {A : Option Addr} (h : Drs w W g A len cap p0 q) (m n : Int) (hq : q ≤ 800000000) (m0 : 0 ≤ m) (m1 : m ≤ 1000) (h0 : 0 ≤ n) (h1 : n ≤ 1000000000) :
    Calls Try.prog 94 #[.pointer (some ⟨g, 0, none⟩), .int .i64 m, .int .i64 n] W (Dr w W g A len cap p0 (q + 400) (PRow W.heap.size 30)) :=
  dr_of h 800000000 hq fun p hp hR => l20Sprites_any g A len cap p m n W hR hp m0 m1 h0 h1
end Go.Proofs.Ytkcabllnlbcgdaa
