/-
  Marks in the laws: tiles, sprites, backgrounds, scenes. No condition but that lengths stay in range.
-/
import Derived.Test.YtkcabllnlbcgdaaSceL
namespace Go.Proofs.Ytkcabllnlbcgdaa
open Go.RowKit
set_option linter.unusedVariables false
set_option linter.unusedSimpArgs false
/-- A row of the call's own, whatever lies in it. -/
def OwnX (w : World) (base e s : Nat) (A : Option Addr) (n c : Nat) : Prop := ∃ xs, w.ownsRow base e s (.slice A n c) n xs
theorem OwnX.set {w : World} {base e s n c g : Nat} (h : OwnX w base e s (some ⟨g, 0, none⟩) n c) (j : Nat) (u : Value) : OwnX (w.setCell ⟨g, j, none⟩ u) base e s (some ⟨g, 0, none⟩) n c := by
  obtain ⟨xs, h⟩ := h
  exact ⟨_, (h.stored j u).1⟩
theorem grown_set {w0 w : World} {g : Nat} (h : w0.grownBy w (some g)) (j : Nat) (u : Value) : w0.grownBy (w.setCell ⟨g, j, none⟩ u) (some g) :=
  h.trans ⟨rfl, rfl, rfl, by simp [World.setCell], fun k _ hk => Below.heap_setCell _ _ _ _ (by intro e; exact hk (by rw [e]))⟩
theorem OwnX.cells {w : World} {base e s n c g j : Nat} (h : OwnX w base e s (some ⟨g, 0, none⟩) n c) (hj : j < n * s) : (∃ v, w.cell? ⟨g, j, none⟩ = some v) ∧ w.frozen? ⟨g, j, none⟩ = false := by
  obtain ⟨xs, h⟩ := h
  have hl : j < xs.length := by rw [h.1]; exact hj
  exact ⟨⟨_, (h.cellAt j hj).trans (List.getElem?_eq_getElem hl)⟩, h.frozenAt j⟩
theorem OwnX.form {w : World} {base e s n c : Nat} {A : Option Addr} (h : OwnX w base e s A n c) (hn : 0 < n) : ∃ g, A = some ⟨g, 0, none⟩ := by
  obtain ⟨xs, h⟩ := h
  rcases own_block' h with ⟨_, h0, _⟩ | ⟨g, e, _⟩
  · omega
  · exact ⟨g, e⟩
set_option maxRecDepth 20000 in
set_option maxHeartbeats 2000000 in
theorem markTileS_own (base : Nat) (A : Option Addr) (n c : Nat) (k0 : Int) (w : World) (ha : OwnX w base 83 64 A n c) (h0 : 0 ≤ k0) (hn : n ≤ 10000000) (h1 : k0 ≤ 1000000000) :
    Calls Try.prog 65 #[.slice A n c, .int .i64 k0] w fun e w' => e = .returned (.int .i64 (k0 + n * 64)) ∧ OwnX w' base 83 64 A n c ∧ w.grownBy w' (Value.slice A n c).ownBlock := by
  go_enter Try.func65, Try.ntmps65
  go_wp2_with fail
  go_loopw [1, 5] (fun m i wr => ∃ k : Nat, k ≤ n ∧ i = .int .i64 k ∧ m = .int .i64 (k0 + k * 64) ∧ OwnX wr base 83 64 A n c ∧ w.grownBy wr (Value.slice A n c).ownBlock) (fun _ i _ => n - (intOf i).toNat)
  case atStart => exact ⟨0, Nat.zero_le _, rfl, by go_num, ha, World.grownBy.refl w _⟩
  case round =>
    obtain ⟨k, hk, rfl, rfl, hown, hg⟩ := hrel
    by_cases hlt : k < n
    · obtain ⟨g, rfl⟩ := hown.form (by omega)
      have q0 : (0 : Int) ≤ (k : Int) := by omega
      have q1 : (k : Int) < (n : Int) := by omega
      have HO := Lib.hid hown
      have HG := Lib.hid (show w.grownBy wr (some g) from hg)
      clear hown hg ha
      go_wp2_with fail
      go_loopw [1, 6] (fun m i wr2 => ∃ j : Nat, j ≤ 64 ∧ i = .int .i64 j ∧ m = .int .i64 (k0 + k * 64 + j) ∧ OwnX wr2 base 83 64 (some ⟨g, 0, none⟩) n c ∧ w.grownBy wr2 (some g)) (fun _ i _ => 64 - (intOf i).toNat)
      case atStart => exact ⟨0, Nat.zero_le _, rfl, by go_num, HO.out, HG.out⟩
      case round =>
        clear HO HG
        obtain ⟨j, hj, rfl, rfl, hown, hg⟩ := hrel
        by_cases hlt2 : j < 64
        · obtain ⟨⟨v, hv⟩, hf⟩ := hown.cells (j := k * 64 + j) (by omega)
          have j0 : (0 : Int) ≤ (j : Int) := by omega
          have j1 : (j : Int) < 64 := by omega
          have HO := Lib.hid hown
          have HG := Lib.hid hg
          clear hown hg
          go_wp2_with fail
          go_roundw
          case rel => exact ⟨j + 1, by omega, by go_num, by go_num, HO.out.set _ _, grown_set HG.out _ _⟩
          case measure => simp [intOf]; omega
        · obtain rfl : j = 64 := by omega
          have HO := Lib.hid hown
          have HG := Lib.hid hg
          clear hown hg
          have j1 : ¬ ((64 : Nat) : Int) < 64 := by omega
          go_wp2_with fail
          go_roundw
          case rel => exact ⟨k + 1, by omega, by go_num, by go_num, HO.out, HG.out⟩
          case measure => simp [intOf]; omega
    · obtain rfl : k = n := by omega
      go_wp2_with fail
      go_ret
      exact ⟨rfl, hown, hg⟩
set_option maxRecDepth 20000 in
set_option maxHeartbeats 2000000 in
theorem markSpriteS_own (base : Nat) (A : Option Addr) (n c : Nat) (k0 : Int) (w : World) (ha : OwnX w base 70 6 A n c) (h0 : 0 ≤ k0) (hn : n ≤ 10000000) (h1 : k0 ≤ 1000000000) :
    Calls Try.prog 74 #[.slice A n c, .int .i64 k0] w fun e w' => e = .returned (.int .i64 (k0 + n * 6)) ∧ OwnX w' base 70 6 A n c ∧ w.grownBy w' (Value.slice A n c).ownBlock := by
  go_enter Try.func74, Try.ntmps74
  go_wp2_with fail
  go_loopw [1, 5] (fun m i wr => ∃ k : Nat, k ≤ n ∧ i = .int .i64 k ∧ m = .int .i64 (k0 + k * 6) ∧ OwnX wr base 70 6 A n c ∧ w.grownBy wr (Value.slice A n c).ownBlock) (fun _ i _ => n - (intOf i).toNat)
  case atStart => exact ⟨0, Nat.zero_le _, rfl, by go_num, ha, World.grownBy.refl w _⟩
  case round =>
    obtain ⟨k, hk, rfl, rfl, hown, hg⟩ := hrel
    by_cases hlt : k < n
    · obtain ⟨g, rfl⟩ := hown.form (by omega)
      have q0 : (0 : Int) ≤ (k : Int) := by omega
      have q1 : (k : Int) < (n : Int) := by omega
      obtain ⟨⟨v0, c0⟩, f0⟩ := hown.cells (j := k * 6) (by omega)
      obtain ⟨⟨v1, c1⟩, f1⟩ := hown.cells (j := k * 6 + 1) (by omega)
      obtain ⟨⟨v2, c2⟩, f2⟩ := hown.cells (j := k * 6 + 2) (by omega)
      obtain ⟨⟨v3, c3⟩, f3⟩ := hown.cells (j := k * 6 + 3) (by omega)
      obtain ⟨⟨v4, c4⟩, f4⟩ := hown.cells (j := k * 6 + 4) (by omega)
      obtain ⟨⟨v5, c5⟩, f5⟩ := hown.cells (j := k * 6 + 5) (by omega)
      have HO := Lib.hid hown
      have HG := Lib.hid (show w.grownBy wr (some g) from hg)
      clear hown hg ha
      go_wp2_with fail
      go_roundw
      case rel => exact ⟨k + 1, by omega, by go_num, by go_num, (((((HO.out.set _ _).set _ _).set _ _).set _ _).set _ _).set _ _, grown_set (grown_set (grown_set (grown_set (grown_set (grown_set HG.out _ _) _ _) _ _) _ _) _ _) _ _⟩
      case measure => simp [intOf]; omega
    · obtain rfl : k = n := by omega
      go_wp2_with fail
      go_ret
      exact ⟨rfl, hown, hg⟩
theorem own_kept_ne {w w' : World} {b b' e e' s s' n n' : Nat} {v v' : Value} {xs ys : List Value} (h : w.ownsRow b e s v n xs) (h' : w.ownsRow b' e' s' v' n' ys) (hne : e ≠ e') (hg : w.grownBy w' v'.ownBlock) : w'.ownsRow b e s v n xs := by
  refine h.kept hg ?_
  rcases hv : v.ownBlock with _ | k
  · exact .inl rfl
  · refine .inr fun e1 => ?_
    exact own_sep h h' hne hv e1.symm
set_option maxRecDepth 20000 in
set_option maxHeartbeats 2000000 in
theorem markField_any (f : Fld) (lo hi : Nat) (k0 : Int) (w : World) (h : FOwn w lo f) (hA : ∀ k, (Value.slice f.A f.n f.c).ownBlock = some k → k < hi) (hT : ∀ k, (Value.slice f.T f.tn f.tc).ownBlock = some k → k < hi) (hhi : hi ≤ w.heap.size) (h0 : 0 ≤ k0) (h1 : k0 ≤ 100000000) (hn : f.n ≤ 2000000) (ht : f.tn ≤ 2000000) :
    Calls Try.prog 27 #[f.val, .int .i64 k0] w fun e w' => e = .returned (.int .i64 (k0 + f.n + f.tn * 64)) ∧ Touch lo hi w w' ∧ ∀ (E s b : Nat) (v : Value) (m : Nat) (ys : List Value), E ≠ 3 → E ≠ 83 → w.ownsRow b E s v m ys → w'.ownsRow b E s v m ys := by
  have hb0 : Below w.heap.size w (w.alloc (.cells f.cs 26)) := (Below.refl _ _).alloc (Nat.le_refl _) _
  have x0 := fbox_new w f 26
  have MO := h.m.alloc (.cells f.cs 26)
  have TO := h.t.alloc (.cells f.cs 26)
  have X0 := Lib.hid x0
  have HM := Lib.hid MO
  have HT := Lib.hid TO
  have HW := Lib.hid h
  have HB0 := Lib.hid hb0
  have hA1 : ∀ k, (Value.slice f.A f.n f.c).ownBlock = some k → lo ≤ k := fun k hk => (h.m.lt k hk).1
  have hT1 : ∀ k, (Value.slice f.T f.tn f.tc).ownBlock = some k → lo ≤ k := fun k hk => (h.t.lt k hk).1
  have HNE := Lib.hid (show some w.heap.size ≠ (Value.slice f.A f.n f.c).ownBlock from fun e => by have := hA _ e.symm; omega)
  replace hA := Lib.hid hA
  replace hT := Lib.hid hT
  replace hA1 := Lib.hid hA1
  replace hT1 := Lib.hid hT1
  clear x0 MO TO hb0 h
  unfold Fld.val
  have ecs : f.cs = #[.int .i64 f.W, .slice f.A f.n f.c, .slice f.T f.tn f.tc, .int .i64 f.sx, .int .i64 f.sy] := rfl
  rw [ecs] at X0 HM HT HB0 ⊢
  clear ecs
  go_enter Try.func27, Try.ntmps27
  go_wp2_with fail
  refine (markIntS_own lo f.A f.n f.c f.ms k0 _ HM.out h0 (by omega) (by omega)).mono ?_
  rintro e w2 ⟨rfl, o2, g2⟩
  have c2 := grown_cell g2 X0.out.lt HNE.out X0.out.c2
  have T2 := Lib.hid (own_kept_ne HT.out HM.out (by decide) g2)
  have G2 := Lib.hid g2
  have O2 := Lib.hid o2
  clear g2 o2
  go_wp2_with fail
  refine (markTileS_own lo f.T f.tn f.tc (k0 + f.n) w2 ⟨_, T2.out⟩ (by omega) (by omega) (by omega)).mono ?_
  rintro e w3 ⟨rfl, o3, g3⟩
  have G3 := Lib.hid g3
  clear g3 o3
  go_wp2_with fail
  go_ret
  refine ⟨rfl, ?_, fun E s b v m ys hE1 hE2 hrow => ?_⟩
  · exact ((Touch.of_below HB0.out).trans (Touch.of_grown G2.out fun k hk => ⟨hA1.out k hk, hA.out k hk⟩)).trans (Touch.of_grown G3.out fun k hk => ⟨hT1.out k hk, hT.out k hk⟩)
  · have r1 := own_below hrow HB0.out
    have r2 := own_kept_ne r1 HM.out hE1 G2.out
    exact own_kept_ne r2 T2.out hE2 G3.out
set_option maxRecDepth 20000 in
set_option maxHeartbeats 2000000 in
theorem markScene_any (f : Fld) (A : Option Addr) (n c : Nat) (ss : List Spr) (lo hi : Nat) (k0 : Int) (w : World) (h : SOwn w lo f A n c ss) (hA : ∀ k, (Value.slice f.A f.n f.c).ownBlock = some k → k < hi) (hT : ∀ k, (Value.slice f.T f.tn f.tc).ownBlock = some k → k < hi) (hS : ∀ k, (Value.slice A n c).ownBlock = some k → k < hi) (hhi : hi ≤ w.heap.size) (h0 : 0 ≤ k0) (h1 : k0 ≤ 1000) (hn : f.n ≤ 2000000) (ht : f.tn ≤ 2000000) (hs : n ≤ 2000000) :
    Calls Try.prog 36 #[scV f A n c, .int .i64 k0] w fun e w' => e = .returned (.int .i64 (k0 + f.n + f.tn * 64 + n * 6)) ∧ Touch lo hi w w' := by
  have hb0 : Below w.heap.size w (w.alloc (.cells (scCs f A n c) 61)) := (Below.refl _ _).alloc (Nat.le_refl _) _
  have x0 := SBox.new w f A n c 61
  have ho := h.below hb0
  have X0 := Lib.hid x0
  have HO := Lib.hid ho
  have HB0 := Lib.hid hb0
  have hS1 : ∀ k, (Value.slice A n c).ownBlock = some k → lo ≤ k := fun k hk => (h.s.lt k hk).1
  replace hA := Lib.hid hA
  replace hT := Lib.hid hT
  replace hS := Lib.hid hS
  replace hS1 := Lib.hid hS1
  have hz : hi ≤ (w.alloc (.cells (scCs f A n c) 61)).heap.size := Nat.le_trans hhi hb0.size
  have HZ := Lib.hid hz
  clear x0 hb0 h ho hz
  unfold scCs at *
  unfold scV
  go_enter Try.func36, Try.ntmps36
  go_wp2_with fail
  refine (markField_any f lo hi k0 _ HO.out.f hA.out hT.out HZ.out h0 (by omega) hn ht).mono ?_
  rintro e w2 ⟨rfl, t2, r2⟩
  have c5 : w2.cell? ⟨w.heap.size, 5, none⟩ = some (.slice A n c) := (World.cell?_of_block (t2.block w.heap.size (by simp) (.inr hhi))).trans X0.out.c5
  have S2 := Lib.hid (r2 _ _ _ _ _ _ (by decide) (by decide) HO.out.s)
  have TT := Lib.hid ((Touch.of_below (lo := lo) (hi := hi) HB0.out).trans t2)
  clear r2 t2
  go_wp2_with fail
  refine (markSpriteS_own lo A n c _ w2 ⟨_, S2.out⟩ (by omega) (by omega) (by omega)).mono ?_
  rintro e w3 ⟨rfl, o3, g3⟩
  have G3 := Lib.hid g3
  clear g3 o3
  go_wp2_with fail
  go_ret
  exact ⟨rfl, TT.out.trans (Touch.of_grown G3.out fun k hk => ⟨hS1.out k hk, hS.out k hk⟩)⟩
end Go.Proofs.Ytkcabllnlbcgdaa
