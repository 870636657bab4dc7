/-
  What the statements draw for machines: valid instructions, their bytes. No condition.
-/
import Derived.Test.YtgedfcccflobmaaDrw
import Derived.Test.YtgedfcccflobmaaOre
import Derived.Deep.RegionLaw
namespace Go.Proofs.Ytgedfcccflobmaa
open Go.RowKit
set_option linter.unusedVariables false
set_option linter.unusedSimpArgs false
theorem grown_set (w : World) (p : Addr) (v : Value) : w.grownBy (w.setCell p v) (some p.block) :=
  ⟨rfl, rfl, rfl, by simp [World.setCell], fun k _ hne => Below.heap_setCell w p v k (fun e => hne (by rw [e]))⟩
theorem Drs.set {w W : World} {g len cap p0 q : Nat} {A : Option Addr} (h : Drs w W g A len cap p0 q) (p : Addr) (v : Value) (hp : w.heap.size ≤ p.block) : Drs w (W.setCell p v) g A len cap p0 q :=
  h.push (grown_set W p v) (by intro k hk; injection hk with hk; omega)
theorem Blk.rd {w w' : World} {b g : Nat} {t : TypeId} {cs : Array Value} (h : Blk w b t cs) (hg : w.grownBy w' (some g)) (hne : b ≠ g) : Blk w' b t cs := h.grown hg (by intro e; injection e with e; exact hne e)
def OrdV (_ : World) (v : Value) : Prop := ∃ op arg : Int, v = .agg #[.int .i64 op, .int .i64 arg] ∧ ordB op arg = true
set_option maxRecDepth 100000 in
set_option maxHeartbeats 4000000 in
theorem l20Order0 (g : Nat) (A : Option Addr) (len cap p0 : Nat) (w : World) (h : Rd w g A len cap p0) (hp0 : p0 ≤ 800000000) :
    Calls Try.prog 102 #[.pointer (some ⟨g, 0, none⟩), .int .i64 0] w (Draws g A len cap p0 20 w OrdV) := by
  have hgl := h.lt
  have HD := Lib.hid ((Drs.start h).alloc (.cells #[.int .i64 0, .int .i64 0] 84))
  have HR := Lib.hid (Blk.new w 84 #[.int .i64 0, .int .i64 0])
  clear h
  go_enter Try.func102, Try.ntmps102
  go_wp2_with fail
  refine (pick_d HD.out 16 (by omega) (by omega) (by omega)).mono ?_
  rintro e W' ⟨v, rfl, ⟨op, rfl, o0, o1⟩, hD, hgr⟩
  replace HD := Lib.hid hD
  clear hD
  replace HR := Lib.hid (HR.out.rd hgr (by omega))
  clear hgr
  have hw' : w.heap.size < W'.heap.size := HR.out.lt
  have HO0 := Lib.hid (Blk.new W' 84 #[.int .i64 op, .int .i64 0])
  have hog : W'.heap.size ≠ g := by omega
  have hin : inB op 0 15 = true := inB_iff.2 ⟨o0, by omega⟩
  have hn0 : olen op ≠ 0 := by unfold olen; rw [if_pos hin]; split; omega; split <;> omega
  clear hin
  replace HR := Lib.hid (HR.out.alloc (.cells #[.int .i64 op, .int .i64 0] 84))
  replace HD := Lib.hid (HD.out.alloc (.cells #[.int .i64 op, .int .i64 0] 84))
  rcases olen_in op with hn | hn | hn | hn
  · exact absurd hn hn0
  · go_wp2_with (go_at_call 84; refine (orderLength_spec op _).mono ?_; rintro e w5 ⟨rfl, b5⟩; rw [hn]; have HO := Lib.hid (HO0.out.below b5 HO0.out.lt); replace HR := Lib.hid (HR.out.below b5 HR.out.lt); replace HD := Lib.hid (HD.out.below b5); clear b5 HO0)
    generalize W'.heap.size = ob at HO hog hw' ⊢
    go_wp2_with fail
    refine (odd_d HD.out 0 (by omega) (by omega) (by omega)).mono ?_
    rintro e W' ⟨v, rfl, ⟨b, rfl, hb⟩, hD, hgr⟩
    replace HD := Lib.hid hD
    clear hD
    replace HR := Lib.hid (HR.out.rd hgr (by omega))
    replace HO := Lib.hid (HO.out.rd hgr (by omega))
    clear hgr
    obtain rfl := hb rfl
    have k0 := HO.out.cell 0
    have k1 := HO.out.cell 1
    have n0 := HR.out.cell 0
    have n1 := HR.out.cell 1
    have f0 := HR.out.frozen 0
    have f1 := HR.out.frozen 1
    have hrl := HR.out.lt
    go_wp2_with fail
    refine bodyPost_ret (results_cell_row Try.results102 _ _ w.heap.size 84 #[.int .i64 op, .int .i64 (0)] (0, 0) _ rfl ((HR.out.set_ 0 _).set_ 1 _) Try.underlying84 rfl rfl) rfl ?_
    exact draws_of ((HD.out.set _ _ (Nat.le_refl _)).set _ _ (Nat.le_refl _)) (by omega) ⟨op, 0, rfl, by unfold ordB; rw [hn]; rfl⟩
  · go_wp2_with (go_at_call 84; refine (orderLength_spec op _).mono ?_; rintro e w5 ⟨rfl, b5⟩; rw [hn]; have HO := Lib.hid (HO0.out.below b5 HO0.out.lt); replace HR := Lib.hid (HR.out.below b5 HR.out.lt); replace HD := Lib.hid (HD.out.below b5); clear b5 HO0)
    generalize W'.heap.size = ob at HO hog hw' ⊢
    go_wp2_with fail
    refine (pick_d HD.out 256 (by omega) (by omega) (by omega)).mono ?_
    rintro e W' ⟨v, rfl, ⟨a, rfl, a0, a1⟩, hD, hgr⟩
    replace HD := Lib.hid hD
    clear hD
    replace HR := Lib.hid (HR.out.rd hgr (by omega))
    replace HO := Lib.hid (HO.out.rd hgr (by omega))
    clear hgr
    have x1 := HO.out.cell 1
    have y1 := HO.out.frozen 1
    have hol := HO.out.lt
    have hrl' := HR.out.lt
    replace HO := Lib.hid (HO.out.set_ 1 (.int .i64 (a)))
    replace HR := Lib.hid (HR.out.far (p := ⟨ob, 1, none⟩) (show w.heap.size ≠ ob by omega) (.int .i64 (a)))
    replace HD := Lib.hid (HD.out.set ⟨ob, 1, none⟩ (.int .i64 (a)) (show w.heap.size ≤ ob by omega))
    go_wp2_with fail
    refine (odd_d HD.out 0 (by omega) (by omega) (by omega)).mono ?_
    rintro e W' ⟨v, rfl, ⟨b, rfl, hb⟩, hD, hgr⟩
    replace HD := Lib.hid hD
    clear hD
    replace HR := Lib.hid (HR.out.rd hgr (by omega))
    replace HO := Lib.hid (HO.out.rd hgr (by omega))
    clear hgr
    obtain rfl := hb rfl
    have k0 := HO.out.cell 0
    have k1 := HO.out.cell 1
    have n0 := HR.out.cell 0
    have n1 := HR.out.cell 1
    have f0 := HR.out.frozen 0
    have f1 := HR.out.frozen 1
    have hrl := HR.out.lt
    go_wp2_with fail
    refine bodyPost_ret (results_cell_row Try.results102 _ _ w.heap.size 84 #[.int .i64 op, .int .i64 (a)] (0, 0) _ rfl ((HR.out.set_ 0 _).set_ 1 _) Try.underlying84 rfl rfl) rfl ?_
    exact draws_of ((HD.out.set _ _ (Nat.le_refl _)).set _ _ (Nat.le_refl _)) (by omega) ⟨op, a, rfl, by unfold ordB; rw [hn]; simp [inB_iff]; omega⟩
  · go_wp2_with (go_at_call 84; refine (orderLength_spec op _).mono ?_; rintro e w5 ⟨rfl, b5⟩; rw [hn]; have HO := Lib.hid (HO0.out.below b5 HO0.out.lt); replace HR := Lib.hid (HR.out.below b5 HR.out.lt); replace HD := Lib.hid (HD.out.below b5); clear b5 HO0)
    generalize W'.heap.size = ob at HO hog hw' ⊢
    go_wp2_with fail
    refine (pick_d HD.out 16 (by omega) (by omega) (by omega)).mono ?_
    rintro e W' ⟨v, rfl, ⟨a, rfl, a0, a1⟩, hD, hgr⟩
    replace HD := Lib.hid hD
    clear hD
    replace HR := Lib.hid (HR.out.rd hgr (by omega))
    replace HO := Lib.hid (HO.out.rd hgr (by omega))
    clear hgr
    go_wp2_with fail
    refine (pick_d HD.out 16 (by omega) (by omega) (by omega)).mono ?_
    rintro e W' ⟨v, rfl, ⟨b, rfl, b0, b1⟩, hD, hgr⟩
    replace HD := Lib.hid hD
    clear hD
    replace HR := Lib.hid (HR.out.rd hgr (by omega))
    replace HO := Lib.hid (HO.out.rd hgr (by omega))
    clear hgr
    go_wp2_with fail
    refine (pick_d HD.out 40 (by omega) (by omega) (by omega)).mono ?_
    rintro e W' ⟨v, rfl, ⟨c, rfl, c0, c1⟩, hD, hgr⟩
    replace HD := Lib.hid hD
    clear hD
    replace HR := Lib.hid (HR.out.rd hgr (by omega))
    replace HO := Lib.hid (HO.out.rd hgr (by omega))
    clear hgr
    go_wp2_with fail
    refine (pick_d HD.out 8 (by omega) (by omega) (by omega)).mono ?_
    rintro e W' ⟨v, rfl, ⟨d, rfl, d0, d1⟩, hD, hgr⟩
    replace HD := Lib.hid hD
    clear hD
    replace HR := Lib.hid (HR.out.rd hgr (by omega))
    replace HO := Lib.hid (HO.out.rd hgr (by omega))
    clear hgr
    go_wp2_with fail
    refine (pick_d HD.out 256 (by omega) (by omega) (by omega)).mono ?_
    rintro e W' ⟨v, rfl, ⟨f, rfl, e0, e1⟩, hD, hgr⟩
    replace HD := Lib.hid hD
    clear hD
    replace HR := Lib.hid (HR.out.rd hgr (by omega))
    replace HO := Lib.hid (HO.out.rd hgr (by omega))
    clear hgr
    have hs := HD.out.size
    replace HR := Lib.hid (HR.out.alloc (.cells #[.int .i64 a, .int .i64 (240 + b), .int .i64 (512 + c), .int .i64 (768 + d), .int .i64 (f * 4)] 3))
    replace HO := Lib.hid (HO.out.alloc (.cells #[.int .i64 a, .int .i64 (240 + b), .int .i64 (512 + c), .int .i64 (768 + d), .int .i64 (f * 4)] 3))
    replace HD := Lib.hid (HD.out.alloc (.cells #[.int .i64 a, .int .i64 (240 + b), .int .i64 (512 + c), .int .i64 (768 + d), .int .i64 (f * 4)] 3))
    go_wp2_with fail
    refine (pick_d HD.out 5 (by omega) (by omega) (by omega)).mono ?_
    rintro e W' ⟨v, rfl, ⟨z, rfl, z0, z1⟩, hD, hgr⟩
    replace HD := Lib.hid hD
    clear hD
    replace HR := Lib.hid (HR.out.rd hgr (by omega))
    replace HO := Lib.hid (HO.out.rd hgr (by omega))
    have l0 := grown_cell hgr (by simp) (by intro e; injection e with e; omega) (cell_new _ _ _ 0)
    have l1 := grown_cell hgr (by simp) (by intro e; injection e with e; omega) (cell_new _ _ _ 1)
    have l2 := grown_cell hgr (by simp) (by intro e; injection e with e; omega) (cell_new _ _ _ 2)
    have l3 := grown_cell hgr (by simp) (by intro e; injection e with e; omega) (cell_new _ _ _ 3)
    have l4 := grown_cell hgr (by simp) (by intro e; injection e with e; omega) (cell_new _ _ _ 4)
    clear hgr
    obtain rfl | rfl | rfl | rfl | rfl : z = 0 ∨ z = 1 ∨ z = 2 ∨ z = 3 ∨ z = 4 := by omega
    · have x1 := HO.out.cell 1
      have y1 := HO.out.frozen 1
      have hol := HO.out.lt
      have hrl' := HR.out.lt
      replace HO := Lib.hid (HO.out.set_ 1 (.int .i64 (a)))
      replace HR := Lib.hid (HR.out.far (p := ⟨ob, 1, none⟩) (show w.heap.size ≠ ob by omega) (.int .i64 (a)))
      replace HD := Lib.hid (HD.out.set ⟨ob, 1, none⟩ (.int .i64 (a)) (show w.heap.size ≤ ob by omega))
      go_wp2_with fail
      refine (odd_d HD.out 0 (by omega) (by omega) (by omega)).mono ?_
      rintro e W' ⟨v, rfl, ⟨b, rfl, hb⟩, hD, hgr⟩
      replace HD := Lib.hid hD
      clear hD
      replace HR := Lib.hid (HR.out.rd hgr (by omega))
      replace HO := Lib.hid (HO.out.rd hgr (by omega))
      clear hgr
      obtain rfl := hb rfl
      have k0 := HO.out.cell 0
      have k1 := HO.out.cell 1
      have n0 := HR.out.cell 0
      have n1 := HR.out.cell 1
      have f0 := HR.out.frozen 0
      have f1 := HR.out.frozen 1
      have hrl := HR.out.lt
      go_wp2_with fail
      refine bodyPost_ret (results_cell_row Try.results102 _ _ w.heap.size 84 #[.int .i64 op, .int .i64 (a)] (0, 0) _ rfl ((HR.out.set_ 0 _).set_ 1 _) Try.underlying84 rfl rfl) rfl ?_
      exact draws_of ((HD.out.set _ _ (Nat.le_refl _)).set _ _ (Nat.le_refl _)) (by omega) ⟨op, a, rfl, by unfold ordB; rw [hn]; simp [inB_iff]; omega⟩
    · have x1 := HO.out.cell 1
      have y1 := HO.out.frozen 1
      have hol := HO.out.lt
      have hrl' := HR.out.lt
      replace HO := Lib.hid (HO.out.set_ 1 (.int .i64 (240 + b)))
      replace HR := Lib.hid (HR.out.far (p := ⟨ob, 1, none⟩) (show w.heap.size ≠ ob by omega) (.int .i64 (240 + b)))
      replace HD := Lib.hid (HD.out.set ⟨ob, 1, none⟩ (.int .i64 (240 + b)) (show w.heap.size ≤ ob by omega))
      go_wp2_with fail
      refine (odd_d HD.out 0 (by omega) (by omega) (by omega)).mono ?_
      rintro e W' ⟨v, rfl, ⟨b, rfl, hb⟩, hD, hgr⟩
      replace HD := Lib.hid hD
      clear hD
      replace HR := Lib.hid (HR.out.rd hgr (by omega))
      replace HO := Lib.hid (HO.out.rd hgr (by omega))
      clear hgr
      obtain rfl := hb rfl
      have k0 := HO.out.cell 0
      have k1 := HO.out.cell 1
      have n0 := HR.out.cell 0
      have n1 := HR.out.cell 1
      have f0 := HR.out.frozen 0
      have f1 := HR.out.frozen 1
      have hrl := HR.out.lt
      go_wp2_with fail
      refine bodyPost_ret (results_cell_row Try.results102 _ _ w.heap.size 84 #[.int .i64 op, .int .i64 (240 + b)] (0, 0) _ rfl ((HR.out.set_ 0 _).set_ 1 _) Try.underlying84 rfl rfl) rfl ?_
      exact draws_of ((HD.out.set _ _ (Nat.le_refl _)).set _ _ (Nat.le_refl _)) (by omega) ⟨op, 240 + b, rfl, by unfold ordB; rw [hn]; simp [inB_iff]; omega⟩
    · have x1 := HO.out.cell 1
      have y1 := HO.out.frozen 1
      have hol := HO.out.lt
      have hrl' := HR.out.lt
      replace HO := Lib.hid (HO.out.set_ 1 (.int .i64 (512 + c)))
      replace HR := Lib.hid (HR.out.far (p := ⟨ob, 1, none⟩) (show w.heap.size ≠ ob by omega) (.int .i64 (512 + c)))
      replace HD := Lib.hid (HD.out.set ⟨ob, 1, none⟩ (.int .i64 (512 + c)) (show w.heap.size ≤ ob by omega))
      go_wp2_with fail
      refine (odd_d HD.out 0 (by omega) (by omega) (by omega)).mono ?_
      rintro e W' ⟨v, rfl, ⟨b, rfl, hb⟩, hD, hgr⟩
      replace HD := Lib.hid hD
      clear hD
      replace HR := Lib.hid (HR.out.rd hgr (by omega))
      replace HO := Lib.hid (HO.out.rd hgr (by omega))
      clear hgr
      obtain rfl := hb rfl
      have k0 := HO.out.cell 0
      have k1 := HO.out.cell 1
      have n0 := HR.out.cell 0
      have n1 := HR.out.cell 1
      have f0 := HR.out.frozen 0
      have f1 := HR.out.frozen 1
      have hrl := HR.out.lt
      go_wp2_with fail
      refine bodyPost_ret (results_cell_row Try.results102 _ _ w.heap.size 84 #[.int .i64 op, .int .i64 (512 + c)] (0, 0) _ rfl ((HR.out.set_ 0 _).set_ 1 _) Try.underlying84 rfl rfl) rfl ?_
      exact draws_of ((HD.out.set _ _ (Nat.le_refl _)).set _ _ (Nat.le_refl _)) (by omega) ⟨op, 512 + c, rfl, by unfold ordB; rw [hn]; simp [inB_iff]; omega⟩
    · have x1 := HO.out.cell 1
      have y1 := HO.out.frozen 1
      have hol := HO.out.lt
      have hrl' := HR.out.lt
      replace HO := Lib.hid (HO.out.set_ 1 (.int .i64 (768 + d)))
      replace HR := Lib.hid (HR.out.far (p := ⟨ob, 1, none⟩) (show w.heap.size ≠ ob by omega) (.int .i64 (768 + d)))
      replace HD := Lib.hid (HD.out.set ⟨ob, 1, none⟩ (.int .i64 (768 + d)) (show w.heap.size ≤ ob by omega))
      go_wp2_with fail
      refine (odd_d HD.out 0 (by omega) (by omega) (by omega)).mono ?_
      rintro e W' ⟨v, rfl, ⟨b, rfl, hb⟩, hD, hgr⟩
      replace HD := Lib.hid hD
      clear hD
      replace HR := Lib.hid (HR.out.rd hgr (by omega))
      replace HO := Lib.hid (HO.out.rd hgr (by omega))
      clear hgr
      obtain rfl := hb rfl
      have k0 := HO.out.cell 0
      have k1 := HO.out.cell 1
      have n0 := HR.out.cell 0
      have n1 := HR.out.cell 1
      have f0 := HR.out.frozen 0
      have f1 := HR.out.frozen 1
      have hrl := HR.out.lt
      go_wp2_with fail
      refine bodyPost_ret (results_cell_row Try.results102 _ _ w.heap.size 84 #[.int .i64 op, .int .i64 (768 + d)] (0, 0) _ rfl ((HR.out.set_ 0 _).set_ 1 _) Try.underlying84 rfl rfl) rfl ?_
      exact draws_of ((HD.out.set _ _ (Nat.le_refl _)).set _ _ (Nat.le_refl _)) (by omega) ⟨op, 768 + d, rfl, by unfold ordB; rw [hn]; simp [inB_iff]; omega⟩
    · have x1 := HO.out.cell 1
      have y1 := HO.out.frozen 1
      have hol := HO.out.lt
      have hrl' := HR.out.lt
      replace HO := Lib.hid (HO.out.set_ 1 (.int .i64 (f * 4)))
      replace HR := Lib.hid (HR.out.far (p := ⟨ob, 1, none⟩) (show w.heap.size ≠ ob by omega) (.int .i64 (f * 4)))
      replace HD := Lib.hid (HD.out.set ⟨ob, 1, none⟩ (.int .i64 (f * 4)) (show w.heap.size ≤ ob by omega))
      go_wp2_with fail
      refine (odd_d HD.out 0 (by omega) (by omega) (by omega)).mono ?_
      rintro e W' ⟨v, rfl, ⟨b, rfl, hb⟩, hD, hgr⟩
      replace HD := Lib.hid hD
      clear hD
      replace HR := Lib.hid (HR.out.rd hgr (by omega))
      replace HO := Lib.hid (HO.out.rd hgr (by omega))
      clear hgr
      obtain rfl := hb rfl
      have k0 := HO.out.cell 0
      have k1 := HO.out.cell 1
      have n0 := HR.out.cell 0
      have n1 := HR.out.cell 1
      have f0 := HR.out.frozen 0
      have f1 := HR.out.frozen 1
      have hrl := HR.out.lt
      go_wp2_with fail
      refine bodyPost_ret (results_cell_row Try.results102 _ _ w.heap.size 84 #[.int .i64 op, .int .i64 (f * 4)] (0, 0) _ rfl ((HR.out.set_ 0 _).set_ 1 _) Try.underlying84 rfl rfl) rfl ?_
      exact draws_of ((HD.out.set _ _ (Nat.le_refl _)).set _ _ (Nat.le_refl _)) (by omega) ⟨op, f * 4, rfl, by unfold ordB; rw [hn]; simp [inB_iff]; omega⟩
end Go.Proofs.Ytgedfcccflobmaa
