/-
  The instruction at a machine's address: the reference's l5Fetch. The machine is valid.
-/
import Derived.Test.YtgedfcccflobmaaSdc
import Derived.Test.YtgedfcccflobmaaSgo
import Derived.Test.YtgedfcccflobmaaRd
namespace Go.Proofs.Ytgedfcccflobmaa
open Go.RowKit
set_option linter.unusedVariables false
set_option linter.unusedSimpArgs false
def by3 (p0 p1 p2 : Int) (k : Nat) : List Int := [p0, p1, p2].take k
theorem decV_n : decV none = .tuple #[.agg #[.int .i64 0, .int .i64 0], .int .i64 0, .bool false] := rfl
theorem decV_s (op arg n : Int) : decV (some (op, arg, n)) = .tuple #[.agg #[.int .i64 op, .int .i64 arg], .int .i64 n, .bool true] := rfl
theorem Blk.below1 {w w' : World} {g : Nat} {t : TypeId} {cs : Array Value} (h : Blk w g t cs) (b : Below (g + 1) w w') : Blk w' g t cs := (b.block g (Nat.lt_succ_self g)).trans h
set_option maxRecDepth 4000 in
set_option maxHeartbeats 4000000 in
theorem fetch_spec (lo h1 h2 b : Nat) (x : Mch) (vs : List Value) (w : World) (h : MSt lo h1 h2 b x vs w) (f : FormP x.pm) :
    Calls Try.prog 60 #[.pointer (some ⟨b, 0, none⟩)] w fun e w' => e = .returned (decV (decP (x.pm.pk (x.pc % 1024)) (x.pm.pk ((x.pc + 1) % 1024)) (x.pm.pk ((x.pc + 2) % 1024)))) ∧ Below w.heap.size w w' := by
  have HX := Lib.hid h
  have hbl := h.blk.lt
  have p0 : 0 ≤ x.pc := f.p0
  have p1 : x.pc ≤ 1023 := f.p1
  obtain ⟨a0, e0⟩ : ∃ a, x.pc % 1024 = a := ⟨_, rfl⟩
  obtain ⟨a1, e1⟩ : ∃ a, (x.pc + 1) % 1024 = a := ⟨_, rfl⟩
  obtain ⟨a2, e2⟩ : ∃ a, (x.pc + 2) % 1024 = a := ⟨_, rfl⟩
  have m0 : (IntKind.i64.wrap x.pc).tmod 1024 = a0 := by rw [show IntKind.i64.wrap x.pc = x.pc from IntWalk.i64_in _ (by omega)]; exact (Int.tmod_eq_emod_of_nonneg (by omega)).trans e0
  have m1 : (IntKind.i64.wrap (x.pc + 1)).tmod 1024 = a1 := by rw [show IntKind.i64.wrap (x.pc + 1) = x.pc + 1 from IntWalk.i64_in _ (by omega)]; exact (Int.tmod_eq_emod_of_nonneg (by omega)).trans e1
  have m2 : (IntKind.i64.wrap (x.pc + 2)).tmod 1024 = a2 := by rw [show IntKind.i64.wrap (x.pc + 2) = x.pc + 2 from IntWalk.i64_in _ (by omega)]; exact (Int.tmod_eq_emod_of_nonneg (by omega)).trans e2
  rw [e0, e1, e2]
  have l0 : 0 ≤ a0 := by omega
  have u0 : a0 ≤ 1023 := by omega
  have l1 : 0 ≤ a1 := by omega
  have u1 : a1 ≤ 1023 := by omega
  have l2 : 0 ≤ a2 := by omega
  have u2 : a2 ≤ 1023 := by omega
  have g1 := inB_iff.2 (f.pk l1 u1)
  have g2 := inB_iff.2 (f.pk l2 u2)
  replace g1 := Lib.hid g1
  replace g2 := Lib.hid g2
  have HBK := Lib.hid (Blk.new w 84 #[.int .i64 0, .int .i64 0])
  have hsz : (w.alloc (.cells #[.int .i64 0, .int .i64 0] 84)).heap.size = w.heap.size + 1 := by simp
  have hE : ((w.alloc (.cells #[.int .i64 0, .int .i64 0] 84)).alloc (.cells #[] 3)).ownsRow (w.heap.size + 1) 3 1 (.slice (some ⟨w.heap.size + 1, 0, none⟩) 0 0) 0 (iv []) := by
    have this : ((w.alloc (.cells #[.int .i64 0, .int .i64 0] 84)).alloc (.cells #[] 3)).ownsRow (w.alloc (.cells #[.int .i64 0, .int .i64 0] 84)).heap.size 3 1 (.slice (some ⟨(w.alloc (.cells #[.int .i64 0, .int .i64 0] 84)).heap.size, 0, none⟩) 0 0) 0 (iv []) := World.ownsRow_lit (w.alloc (.cells #[.int .i64 0, .int .i64 0] 84)) #[] 0 (Nat.le_refl _) (by simp [maxLen]) rfl
    rw [hsz] at this
    exact this
  have HE := Lib.hid hE
  have HB0 := Lib.hid ((((Below.refl w.heap.size w).alloc (Nat.le_refl _) (.cells #[.int .i64 0, .int .i64 0] 84))).alloc (by simp) (.cells #[] 3))
  clear h e0 e1 e2 hE
  go_enter Try.func60, Try.ntmps60
  go_wp2_with fail
  go_loopw [5, 6] (fun list i wr => ∃ (k : Nat) (A' : Option Addr) (c' : Nat), list = .slice A' k c' ∧ i = .int .i64 k ∧ k ≤ 3 ∧ Below w.heap.size w wr ∧ wr.ownsRow (w.heap.size + 1) 3 1 (.slice A' k c') k (iv (by3 (x.pm.pk a0) (x.pm.pk a1) (x.pm.pk a2) k)) ∧ Blk wr w.heap.size 84 #[.int .i64 0, .int .i64 0]) (fun _ i _ => 3 - (intOf i).toNat)
  case atStart => exact ⟨0, some ⟨w.heap.size + 1, 0, none⟩, 0, rfl, rfl, by omega, HB0.out, HE.out, HBK.out.alloc _⟩
  case round =>
    obtain ⟨k, A', c', rfl, rfl, hk, hb, ho, hK⟩ := hrel
    have HM := Lib.hid (HX.out.below hb)
    obtain ⟨⟨c0, c1, c2⟩, c3, c4, c5, c6, c7, c8⟩ := HM.out.box.all
    have HD := Lib.hid (HM.out.below (Below.refl wr.heap.size wr).drew)
    have hsz := hb.size
    have hz := hK.lt
    have HO := Lib.hid ho
    have hK := Lib.hid hK
    replace hb := Lib.hid hb
    clear ho
    obtain rfl | rfl | rfl | rfl : k = 0 ∨ k = 1 ∨ k = 2 ∨ k = 3 := by omega
    · have OWN := Lib.hid (show wr.ownsRow (w.heap.size + 1) 3 1 (.slice A' 0 c') 0 (iv (by3 (x.pm.pk a0) (x.pm.pk a1) (x.pm.pk a2) 0)) from HO.out)
      go_wp2_with fail
      go_region_law ((first | (refine step_pushM (by rfl) _ _ (by rfl) (w.heap.size + 1) 0 c' w5.heap.size 1 A' (by3 (x.pm.pk a0) (x.pm.pk a1) (x.pm.pk a2) 0) (x.pm.pk a0) (by rfl) (by rfl) O5.out (cell_new _ _ _ 0) (by omega) y5 ?_; intro A6 c6 w6 o6 g6 k6; have B6 := Lib.hid (D5.out.trans (below_of_grown (B := w.heap.size + 1) g6 y5 (fun k hk => (O5.out.lt k hk).1))); replace o6 := Lib.hid o6; clear g6 k6) | (refine ob_plain rfl (ob_call 73 _ _ #[.agg #[.slice x.A x.n x.c, .slice x.R x.rn x.rc, .int .i64 x.bank], .int .i64 a0] rfl (by kernel_rfl) (fun _ _ => by kernel_rfl) ?_); refine (l2Read_any _ _ _ _ _ _ _ _ _ a0 _ (HD.out.rd f).m f.m l0 u0).mono ?_; rintro e w5 ⟨rfl, b5'⟩; have b5 : Below wr.heap.size wr w5 := (Below.refl wr.heap.size wr).drew.trans b5'; clear b5'; have y4 : w.heap.size + 1 ≤ w5.heap.size := Nat.le_trans hz b5.size; have b7 := (Below.refl w5.heap.size w5).alloc (Nat.le_refl _) (.cells #[.int .i64 (x.pm.pk a0)] 3); have y5 : w.heap.size + 1 ≤ (w5.alloc (.cells #[.int .i64 (x.pm.pk a0)] 3)).heap.size := Nat.le_trans y4 b7.size; have O5 := Lib.hid (own_below (own_below OWN.out b5) ((Below.refl _ _).alloc (Nat.le_refl _) (.cells #[.int .i64 (x.pm.pk a0)] 3))); have D5 := Lib.hid ((b5.mono (show w.heap.size + 1 ≤ _ from hz) : Below (w.heap.size + 1) wr w5).alloc y4 (.cells #[.int .i64 (x.pm.pk a0)] 3)); clear b7 y4; clear b5; refine ⟨_, rfl, ?_⟩)))
      all_goals (
        go_wp2_with fail
        go_roundw
        case rel => exact ⟨0 + 1, A6, c6, rfl, by go_num, by omega, hb.out.trans (B6.out.mono (Nat.le_succ _)), o6.out, (hK.out.below1 B6.out)⟩
        case measure => simp [intOf])
    · have OWN := Lib.hid (show wr.ownsRow (w.heap.size + 1) 3 1 (.slice A' 1 c') 1 (iv (by3 (x.pm.pk a0) (x.pm.pk a1) (x.pm.pk a2) 1)) from HO.out)
      go_wp2_with fail
      go_region_law ((first | (refine step_pushM (by rfl) _ _ (by rfl) (w.heap.size + 1) 1 c' w5.heap.size 1 A' (by3 (x.pm.pk a0) (x.pm.pk a1) (x.pm.pk a2) 1) (x.pm.pk a1) (by rfl) (by rfl) O5.out (cell_new _ _ _ 0) (by omega) y5 ?_; intro A6 c6 w6 o6 g6 k6; have B6 := Lib.hid (D5.out.trans (below_of_grown (B := w.heap.size + 1) g6 y5 (fun k hk => (O5.out.lt k hk).1))); replace o6 := Lib.hid o6; clear g6 k6) | (refine ob_plain rfl (ob_call 73 _ _ #[.agg #[.slice x.A x.n x.c, .slice x.R x.rn x.rc, .int .i64 x.bank], .int .i64 a1] rfl (by kernel_rfl) (fun _ _ => by kernel_rfl) ?_); refine (l2Read_any _ _ _ _ _ _ _ _ _ a1 _ (HD.out.rd f).m f.m l1 u1).mono ?_; rintro e w5 ⟨rfl, b5'⟩; have b5 : Below wr.heap.size wr w5 := (Below.refl wr.heap.size wr).drew.trans b5'; clear b5'; have y4 : w.heap.size + 1 ≤ w5.heap.size := Nat.le_trans hz b5.size; have b7 := (Below.refl w5.heap.size w5).alloc (Nat.le_refl _) (.cells #[.int .i64 (x.pm.pk a1)] 3); have y5 : w.heap.size + 1 ≤ (w5.alloc (.cells #[.int .i64 (x.pm.pk a1)] 3)).heap.size := Nat.le_trans y4 b7.size; have O5 := Lib.hid (own_below (own_below OWN.out b5) ((Below.refl _ _).alloc (Nat.le_refl _) (.cells #[.int .i64 (x.pm.pk a1)] 3))); have D5 := Lib.hid ((b5.mono (show w.heap.size + 1 ≤ _ from hz) : Below (w.heap.size + 1) wr w5).alloc y4 (.cells #[.int .i64 (x.pm.pk a1)] 3)); clear b7 y4; clear b5; refine ⟨_, rfl, ?_⟩)))
      all_goals (
        go_wp2_with fail
        go_roundw
        case rel => exact ⟨1 + 1, A6, c6, rfl, by go_num, by omega, hb.out.trans (B6.out.mono (Nat.le_succ _)), o6.out, (hK.out.below1 B6.out)⟩
        case measure => simp [intOf])
    · have OWN := Lib.hid (show wr.ownsRow (w.heap.size + 1) 3 1 (.slice A' 2 c') 2 (iv (by3 (x.pm.pk a0) (x.pm.pk a1) (x.pm.pk a2) 2)) from HO.out)
      go_wp2_with fail
      go_region_law ((first | (refine step_pushM (by rfl) _ _ (by rfl) (w.heap.size + 1) 2 c' w5.heap.size 1 A' (by3 (x.pm.pk a0) (x.pm.pk a1) (x.pm.pk a2) 2) (x.pm.pk a2) (by rfl) (by rfl) O5.out (cell_new _ _ _ 0) (by omega) y5 ?_; intro A6 c6 w6 o6 g6 k6; have B6 := Lib.hid (D5.out.trans (below_of_grown (B := w.heap.size + 1) g6 y5 (fun k hk => (O5.out.lt k hk).1))); replace o6 := Lib.hid o6; clear g6 k6) | (refine ob_plain rfl (ob_call 73 _ _ #[.agg #[.slice x.A x.n x.c, .slice x.R x.rn x.rc, .int .i64 x.bank], .int .i64 a2] rfl (by kernel_rfl) (fun _ _ => by kernel_rfl) ?_); refine (l2Read_any _ _ _ _ _ _ _ _ _ a2 _ (HD.out.rd f).m f.m l2 u2).mono ?_; rintro e w5 ⟨rfl, b5'⟩; have b5 : Below wr.heap.size wr w5 := (Below.refl wr.heap.size wr).drew.trans b5'; clear b5'; have y4 : w.heap.size + 1 ≤ w5.heap.size := Nat.le_trans hz b5.size; have b7 := (Below.refl w5.heap.size w5).alloc (Nat.le_refl _) (.cells #[.int .i64 (x.pm.pk a2)] 3); have y5 : w.heap.size + 1 ≤ (w5.alloc (.cells #[.int .i64 (x.pm.pk a2)] 3)).heap.size := Nat.le_trans y4 b7.size; have O5 := Lib.hid (own_below (own_below OWN.out b5) ((Below.refl _ _).alloc (Nat.le_refl _) (.cells #[.int .i64 (x.pm.pk a2)] 3))); have D5 := Lib.hid ((b5.mono (show w.heap.size + 1 ≤ _ from hz) : Below (w.heap.size + 1) wr w5).alloc y4 (.cells #[.int .i64 (x.pm.pk a2)] 3)); clear b7 y4; clear b5; refine ⟨_, rfl, ?_⟩)))
      all_goals (
        go_wp2_with fail
        go_roundw
        case rel => exact ⟨2 + 1, A6, c6, rfl, by go_num, by omega, hb.out.trans (B6.out.mono (Nat.le_succ _)), o6.out, (hK.out.below1 B6.out)⟩
        case measure => simp [intOf])
    · rcases own_block' HO.out with ⟨_, h0, _⟩ | ⟨g, rfl, hgl, hgs⟩
      · omega
      have hcp := own_cap HO.out
      have D0 : wr.cell? ⟨g, 0, none⟩ = some (.int .i64 (x.pm.pk a0)) := (HO.out.cellAt 0 (by omega)).trans rfl
      have D1 : wr.cell? ⟨g, 1, none⟩ = some (.int .i64 (x.pm.pk a1)) := (HO.out.cellAt 1 (by omega)).trans rfl
      have D2 : wr.cell? ⟨g, 2, none⟩ = some (.int .i64 (x.pm.pk a2)) := (HO.out.cellAt 2 (by omega)).trans rfl
      have q1 : (1 : Int) ≤ (c' : Int) := by omega
      have q2 : (2 : Int) ≤ (c' : Int) := by omega
      have q3 : (3 : Int) ≤ (c' : Int) := by omega
      have E0 := Lib.hid D0
      have E1 := Lib.hid D1
      have E2 := Lib.hid D2
      clear HM HD c0 c1 c2 c3 c4 c5 c6 c7 c8 HO D1 D2
      rcases olen_in (x.pm.pk a0) with hn | hn | hn | hn
      · have hd : decP (x.pm.pk a0) (x.pm.pk a1) (x.pm.pk a2) = none := by unfold decP; rw [hn]; simp
        go_wp2_with (go_at_call 84; refine (orderLength_spec _ _).mono ?_; rintro e w5 ⟨rfl, b5⟩; rw [hn]; have B5 := hb.out.trans (b5.mono hb.out.size); have R5 := hK.out.below b5 hz; have s0 := R5.cell 0; have s1 := R5.cell 1; have f0 := R5.frozen 0; have f1 := R5.frozen 1; have z5 := R5.lt; have G0 := Lib.hid ((b5.cell (p := ⟨g, 0, none⟩) hgs).trans E0.out); have G1 := Lib.hid ((b5.cell (p := ⟨g, 1, none⟩) hgs).trans E1.out); have G2 := Lib.hid ((b5.cell (p := ⟨g, 2, none⟩) hgs).trans E2.out); have hg5 : g < w5.heap.size := Nat.lt_of_lt_of_le hgs b5.size; replace B5 := Lib.hid B5; replace R5 := Lib.hid R5; clear b5)
        refine bodyPost_ret (results_row2 Try.results60 _ _ w.heap.size 84 #[.int .i64 0, .int .i64 0] (0, 0) _ rfl ((R5.out.set_ 0 _).set_ 1 _) Try.underlying84 rfl (by kernel_rfl)) rfl ?_
        exact ⟨by rw [hd]; rfl, (B5.out.setCell (Nat.le_refl _) _).setCell (Nat.le_refl _) _⟩
      · rcases hd : decP (x.pm.pk a0) (x.pm.pk a1) (x.pm.pk a2) with _ | ⟨op, arg, len⟩
        · go_wp2_with (first | (go_at_call 84; refine (orderLength_spec _ _).mono ?_; rintro e w5 ⟨rfl, b5⟩; rw [hn]; have B5 := hb.out.trans (b5.mono hb.out.size); have R5 := hK.out.below b5 hz; have s0 := R5.cell 0; have s1 := R5.cell 1; have f0 := R5.frozen 0; have f1 := R5.frozen 1; have z5 := R5.lt; have G0 := Lib.hid ((b5.cell (p := ⟨g, 0, none⟩) hgs).trans E0.out); have G1 := Lib.hid ((b5.cell (p := ⟨g, 1, none⟩) hgs).trans E1.out); have G2 := Lib.hid ((b5.cell (p := ⟨g, 2, none⟩) hgs).trans E2.out); have hg5 : g < w5.heap.size := Nat.lt_of_lt_of_le hgs b5.size; replace B5 := Lib.hid B5; replace R5 := Lib.hid R5; clear b5) | (go_at_call 85; refine (decode_spec _ _ _ 1 g c' _ hg5 G0.out G1.out G2.out hn (by omega) g1.out g2.out).mono ?_; rintro e w8 ⟨rfl, b8⟩; rw [hd]; have B8 := below_step B5.out b8 B5.out.size; have R8 := R5.out.below b8 z5; have s0 := R8.cell 0; have s1 := R8.cell 1; have f0 := R8.frozen 0; have f1 := R8.frozen 1; have z8 := R8.lt; replace B8 := Lib.hid B8; replace R8 := Lib.hid R8; clear b8; first | rw [decV_n] | rw [decV_s]))
          refine bodyPost_ret (results_row2 Try.results60 _ _ w.heap.size 84 #[.int .i64 0, .int .i64 0] (0, 0) _ rfl ((R8.out.set_ 0 _).set_ 1 _) Try.underlying84 rfl (by kernel_rfl)) rfl ?_
          exact ⟨by rw [hd]; rfl, (B8.out.setCell (Nat.le_refl _) _).setCell (Nat.le_refl _) _⟩
        · go_wp2_with (first | (go_at_call 84; refine (orderLength_spec _ _).mono ?_; rintro e w5 ⟨rfl, b5⟩; rw [hn]; have B5 := hb.out.trans (b5.mono hb.out.size); have R5 := hK.out.below b5 hz; have s0 := R5.cell 0; have s1 := R5.cell 1; have f0 := R5.frozen 0; have f1 := R5.frozen 1; have z5 := R5.lt; have G0 := Lib.hid ((b5.cell (p := ⟨g, 0, none⟩) hgs).trans E0.out); have G1 := Lib.hid ((b5.cell (p := ⟨g, 1, none⟩) hgs).trans E1.out); have G2 := Lib.hid ((b5.cell (p := ⟨g, 2, none⟩) hgs).trans E2.out); have hg5 : g < w5.heap.size := Nat.lt_of_lt_of_le hgs b5.size; replace B5 := Lib.hid B5; replace R5 := Lib.hid R5; clear b5) | (go_at_call 85; refine (decode_spec _ _ _ 1 g c' _ hg5 G0.out G1.out G2.out hn (by omega) g1.out g2.out).mono ?_; rintro e w8 ⟨rfl, b8⟩; rw [hd]; have B8 := below_step B5.out b8 B5.out.size; have R8 := R5.out.below b8 z5; have s0 := R8.cell 0; have s1 := R8.cell 1; have f0 := R8.frozen 0; have f1 := R8.frozen 1; have z8 := R8.lt; replace B8 := Lib.hid B8; replace R8 := Lib.hid R8; clear b8; first | rw [decV_n] | rw [decV_s]))
          refine bodyPost_ret (results_row2 Try.results60 _ _ w.heap.size 84 #[.int .i64 op, .int .i64 arg] (0, 0) _ rfl ((R8.out.set_ 0 _).set_ 1 _) Try.underlying84 rfl rfl) rfl ?_
          exact ⟨by rw [hd]; rfl, (B8.out.setCell (Nat.le_refl _) _).setCell (Nat.le_refl _) _⟩
      · rcases hd : decP (x.pm.pk a0) (x.pm.pk a1) (x.pm.pk a2) with _ | ⟨op, arg, len⟩
        · go_wp2_with (first | (go_at_call 84; refine (orderLength_spec _ _).mono ?_; rintro e w5 ⟨rfl, b5⟩; rw [hn]; have B5 := hb.out.trans (b5.mono hb.out.size); have R5 := hK.out.below b5 hz; have s0 := R5.cell 0; have s1 := R5.cell 1; have f0 := R5.frozen 0; have f1 := R5.frozen 1; have z5 := R5.lt; have G0 := Lib.hid ((b5.cell (p := ⟨g, 0, none⟩) hgs).trans E0.out); have G1 := Lib.hid ((b5.cell (p := ⟨g, 1, none⟩) hgs).trans E1.out); have G2 := Lib.hid ((b5.cell (p := ⟨g, 2, none⟩) hgs).trans E2.out); have hg5 : g < w5.heap.size := Nat.lt_of_lt_of_le hgs b5.size; replace B5 := Lib.hid B5; replace R5 := Lib.hid R5; clear b5) | (go_at_call 85; refine (decode_spec _ _ _ 2 g c' _ hg5 G0.out G1.out G2.out hn (by omega) g1.out g2.out).mono ?_; rintro e w8 ⟨rfl, b8⟩; rw [hd]; have B8 := below_step B5.out b8 B5.out.size; have R8 := R5.out.below b8 z5; have s0 := R8.cell 0; have s1 := R8.cell 1; have f0 := R8.frozen 0; have f1 := R8.frozen 1; have z8 := R8.lt; replace B8 := Lib.hid B8; replace R8 := Lib.hid R8; clear b8; first | rw [decV_n] | rw [decV_s]))
          refine bodyPost_ret (results_row2 Try.results60 _ _ w.heap.size 84 #[.int .i64 0, .int .i64 0] (0, 0) _ rfl ((R8.out.set_ 0 _).set_ 1 _) Try.underlying84 rfl (by kernel_rfl)) rfl ?_
          exact ⟨by rw [hd]; rfl, (B8.out.setCell (Nat.le_refl _) _).setCell (Nat.le_refl _) _⟩
        · go_wp2_with (first | (go_at_call 84; refine (orderLength_spec _ _).mono ?_; rintro e w5 ⟨rfl, b5⟩; rw [hn]; have B5 := hb.out.trans (b5.mono hb.out.size); have R5 := hK.out.below b5 hz; have s0 := R5.cell 0; have s1 := R5.cell 1; have f0 := R5.frozen 0; have f1 := R5.frozen 1; have z5 := R5.lt; have G0 := Lib.hid ((b5.cell (p := ⟨g, 0, none⟩) hgs).trans E0.out); have G1 := Lib.hid ((b5.cell (p := ⟨g, 1, none⟩) hgs).trans E1.out); have G2 := Lib.hid ((b5.cell (p := ⟨g, 2, none⟩) hgs).trans E2.out); have hg5 : g < w5.heap.size := Nat.lt_of_lt_of_le hgs b5.size; replace B5 := Lib.hid B5; replace R5 := Lib.hid R5; clear b5) | (go_at_call 85; refine (decode_spec _ _ _ 2 g c' _ hg5 G0.out G1.out G2.out hn (by omega) g1.out g2.out).mono ?_; rintro e w8 ⟨rfl, b8⟩; rw [hd]; have B8 := below_step B5.out b8 B5.out.size; have R8 := R5.out.below b8 z5; have s0 := R8.cell 0; have s1 := R8.cell 1; have f0 := R8.frozen 0; have f1 := R8.frozen 1; have z8 := R8.lt; replace B8 := Lib.hid B8; replace R8 := Lib.hid R8; clear b8; first | rw [decV_n] | rw [decV_s]))
          refine bodyPost_ret (results_row2 Try.results60 _ _ w.heap.size 84 #[.int .i64 op, .int .i64 arg] (0, 0) _ rfl ((R8.out.set_ 0 _).set_ 1 _) Try.underlying84 rfl rfl) rfl ?_
          exact ⟨by rw [hd]; rfl, (B8.out.setCell (Nat.le_refl _) _).setCell (Nat.le_refl _) _⟩
      · rcases hd : decP (x.pm.pk a0) (x.pm.pk a1) (x.pm.pk a2) with _ | ⟨op, arg, len⟩
        · go_wp2_with (first | (go_at_call 84; refine (orderLength_spec _ _).mono ?_; rintro e w5 ⟨rfl, b5⟩; rw [hn]; have B5 := hb.out.trans (b5.mono hb.out.size); have R5 := hK.out.below b5 hz; have s0 := R5.cell 0; have s1 := R5.cell 1; have f0 := R5.frozen 0; have f1 := R5.frozen 1; have z5 := R5.lt; have G0 := Lib.hid ((b5.cell (p := ⟨g, 0, none⟩) hgs).trans E0.out); have G1 := Lib.hid ((b5.cell (p := ⟨g, 1, none⟩) hgs).trans E1.out); have G2 := Lib.hid ((b5.cell (p := ⟨g, 2, none⟩) hgs).trans E2.out); have hg5 : g < w5.heap.size := Nat.lt_of_lt_of_le hgs b5.size; replace B5 := Lib.hid B5; replace R5 := Lib.hid R5; clear b5) | (go_at_call 85; refine (decode_spec _ _ _ 3 g c' _ hg5 G0.out G1.out G2.out hn (by omega) g1.out g2.out).mono ?_; rintro e w8 ⟨rfl, b8⟩; rw [hd]; have B8 := below_step B5.out b8 B5.out.size; have R8 := R5.out.below b8 z5; have s0 := R8.cell 0; have s1 := R8.cell 1; have f0 := R8.frozen 0; have f1 := R8.frozen 1; have z8 := R8.lt; replace B8 := Lib.hid B8; replace R8 := Lib.hid R8; clear b8; first | rw [decV_n] | rw [decV_s]))
          refine bodyPost_ret (results_row2 Try.results60 _ _ w.heap.size 84 #[.int .i64 0, .int .i64 0] (0, 0) _ rfl ((R8.out.set_ 0 _).set_ 1 _) Try.underlying84 rfl (by kernel_rfl)) rfl ?_
          exact ⟨by rw [hd]; rfl, (B8.out.setCell (Nat.le_refl _) _).setCell (Nat.le_refl _) _⟩
        · go_wp2_with (first | (go_at_call 84; refine (orderLength_spec _ _).mono ?_; rintro e w5 ⟨rfl, b5⟩; rw [hn]; have B5 := hb.out.trans (b5.mono hb.out.size); have R5 := hK.out.below b5 hz; have s0 := R5.cell 0; have s1 := R5.cell 1; have f0 := R5.frozen 0; have f1 := R5.frozen 1; have z5 := R5.lt; have G0 := Lib.hid ((b5.cell (p := ⟨g, 0, none⟩) hgs).trans E0.out); have G1 := Lib.hid ((b5.cell (p := ⟨g, 1, none⟩) hgs).trans E1.out); have G2 := Lib.hid ((b5.cell (p := ⟨g, 2, none⟩) hgs).trans E2.out); have hg5 : g < w5.heap.size := Nat.lt_of_lt_of_le hgs b5.size; replace B5 := Lib.hid B5; replace R5 := Lib.hid R5; clear b5) | (go_at_call 85; refine (decode_spec _ _ _ 3 g c' _ hg5 G0.out G1.out G2.out hn (by omega) g1.out g2.out).mono ?_; rintro e w8 ⟨rfl, b8⟩; rw [hd]; have B8 := below_step B5.out b8 B5.out.size; have R8 := R5.out.below b8 z5; have s0 := R8.cell 0; have s1 := R8.cell 1; have f0 := R8.frozen 0; have f1 := R8.frozen 1; have z8 := R8.lt; replace B8 := Lib.hid B8; replace R8 := Lib.hid R8; clear b8; first | rw [decV_n] | rw [decV_s]))
          refine bodyPost_ret (results_row2 Try.results60 _ _ w.heap.size 84 #[.int .i64 op, .int .i64 arg] (0, 0) _ rfl ((R8.out.set_ 0 _).set_ 1 _) Try.underlying84 rfl rfl) rfl ?_
          exact ⟨by rw [hd]; rfl, (B8.out.setCell (Nat.le_refl _) _).setCell (Nat.le_refl _) _⟩
end Go.Proofs.Ytgedfcccflobmaa
