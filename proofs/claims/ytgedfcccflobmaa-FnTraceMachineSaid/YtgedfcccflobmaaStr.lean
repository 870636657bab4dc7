/-
  The reference's TraceMachine, walked.
-/
import Derived.Test.YtgedfcccflobmaaTra
import Derived.Test.YtgedfcccflobmaaSst
import Derived.Test.YtgedfcccflobmaaScq
namespace Go.Proofs.Ytgedfcccflobmaa
open Go.RowKit
set_option linter.unusedVariables false
set_option linter.unusedSimpArgs false
attribute [local go_sem ↓] Go.wp_at_zero Go.wp_at_succ
/-- A row apart from the machine's grows, wherever it lies. -/
theorem MSt.grown2 {lo h1 h2 b : Nat} {x : Mch} {vs : List Value} {w w' : World} {r : Option Nat} (h : MSt lo h1 h2 b x vs w) (hl : lo ≤ h1) (hlb : lo ≤ b) (g : w.grownBy w' r) (hr : ∀ k, r = some k → k < lo ∨ b < k) (hb : ∀ k, r = some k → (Value.slice x.B x.bn x.bc).ownBlock ≠ some k) : MSt lo h1 h2 b x vs w' := by
  obtain ⟨r2, q1, q2, q3⟩ := h.rom
  have o2 := h.o2
  have lt := h.blk.lt
  have far : ∀ k, lo ≤ k → k ≤ b → w'.heap[k]? = w.heap[k]? := fun k hl hk => g.block k (by omega) fun e => by have := hr k e.symm; omega
  exact ⟨(far b hlb (Nat.le_refl _)).trans h.blk, own_same h.ram fun k hk => far k (h.ram.lt k hk).1 (by have := h.rlt k hk; omega), h.rlt, ⟨r2, q1, q2, local_ZG _ _ _ _ _ _ w w' q3 g.size fun k k1 k2 => far k (by omega) (by omega)⟩, h.rl, own_same h.back fun k hk => g.block k (h.back.lt k hk).2 fun e => hb k e.symm hk, h.o2⟩
/-- The machine after k steps, the row of addresses apart from it. -/
def TrJ (base lo h1 h2 b : Nat) (p : PM) (vs : List Value) (k : Nat) (x' : Mch) (A : Option Addr) (c : Nat) (wr : World) : Prop :=
  MSt lo h1 h2 b x' vs wr ∧ x'.pm = runP p k ∧ (∀ i, i < k → (runP p i).st = false) ∧ wr.ownsRow base 3 1 (.slice A k c) k (iv (pcsP p k)) ∧ (∀ g, (Value.slice A k c).ownBlock = some g → g < lo ∨ b < g) ∧ ∀ g, (Value.slice A k c).ownBlock = some g → (Value.slice x'.B x'.bn x'.bc).ownBlock ≠ some g
set_option maxRecDepth 4000 in
set_option maxHeartbeats 4000000 in
theorem trace_validS (x : Mch) (ad : Addr) (N : Nat) (w : World) (hA : x.A = some ad) (h : MRd w x) (hv : machB x = true) (hn : inB (N : Int) 0 500 = true) (hB : x.B = none → x.bc = 0) :
    Calls Try.prog 10 #[x.val, .int .i64 N] w (Gives w (traceP x.pm N)) := by
  obtain ⟨n0, n5⟩ := inB_iff.1 hn
  have hf : formB x = true := by unfold machB at hv; simp only [Bool.and_eq_true] at hv; exact hv.1
  have F := Lib.hid (form_iff.1 (formP_of.trans hf))
  have hcy := Lib.hid (show 0 ≤ x.cyc ∧ x.cyc ≤ 1000000000 by unfold machB at hv; simp only [Bool.and_eq_true] at hv; exact inB_iff.1 hv.2)
  have hb0 : Below w.heap.size w ((w.alloc (.cells x.cs 28)).alloc (.cells #[] 3)) := ((Below.refl _ _).alloc (Nat.le_refl _) _).alloc (by simp) _
  have hb1 : Below (w.alloc (.cells x.cs 28)).heap.size (w.alloc (.cells x.cs 28)) ((w.alloc (.cells x.cs 28)).alloc (.cells #[] 3)) := (Below.refl _ _).alloc (Nat.le_refl _) _
  have HR := Lib.hid (h.below hb0)
  have HB0 := Lib.hid hb0
  have BX := Lib.hid ((MBox.new w x 28).below hb1)
  have HE := Lib.hid (lit_own (w.alloc (.cells x.cs 28)) w.heap.size (by simp))
  have hsz : ((w.alloc (.cells x.cs 28)).alloc (.cells #[] 3)).heap.size = w.heap.size + 2 := by simp
  have hsz1 : (w.alloc (.cells x.cs 28)).heap.size = w.heap.size + 1 := by simp
  rw [hsz1] at HE
  replace hsz := Lib.hid hsz
  replace hsz1 := Lib.hid hsz1
  obtain ⟨⟨c0, c1, c2⟩, c3, c4, c5, c6, c7, c8⟩ := BX.out.all
  obtain ⟨⟨d0, d1, d2⟩, d3, d4, d5, d6, d7, d8⟩ := (MBox.new w x 28).all
  replace hf := Lib.hid hf
  replace hv := Lib.hid hv
  replace hn := Lib.hid hn
  replace hB := Lib.hid hB
  replace hA := Lib.hid hA
  clear hb0 hb1 h
  have hx : x.val = .agg #[.slice x.A x.n x.c, .slice x.R x.rn x.rc, .int .i64 x.bank, .int .i64 x.a, .int .i64 x.pc, .bool x.cy, .slice x.B x.bn x.bc, .bool x.st, .int .i64 x.cyc] := rfl
  have hcs : x.cs = #[.slice x.A x.n x.c, .slice x.R x.rn x.rc, .int .i64 x.bank, .int .i64 x.a, .int .i64 x.pc, .bool x.cy, .slice x.B x.bn x.bc, .bool x.st, .int .i64 x.cyc] := rfl
  rw [hx]
  rw [hcs] at c0 c1 c2 c3 c4 c5 c6 c7 c8 d0 d1 d2 d3 d4 d5 d6 d7 d8
  go_enter Try.func10, Try.ntmps10
  go_wp2_with (first
    | (go_at_call 11; refine (machineValid_spec x _ HR.out).mono ?_; rintro e w5 ⟨rfl, b5⟩; rw [hv.out]; have B5 := BX.out.below b5; obtain ⟨⟨c0, c1, c2⟩, c3, c4, c5, c6, c7, c8⟩ := B5.all; have HR5 := Lib.hid (HR.out.below b5); have HB5 := Lib.hid (below_step HB0.out b5 HB0.out.size); have HE5 := Lib.hid (own_below HE.out b5); have z5 : w.heap.size + 2 ≤ w5.heap.size := (by rw [← hsz.out]; exact b5.size); clear B5 b5)
    | (go_at_call 33; refine (l1In_any _ _ _ _).mono ?_; rintro e w' ⟨rfl, rfl⟩; rw [hn.out])
    | (go_at_call 34; refine (l5Copy_at x ad _ hA.out HR5.out hf.out hB.out).mono ?_; rintro e w7 ⟨y, vs, h1, h2, rfl, hs, M7, L7, b7⟩; have HB7 := Lib.hid (below_step HB5.out b7 HB5.out.size); have HE7 := Lib.hid (own_below HE5.out b7); have z7 := b7.size; replace hs := Lib.hid hs; replace M7 := Lib.hid M7; replace L7 := Lib.hid L7; clear b7; rw [show y.val = .agg #[.slice y.A y.n y.c, .slice y.R y.rn y.rc, .int .i64 y.bank, .int .i64 y.a, .int .i64 y.pc, .bool y.cy, .slice y.B y.bn y.bc, .bool y.st, .int .i64 y.cyc] from rfl]))
  have hypm : y.pm = x.pm := by obtain ⟨A, c, R, rc, B, bc, rfl⟩ := hs.out; rfl
  have HY := Lib.hid hypm
  have hz := M7.out.o2
  have hz2 := M7.out.lo2
  go_loopw [5, 7] (fun out i wr => ∃ (k : Nat) (x' : Mch) (A' : Option Addr) (c' : Nat), out = .slice A' k c' ∧ i = .int .i64 k ∧ k ≤ N ∧ Below w.heap.size w wr ∧ TrJ w.heap.size w5.heap.size h1 h2 w7.heap.size x.pm vs k x' A' c' wr) (fun _ i _ => N - (intOf i).toNat)
  case atStart => exact ⟨0, y, some ⟨w.heap.size + 1, 0, none⟩, 0, rfl, rfl, Nat.zero_le _, HB7.out.alloc HB7.out.size _, M7.out.box, hypm, fun i hi => absurd hi (Nat.not_lt_zero i), own_below HE7.out ((Below.refl _ _).alloc (Nat.le_refl _) _), fun g hg => by have e1 : w.heap.size + 1 = g := Option.some.inj hg; omega, fun g hg e => by have e1 : w.heap.size + 1 = g := Option.some.inj hg; have := (M7.out.back.lt g e).1; omega⟩
  case round =>
    obtain ⟨k, x', A', c', rfl, rfl, hk, hb, hM, hp, hst, ho, hlie, hne⟩ := hrel
    obtain ⟨-, -, d4, -, -, d7, -⟩ := hM.box.all
    have hbl := hM.blk.lt
    have hBW := Lib.hid hb
    have HM := Lib.hid hM
    have HP := Lib.hid hp
    have HS := Lib.hid hst
    have HO := Lib.hid ho
    have HN := Lib.hid hne
    have HL := Lib.hid hlie
    have h7 : w.heap.size ≤ w7.heap.size := HB7.out.size
    clear hb hM hp hst ho hne hlie
    by_cases hlt : k < N
    · cases hx' : x'.st
      · rw [hx'] at d7
        have q1 : (k : Int) < (N : Int) := by omega
        have q2 : (k : Int) ≤ 500 := by omega
        have FX := Lib.hid (show FormP x'.pm by rw [HP.out]; exact runP_form F.out k)
        have CX := Lib.hid (show 0 ≤ x'.cyc ∧ x'.cyc ≤ 2000000000 by
          have e1 := runP_cyc F.out k
          rw [← HP.out] at e1
          have e2 : x.pm.cyc ≤ x'.cyc ∧ x'.cyc ≤ x.pm.cyc + 3 * (k : Int) := e1
          have e3 : 0 ≤ x.pm.cyc ∧ x.pm.cyc ≤ 1000000000 := hcy.out
          omega)
        have b1 : Below wr.heap.size wr (wr.alloc (.cells #[.int .i64 x'.pc] 3)) := (Below.refl _ _).alloc (Nat.le_refl _) _
        have M1 := Lib.hid (HM.out.below b1)
        have O1 := Lib.hid (own_below HO.out b1)
        have BW1 := Lib.hid (below_step hBW.out b1 hBW.out.size)
        clear b1
        go_wp2_with (first
          | (at_builtin; refine push_own_h _ (by rfl) _ _ (by rfl) w.heap.size k c' wr.heap.size 1 A' (pcsP x.pm k) x'.pc (by rfl) (by rfl) O1.out (cell_new _ _ _ 0) (by omega) (by simp; omega) ?_; intro A9 c9 w9 o9 g9 k9; have z9 := g9.size; have M9 := Lib.hid (M1.out.grown2 L7.out (by omega) g9 HL.out HN.out); replace o9 := Lib.hid o9; replace g9 := Lib.hid g9; replace k9 := Lib.hid k9)
          | (go_at_call 35; refine Calls.mono (l5Step_spec _ _ _ _ x' vs _ M9.out FX.out CX.out.1 CX.out.2) ?_; rintro e w10 ⟨x2, rfl, M3, hp3, f9⟩; replace M3 := Lib.hid M3; replace hp3 := Lib.hid hp3; replace f9 := Lib.hid f9))
        have B3 : Below w.heap.size w w9 := BW1.out.trans (below_of_grown g9.out BW1.out.size fun g hg => (O1.out.lt g hg).1)
        have hne9 : ∀ g, (Value.slice A9 (k + 1) c9).ownBlock = some g → (Value.slice x'.B x'.bn x'.bc).ownBlock ≠ some g := fun g hg => by
          rcases k9.out with q | q
          · exact HN.out g (q ▸ hg)
          · intro e
            have := (HM.out.back.lt g e).2
            rw [q] at hg
            injection hg with hg
            simp at hg
            omega
        have hlie9 : ∀ g, (Value.slice A9 (k + 1) c9).ownBlock = some g → g < w5.heap.size ∨ w7.heap.size < g := fun g hg => by
          rcases k9.out with q | q
          · exact HL.out g (q ▸ hg)
          · rw [q] at hg
            injection hg with hg
            simp at hg
            omega
        go_roundw
        case rel =>
          refine ⟨k + 1, x2, A9, c9, rfl, by go_num, by omega, ?_, M3.out, ?_, ?_, ?_, hlie9, ?_⟩
          · refine B3.trans ⟨f9.out.os, f9.out.tape, f9.out.output, f9.out.size, fun g hg => f9.out.block g (by have := B3.size; omega) (by omega) (fun e => ?_) fun e => ?_⟩
            · have := (M9.out.ram.lt g e).1; have := HB5.out.size; omega
            · have := (M9.out.back.lt g e).1; have := HB5.out.size; omega
          · show _ = stepP _
            rw [hp3.out, HP.out]
          · intro i hi
            by_cases e : i = k
            · subst e; rw [← HP.out]; exact hx'
            · exact HS.out i (by omega)
          · rw [show pcsP x.pm (k + 1) = pcsP x.pm k ++ [x'.pc] by show _ ++ [(runP x.pm k).pc] = _; rw [← HP.out]; rfl]
            refine own_same o9.out fun g hg => f9.out.block g (o9.out.lt g hg).2 (by have := hlie9 g hg; omega) (fun e => ?_) (hne9 g hg)
            have := M9.out.rlt g e; have := (M9.out.ram.lt g e).1; have := hlie9 g hg; omega
          · intro g hg
            rcases f9.out.sb with q | q
            · rw [q]; exact hne9 g hg
            · intro e; have := q g e; have := (o9.out.lt g hg).2; omega
        case measure => simp [intOf]; omega
      · rw [hx'] at d7
        have q1 : (k : Int) < (N : Int) := by omega
        go_wp2_with fail
        go_ret
        obtain ⟨d, hd⟩ : ∃ d, N = k + d := ⟨N - k, by omega⟩
        rw [show traceP x.pm N = pcsP x.pm k by rw [hd, traceP_st (show (runP x.pm k).st = true by rw [← HP.out]; exact hx') d, traceP_run k HS.out]]
        exact ⟨A', c', by rw [pcsP_len]; rfl, by rw [pcsP_len]; exact HO.out, hBW.out⟩
    · obtain rfl : k = N := by omega
      have q1 : ¬ (k : Int) < (k : Int) := by omega
      go_wp2_with fail
      go_ret
      rw [traceP_run k HS.out]
      exact ⟨A', c', by rw [pcsP_len]; rfl, by rw [pcsP_len]; exact HO.out, hBW.out⟩
set_option maxRecDepth 4000 in
set_option maxHeartbeats 2000000 in
theorem traceMachine_spec (x : Mch) (n : Int) (w : World) (h : MRd w x) (hB : x.B = none → x.bc = 0) :
    Calls Try.prog 10 #[x.val, .int .i64 n] w (Gives w (traceR x n)) := by
  cases hv : machB x && inB n 0 500
  · rw [show traceR x n = [] by unfold traceR; rw [hv]; rfl]
    have hb0 : Below w.heap.size w ((w.alloc (.cells x.cs 28)).alloc (.cells #[] 3)) := ((Below.refl _ _).alloc (Nat.le_refl _) _).alloc (by simp) _
    have HR := Lib.hid (h.below hb0)
    have HB0 := Lib.hid hb0
    have HE := Lib.hid (lit_own (w.alloc (.cells x.cs 28)) w.heap.size (by simp))
    have hsz1 : (w.alloc (.cells x.cs 28)).heap.size = w.heap.size + 1 := by simp
    rw [hsz1] at HE
    replace hsz1 := Lib.hid hsz1
    obtain ⟨⟨d0, d1, d2⟩, d3, d4, d5, d6, d7, d8⟩ := (MBox.new w x 28).all
    clear hb0 h hB
    have hx : x.val = .agg #[.slice x.A x.n x.c, .slice x.R x.rn x.rc, .int .i64 x.bank, .int .i64 x.a, .int .i64 x.pc, .bool x.cy, .slice x.B x.bn x.bc, .bool x.st, .int .i64 x.cyc] := rfl
    have hcs : x.cs = #[.slice x.A x.n x.c, .slice x.R x.rn x.rc, .int .i64 x.bank, .int .i64 x.a, .int .i64 x.pc, .bool x.cy, .slice x.B x.bn x.bc, .bool x.st, .int .i64 x.cyc] := rfl
    rw [hx]
    rw [hcs] at d0 d1 d2 d3 d4 d5 d6 d7 d8
    cases hm : machB x
    · replace hv := Lib.hid hv
      go_enter Try.func10, Try.ntmps10
      go_wp2_with (first | (go_at_call 11; refine (machineValid_spec x _ HR.out).mono ?_; rintro e w5 ⟨rfl, b5⟩; rw [hm]; have HB5 := Lib.hid (below_step HB0.out b5 HB0.out.size); have HE5 := Lib.hid (own_below HE.out b5); clear b5) | (go_at_call 33; refine (l1In_any _ _ _ _).mono ?_; rintro e w' ⟨rfl, rfl⟩; rw [hv]))
      go_ret
      exact ⟨some ⟨w.heap.size + 1, 0, none⟩, 0, rfl, HE5.out, HB5.out⟩
    · rw [hm, Bool.true_and] at hv
      go_enter Try.func10, Try.ntmps10
      go_wp2_with (first | (go_at_call 11; refine (machineValid_spec x _ HR.out).mono ?_; rintro e w5 ⟨rfl, b5⟩; rw [hm]; have HB5 := Lib.hid (below_step HB0.out b5 HB0.out.size); have HE5 := Lib.hid (own_below HE.out b5); clear b5) | (go_at_call 33; refine (l1In_any _ _ _ _).mono ?_; rintro e w' ⟨rfl, rfl⟩; rw [hv]))
      go_ret
      exact ⟨some ⟨w.heap.size + 1, 0, none⟩, 0, rfl, HE5.out, HB5.out⟩
  · have hv' := hv
    simp only [Bool.and_eq_true] at hv'
    obtain ⟨h1, h2⟩ := hv'
    obtain ⟨ad, hA⟩ := machB_len h h1
    obtain ⟨n0, -⟩ := inB_iff.1 h2
    obtain ⟨N, rfl⟩ := Int.eq_ofNat_of_zero_le n0
    rw [show traceR x (N : Int) = traceP x.pm N by unfold traceR; rw [hv]; rfl]
    exact trace_validS x ad N w hA h h1 h2 hB
end Go.Proofs.Ytgedfcccflobmaa
