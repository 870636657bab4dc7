/-
  The law FnTraceMachine: a drawn machine's trace; RunMachine at each of its addresses.
-/
import Derived.Test.YtgedfcccflobmaaStr
import Derived.Test.YtgedfcccflobmaaDry
namespace Go.Proofs.Ytgedfcccflobmaa
open Go.RowKit
set_option linter.unusedVariables false
set_option linter.unusedSimpArgs false
theorem traceP_le (p : PM) : ∀ k : Nat, (traceP p k).length ≤ k
  | 0 => Nat.le_refl _
  | k + 1 => by
    have := traceP_le p k
    unfold traceP
    split
    · omega
    · simp; omega
theorem traceR_le (x : Mch) (n : Int) : (traceR x n).length ≤ 500 := by
  unfold traceR
  split
  · rename_i h
    simp only [Bool.and_eq_true] at h
    have := inB_iff.1 h.2
    have := traceP_le x.pm n.toNat
    omega
  · simp
section
attribute [local go_sem ↓] Go.wp_at_zero Go.wp_at_succ
def zeroM0 : Array Value := #[.slice none 0 0, .slice none 0 0, .int .i64 0, .int .i64 0, .int .i64 0, .bool false, .slice none 0 0, .bool false, .int .i64 0]
set_option maxRecDepth 4000 in
set_option maxHeartbeats 4000000 in
theorem run_valid (x : Mch) (ad : Addr) (N : Nat) (w : World) (hA : x.A = some ad) (h : MRd w x) (hv : machB x = true) (hn : inB (N : Int) 0 500 = true) (hB : x.B = none → x.bc = 0) :
    Calls Try.prog 13 #[x.val, .int .i64 N] w (fun e w' => ∃ y : Mch, e = .returned y.val ∧ y.pm = runP x.pm N ∧ Below w.heap.size w w') := by
  obtain ⟨n0, n5⟩ := inB_iff.1 hn
  have hf : formB x = true := by unfold machB at hv; simp only [Bool.and_eq_true] at hv; exact hv.1
  have F := Lib.hid (form_iff.1 (formP_of.trans hf))
  have hcy := Lib.hid (show 0 ≤ x.cyc ∧ x.cyc ≤ 1000000000 by unfold machB at hv; simp only [Bool.and_eq_true] at hv; exact inB_iff.1 hv.2)
  have hb0 : Below w.heap.size w ((w.alloc (.cells x.cs 28)).alloc (.cells zeroM0 28)) := ((Below.refl _ _).alloc (Nat.le_refl _) _).alloc (by simp) _
  have HR := Lib.hid (h.below hb0)
  have HB0 := Lib.hid hb0
  have BX := Lib.hid ((MBox.new w x 28).below (((Below.refl _ (w.alloc (.cells x.cs 28))).alloc (Nat.le_refl _) (.cells zeroM0 28))))
  have HZ := Lib.hid (Blk.new (w.alloc (.cells x.cs 28)) 28 zeroM0)
  obtain ⟨⟨c0, c1, c2⟩, c3, c4, c5, c6, c7, c8⟩ := BX.out.all
  replace hf := Lib.hid hf
  replace hv := Lib.hid hv
  replace hn := Lib.hid hn
  replace hB := Lib.hid hB
  replace hA := Lib.hid hA
  clear hb0 h
  have hx : x.val = .agg #[.slice x.A x.n x.c, .slice x.R x.rn x.rc, .int .i64 x.bank, .int .i64 x.a, .int .i64 x.pc, .bool x.cy, .slice x.B x.bn x.bc, .bool x.st, .int .i64 x.cyc] := rfl
  have hcs : x.cs = #[.slice x.A x.n x.c, .slice x.R x.rn x.rc, .int .i64 x.bank, .int .i64 x.a, .int .i64 x.pc, .bool x.cy, .slice x.B x.bn x.bc, .bool x.st, .int .i64 x.cyc] := rfl
  rw [hx]
  rw [hcs] at c0 c1 c2 c3 c4 c5 c6 c7 c8
  unfold zeroM0 at *
  go_enter Try.func13, Try.ntmps13
  go_wp2_with (first
    | (go_at_call 29; refine (machineValid_impl x _ HR.out).mono ?_; rintro e w5 ⟨rfl, b5⟩; rw [hv.out]; have B5 := BX.out.below b5; obtain ⟨⟨c0, c1, c2⟩, c3, c4, c5, c6, c7, c8⟩ := B5.all; have HR5 := Lib.hid (HR.out.below b5); have HB5 := Lib.hid (below_step HB0.out b5 HB0.out.size); have HZ5 := Lib.hid (HZ.out.below b5 HZ.out.lt); clear B5 b5)
    | (go_at_call 30; refine (within_any _ _ _ _).mono ?_; rintro e w' ⟨rfl, rfl⟩; rw [hn.out])
    | (go_at_call 31; refine (copyMachine_at x ad _ hA.out HR5.out hf.out hB.out).mono ?_; rintro e w7 ⟨y, vs, h1, h2, rfl, hs, M7, b7⟩; have HB7 := Lib.hid (below_step HB5.out b7 HB5.out.size); have HZ7 := Lib.hid (HZ5.out.below b7 HZ5.out.lt); replace hs := Lib.hid hs; replace M7 := Lib.hid M7; clear b7; rw [show y.val = .agg #[.slice y.A y.n y.c, .slice y.R y.rn y.rc, .int .i64 y.bank, .int .i64 y.a, .int .i64 y.pc, .bool y.cy, .slice y.B y.bn y.bc, .bool y.st, .int .i64 y.cyc] from rfl]))
  have hypm : y.pm = x.pm := by obtain ⟨A, c, R, rc, B, bc, rfl⟩ := hs.out; rfl
  have HY := Lib.hid hypm
  have hz := M7.out.o2
  go_loopw [18] (fun i wr => ∃ (k : Nat) (x' : Mch), i = .int .i64 k ∧ k ≤ N ∧ Below w.heap.size w wr ∧ MSt w5.heap.size h1 h2 w7.heap.size x' vs wr ∧ x'.pm = runP x.pm k ∧ Blk wr (w.heap.size + 1) 28 zeroM0) (fun i _ => N - (intOf i).toNat)
  case atStart => exact ⟨0, y, rfl, Nat.zero_le _, HB7.out.alloc HB7.out.size _, M7.out.box, hypm, by have := HZ7.out.alloc (.cells y.cs 28); simpa [zeroM0, Mch.cs] using this⟩
  case round =>
    obtain ⟨k, x', rfl, hk, hb, hM, hp, hZ0⟩ := hrel
    obtain ⟨⟨e0, e1, e2⟩, e3, e4, e5, e6, e7, e8⟩ := hM.box.all
    have hbl := hM.blk.lt
    have hBW := Lib.hid hb
    have HM := Lib.hid hM
    have HP := Lib.hid hp
    have HZ0 := Lib.hid hZ0
    have h7 : w.heap.size ≤ w7.heap.size := HB7.out.size
    clear hb hM hp hZ0
    by_cases hlt : k < N
    · have q1 : (k : Int) < (N : Int) := by omega
      have q2 : (k : Int) ≤ 500 := by omega
      have FX := Lib.hid (show FormP x'.pm by rw [HP.out]; exact runP_form F.out k)
      have CX := Lib.hid (show 0 ≤ x'.cyc ∧ x'.cyc ≤ 2000000000 by
        have e1 := runP_cyc F.out k
        rw [← HP.out] at e1
        have e2 : x.pm.cyc ≤ x'.cyc ∧ x'.cyc ≤ x.pm.cyc + 3 * (k : Int) := e1
        have e3 : 0 ≤ x.pm.cyc ∧ x.pm.cyc ≤ 1000000000 := hcy.out
        omega)
      go_wp2_with (go_at_call 32; refine Calls.mono (step_impl _ _ _ _ x' vs _ HM.out FX.out CX.out.1 CX.out.2) ?_; rintro e w10 ⟨x2, rfl, M3, hp3, f9⟩; replace M3 := Lib.hid M3; replace hp3 := Lib.hid hp3; replace f9 := Lib.hid f9)
      go_roundw
      case rel =>
        refine ⟨k + 1, x2, by go_num, by omega, hBW.out.trans ⟨f9.out.os, f9.out.tape, f9.out.output, f9.out.size, fun g hg => f9.out.block g (by have := hBW.out.size; omega) (by omega) (fun e => ?_) fun e => ?_⟩, M3.out, ?_, ?_⟩
        · have := (HM.out.ram.lt g e).1; have := HB5.out.size; omega
        · have := (HM.out.back.lt g e).1; have := HB5.out.size; have := M7.out.lo2; omega
        · show _ = stepP _
          rw [hp3.out, HP.out]
        · refine (f9.out.block _ HZ0.out.lt ?_ (fun e => ?_) fun e => ?_).trans HZ0.out
          · have := HZ7.out.lt; simp only [World.size_alloc] at this; omega
          · have := (HM.out.ram.lt _ e).1; have := HZ5.out.lt; simp only [World.size_alloc] at this; omega
          · have := (HM.out.back.lt _ e).1; have hq := HZ5.out.lt; simp only [World.size_alloc] at hq; have := M7.out.lo2; omega
      case measure => simp [intOf]; omega
    · obtain rfl : k = N := by omega
      have q1 : ¬ (k : Int) < (k : Int) := by omega
      have hr0 := HZ0.out
      unfold zeroM0 at hr0
      have v0 := hr0.cell 0
      have v1 := hr0.cell 1
      have v2 := hr0.cell 2
      have v3 := hr0.cell 3
      have v4 := hr0.cell 4
      have v5 := hr0.cell 5
      have v6 := hr0.cell 6
      have v7 := hr0.cell 7
      have v8 := hr0.cell 8
      have t0 := hr0.frozen 0
      have t1 := hr0.frozen 1
      have t2 := hr0.frozen 2
      have t3 := hr0.frozen 3
      have t4 := hr0.frozen 4
      have t5 := hr0.frozen 5
      have t6 := hr0.frozen 6
      have t7 := hr0.frozen 7
      have t8 := hr0.frozen 8
      replace hr0 := Lib.hid hr0
      go_wp2_with fail
      have hbk := setN_blk [.slice x'.A x'.n x'.c, .slice x'.R x'.rn x'.rc, .int .i64 x'.bank, .int .i64 x'.a, .int .i64 x'.pc, .bool x'.cy, .slice x'.B x'.bn x'.bc, .bool x'.st, .int .i64 x'.cyc] 0 _ _ hr0.out
      simp only [setA, List.setIfInBounds_toArray, List.set_cons_zero, List.set_cons_succ, Nat.zero_add, Nat.reduceAdd] at hbk
      refine bodyPost_ret (results_cell_row Try.results13 _ _ (w.heap.size + 1) 28 #[.slice x'.A x'.n x'.c, .slice x'.R x'.rn x'.rc, .int .i64 x'.bank, .int .i64 x'.a, .int .i64 x'.pc, .bool x'.cy, .slice x'.B x'.bn x'.bc, .bool x'.st, .int .i64 x'.cyc] (0, 0) _ rfl hbk Try.underlying28 rfl rfl) rfl ?_
      exact ⟨x', rfl, HP.out, setN_below (b := w.heap.size + 1) (by omega) [.slice x'.A x'.n x'.c, .slice x'.R x'.rn x'.rc, .int .i64 x'.bank, .int .i64 x'.a, .int .i64 x'.pc, .bool x'.cy, .slice x'.B x'.bn x'.bc, .bool x'.st, .int .i64 x'.cyc] 0 _ _ hBW.out⟩
end
set_option maxHeartbeats 400000 in
theorem aliveT (w : World) : Calls Try.prog 12 #[] w fun e w' => e = .returned (.bool true) ∧ w = w' := by
  have e8 : wrap64 (IntKind.i8.wrap 255) = -1 := by
    rw [show IntKind.i8.wrap 255 = -1 by decide]
    exact IntWalk.wrap64_in _ (by omega)
  go_enter Try.func12, Try.ntmps12
  go_wp2_with (first | (go_at_call 30; refine (within_any _ _ _ _).mono ?_; rintro e w' ⟨rfl, rfl⟩; rw [show inB 255 0 255 = true from rfl]) | go_in)
  go_ret
  exact ⟨rfl, rfl⟩
theorem pcsP_get (p : PM) {k : Nat} : ∀ {m : Nat}, k < m → (pcsP p m).getD k 0 = (runP p k).pc
  | m + 1, h => by
    unfold pcsP
    rw [List.getD_eq_getElem?_getD]
    by_cases e : k = m
    · subst e
      rw [List.getElem?_append_right (by rw [pcsP_len]; omega), pcsP_len]
      simp
    · rw [List.getElem?_append_left (by rw [pcsP_len]; omega), ← List.getD_eq_getElem?_getD]
      exact pcsP_get p (by omega)
/-- The trace is the addresses of m steps; m is the number asked, or the machine stands then. -/
theorem traceP_form (p : PM) : ∀ N : Nat, ∃ m, m ≤ N ∧ traceP p N = pcsP p m ∧ (m = N ∨ (runP p m).st = true)
  | 0 => ⟨0, Nat.le_refl _, rfl, .inl rfl⟩
  | N + 1 => by
    obtain ⟨m, h1, h2, h3⟩ := traceP_form p N
    have hst : (runP p m).st = true → (runP p N).st = true := fun h => by
      obtain ⟨d, rfl⟩ : ∃ d, N = m + d := ⟨N - m, by omega⟩
      rw [runP_st h]; exact h
    show ∃ m, m ≤ N + 1 ∧ (if (runP p N).st then traceP p N else traceP p N ++ [(runP p N).pc]) = pcsP p m ∧ (m = N + 1 ∨ (runP p m).st = true)
    cases hs : (runP p N).st
    · rcases h3 with rfl | h3
      · exact ⟨m + 1, Nat.le_refl _, by rw [if_neg (by simp), h2]; rfl, .inl rfl⟩
      · rw [hst h3] at hs; cases hs
    · rw [if_pos rfl]
      rcases h3 with rfl | h3
      · exact ⟨m, by omega, h2, .inr hs⟩
      · exact ⟨m, by omega, h2, .inr h3⟩
theorem field_pcT (w : World) (a0 a1 a2 a3 a4 a5 a6 a7 a8 : Value) : Sem.run Try.prog (Instr.field 28 (.agg #[a0, a1, a2, a3, a4, a5, a6, a7, a8]) 2) w = .ok a4 w := by kernel_rfl
theorem field_stT (w : World) (a0 a1 a2 a3 a4 a5 a6 a7 a8 : Value) : Sem.run Try.prog (Instr.field 28 (.agg #[a0, a1, a2, a3, a4, a5, a6, a7, a8]) 5) w = .ok a7 w := by kernel_rfl
attribute [local go_sem] field_pcT field_stT
set_option maxRecDepth 20000 in
set_option maxHeartbeats 4000000 in
theorem fnTraceMachine_walk (w : World) (A : Option Addr) (n c : Nat) (zs : List Int) (h : IsRow .u8 w A n c zs) :
    Calls Try.prog 3 #[.slice A n c] w fun e w' => e = .returned (.bool true) ∧ Below w.heap.size w w' := by
  by_cases hlong : 1048576 < n
  · go_enter Try.func3, Try.ntmps3
    go_wp2_with fail
    go_ret
    exact ⟨rfl, Below.refl _ _⟩
  have HI := Lib.hid h
  clear h
  go_enter Try.func3, Try.ntmps3
  go_wp2_with fail
  refine (drawTraceMachine_any A n c zs _ HI.out).mono ?_
  rintro e w1 ⟨x, N, g, rfl, hs, hnil, N0, N1, hb⟩
  have hb2 : Below w1.heap.size w1 (w1.alloc (.cells x.cs 28)) := (Below.refl _ _).alloc (Nat.le_refl _) _
  have HM := Lib.hid (hs _ (Keep.of_below hb2))
  have BX := Lib.hid (MBox.new w1 x 28)
  have HB := Lib.hid (below_step hb hb2 hb.size)
  clear hs hb hb2
  obtain ⟨⟨c0, c1, c2⟩, c3, c4, c5, c6, c7, c8⟩ := BX.out.all
  unfold Mch.cs at *
  unfold Mch.val Mch.cs
  go_wp2_with fail
  refine (traceMachine_impl x N _ HM.out hnil).mono ?_
  obtain ⟨xs, hxs⟩ : ∃ xs, traceR x N = xs := ⟨_, rfl⟩
  have hxl : xs.length ≤ 500 := hxs ▸ traceR_le x N
  rw [hxs]
  rintro e w3 ⟨A3, c3', rfl, o3, b3⟩
  have HO := Lib.hid (own_ints o3)
  replace BX := Lib.hid (BX.out.below b3)
  replace HM := Lib.hid (HM.out.below b3)
  replace HB := Lib.hid (below_step HB.out b3 HB.out.size)
  clear c0 c1 c2 c3 c4 c5 c6 c7 c8
  obtain ⟨⟨c0, c1, c2⟩, c3, c4, c5, c6, c7, c8⟩ := BX.out.all
  clear o3 b3
  go_wp2_with fail
  refine (traceMachine_spec x N _ HM.out hnil).mono ?_
  rw [hxs]
  rintro e w4 ⟨A4, c4', rfl, o4, b4⟩
  replace HO := Lib.hid ((HO.out.below b4).more b4.size)
  have HO4 := Lib.hid (own_ints o4)
  replace BX := Lib.hid (BX.out.below b4)
  replace HM := Lib.hid (HM.out.below b4)
  replace HB := Lib.hid (below_step HB.out b4 HB.out.size)
  clear c0 c1 c2 c3 c4 c5 c6 c7 c8
  obtain ⟨⟨c0, c1, c2⟩, c3, c4, c5, c6, c7, c8⟩ := BX.out.all
  clear o4 b4
  go_wp2_with fail
  refine (sameInts_same _ _ _ _ _ _ _ HO.out HO4.out (by omega)).mono ?_
  rintro e w5 ⟨rfl, b5⟩
  replace HO := Lib.hid ((HO.out.below b5).more b5.size)
  replace BX := Lib.hid (BX.out.below b5)
  replace HM := Lib.hid (HM.out.below b5)
  replace HB := Lib.hid (below_step HB.out b5 HB.out.size)
  clear c0 c1 c2 c3 c4 c5 c6 c7 c8
  obtain ⟨⟨c0, c1, c2⟩, c3, c4, c5, c6, c7, c8⟩ := BX.out.all
  clear b5 HO4
  go_wp2_with fail
  refine (machineValid_spec x _ HM.out).mono ?_
  rintro e w6 ⟨rfl, b6⟩
  replace HO := Lib.hid ((HO.out.below b6).more b6.size)
  replace BX := Lib.hid (BX.out.below b6)
  replace HM := Lib.hid (HM.out.below b6)
  replace HB := Lib.hid (below_step HB.out b6 HB.out.size)
  clear c0 c1 c2 c3 c4 c5 c6 c7 c8
  obtain ⟨⟨c0, c1, c2⟩, c3, c4, c5, c6, c7, c8⟩ := BX.out.all
  clear b6
  cases hm : machB x
  · have hx0 : xs = [] := by rw [← hxs]; unfold traceR; rw [hm]; rfl
    subst hx0
    simp only [List.length_nil] at HO ⊢
    go_wp2_with (go_at_call 12; refine (aliveT _).mono ?_; rintro e w' ⟨rfl, rfl⟩)
    go_ret
    exact ⟨rfl, HB.out⟩
  by_cases n0 : N < 0
  · have hx0 : xs = [] := by
      rw [← hxs]; unfold traceR
      rw [show inB N 0 500 = false from inB_out (by omega), Bool.and_false]
      rfl
    subst hx0
    simp only [List.length_nil] at HO ⊢
    go_wp2_with (go_at_call 12; refine (aliveT _).mono ?_; rintro e w' ⟨rfl, rfl⟩)
    go_ret
    exact ⟨rfl, HB.out⟩
  by_cases n5 : N > 500
  · have hx0 : xs = [] := by
      rw [← hxs]; unfold traceR
      rw [show inB N 0 500 = false from inB_out (by omega), Bool.and_false]
      rfl
    subst hx0
    simp only [List.length_nil] at HO ⊢
    go_wp2_with (go_at_call 12; refine (aliveT _).mono ?_; rintro e w' ⟨rfl, rfl⟩)
    go_ret
    exact ⟨rfl, HB.out⟩
  have hin : inB N 0 500 = true := inB_iff.2 ⟨by omega, by omega⟩
  obtain ⟨M, rfl⟩ : ∃ M : Nat, N = M := ⟨N.toNat, by omega⟩
  obtain ⟨ad, hA⟩ := machB_len HM.out hm
  obtain ⟨m, hmM, htr, hst⟩ := traceP_form x.pm M
  have hxm : xs = pcsP x.pm m := by rw [← hxs, ← htr]; unfold traceR; rw [hm, hin]; rfl
  have hlen : xs.length = m := by rw [hxm, pcsP_len]
  rw [hlen] at HO hxl ⊢
  replace hxm := Lib.hid hxm
  replace hm := Lib.hid hm
  replace hin := Lib.hid hin
  replace hA := Lib.hid hA
  replace hst := Lib.hid hst
  clear hxs htr hlen
  have n0' : ¬ ((M : Int) < 0) := n0
  go_wp2_with fail
  go_loopw [6] (fun i wr => ∃ k : Nat, i = .int .i64 k ∧ k ≤ m ∧ k ≤ 40 ∧ Below w6.heap.size w6 wr) (fun i _ => m - (intOf i).toNat)
  case atStart => exact ⟨0, rfl, Nat.zero_le _, by omega, Below.refl _ _⟩
  case round =>
    obtain ⟨k, rfl, hk, hk40, hbel⟩ := hrel
    have BXr := Lib.hid (BX.out.below hbel)
    have HMr := Lib.hid (HM.out.below hbel)
    have HOr := Lib.hid ((HO.out.below hbel).more hbel.size)
    have HBL := Lib.hid hbel
    clear hbel c0 c1 c2 c3 c4 c5 c6 c7 c8
    have BXl := BXr.out.lt
    obtain ⟨⟨c0, c1, c2⟩, c3, c4, c5, c6, c7, c8⟩ := BXr.out.all
    by_cases hlt : k < m
    · have q1 : (k : Int) < (m : Int) := by omega
      by_cases h40 : k < 40
      · have q2 : (k : Int) < 40 := by omega
        have q5 : inB (k : Int) 0 500 = true := inB_iff.2 ⟨by omega, by omega⟩
        replace q5 := Lib.hid q5
        obtain ⟨b, off, e1, hbl, hcell⟩ := HOr.out.spot hlt
        subst e1
        obtain ⟨p, hp⟩ : ∃ p, (runP x.pm k).pc = p := ⟨_, rfl⟩
        rw [hxm.out, pcsP_get x.pm hlt, hp] at hcell
        have hpp : (p != p) = false := by simp
        replace hp := Lib.hid hp
        go_wp2_with fail
        go_region_held3 (fun w' => ((w'.cell? ⟨w1.heap.size, 0, none⟩ = some (.slice x.A x.n x.c) ∧ w'.cell? ⟨w1.heap.size, 1, none⟩ = some (.slice x.R x.rn x.rc) ∧ w'.cell? ⟨w1.heap.size, 2, none⟩ = some (.int .i64 x.bank)) ∧ w'.cell? ⟨w1.heap.size, 3, none⟩ = some (.int .i64 x.a) ∧ w'.cell? ⟨w1.heap.size, 4, none⟩ = some (.int .i64 x.pc) ∧ w'.cell? ⟨w1.heap.size, 5, none⟩ = some (.bool x.cy) ∧ w'.cell? ⟨w1.heap.size, 6, none⟩ = some (.slice x.B x.bn x.bc) ∧ w'.cell? ⟨w1.heap.size, 7, none⟩ = some (.bool x.st) ∧ w'.cell? ⟨w1.heap.size, 8, none⟩ = some (.int .i64 x.cyc)) ∧ w'.cell? ⟨b, off + k, none⟩ = some (.int .i64 p)) (first | (with_reducible exact ⟨(BXr.out.below b9).all, (b9.cell hbl).trans hcell⟩) | (with_reducible exact ⟨(BXr.out.below (Below.refl _ _).drew).all, ((Below.refl _ _).drew.cell hbl).trans hcell⟩)) ((go_at_call 13; refine (run_valid x ad k _ hA.out (HMr.out.below (Below.refl _ _).drew) hm.out q5.out hnil).mono ?_; rintro e w9 ⟨y, rfl, hy, b9'⟩; have b9 : Below wr.heap.size wr w9 := (Below.refl _ _).drew.trans b9'; have hyp : y.pc = p := (congrArg PM.pc hy).trans hp.out; clear b9' hy; rw [show y.val = .agg #[.slice y.A y.n y.c, .slice y.R y.rn y.rc, .int .i64 y.bank, .int .i64 y.a, .int .i64 p, .bool y.cy, .slice y.B y.bn y.bc, .bool y.st, .int .i64 y.cyc] by rw [← hyp]; rfl]))
        go_wp2_with fail
        go_roundw
        case rel => exact ⟨k + 1, by go_num, by omega, by omega, below_step HBL.out b9 HBL.out.size⟩
        case measure => simp [intOf]; omega
      · have q2 : ¬ ((k : Int) < 40) := by omega
        by_cases hmm : m = M
        · subst hmm
          go_wp2_with fail
          go_ret
          exact ⟨rfl, below_step HB.out HBL.out HB.out.size⟩
        · have hs : (runP x.pm m).st = true := hst.out.resolve_left hmm
          replace hs := Lib.hid hs
          have q3 : ¬ ((m : Int) = (M : Int)) := by omega
          have q4 : (m : Int) < (M : Int) := by omega
          have q5 : inB (m : Int) 0 500 = true := inB_iff.2 ⟨by omega, by omega⟩
          replace q5 := Lib.hid q5
          go_wp2_with (go_at_call 13; refine (run_valid x ad m _ hA.out HMr.out hm.out q5.out hnil).mono ?_; rintro e w9 ⟨y, rfl, hy, b9⟩; have hyp : y.st = true := (congrArg PM.st hy).trans hs.out; replace b9 := Lib.hid b9; clear hy; rw [show y.val = .agg #[.slice y.A y.n y.c, .slice y.R y.rn y.rc, .int .i64 y.bank, .int .i64 y.a, .int .i64 y.pc, .bool y.cy, .slice y.B y.bn y.bc, .bool true, .int .i64 y.cyc] by rw [← hyp]; rfl])
          go_ret
          exact ⟨rfl, below_step HB.out (below_step HBL.out b9.out HBL.out.size) HB.out.size⟩
    · have q1 : ¬ ((k : Int) < (m : Int)) := by omega
      by_cases hmm : m = M
      · subst hmm
        go_wp2_with fail
        go_ret
        exact ⟨rfl, below_step HB.out HBL.out HB.out.size⟩
      · have hs : (runP x.pm m).st = true := hst.out.resolve_left hmm
        replace hs := Lib.hid hs
        have q3 : ¬ ((m : Int) = (M : Int)) := by omega
        have q4 : (m : Int) < (M : Int) := by omega
        have q5 : inB (m : Int) 0 500 = true := inB_iff.2 ⟨by omega, by omega⟩
        replace q5 := Lib.hid q5
        go_wp2_with (go_at_call 13; refine (run_valid x ad m _ hA.out HMr.out hm.out q5.out hnil).mono ?_; rintro e w9 ⟨y, rfl, hy, b9⟩; have hyp : y.st = true := (congrArg PM.st hy).trans hs.out; replace b9 := Lib.hid b9; clear hy; rw [show y.val = .agg #[.slice y.A y.n y.c, .slice y.R y.rn y.rc, .int .i64 y.bank, .int .i64 y.a, .int .i64 y.pc, .bool y.cy, .slice y.B y.bn y.bc, .bool true, .int .i64 y.cyc] by rw [← hyp]; rfl])
        go_ret
        exact ⟨rfl, below_step HB.out (below_step HBL.out b9.out HBL.out.size) HB.out.size⟩
end Go.Proofs.Ytgedfcccflobmaa
