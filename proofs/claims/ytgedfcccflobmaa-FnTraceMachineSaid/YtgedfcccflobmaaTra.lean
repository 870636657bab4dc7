/-
  The implementation's TraceMachine, walked. DOES NOT BUILD YET.
-/
import Derived.Test.YtgedfcccflobmaaTrp
import Derived.Test.YtgedfcccflobmaaSte
import Derived.Test.YtgedfcccflobmaaCpy
namespace Go.Proofs.Ytgedfcccflobmaa
open Go.RowKit
set_option linter.unusedVariables false
set_option linter.unusedSimpArgs false
attribute [local go_sem ↓] Go.wp_at_zero Go.wp_at_succ
def traceR (x : Mch) (n : Int) : List Int := if machB x && inB n 0 500 then traceP x.pm n.toNat else []
/-- A row apart from the machine's grows. -/
theorem MSt.grown {lo h1 h2 b : Nat} {x : Mch} {vs : List Value} {w w' : World} {r : Option Nat} (h : MSt lo h1 h2 b x vs w) (g : w.grownBy w' r) (hr : ∀ k, r = some k → b < k) (hb : ∀ k, r = some k → (Value.slice x.B x.bn x.bc).ownBlock ≠ some k) : MSt lo h1 h2 b x vs w' := by
  obtain ⟨r2, q1, q2, q3⟩ := h.rom
  have o2 := h.o2
  have lt := h.blk.lt
  have far : ∀ k, k ≤ b → w'.heap[k]? = w.heap[k]? := fun k hk => g.block k (by omega) fun e => by have := hr k e.symm; omega
  refine ⟨(far b (Nat.le_refl _)).trans h.blk, own_same h.ram fun k hk => far k (by have := h.rlt k hk; omega), h.rlt, ⟨r2, q1, q2, local_ZG _ _ _ _ _ _ w w' q3 g.size fun k k1 k2 => far k (by omega)⟩, h.rl, own_same h.back fun k hk => g.block k (h.back.lt k hk).2 fun e => hb k e.symm hk, h.o2⟩
/-- append of one number: what grows told, and where the row lies. -/
theorem push_own_h {ops : Array Oper} {rest : List Oper} {o : Oper} {a : Act} {Q : Exit → Act → World → Prop} (w : World) (hgd : o.guard = none) (s x : Operand)
    (ho : o.op = .call { callee := .builtin .append, args := #[s, x], argTypes := #[23, 23] })
    (base n c H d : Nat) (A : Option Addr) (xs : List Int) (y : Int) (hs : a.eval s = .slice A n c) (hx : a.eval x = .slice (some ⟨H, 0, none⟩) 1 d)
    (hown : w.ownsRow base 3 1 (.slice A n c) n (iv xs)) (hc : w.cell? ⟨H, 0, none⟩ = some (.int .i64 y)) (hn : n ≤ 1000000000) (hb : base ≤ w.heap.size)
    (h : ∀ A' c' w', w'.ownsRow base 3 1 (.slice A' (n + 1) c') (n + 1) (iv (xs ++ [y])) → w.grownBy w' (Value.slice A n c).ownBlock → ((Value.slice A' (n + 1) c').ownBlock = (Value.slice A n c).ownBlock ∨ (Value.slice A' (n + 1) c').ownBlock = some w.heap.size) → wpList Try.prog ops Q rest (a.put o.dst (.slice A' (n + 1) c')) w') :
    wpList Try.prog ops Q (o :: rest) a w := by
  obtain ⟨i0, hi0, hz0, hz1, hz2⟩ := info_parts int_info
  refine wpList_append_own_at w hgd s x 23 ho base 3 i0 (.int .i64 0) 1 8 Try.underlying23 hi0 hz0 hz1 hz2 rfl (by omega) _ n (iv xs) hs hown ⟨H, 0, none⟩ 1 d [.int .i64 y] hx rfl ?_ ?_ (by simp only [maxLen]; omega) (by omega) hb ?_
  · intro j u hj
    match j, hj with
    | 0, hj => simp at hj; subst hj; simpa [Addr.add] using hc
  · intro u hu; simp at hu; subst hu; rfl
  · intro v' w' ho' hg' _ hat
    obtain ⟨A', c', rfl⟩ := own_form ho'
    rw [← iv_snoc] at ho'
    exact h A' c' w' ho' hg' hat
def slen : Value → Nat
  | .slice _ n _ => n
  | _ => 0
/-- The machine after k steps, the row of addresses apart from it. -/
def TrI (lo h1 h2 b : Nat) (p : PM) (vs : List Value) (k : Nat) (x' : Mch) (A : Option Addr) (c : Nat) (wr : World) : Prop :=
  MSt lo h1 h2 b x' vs wr ∧ x'.pm = runP p k ∧ (∀ i, i < k → (runP p i).st = false) ∧ wr.ownsRow (b + 1) 3 1 (.slice A k c) k (iv (pcsP p k)) ∧ ∀ g, (Value.slice A k c).ownBlock = some g → (Value.slice x'.B x'.bn x'.bc).ownBlock ≠ some g
set_option maxRecDepth 4000 in
set_option maxHeartbeats 4000000 in
theorem trace_valid (x : Mch) (ad : Addr) (N : Nat) (w : World) (hA : x.A = some ad) (h : MRd w x) (hv : machB x = true) (hn : inB (N : Int) 0 500 = true) (hB : x.B = none → x.bc = 0) :
    Calls Try.prog 8 #[x.val, .int .i64 N] w (Gives w (traceP x.pm N)) := by
  obtain ⟨n0, n5⟩ := inB_iff.1 hn
  have hf : formB x = true := by unfold machB at hv; simp only [Bool.and_eq_true] at hv; exact hv.1
  have F := Lib.hid (form_iff.1 (formP_of.trans hf))
  have hcy := Lib.hid (show 0 ≤ x.cyc ∧ x.cyc ≤ 1000000000 by unfold machB at hv; simp only [Bool.and_eq_true] at hv; exact inB_iff.1 hv.2)
  have hb0 : Below w.heap.size w (w.alloc (.cells x.cs 28)) := (Below.refl _ _).alloc (Nat.le_refl _) _
  have HR := Lib.hid (h.below hb0)
  have HB0 := Lib.hid hb0
  have BX := Lib.hid (MBox.new w x 28)
  obtain ⟨⟨c0, c1, c2⟩, c3, c4, c5, c6, c7, c8⟩ := BX.out.all
  replace hf := Lib.hid hf
  replace hv := Lib.hid hv
  replace hn := Lib.hid hn
  replace hB := Lib.hid hB
  replace hA := Lib.hid hA
  clear hb0 h
  have hx : x.val = .agg #[.slice x.A x.n x.c, .slice x.R x.rn x.rc, .int .i64 x.bank, .int .i64 x.a, .int .i64 x.pc, .bool x.cy, .slice x.B x.bn x.bc, .bool x.st, .int .i64 x.cyc] := rfl
  have hcs : x.cs = #[.slice x.A x.n x.c, .slice x.R x.rn x.rc, .int .i64 x.bank, .int .i64 x.a, .int .i64 x.pc, .bool x.cy, .slice x.B x.bn x.bc, .bool x.st, .int .i64 x.cyc] := rfl
  rw [hx]
  rw [hcs] at c0 c1 c2 c3 c4 c5 c6 c7 c8
  go_enter Try.func8, Try.ntmps8
  go_wp2_with (first
    | (go_at_call 29; refine (machineValid_impl x _ HR.out).mono ?_; rintro e w5 ⟨rfl, b5⟩; rw [hv.out]; have B5 := BX.out.below b5; obtain ⟨⟨c0, c1, c2⟩, c3, c4, c5, c6, c7, c8⟩ := B5.all; have HR5 := Lib.hid (HR.out.below b5); have HB5 := Lib.hid (below_step HB0.out b5 HB0.out.size); clear B5 b5)
    | (go_at_call 30; refine (within_any _ _ _ _).mono ?_; rintro e w' ⟨rfl, rfl⟩; rw [hn.out])
    | (go_at_call 31; refine (copyMachine_at x ad _ hA.out HR5.out hf.out hB.out).mono ?_; rintro e w7 ⟨y, vs, h1, h2, rfl, hs, M7, b7⟩; have HB7 := Lib.hid (below_step HB5.out b7 HB5.out.size); replace hs := Lib.hid hs; replace M7 := Lib.hid M7; clear b7; rw [show y.val = .agg #[.slice y.A y.n y.c, .slice y.R y.rn y.rc, .int .i64 y.bank, .int .i64 y.a, .int .i64 y.pc, .bool y.cy, .slice y.B y.bn y.bc, .bool y.st, .int .i64 y.cyc] from rfl]))
  have hypm : y.pm = x.pm := by obtain ⟨A, c, R, rc, B, bc, rfl⟩ := hs.out; rfl
  have HY := Lib.hid hypm
  have hz := M7.out.o2
  go_loopw [6] (fun out wr => ∃ (k : Nat) (x' : Mch) (A' : Option Addr) (c' : Nat), out = .slice A' k c' ∧ k ≤ N ∧ Below w.heap.size w wr ∧ TrI w5.heap.size h1 h2 w7.heap.size x.pm vs k x' A' c' wr) (fun out _ => N - slen out)
  case atStart => exact ⟨0, y, none, 0, rfl, Nat.zero_le _, HB7.out.alloc HB7.out.size _, M7.out.box, hypm, fun i hi => absurd hi (Nat.not_lt_zero i), World.ownsRow_nil _ _ _ _, fun g hg => by cases hg⟩
  case round =>
    obtain ⟨k, x', A', c', rfl, hk, hb, hM, hp, hst, ho, hne⟩ := hrel
    obtain ⟨-, -, d4, -, -, d7, -⟩ := hM.box.all
    have hbl := hM.blk.lt
    have hBW := Lib.hid hb
    have HM := Lib.hid hM
    have HP := Lib.hid hp
    have HS := Lib.hid hst
    have HO := Lib.hid ho
    have HN := Lib.hid hne
    have h7 : w.heap.size ≤ w7.heap.size := HB7.out.size
    clear hb hM hp hst ho hne
    by_cases hlt : k < N
    · cases hx' : x'.st
      · rw [hx'] at d7
        have q1 : (k : Int) < (N : Int) := by omega
        have q2 : (k : Int) ≤ 500 := by omega
        have FX := Lib.hid (show FormP x'.pm by rw [HP.out]; exact runP_form F.out k)
        have CX := Lib.hid (show 0 ≤ x'.cyc ∧ x'.cyc ≤ 2000000000 by
          have e1 := runP_cyc F.out k
          rw [← HP.out] at e1
          have e2 : x.pm.cyc ≤ x'.cyc ∧ x'.cyc ≤ x.pm.cyc + 3 * (k : Int) := e1
          have e3 : 0 ≤ x.pm.cyc ∧ x.pm.cyc ≤ 1000000000 := hcy.out
          omega)
        have b1 : Below wr.heap.size wr (wr.alloc (.cells #[.int .i64 x'.pc] 3)) := (Below.refl _ _).alloc (Nat.le_refl _) _
        have M1 := Lib.hid (HM.out.below b1)
        have O1 := Lib.hid (own_below HO.out b1)
        have BW1 := Lib.hid (below_step hBW.out b1 hBW.out.size)
        clear b1
        go_wp2_with (first
          | (at_builtin; refine push_own_h _ (by rfl) _ _ (by rfl) (w7.heap.size + 1) k c' wr.heap.size 1 A' (pcsP x.pm k) x'.pc (by rfl) (by rfl) O1.out (cell_new _ _ _ 0) (by omega) (by simp; omega) ?_; intro A9 c9 w9 o9 g9 k9; have z9 := g9.size; have M9 := Lib.hid (M1.out.grown g9 (fun g hg => (O1.out.lt g hg).1) HN.out); replace o9 := Lib.hid o9; replace g9 := Lib.hid g9; replace k9 := Lib.hid k9)
          | (go_at_call 32; refine Calls.mono (step_impl _ _ _ _ x' vs _ M9.out FX.out CX.out.1 CX.out.2) ?_; rintro e w10 ⟨x2, rfl, M3, hp3, f9⟩; replace M3 := Lib.hid M3; replace hp3 := Lib.hid hp3; replace f9 := Lib.hid f9))
        have B3 : Below w.heap.size w w9 := BW1.out.trans (below_of_grown g9.out BW1.out.size fun g hg => by have := (O1.out.lt g hg).1; omega)
        have hne9 : ∀ g, (Value.slice A9 (k + 1) c9).ownBlock = some g → (Value.slice x'.B x'.bn x'.bc).ownBlock ≠ some g := fun g hg => by
          rcases k9.out with q | q
          · exact HN.out g (q ▸ hg)
          · intro e
            have := (HM.out.back.lt g e).2
            rw [q] at hg
            injection hg with hg
            simp at hg
            omega
        go_roundw
        case rel =>
          refine ⟨k + 1, x2, A9, c9, rfl, by omega, ?_, M3.out, ?_, ?_, ?_, ?_⟩
          · refine B3.trans ⟨f9.out.os, f9.out.tape, f9.out.output, f9.out.size, fun g hg => f9.out.block g (by have := B3.size; omega) (by omega) (fun e => ?_) fun e => ?_⟩
            · have := (M9.out.ram.lt g e).1; have := HB5.out.size; omega
            · have := (M9.out.back.lt g e).1; have := HB5.out.size; have := M7.out.lo2; omega
          · show _ = stepP _
            rw [hp3.out, HP.out]
          · intro i hi
            by_cases e : i = k
            · subst e; rw [← HP.out]; exact hx'
            · exact HS.out i (by omega)
          · rw [show pcsP x.pm (k + 1) = pcsP x.pm k ++ [x'.pc] by show _ ++ [(runP x.pm k).pc] = _; rw [← HP.out]; rfl]
            refine own_same o9.out fun g hg => f9.out.block g (o9.out.lt g hg).2 (by have := (o9.out.lt g hg).1; omega) (fun e => ?_) (hne9 g hg)
            have := M9.out.rlt g e; have := M7.out.o2; have := (o9.out.lt g hg).1; omega
          · intro g hg
            rcases f9.out.sb with q | q
            · rw [q]; exact hne9 g hg
            · intro e; have := q g e; have := (o9.out.lt g hg).2; omega
        case measure => simp [slen]; omega
      · rw [hx'] at d7
        have q1 : (k : Int) < (N : Int) := by omega
        go_wp2_with fail
        go_ret
        obtain ⟨d, hd⟩ : ∃ d, N = k + d := ⟨N - k, by omega⟩
        rw [show traceP x.pm N = pcsP x.pm k by rw [hd, traceP_st (show (runP x.pm k).st = true by rw [← HP.out]; exact hx') d, traceP_run k HS.out]]
        exact ⟨A', c', by rw [pcsP_len]; rfl, by rw [pcsP_len]; exact own_base HO.out (by omega), hBW.out⟩
    · obtain rfl : k = N := by omega
      have q1 : ¬ (k : Int) < (k : Int) := by omega
      go_wp2_with fail
      go_ret
      rw [traceP_run k HS.out]
      exact ⟨A', c', by rw [pcsP_len]; rfl, by rw [pcsP_len]; exact own_base HO.out (by omega), hBW.out⟩
theorem machB_len {w : World} {x : Mch} (h : MRd w x) (hv : machB x = true) : ∃ ad, x.A = some ad := by
  have hf : formB x = true := by unfold machB at hv; simp only [Bool.and_eq_true] at hv; exact hv.1
  have F := form_iff.1 (formP_of.trans hf)
  obtain ⟨⟨r1, -⟩, -⟩ := mem_facts F.m
  have r1 : x.rs.length = 256 := r1
  have e := h.m.ram.len
  obtain ⟨ad, e, _⟩ := h.m.ram.2 (by omega)
  exact ⟨ad, e⟩
set_option maxRecDepth 4000 in
set_option maxHeartbeats 2000000 in
theorem traceMachine_impl (x : Mch) (n : Int) (w : World) (h : MRd w x) (hB : x.B = none → x.bc = 0) :
    Calls Try.prog 8 #[x.val, .int .i64 n] w (Gives w (traceR x n)) := by
  cases hv : machB x && inB n 0 500
  · rw [show traceR x n = [] by unfold traceR; rw [hv]; rfl]
    have hb0 : Below w.heap.size w (w.alloc (.cells x.cs 28)) := (Below.refl _ _).alloc (Nat.le_refl _) _
    have HR := Lib.hid (h.below hb0)
    have HB0 := Lib.hid hb0
    have BX := Lib.hid (MBox.new w x 28)
    obtain ⟨⟨c0, c1, c2⟩, c3, c4, c5, c6, c7, c8⟩ := BX.out.all
    clear hb0 h hB
    have hx : x.val = .agg #[.slice x.A x.n x.c, .slice x.R x.rn x.rc, .int .i64 x.bank, .int .i64 x.a, .int .i64 x.pc, .bool x.cy, .slice x.B x.bn x.bc, .bool x.st, .int .i64 x.cyc] := rfl
    have hcs : x.cs = #[.slice x.A x.n x.c, .slice x.R x.rn x.rc, .int .i64 x.bank, .int .i64 x.a, .int .i64 x.pc, .bool x.cy, .slice x.B x.bn x.bc, .bool x.st, .int .i64 x.cyc] := rfl
    rw [hx]
    rw [hcs] at c0 c1 c2 c3 c4 c5 c6 c7 c8
    cases hm : machB x
    · replace hv := Lib.hid hv
      go_enter Try.func8, Try.ntmps8
      go_wp2_with (go_at_call 29; refine (machineValid_impl x _ HR.out).mono ?_; rintro e w5 ⟨rfl, b5⟩; rw [hm]; have B5 := BX.out.below b5; obtain ⟨⟨c0, c1, c2⟩, c3, c4, c5, c6, c7, c8⟩ := B5.all; have HR5 := Lib.hid (HR.out.below b5); have HB5 := Lib.hid (below_step HB0.out b5 HB0.out.size); clear B5 b5)
      go_ret
      exact ⟨none, 0, rfl, World.ownsRow_nil _ _ _ _, HB5.out⟩
    · rw [hm, Bool.true_and] at hv
      go_enter Try.func8, Try.ntmps8
      go_wp2_with (first | (go_at_call 29; refine (machineValid_impl x _ HR.out).mono ?_; rintro e w5 ⟨rfl, b5⟩; rw [hm]; have B5 := BX.out.below b5; obtain ⟨⟨c0, c1, c2⟩, c3, c4, c5, c6, c7, c8⟩ := B5.all; have HR5 := Lib.hid (HR.out.below b5); have HB5 := Lib.hid (below_step HB0.out b5 HB0.out.size); clear B5 b5) | (go_at_call 30; refine (within_any _ _ _ _).mono ?_; rintro e w' ⟨rfl, rfl⟩; rw [hv]))
      go_ret
      exact ⟨none, 0, rfl, World.ownsRow_nil _ _ _ _, HB5.out⟩
  · have hv' := hv
    simp only [Bool.and_eq_true] at hv'
    obtain ⟨h1, h2⟩ := hv'
    obtain ⟨ad, hA⟩ := machB_len h h1
    obtain ⟨n0, -⟩ := inB_iff.1 h2
    obtain ⟨N, rfl⟩ := Int.eq_ofNat_of_zero_le n0
    rw [show traceR x (N : Int) = traceP x.pm N by unfold traceR; rw [hv]; rfl]
    exact trace_valid x ad N w hA h h1 h2 hB
end Go.Proofs.Ytgedfcccflobmaa
