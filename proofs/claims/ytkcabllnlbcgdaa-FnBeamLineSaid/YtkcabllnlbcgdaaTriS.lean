/-
  Lists of structs of three numbers: make, toStopS, toChangeS, eqStopS, eqChangeS, szStopS, szChangeS.
-/
import Derived.Test.YtkcabllnlbcgdaaTri
import Derived.Deep.QuietTactic
import Derived.BigQuiet
namespace Go.Proofs.Ytkcabllnlbcgdaa
open Go.RowKit
set_option linter.unusedVariables false
set_option linter.unusedSimpArgs false
theorem fl3_zeros : ∀ n : Nat, iv (fl3 (List.replicate n (0, 0, 0))) = List.replicate (n * 3) (.int .i64 0)
  | 0 => rfl
  | n + 1 => by
    rw [show (n + 1) * 3 = n * 3 + 1 + 1 + 1 by omega]
    simp only [List.replicate_succ, fl3]
    have := fl3_zeros n
    simp only [iv, List.map_cons] at this ⊢
    rw [this]
theorem made3 (m : Nat) : (madeCells #[.int .i64 0, .int .i64 0, .int .i64 0] m).toList = List.replicate m (.int .i64 0) := by
  rw [List.eq_replicate_iff]
  refine ⟨by simp [size_madeCells], fun u hu => ?_⟩
  simp only [madeCells, Array.toList_map, List.mem_map] at hu
  obtain ⟨i, _, rfl⟩ := hu
  have : i % 3 = 0 ∨ i % 3 = 1 ∨ i % 3 = 2 := by omega
  show (#[Value.int .i64 0, .int .i64 0, .int .i64 0] : Array Value)[i % 3]! = _
  rcases this with h | h | h <;> rw [h] <;> rfl
theorem own3_store {w : World} {g c n k base E : Nat} {ts : List Tri} (h : w.ownsRow base E 3 (.slice (some ⟨g, 0, none⟩) n c) n (iv (fl3 ts))) (hk : k < n) :
    (w.cell? ⟨g, k * 3, none⟩ = some (.int .i64 (ts.getD k (0, 0, 0)).1) ∧ w.cell? ⟨g, k * 3 + 1, none⟩ = some (.int .i64 (ts.getD k (0, 0, 0)).2.1) ∧ w.cell? ⟨g, k * 3 + 2, none⟩ = some (.int .i64 (ts.getD k (0, 0, 0)).2.2)) ∧
    (w.frozen? ⟨g, k * 3, none⟩ = false ∧ w.frozen? ⟨g, k * 3 + 1, none⟩ = false ∧ w.frozen? ⟨g, k * 3 + 2, none⟩ = false) ∧
    ∀ x y z : Int, (((w.setCell ⟨g, k * 3, none⟩ (.int .i64 x)).setCell ⟨g, k * 3 + 1, none⟩ (.int .i64 y)).setCell ⟨g, k * 3 + 2, none⟩ (.int .i64 z)).ownsRow base E 3 (.slice (some ⟨g, 0, none⟩) n c) n (iv (fl3 (ts.set k (x, y, z)))) ∧
      w.grownBy (((w.setCell ⟨g, k * 3, none⟩ (.int .i64 x)).setCell ⟨g, k * 3 + 1, none⟩ (.int .i64 y)).setCell ⟨g, k * 3 + 2, none⟩ (.int .i64 z)) (some g) := by
  have hl : ts.length = n := by have := h.1; rw [iv_len, fl3_len] at this; omega
  obtain ⟨g0, g1, g2⟩ := fl3_get ts k (by omega)
  refine ⟨⟨(h.cellAt _ (by omega)).trans g0, (h.cellAt _ (by omega)).trans g1, (h.cellAt _ (by omega)).trans g2⟩, ⟨h.frozenAt _, h.frozenAt _, h.frozenAt _⟩, fun x y z => ?_⟩
  obtain ⟨a1, b1⟩ := h.stored (k * 3) (.int .i64 x)
  obtain ⟨a2, b2⟩ := a1.stored (k * 3 + 1) (.int .i64 y)
  obtain ⟨a3, b3⟩ := a2.stored (k * 3 + 2) (.int .i64 z)
  rw [fl3_set ts k x y z (by omega)] at a3
  exact ⟨a3, (b1.trans b2).trans b3⟩
theorem make_change_info : (Try.prog.info? 34).map (fun i => (i.zero, i.size, i.bytes)) = some (some (t3 (0, 0, 0)), 3, 24) := by kernel_rfl
theorem make_change {ops : Array Oper} {rest : List Oper} {o : Oper} {a : Act} {Q : Exit → Act → World → Prop} (w : World) (hgd : o.guard = none) (l c : Operand)
    (ho : o.op = Op.makeSlice 27 l c) (n : Nat) (hl : a.eval l = .int .i64 (n : Int)) (hc : a.eval c = .int .i64 (n : Int)) (hn : n ≤ 1000000000) (base : Nat) (hb : base ≤ w.heap.size)
    (h : ∀ w', w'.ownsRow base 34 3 (.slice (some ⟨w.heap.size, 0, none⟩) n n) n (iv (fl3 (List.replicate n (0, 0, 0)))) → Below w.heap.size w w' → wpList Try.prog ops Q rest (a.put o.dst (.slice (some ⟨w.heap.size, 0, none⟩) n n)) w') :
    wpList Try.prog ops Q (o :: rest) a w := by
  obtain ⟨i0, hi0, hz0, hz1, hz2⟩ := info_parts make_change_info
  refine wpList_make_full w hgd l c 27 ho base 34 i0 (t3 (0, 0, 0)) 3 Try.underlying27 hi0 hz0 hz1 .i64 .i64 _ _ n hl hc rfl rfl (by rw [hz2]; omega) (by simp only [maxLen]; omega) hb ?_
  intro w' h1 h2
  refine h w' ?_ (below_of_grown h2 (Nat.le_refl _) (by intro k hk; cases hk))
  have e : (madeCells (t3 (0, 0, 0)).cells (n * 3)).toList = iv (fl3 (List.replicate n (0, 0, 0))) := by
    rw [fl3_zeros]
    exact made3 _
  rwa [e] at h1
set_option maxHeartbeats 2000000 in
theorem toChangeS_any (A : Option Addr) (n c : Nat) (ts : List Tri) (w : World) (h : Reads w w.heap.size 3 A n (iv (fl3 ts))) (hn : n ≤ 1000000000) :
    Calls Try.prog 23 #[.slice A n c] w fun e w' => ∃ A' c', e = .returned (.slice A' n c') ∧ w'.ownsRow w.heap.size 34 3 (.slice A' n c') n (iv (fl3 ts)) ∧ Below w.heap.size w w' := by
  have hl := Tri.len h
  have H := Lib.hid h
  clear h
  go_enter Try.func23, Try.ntmps23
  go_wp2_with (at_make; refine make_change _ rfl _ _ rfl n rfl rfl hn w.heap.size (Nat.le_refl _) ?_; intro w1 ho1 hb1; replace ho1 := Lib.hid ho1)
  go_loopw [4] (fun i wr => ∃ k : Nat, k ≤ n ∧ i = .int .i64 k ∧ wr.ownsRow w.heap.size 34 3 (.slice (some ⟨w.heap.size, 0, none⟩) n n) n (iv (fl3 (ts.take k ++ List.replicate (n - k) (0, 0, 0)))) ∧ Below w.heap.size w wr) (fun i _ => n - (intOf i).toNat)
  case atStart => exact ⟨0, Nat.zero_le _, rfl, by simpa using ho1.out, hb1⟩
  case round =>
    obtain ⟨k, hk, rfl, hown, hb⟩ := hrel
    by_cases hlt : k < n
    · obtain ⟨b, off, e1, _, h0, h1, h2⟩ := Tri.spot (H.out.below hb) hlt
      have e1 := Lib.hid e1
      have hgs := grow_set n k ts hl hlt
      obtain ⟨t, ht⟩ : ∃ t, t = ts.getD k (0, 0, 0) := ⟨_, rfl⟩
      rw [← ht] at h0 h1 h2 hgs
      clear ht
      obtain ⟨x, y, z⟩ := t
      have HGS := Lib.hid hgs
      have HO := Lib.hid hown
      have HB := Lib.hid hb
      have q1 : (k : Int) < (n : Int) := by omega
      clear hown hb ho1 hb1 H hgs
      have e2 := e1.out
      subst e2
      have hto := Lib.hid (fun W => toChange_any (x, y, z) W)
      simp only [t3] at hto
      go_wp2_with (go_at_call 62; refine (hto.out _).mono ?_; rintro e w5 ⟨rfl, b5⟩; obtain ⟨⟨s0, s1, s2⟩, ⟨f0, f1, f2⟩, hst⟩ := own3_store (own_below HO.out b5) hlt; replace hst := Lib.hid (hst x y z); replace b5 := Lib.hid b5)
      go_roundw
      case rel =>
        have hst := hst.out
        rw [HGS.out] at hst
        exact ⟨k + 1, by omega, by go_num, hst.1, (below_step HB.out b5.out HB.out.size).grown hst.2 (Nat.le_trans HB.out.size b5.out.size) (by intro k hk; injection hk with hk; omega)⟩
      case measure => simp [intOf]; omega
    · obtain rfl : k = n := by omega
      go_wp2
      go_ret
      refine ⟨_, _, rfl, ?_, hb⟩
      rwa [Nat.sub_self, List.replicate_zero, List.append_nil, List.take_of_length_le (by omega)] at hown
end Go.Proofs.Ytkcabllnlbcgdaa
