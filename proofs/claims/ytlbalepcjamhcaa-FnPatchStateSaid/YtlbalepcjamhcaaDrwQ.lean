/-
  What the statements on patches draw. No condition.
-/
import Derived.Test.YtlbalepcjamhcaaDrwP
import Derived.Test.YtlbalepcjamhcaaDifS
import Derived.Test.YtlbalepcjamhcaaDifX
namespace Go.Proofs.Ytlbalepcjamhcaa
open Go.RowKit
set_option linter.unusedVariables false
set_option linter.unusedSimpArgs false
attribute [local go_sem ↓] Go.wp_at_zero Go.wp_at_succ
/-- Two drawn states, to be read. -/
def GivesSS (w : World) (e : Ending) (w' : World) : Prop := ∃ (A B : Option Addr) (c d : Nat) (xs ys : List Int), e = .returned (.tuple #[.slice A xs.length c, .slice B ys.length d]) ∧ (Ints w' w'.heap.size A xs.length xs ∧ (A = none → c = 0) ∧ xs.length ≤ c ∧ xs.length ≤ 513) ∧ (Ints w' w'.heap.size B ys.length ys ∧ (B = none → d = 0) ∧ ys.length ≤ d ∧ ys.length ≤ 513) ∧ Below w.heap.size w w'
theorem drawDiffStates_any (A : Option Addr) (n c : Nat) (zs : List Int) (w : World) (h : IsRow .u8 w A n c zs) :
    Calls Try.prog 28 #[.slice A n c] w (GivesSS w) := by
  have HI := Lib.hid h
  clear h
  go_enter Try.func28, Try.ntmps28
  go_wp2_with fail
  refine (open_any A n c zs _ HI.out).mono ?_
  rintro e w1 ⟨len, cap, rfl, hR, hb1⟩
  obtain ⟨g, hg0⟩ : ∃ g, g = w.heap.size := ⟨_, rfl⟩
  rw [← hg0] at hR ⊢
  have HD := Lib.hid (Drs.start hR)
  replace hb1 := Lib.hid hb1
  have hgl := hR.lt
  replace hg0 := Lib.hid hg0
  clear hR
  go_wp2_with fail
  refine (l20States_d HD.out (by omega)).mono ?_
  rintro e W' ⟨v, rfl, hv, hD, hgr⟩
  replace HD := Lib.hid hD
  clear hD
  obtain ⟨A1, B1, c1, d1, xs, ys, rfl, ox, oy, hx, hy⟩ := hv
  have HX := Lib.hid ox
  have HY := Lib.hid oy
  clear ox oy hgr
  go_wp2_with fail
  refine bodyPost_ret (results_tmp2 (by rfl) _ _ _) rfl ?_
  exact ⟨A1, B1, c1, d1, xs, ys, rfl, ⟨own_ints HX.out, own_nilc HX.out, own_cap HX.out, hx⟩, ⟨own_ints HY.out, own_nilc HY.out, own_cap HY.out, hy⟩, below_rd hb1.out (by rw [← hg0.out]; exact HD.out.hg)⟩
/-- Drawn patches, to be read. -/
def GivesPD (w : World) (e : Ending) (w' : World) : Prop := ∃ (A : Option Addr) (c : Nat) (ts : List TP), e = .returned (.slice A ts.length c) ∧ PRd w' A ts.length ts ∧ ts.length ≤ c ∧ pszA ts ≤ 2000 ∧ Below w.heap.size w w'
theorem drawPatchSize_any (A : Option Addr) (n c : Nat) (zs : List Int) (w : World) (h : IsRow .u8 w A n c zs) :
    Calls Try.prog 16 #[.slice A n c] w (GivesPD w) := by
  have HI := Lib.hid h
  clear h
  go_enter Try.func16, Try.ntmps16
  go_wp2_with fail
  refine (open_any A n c zs _ HI.out).mono ?_
  rintro e w1 ⟨len, cap, rfl, hR, hb1⟩
  obtain ⟨g, hg0⟩ : ∃ g, g = w.heap.size := ⟨_, rfl⟩
  rw [← hg0] at hR ⊢
  have HD := Lib.hid (Drs.start hR)
  replace hb1 := Lib.hid hb1
  have hgl := hR.lt
  replace hg0 := Lib.hid hg0
  clear hR
  go_wp2_with fail
  refine (l20States_d HD.out (by omega)).mono ?_
  rintro e W' ⟨v, rfl, hv, hD, hgr⟩
  replace HD := Lib.hid hD
  clear hD
  obtain ⟨A1, B1, c1, d1, xs, ys, rfl, ox, oy, hx, hy⟩ := hv
  have HX := Lib.hid ox
  have HY := Lib.hid oy
  have hcy := own_cap oy
  clear ox oy hgr
  go_wp2_with fail
  refine (diffStates_spec _ _ _ _ _ _ xs ys _ (own_ints HX.out) (own_ints HY.out) (by omega) (by omega) hcy).mono ?_
  rintro e w5 ⟨A', c', vs, rfl, o, b⟩
  have HO := Lib.hid o
  have B5 := Lib.hid b
  clear o b
  go_wp2_with fail
  go_ret
  exact ⟨A', c', diffR xs ys, rfl, HO.out.rd, own_cap HO.out.outer, diffR_sz xs ys, (below_rd hb1.out (by rw [← hg0.out]; exact HD.out.hg)).trans (B5.out.mono (below_rd hb1.out (by rw [← hg0.out]; exact HD.out.hg)).size)⟩
end Go.Proofs.Ytlbalepcjamhcaa
