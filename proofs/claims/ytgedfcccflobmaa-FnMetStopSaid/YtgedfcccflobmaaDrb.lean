/-
  The bytes of a valid instruction: the reference's OrderBytes.
-/
import Derived.Test.YtgedfcccflobmaaDro
import Derived.Test.YtgedfcccflobmaaStp
import Derived.Test.YtgedfcccflobmaaRd
namespace Go.Proofs.Ytgedfcccflobmaa
open Go.RowKit
set_option linter.unusedVariables false
set_option linter.unusedSimpArgs false
theorem own_take {w : World} {base n m c : Nat} {A : Option Addr} {xs : List Int} (h : w.ownsRow base 3 1 (.slice A n c) n (iv xs)) (hm : m ≤ n) : w.ownsRow base 3 1 (.slice A m c) m (iv (xs.take m)) := by
  have := own_shrink h hm
  rwa [show (iv xs).take (m * 1) = iv (xs.take m) by simp [iv, List.map_take]] at this
/-- A short list of bytes, to be read. -/
def BytesV (w : World) (e : Ending) (w' : World) : Prop := ∃ (A : Option Addr) (c : Nat) (xs : List Int), e = .returned (.slice A xs.length c) ∧ Ints w' w'.heap.size A xs.length xs ∧ (A = none → c = 0) ∧ allB xs = true ∧ xs.length ≤ 3 ∧ Below w.heap.size w w'
set_option maxRecDepth 8000 in
set_option maxHeartbeats 4000000 in
theorem orderBytesN (op arg : Int) (n : Nat) (w : World) (h : ordB op arg = true) (hn : olen op = n) (n1 : n ≤ 3) :
    Calls Try.prog 101 #[.agg #[.int .i64 op, .int .i64 arg]] w (BytesV w) := by
  obtain ⟨⟨o0, o1⟩, ⟨g0, g1⟩, -⟩ := ord_facts h
  obtain ⟨a1, h1⟩ : ∃ a1, arg.tmod 256 = a1 := ⟨_, rfl⟩
  obtain ⟨a2, h2⟩ : ∃ a2, arg.tdiv 256 = a2 := ⟨_, rfl⟩
  have e1 : arg.tmod 256 = arg % 256 := Int.tmod_eq_emod_of_nonneg g0
  have e2 : arg.tdiv 256 = arg / 256 := Int.tdiv_eq_ediv_of_nonneg g0
  have r1 : 0 ≤ a1 ∧ a1 ≤ 255 := by omega
  have r2 : 0 ≤ a2 ∧ a2 ≤ 255 := by omega
  have h3 : IntKind.i64.wrap a2 = a2 := IntWalk.i64_in _ (by omega)
  have hall := Lib.hid (show allB ([op, a1, a2].take n) = true by
    have q0 := inB_iff.2 (⟨o0, by omega⟩ : 0 ≤ op ∧ op ≤ 255)
    have q1 := inB_iff.2 r1
    have q2 := inB_iff.2 r2
    exact List.all_eq_true.2 fun z hz => by
      have := List.mem_of_mem_take hz
      simp at this
      rcases this with rfl | rfl | rfl <;> assumption)
  have c0 : (w.alloc (.cells #[.int .i64 op, .int .i64 arg] 84)).cell? ⟨w.heap.size, 0, none⟩ = some (.int .i64 op) := cell_new _ _ _ 0
  have c1 : (w.alloc (.cells #[.int .i64 op, .int .i64 arg] 84)).cell? ⟨w.heap.size, 1, none⟩ = some (.int .i64 arg) := cell_new _ _ _ 1
  have hb0 : Below w.heap.size w (w.alloc (.cells #[.int .i64 op, .int .i64 arg] 84)) := (Below.refl _ _).alloc (Nat.le_refl _) _
  have HB0 := Lib.hid hb0
  have HR := Lib.hid (Blk.new w 84 #[.int .i64 op, .int .i64 arg])
  have HL := Lib.hid (fun W : World => World.ownsRow_lit (e := 3) (size := 1) W #[.int .i64 op, .int .i64 a1, .int .i64 a2] 3 (Nat.le_refl _) (by simp [maxLen]) rfl)
  have ho := h
  have m0 : (0 : Int) ≤ (n : Int) := by omega
  have m1 : (n : Int) ≤ 3 := by omega
  have hlen := Lib.hid (show ([op, a1, a2].take n).length = n by simp; omega)
  clear e1 e2 hb0 h
  go_enter Try.func101, Try.ntmps101
  go_wp2_with (go_at_call 98; refine (orderValid_spec op arg _).mono ?_; rintro e w3 ⟨rfl, b3⟩; rw [ho]; have R3 := HR.out.below b3 HR.out.lt; have c0 := R3.cell 0; have c1 := R3.cell 1; have z3 := R3.lt; have B3 := Lib.hid (below_step HB0.out b3 HB0.out.size); replace R3 := Lib.hid R3; clear b3)
  go_region_held3 (fun w' => w'.cell? ⟨w.heap.size, 0, none⟩ = some (.int .i64 op) ∧ w'.cell? ⟨w.heap.size, 1, none⟩ = some (.int .i64 arg)) (first | exact ⟨c0, c1⟩ | exact ⟨d0, d1⟩ | exact ⟨(World.cell?_alloc_lt _ _ _ z3).trans c0, (World.cell?_alloc_lt _ _ _ z3).trans c1⟩ | exact ⟨(World.cell?_alloc_lt _ _ _ z5).trans d0, (World.cell?_alloc_lt _ _ _ z5).trans d1⟩) ((go_at_call 84; refine (orderLength_spec op _).mono ?_; rintro e w5 ⟨rfl, b5⟩; rw [hn]; first | (have b6 : Below w3.heap.size w3 w5 := (Below.refl _ _).drew.trans b5; have B5 := Lib.hid (B3.out.trans (b6.mono B3.out.size)); have L5 := trivial; have R5 := R3.out.below b6 z3; have d0 := R5.cell 0; have d1 := R5.cell 1; have z5 := R5.lt) | (have b6 : Below (w3.alloc (.cells #[.int .i64 op, .int .i64 a1, .int .i64 a2] 3)).heap.size (w3.alloc (.cells #[.int .i64 op, .int .i64 a1, .int .i64 a2] 3)) w5 := (Below.refl _ _).drew.trans b5; have B5 := Lib.hid ((B3.out.alloc B3.out.size (.cells #[.int .i64 op, .int .i64 a1, .int .i64 a2] 3)).trans (b6.mono (B3.out.alloc B3.out.size (.cells #[.int .i64 op, .int .i64 a1, .int .i64 a2] 3)).size)); have L5 := Lib.hid (own_below (HL.out w3) b6); have R5 := (R3.out.alloc (.cells #[.int .i64 op, .int .i64 a1, .int .i64 a2] 3)).below b6 (R3.out.alloc (.cells #[.int .i64 op, .int .i64 a1, .int .i64 a2] 3)).lt; have d0 := R5.cell 0; have d1 := R5.cell 1; have z5 := R5.lt)))
  all_goals (
    go_wp2_with fail
    go_ret
    first
      | exact ⟨_, 3, [op, a1, a2].take n, by rw [hlen.out]; rfl, by rw [hlen.out]; exact own_ints (own_take (m := n) (xs := [op, a1, a2]) L5.out (by omega)), by simp, hall.out, by rw [hlen.out]; omega, B5.out⟩
      | exact ⟨_, 3, [op, a1, a2].take n, by rw [hlen.out]; rfl, by rw [hlen.out]; exact own_ints (own_take (m := n) (xs := [op, a1, a2]) (HL.out w5) (by omega)), by simp, hall.out, by rw [hlen.out]; omega, B5.out.alloc B5.out.size _⟩)
theorem orderBytes_spec (op arg : Int) (w : World) (h : ordB op arg = true) : Calls Try.prog 101 #[.agg #[.int .i64 op, .int .i64 arg]] w (BytesV w) := by
  rcases olen_in op with hn | hn | hn | hn
  · exfalso
    unfold ordB at h
    rw [hn] at h
    simp at h
  · exact orderBytesN op arg 1 w h hn (by omega)
  · exact orderBytesN op arg 2 w h hn (by omega)
  · exact orderBytesN op arg 3 w h hn (by omega)
end Go.Proofs.Ytgedfcccflobmaa
