/-
  Lists of impl.Hold, structs of 2 numbers, as rows of flat numbers: cells, make, append, copies, comparisons, marks. No program's law is walked here. No condition but that lengths stay in range.
-/
import Derived.Test.YtmdebahhlgfboaaGrow
import Derived.Test.YtmdebahhlgfboaaBase
import Derived.Deep.QuietTactic
import Derived.BigQuiet
import Derived.Deep.RegionHeld3
import Derived.Deep.DrawnRows
import Derived.Laws.AppendOwnNone
namespace Go.Proofs.Ytmdebahhlgfboaa
open Go.RowKit
set_option linter.unusedVariables false
set_option linter.unusedSimpArgs false
attribute [local go_sem ↓] Go.wp_at_zero Go.wp_at_succ
abbrev THold := Int × Int
def flHold : List THold → List Int
  | [] => []
  | t :: ts => t.1 :: t.2 :: flHold ts
theorem flHold_len : ∀ ts : List THold, (flHold ts).length = ts.length * 2
  | [] => rfl
  | t :: ts => by simp only [flHold, List.length_cons, flHold_len ts]; omega
theorem flHold_get : ∀ (ts : List THold) (k : Nat), k < ts.length → (iv (flHold ts))[k * 2]? = some (.int .i64 (ts.getD k (0, 0)).1) ∧ (iv (flHold ts))[k * 2 + 1]? = some (.int .i64 (ts.getD k (0, 0)).2)
  | [], k, h => by simp at h
  | t :: ts, 0, h => by simp [flHold, iv]
  | t :: ts, k + 1, h => by
    obtain ⟨h0, h1⟩ := flHold_get ts k (by simpa using h)
    refine ⟨?_, ?_⟩
    · rw [show (k + 1) * 2 = k * 2 + 1 + 1 by omega]
      simp only [flHold, iv, List.map_cons, List.getElem?_cons_succ, List.getD_cons_succ]
      exact h0
    · rw [show (k + 1) * 2 + 1 = k * 2 + 1 + 1 + 1 by omega]
      simp only [flHold, iv, List.map_cons, List.getElem?_cons_succ, List.getD_cons_succ]
      exact h1
theorem flHold_set : ∀ (ts : List THold) (k : Nat) (x0 x1 : Int), k < ts.length → (((iv (flHold ts)).set (k * 2) (.int .i64 x0)).set (k * 2 + 1) (.int .i64 x1)) = iv (flHold (ts.set k (x0, x1)))
  | [], k, x0, x1, h => by simp at h
  | t :: ts, 0, x0, x1, h => by simp [flHold, iv]
  | t :: ts, k + 1, x0, x1, h => by
    have ih := flHold_set ts k x0 x1 (by simpa using h)
    rw [show (k + 1) * 2 + 1 = k * 2 + 1 + 1 + 1 by omega, show (k + 1) * 2 = k * 2 + 1 + 1 by omega]
    simp only [flHold, iv, List.map_cons, List.set_cons_succ] at ih ⊢
    rw [ih]
theorem flHold_app : ∀ ts us : List THold, flHold (ts ++ us) = flHold ts ++ flHold us
  | [], us => rfl
  | t :: ts, us => by simp [flHold, flHold_app ts us]
theorem flHold_take : ∀ (ts : List THold) (k : Nat), flHold (ts.take k) = (flHold ts).take (k * 2)
  | [], k => by simp [flHold]
  | t :: ts, 0 => by simp [flHold]
  | t :: ts, k + 1 => by
    rw [show (k + 1) * 2 = k * 2 + 1 + 1 by omega]
    simp only [List.take_succ_cons, flHold, flHold_take ts k]
theorem hold_len {w : World} {B n : Nat} {A : Option Addr} {ts : List THold} (h : Reads w B 2 A n (iv (flHold ts))) : ts.length = n := by have := h.1; rw [iv_len, flHold_len] at this; omega
theorem hold_spot {w : World} {B n k : Nat} {A : Option Addr} {ts : List THold} (h : Reads w B 2 A n (iv (flHold ts))) (hk : k < n) :
    ∃ b off, A = some ⟨b, off, none⟩ ∧ b < B ∧ w.cell? ⟨b, off + k * 2, none⟩ = some (.int .i64 (ts.getD k (0, 0)).1) ∧ w.cell? ⟨b, off + k * 2 + 1, none⟩ = some (.int .i64 (ts.getD k (0, 0)).2) := by
  have hl : ts.length = n := hold_len h
  obtain ⟨⟨b, off, spot⟩, rfl, hb, hc⟩ := h.2 (by omega)
  obtain ⟨g0, g1⟩ := flHold_get ts k (by omega)
  obtain ⟨f0, _⟩ := flHold_get ts 0 (by omega)
  have c0 := hc _ _ f0
  have hs : spot = none := by simpa [Addr.add] using World.cell?_spot c0
  subst hs
  have ha : ∀ j, ((⟨b, off, none⟩ : Addr).add j) = ⟨b, off + j, none⟩ := by intro j; unfold Addr.add; split <;> simp_all
  refine ⟨b, off, rfl, hb, ?_, ?_⟩
  · have := hc _ _ g0; rwa [ha] at this
  · have := hc _ _ g1; rwa [ha, ← Nat.add_assoc] at this
theorem hold_cells {w : World} {B n k b off : Nat} {ts : List THold} (h : Reads w B 2 (some ⟨b, off, none⟩) n (iv (flHold ts))) (hk : k < n) :
    b < B ∧ w.cell? ⟨b, off + k * 2, none⟩ = some (.int .i64 (ts.getD k (0, 0)).1) ∧ w.cell? ⟨b, off + k * 2 + 1, none⟩ = some (.int .i64 (ts.getD k (0, 0)).2) := by
  obtain ⟨b', off', e, hb, h'⟩ := hold_spot h hk
  injection e with e
  injection e with e1 e2
  subst e1 e2
  exact ⟨hb, h'⟩
theorem hold_take {w : World} {B n k : Nat} {A : Option Addr} {ts : List THold} (h : Reads w B 2 A n (iv (flHold ts))) (hk : k ≤ n) : Reads w B 2 A k (iv (flHold (ts.take k))) := by
  have hl := hold_len h
  refine ⟨by rw [iv_len, flHold_len, List.length_take]; omega, fun h0 => ?_⟩
  obtain ⟨ad, e, hb, hc⟩ := h.2 (by omega)
  refine ⟨ad, e, hb, fun j u hu => hc j u ?_⟩
  rw [flHold_take, ← iv_take, List.getElem?_take] at hu
  split at hu
  · exact hu
  · cases hu
theorem hold_grow (n k : Nat) (ts : List THold) (hl : ts.length = n) (hk : k < n) : (ts.take k ++ List.replicate (n - k) (0, 0)).set k (ts.getD k (0, 0)) = ts.take (k + 1) ++ List.replicate (n - (k + 1)) (0, 0) := by
  apply List.ext_getElem?
  intro j
  simp only [List.getElem?_set, List.length_append, List.length_take, List.length_replicate, List.getElem?_append, List.getElem?_take, List.getElem?_replicate]
  by_cases hj : k = j
  · subst hj
    have h1 : k < min k ts.length + (n - k) := by omega
    have h2 : k < min (k + 1) ts.length := by omega
    have h3 : k < ts.length := by omega
    simp [h1, h2, List.getD_eq_getElem?_getD, List.getElem?_eq_getElem h3]
  · by_cases hlt : j < k
    · have h1 : j < min k ts.length := by omega
      have h2 : j < min (k + 1) ts.length := by omega
      have h3 : j < k + 1 := by omega
      simp [hj, h1, h2, hlt, h3]
    · have h1 : ¬ j < min k ts.length := by omega
      have h2 : ¬ j < min (k + 1) ts.length := by omega
      simp only [hj, h1, h2, if_false]
      have e1 : min k ts.length = k := by omega
      have e2 : min (k + 1) ts.length = k + 1 := by omega
      rw [e1, e2]
      by_cases h4 : j < n
      · rw [if_pos (by omega), if_pos (by omega)]
      · rw [if_neg (by omega), if_neg (by omega)]
/-- A struct as a value. -/
def vHold (t : THold) : Value := .agg #[.int .i64 (t).1, .int .i64 (t).2]
theorem hold_list (n : Nat) (P : Nat → THold → Prop) (h : ∀ i, i < n → ∃ t, P i t) : ∃ ts : List THold, ts.length = n ∧ ∀ i, i < n → P i (ts.getD i (0, 0)) := by
  have h' : ∀ i, ∃ t, i < n → P i t := fun i => by
    by_cases hi : i < n
    · obtain ⟨t, ht⟩ := h i hi
      exact ⟨t, fun _ => ht⟩
    · exact ⟨(0, 0), fun h => absurd h hi⟩
  refine ⟨(List.range n).map fun i => Classical.choose (h' i), by simp, fun i hi => ?_⟩
  have : ((List.range n).map fun i => Classical.choose (h' i)).getD i (0, 0) = Classical.choose (h' i) := by
    simp [List.getD_eq_getElem?_getD, hi]
  rw [this]
  exact Classical.choose_spec (h' i) hi
theorem hold_reads {w : World} {a : Addr} {n : Nat} {ts : List THold} (hl : ts.length = n) (hc : ∀ i, i < n → w.cell? (a.add (i * 2 + 0)) = some (.int .i64 (ts.getD i (0, 0)).1) ∧ w.cell? (a.add (i * 2 + 1)) = some (.int .i64 (ts.getD i (0, 0)).2)) :
    Reads w w.heap.size 2 (some a) n (iv (flHold ts)) := by
  refine ⟨by rw [iv_len, flHold_len, hl], fun hn => ⟨a, rfl, ?_, fun j u hu => ?_⟩⟩
  · have := (hc 0 hn).1
    rcases Nat.lt_or_ge a.block w.heap.size with hlt | hge
    · exact hlt
    · rw [show 0 * 2 + 0 = 0 from rfl] at this
      simp [World.cell?, Addr.add, Array.getElem?_eq_none hge] at this
  · have hj : j < ts.length * 2 := by
      obtain ⟨hk, _⟩ := iv_get hu
      rwa [flHold_len] at hk
    have hi : j / 2 < n := by omega
    obtain ⟨g0, g1⟩ := flHold_get ts (j / 2) (by omega)
    obtain ⟨c0, c1⟩ := hc (j / 2) hi
    have hr : j = j / 2 * 2 + 0 ∨ j = j / 2 * 2 + 1 := by omega
    rcases hr with h | h
    · rw [h] at hu ⊢
      exact c0.trans (g0.symm.trans hu)
    · rw [h] at hu ⊢
      exact c1.trans (g1.symm.trans hu)
theorem flHold_zeros : ∀ n : Nat, iv (flHold (List.replicate n (0, 0))) = List.replicate (n * 2) (.int .i64 0)
  | 0 => rfl
  | n + 1 => by
    rw [show (n + 1) * 2 = n * 2 + 1 + 1 by omega]
    simp only [List.replicate_succ, flHold]
    have := flHold_zeros n
    simp only [iv, List.map_cons] at this ⊢
    rw [this]
theorem hold_made (m : Nat) : (madeCells #[.int .i64 0, .int .i64 0] m).toList = List.replicate m (.int .i64 0) := by
  rw [List.eq_replicate_iff]
  refine ⟨by simp [size_madeCells], fun u hu => ?_⟩
  simp only [madeCells, Array.toList_map, List.mem_map] at hu
  obtain ⟨i, _, rfl⟩ := hu
  have : i % 2 = 0 ∨ i % 2 = 1 := by omega
  show (#[Value.int .i64 0, Value.int .i64 0] : Array Value)[i % 2]! = _
  rcases this with h | h <;> rw [h] <;> rfl
theorem hold_store {w : World} {g c n k base E : Nat} {ts : List THold} (h : w.ownsRow base E 2 (.slice (some ⟨g, 0, none⟩) n c) n (iv (flHold ts))) (hk : k < n) :
    (w.cell? ⟨g, k * 2, none⟩ = some (.int .i64 (ts.getD k (0, 0)).1) ∧ w.cell? ⟨g, k * 2 + 1, none⟩ = some (.int .i64 (ts.getD k (0, 0)).2)) ∧
    (w.frozen? ⟨g, k * 2, none⟩ = false ∧ w.frozen? ⟨g, k * 2 + 1, none⟩ = false) ∧
    ∀ x0 x1 : Int, ((w.setCell ⟨g, k * 2, none⟩ (.int .i64 x0)).setCell ⟨g, k * 2 + 1, none⟩ (.int .i64 x1)).ownsRow base E 2 (.slice (some ⟨g, 0, none⟩) n c) n (iv (flHold (ts.set k (x0, x1)))) ∧
      w.grownBy ((w.setCell ⟨g, k * 2, none⟩ (.int .i64 x0)).setCell ⟨g, k * 2 + 1, none⟩ (.int .i64 x1)) (some g) := by
  have hl : ts.length = n := by have := h.1; rw [iv_len, flHold_len] at this; omega
  obtain ⟨g0, g1⟩ := flHold_get ts k (by omega)
  refine ⟨⟨(h.cellAt _ (by omega)).trans g0, (h.cellAt _ (by omega)).trans g1⟩, ⟨h.frozenAt _, h.frozenAt _⟩, fun x0 x1 => ?_⟩
  obtain ⟨a0, b0⟩ := h.stored (k * 2) (.int .i64 x0)
  obtain ⟨a1, b1⟩ := a0.stored (k * 2 + 1) (.int .i64 x1)
  rw [flHold_set ts k x0 x1 (by omega)] at a1
  exact ⟨a1, (b0.trans b1)⟩
theorem hold_mark {w : World} {g c n k base E : Nat} {k0 : Int} {xs : List Int} (h : w.ownsRow base E 2 (.slice (some ⟨g, 0, none⟩) n c) n (iv (marked k0 (k * 2) xs))) (hl : xs.length = n * 2) (hk : k < n) :
    ((∃ v, w.cell? ⟨g, k * 2, none⟩ = some v) ∧ (∃ v, w.cell? ⟨g, k * 2 + 1, none⟩ = some v)) ∧
    (w.frozen? ⟨g, k * 2, none⟩ = false ∧ w.frozen? ⟨g, k * 2 + 1, none⟩ = false) ∧
    ∀ x0 x1 : Int, x0 = k0 + ((k * 2 : Nat) : Int) → x1 = k0 + ((k * 2 + 1 : Nat) : Int) → ((w.setCell ⟨g, k * 2, none⟩ (.int .i64 x0)).setCell ⟨g, k * 2 + 1, none⟩ (.int .i64 x1)).ownsRow base E 2 (.slice (some ⟨g, 0, none⟩) n c) n (iv (marked k0 ((k + 1) * 2) xs)) ∧
      w.grownBy ((w.setCell ⟨g, k * 2, none⟩ (.int .i64 x0)).setCell ⟨g, k * 2 + 1, none⟩ (.int .i64 x1)) (some g) := by
  have hm : (iv (marked k0 (k * 2) xs)).length = n * 2 := h.1
  have hx : ∀ j, j < n * 2 → ∃ v, w.cell? ⟨g, j, none⟩ = some v := fun j hj =>
    ⟨(iv (marked k0 (k * 2) xs))[j]'(by omega), (h.cellAt j (by omega)).trans (List.getElem?_eq_getElem (by omega))⟩
  refine ⟨⟨hx _ (by omega), hx _ (by omega)⟩, ⟨h.frozenAt _, h.frozenAt _⟩, ?_⟩
  rintro x0 x1 rfl rfl
  obtain ⟨a0, b0⟩ := h.stored (k * 2) (.int .i64 (k0 + ((k * 2 : Nat) : Int)))
  obtain ⟨a1, b1⟩ := a0.stored (k * 2 + 1) (.int .i64 (k0 + ((k * 2 + 1 : Nat) : Int)))
  rw [marked_succ k0 (k * 2) xs (by omega), marked_succ k0 (k * 2 + 1) xs (by omega)] at a1
  rw [show k * 2 + 1 + 1 = (k + 1) * 2 by omega] at a1
  exact ⟨a1, (b0.trans b1)⟩
set_option maxHeartbeats 1000000 in
theorem tupHold_any (t : THold) (w : World) :
    Calls Try.prog 44 #[vHold t] w fun e w' => e = .returned (vHold t) ∧ Below w.heap.size w w' := by
  obtain ⟨x0, x1⟩ := t
  unfold vHold
  go_enter Try.func44, Try.ntmps44
  go_wp2
  refine bodyPost_ret (v := .agg #[.int .i64 x0, .int .i64 x1]) (by simp [results, Try.results44, go_sem]) rfl ⟨rfl, ?_⟩
  exact ((((Below.refl _ _).alloc (Nat.le_refl _) _).alloc (by simp) _).alloc (by simp; omega) _)
set_option maxHeartbeats 1000000 in
theorem eqHold_same' (t : THold) (w : World) :
    Calls Try.prog 45 #[vHold t, vHold t] w fun e w' => e = .returned (.bool true) ∧ Below w.heap.size w w' := by
  obtain ⟨x0, x1⟩ := t
  unfold vHold
  have hx0 : (x0 != x0) = false := by simp
  have hx1 : (x1 != x1) = false := by simp
  go_enter Try.func45, Try.ntmps45
  go_wp2
  go_ret
  exact ⟨rfl, ((Below.refl _ _).alloc (Nat.le_refl _) _).alloc (by simp) _⟩
theorem hold_info : (Try.prog.info? 42).map (fun i => (i.zero, i.size, i.bytes)) = some (some (vHold (0, 0)), 2, 16) := by kernel_rfl
theorem make_hold {ops : Array Oper} {rest : List Oper} {o : Oper} {a : Act} {Q : Exit → Act → World → Prop} (w : World) (hgd : o.guard = none) (l c : Operand)
    (ho : o.op = Op.makeSlice 25 l c) (n : Nat) (hl : a.eval l = .int .i64 (n : Int)) (hc : a.eval c = .int .i64 (n : Int)) (hn : n ≤ 1000000000) (base : Nat) (hb : base ≤ w.heap.size)
    (h : ∀ w', w'.ownsRow base 42 2 (.slice (some ⟨w.heap.size, 0, none⟩) n n) n (iv (flHold (List.replicate n (0, 0)))) → Below w.heap.size w w' → wpList Try.prog ops Q rest (a.put o.dst (.slice (some ⟨w.heap.size, 0, none⟩) n n)) w') :
    wpList Try.prog ops Q (o :: rest) a w := by
  obtain ⟨i0, hi0, hz0, hz1, hz2⟩ := info_parts hold_info
  refine wpList_make_full w hgd l c 25 ho base 42 i0 (vHold (0, 0)) 2 Try.underlying25 hi0 hz0 hz1 .i64 .i64 _ _ n hl hc rfl rfl (by rw [hz2]; omega) (by simp only [maxLen]; omega) hb ?_
  intro w' h1 h2
  refine h w' ?_ (below_of_grown h2 (Nat.le_refl _) (by intro k hk; cases hk))
  have e : (madeCells (vHold (0, 0)).cells (n * 2)).toList = iv (flHold (List.replicate n (0, 0))) := by
    rw [flHold_zeros]
    exact hold_made _
  rwa [e] at h1
/-- append of some structs that lie elsewhere. -/
theorem push_hold {ops : Array Oper} {rest : List Oper} {o : Oper} {a : Act} {Q : Exit → Act → World → Prop} (w : World) (hgd : o.guard = none) (s x : Operand)
    (ho : o.op = .call { callee := .builtin .append, args := #[s, x], argTypes := #[25, 25] })
    (base n c m d B : Nat) (A X : Option Addr) (xs ys : List Int) (hs : a.eval s = .slice A n c) (hx : a.eval x = .slice X m d)
    (hown : w.ownsRow base 42 2 (.slice A n c) n (iv xs)) (hy : Reads w B 2 X m (iv ys)) (hd : X = none → d = 0) (hn : n + m ≤ 10000000) (hb : base ≤ w.heap.size)
    (h : ∀ A' c' w', w'.ownsRow base 42 2 (.slice A' (n + m) c') (n + m) (iv (xs ++ ys)) → w.grownBy w' (Value.slice A n c).ownBlock → wpList Try.prog ops Q rest (a.put o.dst (.slice A' (n + m) c')) w') :
    wpList Try.prog ops Q (o :: rest) a w := by
  obtain ⟨i0, hi0, hz0, hz1, hz2⟩ := info_parts hold_info
  cases X with
  | none =>
    have hm : m = 0 := by
      rcases Nat.eq_zero_or_pos m with h0 | h0
      · exact h0
      · obtain ⟨ad, e, _⟩ := hy.2 h0; cases e
    subst hm
    have hd := hd rfl
    subst hd
    have hl : ys = [] := by have := hy.1; simp [iv_len] at this; exact this
    subst hl
    refine wpList_append_own_none hgd s x 25 ho base 42 i0 2 Try.underlying25 hi0 _ n (iv xs) hs hown hx ?_
    have := h A c w (by simpa using hown) (World.grownBy.refl _ _)
    simpa using this
  | some ad =>
    refine wpList_append_own_at w hgd s x 25 ho base 42 i0 (vHold (0, 0)) 2 16 Try.underlying25 hi0 hz0 hz1 hz2 rfl (by omega) _ n (iv xs) hs hown ad m d (iv ys) hx hy.1 ?_ ?_ (by simp only [maxLen]; omega) (by omega) hb ?_
    · intro j u hj
      have hm : 0 < m := by
        obtain ⟨hk, _⟩ := iv_get hj
        have := hy.1; rw [iv_len] at this
        rcases Nat.eq_zero_or_pos m with h0 | h0
        · subst h0; omega
        · exact h0
      obtain ⟨ad', e, _, hc⟩ := hy.2 hm
      injection e with e
      subst e
      exact hc j u hj
    · intro u hu
      simp only [iv, List.mem_map] at hu
      obtain ⟨z, _, rfl⟩ := hu
      rfl
    · intro v' w' ho' hg' _ hat
      obtain ⟨A', c', rfl⟩ := own_form ho'
      rw [← iv_append] at ho'
      exact h A' c' w' ho' hg'
/-- A literal of some structs. -/
theorem hold_lit {w : World} {E : TypeId} (ts : List THold) (cs : Array Value) (h : cs.toList = iv (flHold ts)) (hm : ts.length ≤ 1000) : Reads (w.alloc (.cells cs E)) (w.heap.size + 1) 2 (some ⟨w.heap.size, 0, none⟩) ts.length (iv (flHold ts)) := by
  have hs : cs.size = ts.length * 2 := by rw [← Array.length_toList, h, iv_len, flHold_len]
  have o : (w.alloc (.cells cs E)).ownsRow w.heap.size E 2 (.slice (some ⟨w.heap.size, 0, none⟩) ts.length ts.length) ts.length cs.toList := World.ownsRow_lit w cs ts.length (Nat.le_refl _) (by simp only [maxLen]; omega) hs
  rw [h] at o
  have := Reads.of_own o
  simpa using this
set_option maxHeartbeats 2000000 in
theorem toHoldS_any (A : Option Addr) (n c : Nat) (ts : List THold) (w : World) (h : Reads w w.heap.size 2 A n (iv (flHold ts))) (hn : n ≤ 1000000000) :
    Calls Try.prog 15 #[.slice A n c] w fun e w' => ∃ A' c', e = .returned (.slice A' n c') ∧ w'.ownsRow w.heap.size 42 2 (.slice A' n c') n (iv (flHold ts)) ∧ Below w.heap.size w w' := by
  have hl := hold_len h
  have H := Lib.hid h
  clear h
  go_enter Try.func15, Try.ntmps15
  go_wp2_with (at_make; refine make_hold _ rfl _ _ rfl n rfl rfl hn w.heap.size (Nat.le_refl _) ?_; intro w1 ho1 hb1; replace ho1 := Lib.hid ho1)
  go_loopw [4] (fun i wr => ∃ k : Nat, k ≤ n ∧ i = .int .i64 k ∧ wr.ownsRow w.heap.size 42 2 (.slice (some ⟨w.heap.size, 0, none⟩) n n) n (iv (flHold (ts.take k ++ List.replicate (n - k) (0, 0)))) ∧ Below w.heap.size w wr) (fun i _ => n - (intOf i).toNat)
  case atStart => exact ⟨0, Nat.zero_le _, rfl, by simpa using ho1.out, hb1⟩
  case round =>
    obtain ⟨k, hk, rfl, hown, hb⟩ := hrel
    by_cases hlt : k < n
    · obtain ⟨b, off, e1, _, h0, h1⟩ := hold_spot (H.out.below hb) hlt
      have e1 := Lib.hid e1
      have hgs := hold_grow n k ts hl hlt
      obtain ⟨t, ht⟩ : ∃ t, t = ts.getD k (0, 0) := ⟨_, rfl⟩
      rw [← ht] at h0 h1 hgs
      clear ht
      obtain ⟨x0, x1⟩ := t
      have HGS := Lib.hid hgs
      have HO := Lib.hid hown
      have HB := Lib.hid hb
      have q1 : (k : Int) < (n : Int) := by omega
      clear hown hb ho1 hb1 H hgs
      have e2 := e1.out
      subst e2
      have hto := Lib.hid (fun W => tupHold_any (x0, x1) W)
      simp only [vHold] at hto
      go_wp2_with (go_at_call 44; refine (hto.out _).mono ?_; rintro e w5 ⟨rfl, b5⟩; obtain ⟨⟨s0, s1⟩, ⟨f0, f1⟩, hst⟩ := hold_store (own_below HO.out b5) hlt; replace hst := Lib.hid (hst x0 x1); replace b5 := Lib.hid b5)
      go_roundw
      case rel =>
        have hst := hst.out
        rw [HGS.out] at hst
        exact ⟨k + 1, by omega, by go_num, hst.1, (below_step HB.out b5.out HB.out.size).grown hst.2 (Nat.le_trans HB.out.size b5.out.size) (by intro k hk; injection hk with hk; omega)⟩
      case measure => simp [intOf]; omega
    · obtain rfl : k = n := by omega
      go_wp2
      go_ret
      refine ⟨_, _, rfl, ?_, hb⟩
      rwa [Nat.sub_self, List.replicate_zero, List.append_nil, List.take_of_length_le (by omega)] at hown
set_option maxHeartbeats 4000000 in
theorem eqHoldS_same (A B : Option Addr) (n c d : Nat) (ts : List THold) (w : World) (ha : Reads w w.heap.size 2 A n (iv (flHold ts))) (hb : Reads w w.heap.size 2 B n (iv (flHold ts))) (hn : n ≤ 1000000000) :
    Calls Try.prog 17 #[.slice A n c, .slice B n d] w fun e w' => e = .returned (.bool true) ∧ Below w.heap.size w w' := by
  have hnn : (((n : Int) != (n : Int)) = false) := by simp
  have HA := Lib.hid ha
  have HB := Lib.hid hb
  clear ha hb
  go_enter Try.func17, Try.ntmps17
  go_wp2
  go_loopw [5] (fun i wr => ∃ k : Nat, k ≤ n ∧ i = .int .i64 k ∧ Below w.heap.size w wr) (fun i _ => n - (intOf i).toNat)
  case atStart => exact ⟨0, Nat.zero_le _, rfl, Below.refl _ _⟩
  case round =>
    obtain ⟨k, hk, rfl, hbel⟩ := hrel
    by_cases hlt : k < n
    · obtain ⟨b, off, e1, hb1, h0, h1⟩ := hold_spot (HA.out.below hbel) hlt
      obtain ⟨b2, off2, e2, hb2, g0, g1⟩ := hold_spot (HB.out.below hbel) hlt
      have e1 := Lib.hid e1
      have e2 := Lib.hid e2
      generalize ts.getD k (0, 0) = t at h0 h1 g0 g1
      obtain ⟨x0, x1⟩ := t
      have q0 : (0 : Int) ≤ (k : Int) := by omega
      have q1 : (k : Int) < (n : Int) := by omega
      have hz : w.heap.size ≤ wr.heap.size := hbel.size
      have hb1' : b < wr.heap.size := by omega
      have hb2' : b2 < wr.heap.size := by omega
      have hto := Lib.hid (fun W => eqHold_same' (x0, x1) W)
      simp only [vHold] at hto
      have HBEL := Lib.hid hbel
      clear hbel HA HB
      have e3 := e1.out
      subst e3
      have e4 := e2.out
      subst e4
      go_wp2_with fail
      go_region_held3 (fun w' => w'.cell? ⟨b, off + k * 2, none⟩ = some (.int .i64 x0) ∧ w'.cell? ⟨b, off + k * 2 + 1, none⟩ = some (.int .i64 x1) ∧ w'.cell? ⟨b2, off2 + k * 2, none⟩ = some (.int .i64 x0) ∧ w'.cell? ⟨b2, off2 + k * 2 + 1, none⟩ = some (.int .i64 x1)) (first | exact ⟨h0, h1, g0, g1⟩ | exact ⟨(b5.cell hb1').trans h0, (b5.cell hb1').trans h1, (b5.cell hb2').trans g0, (b5.cell hb2').trans g1⟩) ((go_at_call 45; refine (hto.out _).mono ?_; rintro e w5 ⟨rfl, b5⟩))
      go_wp2_with fail
      go_roundw
      case rel => exact ⟨k + 1, by omega, by go_num, below_step HBEL.out.drew b5 hz⟩
      case measure => simp [intOf]; omega
    · go_wp2
      go_ret
      exact ⟨rfl, hbel⟩
theorem szHoldS_any (A : Option Addr) (n c : Nat) (l : Int) (w : World) (h0 : 0 ≤ l) (h1 : l ≤ 1000000000) (hn : n ≤ 9223372036854775807) :
    Calls Try.prog 13 #[.slice A n c, .int .i64 l] w fun e w' => e = .returned (.int .i64 (if l - n < 0 then -1 else l - n)) ∧ w = w' := by
  have hw : IntKind.i64.wrap (l - n) = l - n := IntWalk.i64_in _ (by omega)
  by_cases hlt : l - (n : Int) < 0
  · rw [if_pos hlt]
    go_enter Try.func13, Try.ntmps13
    go_wp2
    go_ret
    exact ⟨rfl, rfl⟩
  · rw [if_neg hlt]
    go_enter Try.func13, Try.ntmps13
    go_wp2
    go_ret
    exact ⟨rfl, rfl⟩
set_option maxHeartbeats 2000000 in
theorem markHoldS_own (base : Nat) (A : Option Addr) (n c : Nat) (xs : List Int) (k0 : Int) (w : World) (ha : w.ownsRow base 42 2 (.slice A n c) n (iv xs)) (h0 : 0 ≤ k0) (hn : n ≤ 100000000) (h1 : k0 ≤ 1000000000) :
    Calls Try.prog 21 #[.slice A n c, .int .i64 k0] w fun e w' => e = .returned (.int .i64 (k0 + 2 * (n : Int))) ∧ w'.ownsRow base 42 2 (.slice A n c) n (iv (marks k0 (n * 2))) ∧ w.grownBy w' (Value.slice A n c).ownBlock := by
  have hl : xs.length = n * 2 := by have := ha.1; simp [iv_len] at this; omega
  go_enter Try.func21, Try.ntmps21
  go_wp2
  go_loopw [1, 5] (fun m i wr => ∃ k : Nat, k ≤ n ∧ i = .int .i64 k ∧ m = .int .i64 (k0 + 2 * (k : Int)) ∧ wr.ownsRow base 42 2 (.slice A n c) n (iv (marked k0 (k * 2) xs)) ∧ w.grownBy wr (Value.slice A n c).ownBlock) (fun _ i _ => n - (intOf i).toNat)
  case atStart => exact ⟨0, Nat.zero_le _, rfl, by go_num, by simpa [marked, marks] using ha, World.grownBy.refl w _⟩
  case round =>
    obtain ⟨k, hk, rfl, rfl, hown, hg⟩ := hrel
    by_cases hlt : k < n
    · obtain ⟨g, cap, e1, _, hgl⟩ := hown.form (by omega)
      injection e1 with e1 _ e3
      subst e1 e3
      obtain ⟨⟨⟨v0, c0⟩, ⟨v1, c1⟩⟩, ⟨f0, f1⟩, hst⟩ := hold_mark hown hl hlt
      have HG := Lib.hid hg
      obtain ⟨M, hM⟩ : ∃ M : Int, M = k0 + 2 * (k : Int) := ⟨_, rfl⟩
      have HST := Lib.hid (hst (M) (M + 1) (by omega) (by omega))
      have hM0 : 0 ≤ M := by omega
      have hM1 : M ≤ 2000000000 := by omega
      rw [← hM]
      have HM := Lib.hid hM
      clear hst hown ha hg hM
      go_wp2
      go_roundw
      case rel => exact ⟨k + 1, by omega, by go_num, by rw [HM.out]; go_num, HST.out.1, HG.out.trans HST.out.2⟩
      case measure => simp [intOf]; omega
    · obtain rfl : k = n := by omega
      go_wp2
      go_ret
      refine ⟨rfl, ?_, hg⟩
      rwa [marked, List.drop_eq_nil_of_le (by omega), List.append_nil] at hown
theorem hold_of_marks (k0 : Int) (n : Nat) : ∃ ts : List THold, flHold ts = marks k0 (n * 2) ∧ ts.length = n ∧ ∀ k, k < n → (ts.getD k (0, 0)).1 = k0 + ((k * 2 : Nat) : Int) ∧ (ts.getD k (0, 0)).2 = k0 + ((k * 2 + 1 : Nat) : Int) := by
  refine ⟨(List.range n).map fun i => (k0 + ((i * 2 : Nat) : Int), k0 + ((i * 2 + 1 : Nat) : Int)), ?_, by simp, fun k hk => by simp [List.getD_eq_getElem?_getD, hk]⟩
  induction n with
  | zero => rfl
  | succ n ih =>
    rw [List.range_succ, List.map_append, flHold_app, ih, show (n + 1) * 2 = n * 2 + 1 + 1 by omega]
    simp only [marks, List.range_succ, List.map_append, List.map_cons, List.map_nil, flHold, List.append_assoc, List.cons_append, List.nil_append]
set_option maxHeartbeats 2000000 in
theorem heldHoldS_marks (A : Option Addr) (n c : Nat) (k0 : Int) (w : World) (ha : Reads w w.heap.size 2 A n (iv (marks k0 (n * 2)))) (h0 : 0 ≤ k0) (hn : n ≤ 100000000) (h1 : k0 ≤ 1000000000) :
    Calls Try.prog 27 #[.slice A n c, .int .i64 k0] w fun e w' => e = .returned (.int .i64 (k0 + 2 * (n : Int))) ∧ Below w.heap.size w w' := by
  obtain ⟨ts, hts⟩ : ∃ ts : List THold, flHold ts = marks k0 (n * 2) ∧ ts.length = n ∧ ∀ k, k < n → (ts.getD k (0, 0)).1 = k0 + ((k * 2 : Nat) : Int) ∧ (ts.getD k (0, 0)).2 = k0 + ((k * 2 + 1 : Nat) : Int) := hold_of_marks k0 n
  obtain ⟨hfl, hln, hv⟩ := hts
  rw [← hfl] at ha
  have HA := Lib.hid ha
  have HV := Lib.hid hv
  clear ha hv hfl
  go_enter Try.func27, Try.ntmps27
  go_wp2
  go_loop [1, 5] (fun m i => ∃ k : Nat, k ≤ n ∧ i = .int .i64 k ∧ m = .int .i64 (k0 + 2 * (k : Int))) (fun _ i => n - (intOf i).toNat)
  case atStart => exact ⟨0, Nat.zero_le _, rfl, by go_num⟩
  case round =>
    obtain ⟨k, hk, rfl, rfl⟩ := hrel
    by_cases hlt : k < n
    · obtain ⟨b, off, e1, _, h0, h1⟩ := hold_spot HA.out hlt
      obtain ⟨v0, v1⟩ := HV.out k hlt
      have e1 := Lib.hid e1
      obtain ⟨M, hM⟩ : ∃ M : Int, M = k0 + 2 * (k : Int) := ⟨_, rfl⟩
      rw [v0, show k0 + ((k * 2 : Nat) : Int) = M by omega] at h0
      rw [v1, show k0 + ((k * 2 + 1 : Nat) : Int) = M + 1 by omega] at h1
      have hM0 : 0 ≤ M := by omega
      have hM1 : M ≤ 2000000000 := by omega
      rw [← hM]
      have HM := Lib.hid hM
      have q1 : (k : Int) < (n : Int) := by omega
      clear hM v0 v1
      have e2 := e1.out
      subst e2
      go_wp2
      go_round
      case rel => exact ⟨k + 1, by omega, by go_num, by rw [HM.out]; go_num⟩
      case measure => simp [intOf]; omega
    · obtain rfl : k = n := by omega
      go_wp2
      go_ret
      exact ⟨rfl, Below.refl _ _⟩
end Go.Proofs.Ytmdebahhlgfboaa
