/-
  The rows that a law's walk has made so far, all in blocks of their own (Env): what a call adds, leaves or marks. append of a whole list; slices.Clone; toIntS. No program's law is walked here.
-/
import Derived.Test.YtkcabllnlbcgdaaIntsC
import Derived.Test.YtkcabllnlbcgdaaPush
import Derived.Laws.AppendOwnNone
namespace Go.Proofs.Ytkcabllnlbcgdaa
open Go.RowKit
set_option linter.unusedVariables false
set_option linter.unusedSimpArgs false
theorem own_len {w : World} {base e n : Nat} {v : Value} {xs : List Int} (h : w.ownsRow base e 1 v n (iv xs)) : n = xs.length := by have := h.1; simp [iv_len] at this; omega
theorem own_base {w : World} {base b e size n : Nat} {v : Value} {xs : List Value} (h : w.ownsRow base e size v n xs) (hb : b ≤ base) : w.ownsRow b e size v n xs := by
  refine ⟨h.1, ?_⟩
  rcases h.2 with h2 | ⟨g, cap, cur, h1, h2, h3⟩
  · exact .inl h2
  · exact .inr ⟨g, cap, cur, h1, Nat.le_trans hb h2, h3⟩
theorem own_block' {w : World} {base e size n c : Nat} {A : Option Addr} {xs : List Value} (h : w.ownsRow base e size (.slice A n c) n xs) : (A = none ∧ n = 0 ∧ c = 0) ∨ ∃ g, A = some ⟨g, 0, none⟩ ∧ base ≤ g ∧ g < w.heap.size := own_block h
structure Lot where
  e : TypeId
  size : Nat
  A : Option Addr
  n : Nat
  c : Nat
  xs : List Value
  lo : Nat
  hi : Nat
def Lot.v (r : Lot) : Value := .slice r.A r.n r.c
structure Env (w0 w : World) (L : List Lot) : Prop where
  bel : Below w0.heap.size w0 w
  row : ∀ r ∈ L, (w.ownsRow r.lo r.e r.size r.v r.n r.xs ∧ ∀ k, r.v.ownBlock = some k → k < r.hi) ∧ w0.heap.size ≤ r.lo ∧ r.hi ≤ w.heap.size
  ord : L.Pairwise fun a b => b.hi ≤ a.lo ∨ a.hi ≤ b.lo
theorem Env.start (w : World) : Env w w [] := ⟨Below.refl _ _, fun r hr => (by cases hr), List.Pairwise.nil⟩
theorem Env.below {w0 w w' : World} {L : List Lot} (h : Env w0 w L) (b : Below w.heap.size w w') : Env w0 w' L :=
  ⟨h.bel.trans (b.mono h.bel.size), fun r hr => by
    obtain ⟨⟨h1, h2⟩, h3, h4⟩ := h.row r hr
    exact ⟨⟨own_below h1 b, h2⟩, h3, Nat.le_trans h4 b.size⟩, h.ord⟩
theorem Env.push {w0 w w' : World} {L : List Lot} (h : Env w0 w L) {e : TypeId} {size n c : Nat} {A : Option Addr} {xs : List Value} (o : w'.ownsRow w.heap.size e size (.slice A n c) n xs) (b : Below w.heap.size w w') :
    Env w0 w' (⟨e, size, A, n, c, xs, w.heap.size, w'.heap.size⟩ :: L) := by
  have h' := h.below b
  refine ⟨h'.bel, fun r hr => ?_, List.pairwise_cons.2 ⟨fun r hr => .inl (h.row r hr).2.2, h.ord⟩⟩
  rcases List.mem_cons.1 hr with rfl | hr
  · exact ⟨⟨o, fun k hk => (o.lt k hk).2⟩, h.bel.size, Nat.le_refl _⟩
  · exact h'.row r hr
/-- Two rows at once. -/
theorem Env.push2 {w0 w w' : World} {L : List Lot} (h : Env w0 w L) {e size n c n' c' l1 h1 l2 h2 : Nat} {A A' : Option Addr} {xs ys : List Value} (o1 : w'.ownsRow l1 e size (.slice A n c) n xs) (p1 : ∀ k, (Value.slice A n c).ownBlock = some k → k < h1)
    (o2 : w'.ownsRow l2 e size (.slice A' n' c') n' ys) (p2 : ∀ k, (Value.slice A' n' c').ownBlock = some k → k < h2)
    (q : w.heap.size ≤ l1 ∧ w.heap.size ≤ l2 ∧ h1 ≤ w'.heap.size ∧ h2 ≤ w'.heap.size ∧ (h1 ≤ l2 ∨ h2 ≤ l1)) (b : Below w.heap.size w w') :
    Env w0 w' (⟨e, size, A, n, c, xs, l1, h1⟩ :: ⟨e, size, A', n', c', ys, l2, h2⟩ :: L) := by
  have h' := h.below b
  obtain ⟨q1, q2, q3, q4, q5⟩ := q
  refine ⟨h'.bel, fun r hr => ?_, List.pairwise_cons.2 ⟨fun r hr => ?_, List.pairwise_cons.2 ⟨fun r hr => .inl (Nat.le_trans (h.row r hr).2.2 q2), h.ord⟩⟩⟩
  · rcases List.mem_cons.1 hr with rfl | hr
    · exact ⟨⟨o1, p1⟩, Nat.le_trans h.bel.size q1, q3⟩
    · rcases List.mem_cons.1 hr with rfl | hr
      · exact ⟨⟨o2, p2⟩, Nat.le_trans h.bel.size q2, q4⟩
      · exact h'.row r hr
  · rcases List.mem_cons.1 hr with rfl | hr
    · rcases q5 with q5 | q5
      · exact .inr q5
      · exact .inl q5
    · exact .inl (Nat.le_trans (h.row r hr).2.2 q1)
theorem Env.at_ {w0 w : World} {L : List Lot} (h : Env w0 w L) (i : Nat) {r : Lot} (hr : L[i]? = some r) : w.ownsRow r.lo r.e r.size r.v r.n r.xs := (h.row r (List.mem_of_getElem? hr)).1.1
theorem Env.own {w0 w : World} {L : List Lot} (h : Env w0 w L) (i : Nat) {A : Option Addr} {n c lo hi size : Nat} {e : TypeId} {xs : List Value} (hr : L[i]? = some ⟨e, size, A, n, c, xs, lo, hi⟩) : w.ownsRow lo e size (.slice A n c) n xs := h.at_ i hr
theorem Env.nil_ {w0 w : World} {L : List Lot} (h : Env w0 w L) (i : Nat) {A : Option Addr} {n c lo hi size : Nat} {e : TypeId} {xs : List Value} (hr : L[i]? = some ⟨e, size, A, n, c, xs, lo, hi⟩) (hA : A = none) : c = 0 := by
  rcases own_block' (h.own i hr) with ⟨_, _, hc⟩ | ⟨g, e, _⟩
  · exact hc
  · rw [hA] at e; cases e
theorem Env.ints {w0 w : World} {L : List Lot} (h : Env w0 w L) (i : Nat) {A : Option Addr} {n c lo hi : Nat} {e : TypeId} {xs : List Int} (hr : L[i]? = some ⟨e, 1, A, n, c, iv xs, lo, hi⟩) : Ints w w.heap.size A n xs := own_ints (h.at_ i hr)
theorem Env.reads {w0 w : World} {L : List Lot} (h : Env w0 w L) (i : Nat) {A : Option Addr} {n c lo hi size : Nat} {e : TypeId} {xs : List Value} (hr : L[i]? = some ⟨e, size, A, n, c, xs, lo, hi⟩) : Reads w w.heap.size size A n xs := Reads.of_own (h.at_ i hr)
theorem Env.arg {w0 w : World} {L : List Lot} (h : Env w0 w L) {A : Option Addr} {n : Nat} {xs : List Int} (a : Ints w0 w0.heap.size A n xs) : Ints w w.heap.size A n xs := (a.below h.bel).more h.bel.size
theorem Env.argR {w0 w : World} {L : List Lot} (h : Env w0 w L) {A : Option Addr} {n size : Nat} {xs : List Value} (a : Reads w0 w0.heap.size size A n xs) : Reads w w.heap.size size A n xs := (a.below h.bel).more h.bel.size
theorem pairwise_sep {α : Type _} {R : α → α → Prop} : ∀ {L : List α} {i j : Nat} {a b : α}, L.Pairwise R → L[i]? = some a → L[j]? = some b → i < j → R a b
  | [], _, _, _, _, _, h, _, _ => by simp at h
  | x :: L, 0, j + 1, a, b, hp, h1, h2, _ => by
    simp at h1 h2; subst h1
    exact (List.pairwise_cons.1 hp).1 b (List.mem_of_getElem? h2)
  | x :: L, i + 1, j + 1, a, b, hp, h1, h2, hl => by
    simp at h1 h2
    exact pairwise_sep (List.pairwise_cons.1 hp).2 h1 h2 (by omega)
theorem pairwise_set {α : Type _} {R : α → α → Prop} {a b : α} (hl : ∀ x, R x a → R x b) (hr : ∀ x, R a x → R b x) : ∀ {L : List α} {i : Nat}, L.Pairwise R → L[i]? = some a → (L.set i b).Pairwise R
  | [], _, hp, h => by simp at h
  | x :: L, 0, hp, h => by
    simp at h; subst h
    obtain ⟨h1, h2⟩ := List.pairwise_cons.1 hp
    exact List.pairwise_cons.2 ⟨fun y hy => hr y (h1 y hy), h2⟩
  | x :: L, i + 1, hp, h => by
    simp at h
    obtain ⟨h1, h2⟩ := List.pairwise_cons.1 hp
    refine List.pairwise_cons.2 ⟨fun y hy => ?_, pairwise_set hl hr h2 h⟩
    rcases List.mem_or_eq_of_mem_set hy with hy | rfl
    · exact h1 y hy
    · exact hl x (h1 a (List.mem_of_getElem? h))
/-- A row is written to: it has other content; the others have stayed. -/
theorem Env.mark {w0 w w' : World} {L : List Lot} (h : Env w0 w L) (i : Nat) {e : TypeId} {size n c lo hi : Nat} {A : Option Addr} {xs ys : List Value} (hr : L[i]? = some ⟨e, size, A, n, c, xs, lo, hi⟩)
    (o : w'.ownsRow lo e size (.slice A n c) n ys) (g : w.grownBy w' (Value.slice A n c).ownBlock) : Env w0 w' (L.set i ⟨e, size, A, n, c, ys, lo, hi⟩) := by
  have hm := h.row _ (List.mem_of_getElem? hr)
  have hbb : ∀ k, (Value.slice A n c).ownBlock = some k → lo ≤ k := fun k hk => (hm.1.1.lt k hk).1
  refine ⟨h.bel.trans (below_of_grown g h.bel.size fun k hk => Nat.le_trans hm.2.1 (hbb k hk)), ?_, pairwise_set (R := fun a b : Lot => b.hi ≤ a.lo ∨ a.hi ≤ b.lo) (a := ⟨e, size, A, n, c, xs, lo, hi⟩) (b := ⟨e, size, A, n, c, ys, lo, hi⟩) (fun _ h => h) (fun _ h => h) h.ord hr⟩
  intro r hr'
  obtain ⟨j, hj⟩ := List.getElem?_of_mem hr'
  by_cases hij : i = j
  · subst hij
    have hlt : i < L.length := by
      rcases Nat.lt_or_ge i L.length with h1 | h1
      · exact h1
      · rw [List.getElem?_eq_none h1] at hr; cases hr
    rw [List.getElem?_set_self hlt] at hj
    injection hj with hj
    subst hj
    exact ⟨⟨o, hm.1.2⟩, hm.2.1, Nat.le_trans hm.2.2 g.size⟩
  · rw [List.getElem?_set_ne hij] at hj
    obtain ⟨⟨h1, h2⟩, h3, h4⟩ := h.row r (List.mem_of_getElem? hj)
    refine ⟨⟨h1.kept g ?_, h2⟩, h3, Nat.le_trans h4 g.size⟩
    rcases hu : r.v.ownBlock with _ | k'
    · exact .inl rfl
    · rcases hv : (Value.slice A n c).ownBlock with _ | k
      · exact .inr (by simp)
      · refine .inr fun e => ?_
        injection e with e
        subst e
        have q1 := hbb k' hv
        have q2 := hm.1.2 k' hv
        have q3 := (h1.lt k' hu).1
        have q4 := h2 k' hu
        rcases Nat.lt_or_gt_of_ne hij with hlt | hlt
        · have := pairwise_sep h.ord hr hj hlt
          simp at this q2; omega
        · have := pairwise_sep h.ord hj hr hlt
          simp at this q2; omega
/-- What a call that makes a list of numbers gives. -/
def Gives (w : World) (xs : List Int) (e : Ending) (w' : World) : Prop := ∃ A c, e = .returned (.slice A xs.length c) ∧ w'.ownsRow w.heap.size 3 1 (.slice A xs.length c) xs.length (iv xs) ∧ Below w.heap.size w w'
theorem iv_take (xs : List Int) (k : Nat) : (iv xs).take k = iv (xs.take k) := by simp [iv, List.map_take]
theorem iv_drop (xs : List Int) (k : Nat) : (iv xs).drop k = iv (xs.drop k) := by simp [iv, List.map_drop]
theorem Ints.take {w : World} {B n k : Nat} {A : Option Addr} {xs : List Int} (h : Ints w B A n xs) (hk : k ≤ n) : Ints w B A k (xs.take k) := by
  have hl := h.len
  refine ⟨by simp [iv_len, hl]; omega, fun h0 => ?_⟩
  obtain ⟨ad, e, hb, hc⟩ := h.2 (by omega)
  refine ⟨ad, e, hb, fun j u hu => hc j u ?_⟩
  obtain ⟨hj, rfl⟩ := iv_get hu
  have hj2 : j < xs.length := by simp at hj; omega
  rw [iv_at hj2]
  simp
theorem Ints.drop {w : World} {B n k cap : Nat} {A : Option Addr} {xs : List Int} (h : Ints w B A n xs) (hk : k ≤ n) (hc : n ≤ cap) : Ints w B (if cap = k then A else A.map (·.add k)) (n - k) (xs.drop k) := by
  have := Reads.cut h hk hc
  rwa [Nat.mul_one, iv_drop] at this
theorem own_cap {w : World} {base e size n c : Nat} {A : Option Addr} {xs : List Value} (h : w.ownsRow base e size (.slice A n c) n xs) : n ≤ c := by
  rcases h.2 with ⟨h1, rfl⟩ | ⟨g, cap, cur, h1, _, _, hnc, _⟩
  · exact Nat.zero_le _
  · injection h1 with _ _ h3; rw [h3]; exact hnc
theorem Env.cap {w0 w : World} {L : List Lot} (h : Env w0 w L) (i : Nat) {A : Option Addr} {n c lo hi size : Nat} {e : TypeId} {xs : List Value} (hr : L[i]? = some ⟨e, size, A, n, c, xs, lo, hi⟩) : n ≤ c := own_cap (h.own i hr)
theorem Env.give {w0 w : World} {L : List Lot} (h : Env w0 w L) (i : Nat) {A : Option Addr} {n c lo hi size : Nat} {e : TypeId} {xs : List Value} (hr : L[i]? = some ⟨e, size, A, n, c, xs, lo, hi⟩) : w.ownsRow w0.heap.size e size (.slice A n c) n xs :=
  own_base (h.own i hr) (h.row _ (List.mem_of_getElem? hr)).2.1
set_option maxRecDepth 4000 in
/-- append(s, x...) of a list that only is read. -/
theorem push_list {ops : Array Oper} {rest : List Oper} {o : Oper} {a : Act} {Q : Exit → Act → World → Prop} (w : World) (hgd : o.guard = none) (s x : Operand)
    (ho : o.op = .call { callee := .builtin .append, args := #[s, x], argTypes := #[23, 23] })
    (base n c m d B : Nat) (A X : Option Addr) (xs ys : List Int) (hs : a.eval s = .slice A n c) (hx : a.eval x = .slice X m d)
    (hown : w.ownsRow base 3 1 (.slice A n c) n (iv xs)) (hy : Ints w B X m ys) (hd : X = none → d = 0) (hn : n + m ≤ 1000000000) (hb : base ≤ w.heap.size)
    (h : ∀ A' c' w', w'.ownsRow base 3 1 (.slice A' (n + m) c') (n + m) (iv (xs ++ ys)) → Below base w w' → wpList Try.prog ops Q rest (a.put o.dst (.slice A' (n + m) c')) w') :
    wpList Try.prog ops Q (o :: rest) a w := by
  obtain ⟨i0, hi0, hz0, hz1, hz2⟩ := info_parts int_info
  cases X with
  | none =>
    have hm : m = 0 := by
      rcases Nat.eq_zero_or_pos m with h0 | h0
      · exact h0
      · obtain ⟨ad, e, _⟩ := hy.2 h0; cases e
    subst hm
    have hd := hd rfl
    subst hd
    have hl : ys = [] := List.length_eq_zero_iff.1 hy.len
    subst hl
    refine wpList_append_own_none hgd s x 23 ho base 3 i0 1 Try.underlying23 hi0 _ n (iv xs) hs hown hx ?_
    have := h A c w (by simpa using hown) (Below.refl _ _)
    simpa using this
  | some ad =>
    refine wpList_append_own_at w hgd s x 23 ho base 3 i0 (.int .i64 0) 1 8 Try.underlying23 hi0 hz0 hz1 hz2 rfl (by omega) _ n (iv xs) hs hown ad m d (iv ys) hx hy.1 ?_ ?_ (by simp only [maxLen]; omega) (by omega) hb ?_
    · intro j u hj
      have hm : 0 < m := by
        obtain ⟨hk, _⟩ := iv_get hj
        have := hy.len; omega
      obtain ⟨ad', e, _, hc⟩ := hy.2 hm
      injection e with e
      subst e
      exact hc j u hj
    · intro u hu
      simp only [iv, List.mem_map] at hu
      obtain ⟨z, _, rfl⟩ := hu
      rfl
    · intro v' w' ho' hg' _ hat
      obtain ⟨A', c', rfl⟩ := own_form ho'
      rw [← iv_append] at ho'
      refine h A' c' w' ho' (below_of_grown hg' hb ?_)
      intro k hk
      exact (hown.lt k hk).1
theorem fresh_row {w : World} {base g n c : Nat} {xs : List Value} (h : w.ownsRow base 3 1 (.slice (some ⟨g, 0, none⟩) n c) n xs) : base ≤ g := (h.lt g rfl).1
theorem set_copy (n k : Nat) (xs : List Int) (hl : xs.length = n) (hk : k < n) : (iv (xs.take k ++ List.replicate (n - k) 0)).set k (.int .i64 (xs.getD k 0)) = iv (xs.take (k + 1) ++ List.replicate (n - (k + 1)) 0) := by
  apply List.ext_getElem?
  intro j
  simp only [iv, List.getElem?_set, List.length_map, List.length_append, List.length_take, List.length_replicate, List.getElem?_map, List.getElem?_append, List.getElem?_take, List.getElem?_replicate]
  by_cases hj : k = j
  · subst hj
    have h1 : k < min k xs.length + (n - k) := by omega
    have h2 : k < min (k + 1) xs.length := by omega
    have h3 : k < xs.length := by omega
    simp [h1, h2, List.getD_eq_getElem?_getD, List.getElem?_eq_getElem h3]
  · by_cases hlt : j < k
    · have h1 : j < min k xs.length := by omega
      have h2 : j < min (k + 1) xs.length := by omega
      have h3 : j < k + 1 := by omega
      simp [hj, h1, h2, hlt, h3]
    · have h1 : ¬ j < min k xs.length := by omega
      have h2 : ¬ j < min (k + 1) xs.length := by omega
      simp only [hj, h1, h2, if_false]
      have e1 : min k xs.length = k := by omega
      have e2 : min (k + 1) xs.length = k + 1 := by omega
      rw [e1, e2]
      by_cases h4 : j < n
      · rw [if_pos (by omega), if_pos (by omega)]
      · rw [if_neg (by omega), if_neg (by omega)]
set_option maxHeartbeats 1000000 in
theorem toIntS_any (A : Option Addr) (n c : Nat) (xs : List Int) (w : World) (h : Ints w w.heap.size A n xs) (hn : n ≤ 1000000000) :
    Calls Try.prog 60 #[.slice A n c] w (Gives w xs) := by
  have hl := h.len
  have H := Lib.hid h
  clear h
  go_enter Try.func60, Try.ntmps60
  go_wp2_with (at_make; refine make_full _ rfl _ _ rfl n rfl rfl hn w.heap.size (Nat.le_refl _) ?_; intro w1 ho1 hb1; replace ho1 := Lib.hid ho1)
  go_loopw [4] (fun i wr => ∃ k : Nat, k ≤ n ∧ i = .int .i64 k ∧ wr.ownsRow w.heap.size 3 1 (.slice (some ⟨w.heap.size, 0, none⟩) n n) n (iv (xs.take k ++ List.replicate (n - k) 0)) ∧ Below w.heap.size w wr) (fun i _ => n - (intOf i).toNat)
  case atStart => exact ⟨0, Nat.zero_le _, rfl, by simpa using ho1.out, hb1⟩
  case round =>
    obtain ⟨k, hk, rfl, hown, hb⟩ := hrel
    by_cases hlt : k < n
    · obtain ⟨b, off, e1, _, h2⟩ := (H.out.below hb).spot hlt
      have e1 := Lib.hid e1
      have hst := hown.stored k (.int .i64 (xs.getD k 0))
      rw [set_copy n k xs hl hlt] at hst
      obtain ⟨z, hz⟩ : ∃ z, z = xs.getD k 0 := ⟨_, rfl⟩
      rw [← hz] at h2 hst
      clear hz
      have hcell := hown.cellAt k (by omega)
      obtain ⟨u, hu⟩ : ∃ u, (iv (xs.take k ++ List.replicate (n - k) 0))[k]? = some u := by
        have : k < (iv (xs.take k ++ List.replicate (n - k) 0)).length := by rw [hown.1]; omega
        exact ⟨_, List.getElem?_eq_getElem this⟩
      rw [hu] at hcell
      have hfz := hown.frozenAt k
      have HST := Lib.hid hst
      have HB := Lib.hid hb
      have q1 : (k : Int) < (n : Int) := by omega
      clear hst hown hu hb ho1 hb1 H
      have e2 := e1.out
      subst e2
      go_wp2
      go_roundw
      case rel => exact ⟨k + 1, by omega, by go_num, HST.out.1, HB.out.grown HST.out.2 HB.out.size (by intro k hk; injection hk with hk; omega)⟩
      case measure => simp [intOf]; omega
    · obtain rfl : k = n := by omega
      go_wp2
      go_ret
      subst hl
      refine ⟨_, _, rfl, ?_, hb⟩
      rwa [Nat.sub_self, List.replicate_zero, List.append_nil, List.take_of_length_le (by omega)] at hown
end Go.Proofs.Ytkcabllnlbcgdaa
