/-
  bestSave, BestSave, WriteSave: contracts in both packages. No condition but that the lists' lengths stay in range.
-/
import Derived.Test.YtgmcbpnnololmaaSaveB
import Derived.Test.YtgmcbpnnololmaaSaveR
namespace Go.Proofs.Ytgmcbpnnololmaa
open Go.RowKit
set_option linter.unusedVariables false
set_option linter.unusedSimpArgs false
/-- The best save is the first slot's. -/
def bestF (a b : List Int) : Bool := readOk a && (!readOk b || decide (readN b ≤ readN a))
def bestN (a b : List Int) : Int := if bestF a b then readN a else readN b
def bestD (a b : List Int) : List Int := if bestF a b then readD a else readD b
def bestOk (a b : List Int) : Bool := bestF a b || readOk b
theorem bestD_len (a b : List Int) : (bestD a b).length ≤ 32 := by unfold bestD; split <;> exact readD_len _
theorem readN_bd (zs : List Int) : 0 ≤ readN zs ∧ readN zs ≤ 65535 := by
  unfold readN
  split
  · rename_i h
    simp only [readOk, Bool.and_eq_true, decide_eq_true_eq] at h
    have h0 := inB_iff.1 (allB_get h.1.1.1.1 (k := 0) (by omega))
    have h1 := inB_iff.1 (allB_get h.1.1.1.1 (k := 1) (by omega))
    omega
  · omega
theorem bestN_bd (a b : List Int) : 0 ≤ bestN a b ∧ bestN a b ≤ 65535 := by unfold bestN; split <;> exact readN_bd _
/-- The same by the reference's test. -/
theorem best_spec (a b : List Int) : (readOk b && (!readOk a || decide (readN b > readN a))) = true → bestN a b = readN b ∧ bestD a b = readD b ∧ bestOk a b = true := by
  intro h
  have hf : bestF a b = false := by
    simp only [Bool.and_eq_true, Bool.or_eq_true, Bool.not_eq_true', decide_eq_true_eq] at h
    cases ha : readOk a
    · simp [bestF, ha]
    · have h2 := h.2
      rw [ha] at h2
      simp only [Bool.true_eq_false, false_or] at h2
      simp only [bestF, ha, h.1, Bool.not_true, Bool.false_or, Bool.true_and, decide_eq_false_iff_not]
      omega
  simp only [Bool.and_eq_true] at h
  simp [bestN, bestD, bestOk, hf, h.1]
theorem best_spec2 (a b : List Int) : (readOk b && (!readOk a || decide (readN b > readN a))) = false → bestN a b = readN a ∧ bestD a b = readD a ∧ bestOk a b = readOk a := by
  intro h
  cases ha : readOk a
  · cases hb : readOk b
    · simp [bestN, bestD, bestOk, bestF, ha, hb, readN_no ha, readN_no hb, readD_no ha, readD_no hb]
    · simp [ha, hb] at h
  · have hf : bestF a b = true := by
      cases hb : readOk b
      · simp [bestF, ha, hb]
      · simp [ha, hb] at h
        simp [bestF, ha, hb, h]
    simp [bestN, bestD, bestOk, hf]
def GivesQ (w : World) (m : Int) (xs : List Int) (f ok : Bool) (e : Ending) (w' : World) : Prop := ∃ A c, e = .returned (.tuple #[.int .i64 m, .slice A xs.length c, .bool f, .bool ok]) ∧ w'.ownsRow w.heap.size 3 1 (.slice A xs.length c) xs.length (iv xs) ∧ Below w.heap.size w w'
set_option maxHeartbeats 2000000 in
theorem bestSave_low (A B : Option Addr) (n c m d : Nat) (a b : List Int) (w : World) (ha : Ints w w.heap.size A n a) (hb : Ints w w.heap.size B m b) (hn : n ≤ 1000000000) (hm : m ≤ 1000000000) (hc : n ≤ c) (hd : m ≤ d) :
    Calls Try.prog 38 #[.slice A n c, .slice B m d] w (GivesQ w (bestN a b) (bestD a b) (bestF a b) (bestOk a b)) := by
  have hE := Lib.hid (Env.start w)
  have hA := Lib.hid (fun W (h : Ints W W.heap.size A n a) => readSave_impl A n c a W h hn hc)
  have hB := Lib.hid (fun W (h : Ints W W.heap.size B m b) => readSave_impl B m d b W h hm hd)
  have HA := Lib.hid ha
  have HB := Lib.hid hb
  clear ha hb
  unfold bestN bestD bestOk bestF
  generalize readOk a = x at hA ⊢
  generalize readOk b = y at hB ⊢
  generalize readN a = u at hA ⊢
  generalize readN b = v at hB ⊢
  generalize readD a = da at hA ⊢
  generalize readD b = db at hB ⊢
  cases x
  · rw [show (false && (!y || decide (v ≤ u))) = false from rfl]
    simp only [Bool.false_or, Bool.false_eq_true, if_false]
    go_enter Try.func38, Try.ntmps38
    go_wp2_with fail
    refine (hA.out _ (hE.out.arg HA.out)).mono ?_
    rintro e w' ⟨A', c', rfl, o, b⟩
    replace hE := Lib.hid (hE.out.push o b)
    clear o b
    go_wp2_with fail
    refine (hB.out _ (hE.out.arg HB.out)).mono ?_
    rintro e w' ⟨A', c', rfl, o, b⟩
    replace hE := Lib.hid (hE.out.push o b)
    clear o b
    go_wp2_with fail
    refine bodyPost_ret (res4 (by rfl) _ _ _) rfl ?_
    exact ⟨_, _, rfl, hE.out.give 0 rfl, hE.out.bel⟩
  · cases y
    · rw [show (true && (!false || decide (v ≤ u))) = true from rfl]
      simp only [Bool.true_or, if_true]
      go_enter Try.func38, Try.ntmps38
      go_wp2_with fail
      refine (hA.out _ (hE.out.arg HA.out)).mono ?_
      rintro e w' ⟨A', c', rfl, o, b⟩
      replace hE := Lib.hid (hE.out.push o b)
      clear o b
      go_wp2_with fail
      refine (hB.out _ (hE.out.arg HB.out)).mono ?_
      rintro e w' ⟨A', c', rfl, o, b⟩
      replace hE := Lib.hid (hE.out.push o b)
      clear o b
      go_wp2_with fail
      refine bodyPost_ret (res4 (by rfl) _ _ _) rfl ?_
      exact ⟨_, _, rfl, hE.out.give 1 rfl, hE.out.bel⟩
    · by_cases hle : v ≤ u
      · rw [show (true && (!true || decide (v ≤ u))) = true by simp [hle]]
        simp only [Bool.true_or, if_true]
        go_enter Try.func38, Try.ntmps38
        go_wp2_with fail
        refine (hA.out _ (hE.out.arg HA.out)).mono ?_
        rintro e w' ⟨A', c', rfl, o, b⟩
        replace hE := Lib.hid (hE.out.push o b)
        clear o b
        go_wp2_with fail
        refine (hB.out _ (hE.out.arg HB.out)).mono ?_
        rintro e w' ⟨A', c', rfl, o, b⟩
        replace hE := Lib.hid (hE.out.push o b)
        clear o b
        go_wp2_with fail
        refine bodyPost_ret (res4 (by rfl) _ _ _) rfl ?_
        exact ⟨_, _, rfl, hE.out.give 1 rfl, hE.out.bel⟩
      · rw [show (true && (!true || decide (v ≤ u))) = false by simp [hle]]
        simp only [Bool.false_or, Bool.false_eq_true, if_false]
        go_enter Try.func38, Try.ntmps38
        go_wp2_with fail
        refine (hA.out _ (hE.out.arg HA.out)).mono ?_
        rintro e w' ⟨A', c', rfl, o, b⟩
        replace hE := Lib.hid (hE.out.push o b)
        clear o b
        go_wp2_with fail
        refine (hB.out _ (hE.out.arg HB.out)).mono ?_
        rintro e w' ⟨A', c', rfl, o, b⟩
        replace hE := Lib.hid (hE.out.push o b)
        clear o b
        go_wp2_with fail
        refine bodyPost_ret (res4 (by rfl) _ _ _) rfl ?_
        exact ⟨_, _, rfl, hE.out.give 0 rfl, hE.out.bel⟩
set_option maxHeartbeats 2000000 in
theorem bestSave_impl (A B : Option Addr) (n c m d : Nat) (a b : List Int) (w : World) (ha : Ints w w.heap.size A n a) (hb : Ints w w.heap.size B m b) (hn : n ≤ 1000000000) (hm : m ≤ 1000000000) (hc : n ≤ c) (hd : m ≤ d) :
    Calls Try.prog 21 #[.slice A n c, .slice B m d] w (GivesT w (bestN a b) (bestD a b) (bestOk a b)) := by
  have hlow := Lib.hid (bestSave_low A B n c m d a b w ha hb hn hm hc hd)
  have hE := Lib.hid (Env.start w)
  clear ha hb
  go_enter Try.func21, Try.ntmps21
  go_wp2_with fail
  refine (hlow.out).mono ?_
  rintro e w' ⟨A', c', rfl, o, b⟩
  replace hE := Lib.hid (hE.out.push o b)
  clear o b
  go_wp2_with fail
  refine bodyPost_ret (res3 (by rfl) _ _ _) rfl ?_
  exact ⟨_, _, rfl, hE.out.give 0 rfl, hE.out.bel⟩
set_option maxHeartbeats 2000000 in
theorem bestSave_spec (A B : Option Addr) (n c m d : Nat) (a b : List Int) (w : World) (ha : Ints w w.heap.size A n a) (hb : Ints w w.heap.size B m b) (hn : n ≤ 1000000000) (hm : m ≤ 1000000000) (hc : n ≤ c) (hd : m ≤ d) :
    Calls Try.prog 20 #[.slice A n c, .slice B m d] w (GivesT w (bestN a b) (bestD a b) (bestOk a b)) := by
  have hE := Lib.hid (Env.start w)
  have hA := Lib.hid (fun W (h : Ints W W.heap.size A n a) => readSave_spec A n c a W h hn hc)
  have hB := Lib.hid (fun W (h : Ints W W.heap.size B m b) => readSave_spec B m d b W h hm hd)
  have HA := Lib.hid ha
  have HB := Lib.hid hb
  clear ha hb
  cases hp : (readOk b && (!readOk a || decide (readN b > readN a)))
  · obtain ⟨e1, e2, e3⟩ := best_spec2 a b hp
    rw [e1, e2, e3]
    clear e1 e2 e3
    generalize readOk a = x at hA hp ⊢
    generalize readOk b = y at hB hp
    generalize readN a = u at hA hp ⊢
    generalize readN b = v at hB hp
    generalize readD a = da at hA ⊢
    generalize readD b = db at hB
    cases y
    · clear hp
      go_enter Try.func20, Try.ntmps20
      go_wp2_with fail
      refine (hA.out _ (hE.out.arg HA.out)).mono ?_
      rintro e w' ⟨A', c', rfl, o, b⟩
      replace hE := Lib.hid (hE.out.push o b)
      clear o b
      go_wp2_with fail
      refine (hB.out _ (hE.out.arg HB.out)).mono ?_
      rintro e w' ⟨A', c', rfl, o, b⟩
      replace hE := Lib.hid (hE.out.push o b)
      clear o b
      go_wp2_with fail
      refine bodyPost_ret (res3 (by rfl) _ _ _) rfl ?_
      exact ⟨_, _, rfl, hE.out.give 1 rfl, hE.out.bel⟩
    · cases x
      · simp at hp
      · have hle : ¬ v > u := by simpa using hp
        clear hp
        go_enter Try.func20, Try.ntmps20
        go_wp2_with fail
        refine (hA.out _ (hE.out.arg HA.out)).mono ?_
        rintro e w' ⟨A', c', rfl, o, b⟩
        replace hE := Lib.hid (hE.out.push o b)
        clear o b
        go_wp2_with fail
        refine (hB.out _ (hE.out.arg HB.out)).mono ?_
        rintro e w' ⟨A', c', rfl, o, b⟩
        replace hE := Lib.hid (hE.out.push o b)
        clear o b
        go_wp2_with fail
        refine bodyPost_ret (res3 (by rfl) _ _ _) rfl ?_
        exact ⟨_, _, rfl, hE.out.give 1 rfl, hE.out.bel⟩
  · obtain ⟨e1, e2, e3⟩ := best_spec a b hp
    rw [e1, e2, e3]
    clear e1 e2 e3
    generalize readOk a = x at hA hp
    generalize readOk b = y at hB hp
    generalize readN a = u at hA hp
    generalize readN b = v at hB hp ⊢
    generalize readD a = da at hA
    generalize readD b = db at hB ⊢
    cases y
    · simp at hp
    · cases x
      · clear hp
        go_enter Try.func20, Try.ntmps20
        go_wp2_with fail
        refine (hA.out _ (hE.out.arg HA.out)).mono ?_
        rintro e w' ⟨A', c', rfl, o, b⟩
        replace hE := Lib.hid (hE.out.push o b)
        clear o b
        go_wp2_with fail
        refine (hB.out _ (hE.out.arg HB.out)).mono ?_
        rintro e w' ⟨A', c', rfl, o, b⟩
        replace hE := Lib.hid (hE.out.push o b)
        clear o b
        go_wp2_with fail
        refine bodyPost_ret (res3 (by rfl) _ _ _) rfl ?_
        exact ⟨_, _, rfl, hE.out.give 0 rfl, hE.out.bel⟩
      · have hle : v > u := by simpa using hp
        clear hp
        go_enter Try.func20, Try.ntmps20
        go_wp2_with fail
        refine (hA.out _ (hE.out.arg HA.out)).mono ?_
        rintro e w' ⟨A', c', rfl, o, b⟩
        replace hE := Lib.hid (hE.out.push o b)
        clear o b
        go_wp2_with fail
        refine (hB.out _ (hE.out.arg HB.out)).mono ?_
        rintro e w' ⟨A', c', rfl, o, b⟩
        replace hE := Lib.hid (hE.out.push o b)
        clear o b
        go_wp2_with fail
        refine bodyPost_ret (res3 (by rfl) _ _ _) rfl ?_
        exact ⟨_, _, rfl, hE.out.give 0 rfl, hE.out.bel⟩
/-- The bytes of the next save. -/
def nextB (a b z : List Int) : List Int := saveR (if bestOk a b then bestN a b + 1 else 0) z
def writeA (a b z : List Int) : List Int := if (nextB a b z).length = 0 then [] else if bestF a b then a else nextB a b z
def writeB (a b z : List Int) : List Int := if (nextB a b z).length = 0 then [] else if bestF a b then nextB a b z else b
/-- What a call gives that makes two lists of numbers. -/
def GivesD (w : World) (xs ys : List Int) (e : Ending) (w' : World) : Prop := ∃ A c A' c' l1 h1 l2 h2, e = .returned (.tuple #[.slice A xs.length c, .slice A' ys.length c']) ∧
  (w'.ownsRow l1 3 1 (.slice A xs.length c) xs.length (iv xs) ∧ ∀ k, (Value.slice A xs.length c).ownBlock = some k → k < h1) ∧
  (w'.ownsRow l2 3 1 (.slice A' ys.length c') ys.length (iv ys) ∧ ∀ k, (Value.slice A' ys.length c').ownBlock = some k → k < h2) ∧
  (w.heap.size ≤ l1 ∧ w.heap.size ≤ l2 ∧ h1 ≤ w'.heap.size ∧ h2 ≤ w'.heap.size ∧ (h1 ≤ l2 ∨ h2 ≤ l1)) ∧ Below w.heap.size w w'
theorem Env.two {w w' : World} {L : List Lot} (h : Env w w' L) (i j : Nat) {A A' : Option Addr} {c c' l1 h1 l2 h2 : Nat} {xs ys : List Int} (hi : L[i]? = some ⟨3, 1, A, xs.length, c, iv xs, l1, h1⟩) (hj : L[j]? = some ⟨3, 1, A', ys.length, c', iv ys, l2, h2⟩) (hij : i ≠ j) {e : Ending}
    (he : e = .returned (.tuple #[.slice A xs.length c, .slice A' ys.length c'])) : GivesD w xs ys e w' := by
  have r1 := h.row _ (List.mem_of_getElem? hi)
  have r2 := h.row _ (List.mem_of_getElem? hj)
  refine ⟨A, c, A', c', l1, h1, l2, h2, he, r1.1, r2.1, ⟨r1.2.1, r2.2.1, r1.2.2, r2.2.2, ?_⟩, h.bel⟩
  rcases Nat.lt_or_gt_of_ne hij with hlt | hlt
  · have := pairwise_sep h.ord hi hj hlt
    simp at this
    omega
  · have := pairwise_sep h.ord hj hi hlt
    simp at this
    omega
theorem givesD_nil {w w' : World} (b : Below w.heap.size w w') {e : Ending} (he : e = .returned (.tuple #[.slice none 0 0, .slice none 0 0])) : GivesD w [] [] e w' :=
  ⟨none, 0, none, 0, w.heap.size, w.heap.size, w.heap.size, w.heap.size, he, ⟨World.ownsRow_nil _ _ _ _, fun k h => by cases h⟩, ⟨World.ownsRow_nil _ _ _ _, fun k h => by cases h⟩, ⟨Nat.le_refl _, Nat.le_refl _, b.size, b.size, .inl (Nat.le_refl _)⟩, b⟩
theorem best_first {a b : List Int} (h : bestF a b = true) : readOk a = true ∧ readN a = bestN a b ∧ bestOk a b = true := by
  simp only [bestN, bestOk, h, if_true, Bool.true_or, and_true]
  simp only [bestF, Bool.and_eq_true] at h
  exact h.1
theorem best_other {a b : List Int} (h : bestF a b = false) : readOk a = false ∨ (readOk a = true ∧ readN a ≠ bestN a b) := by
  cases ha : readOk a
  · exact .inl rfl
  · refine .inr ⟨rfl, ?_⟩
    simp only [bestN, h, Bool.false_eq_true, if_false]
    simp only [bestF, ha, Bool.true_and, Bool.or_eq_false_iff, decide_eq_false_iff_not] at h
    omega
set_option maxHeartbeats 4000000 in
theorem writeSave_impl (A B Z : Option Addr) (n c m d l k : Nat) (a b z : List Int) (w : World) (ha : Ints w w.heap.size A n a) (hb : Ints w w.heap.size B m b) (hz : Ints w w.heap.size Z l z)
    (hn : n ≤ 1000000000) (hm : m ≤ 1000000000) (hl : l ≤ 1000000000) (hc : n ≤ c) (hd : m ≤ d) (nA : A = none → c = 0) (nB : B = none → d = 0) (nZ : Z = none → k = 0) :
    Calls Try.prog 27 #[.slice A n c, .slice B m d, .slice Z l k] w (GivesD w (writeA a b z) (writeB a b z)) := by
  have hlow := Lib.hid (bestSave_low A B n c m d a b w ha hb hn hm hc hd)
  have hS := Lib.hid (fun W u (h : Ints W W.heap.size Z l z) => saveBytes_implN u Z l k z W h hl nZ)
  have hE := Lib.hid (Env.start w)
  have HA := Lib.hid ha
  have HB := Lib.hid hb
  have HZ := Lib.hid hz
  have hbd := bestN_bd a b
  have hok : bestF a b = true → bestOk a b = true := fun h => (best_first h).2.2
  have heq := fun w A n c => Lib.run_eql_slice_nil (P := Try.prog) w 22 3 A n c 0 0 Try.underlying22
  clear ha hb hz
  unfold writeA writeB nextB
  generalize bestF a b = f at hlow hok ⊢
  generalize bestOk a b = ok at hlow hok ⊢
  generalize bestN a b = N at hlow hbd ⊢
  generalize bestD a b = D at hlow
  have hw1 : IntKind.i64.wrap (N + 1) = N + 1 := IntWalk.i64_in _ (by omega)
  cases ok
  · simp only [Bool.false_eq_true, if_false]
    have hff : f = false := by
      cases f
      · rfl
      · exact absurd (hok rfl) (by simp)
    subst hff
    have hS1 := Lib.hid (fun W h => hS.out W (0) h)
    generalize saveR (0) z = xs at hS1 ⊢
    by_cases h0 : xs.length = 0
    · rw [if_pos h0, if_pos h0]
      obtain rfl := List.length_eq_zero_iff.1 h0
      go_enter Try.func27, Try.ntmps27
      go_wp2_with fail
      refine (hlow.out).mono ?_
      rintro e w' ⟨A', c', rfl, o, b⟩
      replace hE := Lib.hid (hE.out.push o b)
      clear o b
      go_wp2_with fail
      refine (hS1.out _ (hE.out.arg HZ.out)).mono ?_
      rintro e w' ⟨A', c', rfl, o, b, nl⟩
      replace hE := Lib.hid (hE.out.push o b)
      clear o b
      have e0 := nl rfl
      subst e0
      go_wp2_with fail
      refine bodyPost_ret (results_tmp2 (by rfl) _ _ _) rfl ?_
      exact givesD_nil hE.out.bel rfl
    · rw [if_neg h0, if_neg h0]
      simp only [Bool.false_eq_true, if_false]
      go_enter Try.func27, Try.ntmps27
      go_wp2_with fail
      refine (hlow.out).mono ?_
      rintro e w' ⟨A', c', rfl, o, b⟩
      replace hE := Lib.hid (hE.out.push o b)
      clear o b
      go_wp2_with fail
      refine (hS1.out _ (hE.out.arg HZ.out)).mono ?_
      rintro e w' ⟨A', c', rfl, o, b, nl⟩
      replace hE := Lib.hid (hE.out.push o b)
      clear o b
      rcases own_block' (hE.out.own 0 rfl) with ⟨_, h, _⟩ | ⟨g, rfl, _, _⟩
      · exact absurd h h0
      go_wp2_with fail
      refine (clone_any B m d b _ (hE.out.arg HB.out) hm nB).mono ?_
      rintro e w' ⟨A', c', rfl, o, b⟩
      replace hE := Lib.hid (hE.out.push o b)
      clear o b
      go_wp2_with fail
      refine bodyPost_ret (results_tmp2 (by rfl) _ _ _) rfl ?_
      exact hE.out.two 1 0 rfl rfl (by decide) rfl
  · simp only [if_true]
    have hS1 := Lib.hid (fun W h => hS.out W (N + 1) h)
    generalize saveR (N + 1) z = xs at hS1 ⊢
    by_cases h0 : xs.length = 0
    · rw [if_pos h0, if_pos h0]
      obtain rfl := List.length_eq_zero_iff.1 h0
      go_enter Try.func27, Try.ntmps27
      go_wp2_with fail
      refine (hlow.out).mono ?_
      rintro e w' ⟨A', c', rfl, o, b⟩
      replace hE := Lib.hid (hE.out.push o b)
      clear o b
      go_wp2_with fail
      refine (hS1.out _ (hE.out.arg HZ.out)).mono ?_
      rintro e w' ⟨A', c', rfl, o, b, nl⟩
      replace hE := Lib.hid (hE.out.push o b)
      clear o b
      have e0 := nl rfl
      subst e0
      go_wp2_with fail
      refine bodyPost_ret (results_tmp2 (by rfl) _ _ _) rfl ?_
      exact givesD_nil hE.out.bel rfl
    · rw [if_neg h0, if_neg h0]
      cases f
      · simp only [Bool.false_eq_true, if_false]
        go_enter Try.func27, Try.ntmps27
        go_wp2_with fail
        refine (hlow.out).mono ?_
        rintro e w' ⟨A', c', rfl, o, b⟩
        replace hE := Lib.hid (hE.out.push o b)
        clear o b
        go_wp2_with fail
        refine (hS1.out _ (hE.out.arg HZ.out)).mono ?_
        rintro e w' ⟨A', c', rfl, o, b, nl⟩
        replace hE := Lib.hid (hE.out.push o b)
        clear o b
        rcases own_block' (hE.out.own 0 rfl) with ⟨_, h, _⟩ | ⟨g, rfl, _, _⟩
        · exact absurd h h0
        go_wp2_with fail
        refine (clone_any B m d b _ (hE.out.arg HB.out) hm nB).mono ?_
        rintro e w' ⟨A', c', rfl, o, b⟩
        replace hE := Lib.hid (hE.out.push o b)
        clear o b
        go_wp2_with fail
        refine bodyPost_ret (results_tmp2 (by rfl) _ _ _) rfl ?_
        exact hE.out.two 1 0 rfl rfl (by decide) rfl
      · simp only [if_true]
        have := hok rfl
        go_enter Try.func27, Try.ntmps27
        go_wp2_with fail
        refine (hlow.out).mono ?_
        rintro e w' ⟨A', c', rfl, o, b⟩
        replace hE := Lib.hid (hE.out.push o b)
        clear o b
        go_wp2_with fail
        refine (hS1.out _ (hE.out.arg HZ.out)).mono ?_
        rintro e w' ⟨A', c', rfl, o, b, nl⟩
        replace hE := Lib.hid (hE.out.push o b)
        clear o b
        rcases own_block' (hE.out.own 0 rfl) with ⟨_, h, _⟩ | ⟨g, rfl, _, _⟩
        · exact absurd h h0
        go_wp2_with fail
        refine (clone_any A n c a _ (hE.out.arg HA.out) hn nA).mono ?_
        rintro e w' ⟨A', c', rfl, o, b⟩
        replace hE := Lib.hid (hE.out.push o b)
        clear o b
        go_wp2_with fail
        refine bodyPost_ret (results_tmp2 (by rfl) _ _ _) rfl ?_
        exact hE.out.two 0 1 rfl rfl (by decide) rfl
theorem givesD_lit {w w1 : World} (b : Below w.heap.size w w1) {e : Ending}
    (he : e = .returned (.tuple #[.slice (some ⟨w1.heap.size, 0, none⟩) 0 0, .slice (some ⟨w1.heap.size + 1, 0, none⟩) 0 0])) : GivesD w [] [] e ((w1.alloc (.cells #[] 3)).alloc (.cells #[] 3)) := by
  have o1 : (w1.alloc (.cells #[] 3)).ownsRow w1.heap.size 3 1 (.slice (some ⟨w1.heap.size, 0, none⟩) 0 0) 0 (iv []) := World.ownsRow_lit w1 #[] 0 (Nat.le_refl _) (by simp [maxLen]) rfl
  have o2 : ((w1.alloc (.cells #[] 3)).alloc (.cells #[] 3)).ownsRow (w1.alloc (.cells #[] 3)).heap.size 3 1 (.slice (some ⟨(w1.alloc (.cells #[] 3)).heap.size, 0, none⟩) 0 0) 0 (iv []) := World.ownsRow_lit _ #[] 0 (Nat.le_refl _) (by simp [maxLen]) rfl
  have b1 : Below w1.heap.size w1 (w1.alloc (.cells #[] 3)) := (Below.refl _ _).alloc (Nat.le_refl _) _
  have b2 : Below (w1.alloc (.cells #[] 3)).heap.size (w1.alloc (.cells #[] 3)) ((w1.alloc (.cells #[] 3)).alloc (.cells #[] 3)) := (Below.refl _ _).alloc (Nat.le_refl _) _
  exact (((Env.mk b (fun r hr => by cases hr) List.Pairwise.nil : Env w w1 []).push o1 b1).push o2 b2).two (xs := []) (ys := []) 1 0 rfl rfl (by decide) (by rw [show (w1.alloc (.cells #[] 3)).heap.size = w1.heap.size + 1 by simp]; exact he)
set_option maxHeartbeats 4000000 in
theorem writeSave_spec (A B Z : Option Addr) (n c m d l k : Nat) (a b z : List Int) (w : World) (ha : Ints w w.heap.size A n a) (hb : Ints w w.heap.size B m b) (hz : Ints w w.heap.size Z l z)
    (hn : n ≤ 1000000000) (hm : m ≤ 1000000000) (hl : l ≤ 1000000000) (hc : n ≤ c) (hd : m ≤ d) (nA : A = none → c = 0) (nB : B = none → d = 0) (nZ : Z = none → k = 0) :
    Calls Try.prog 26 #[.slice A n c, .slice B m d, .slice Z l k] w (GivesD w (writeA a b z) (writeB a b z)) := by
  have HOE : Hid (∀ W : World, (W.alloc (.cells #[] 3)).ownsRow W.heap.size 3 1 (.slice (some ⟨W.heap.size, 0, none⟩) 0 0) 0 (iv [])) := Lib.hid fun W => World.ownsRow_lit W #[] 0 (Nat.le_refl _) (by simp [maxLen]) rfl
  have hBS := Lib.hid (bestSave_spec A B n c m d a b w ha hb hn hm hc hd)
  have hRA := Lib.hid (fun W (h : Ints W W.heap.size A n a) => readSave_spec A n c a W h hn hc)
  have hS := Lib.hid (fun W u (h : Ints W W.heap.size Z l z) => saveBytes_spec u Z l k z W h hl nZ)
  have hE := Lib.hid (Env.start w)
  have HA := Lib.hid ha
  have HB := Lib.hid hb
  have HZ := Lib.hid hz
  have hbd := bestN_bd a b
  have hub := readN_bd a
  have hok : bestF a b = true → readOk a = true ∧ readN a = bestN a b ∧ bestOk a b = true := best_first
  have hno : bestF a b = false → readOk a = false ∨ (readOk a = true ∧ readN a ≠ bestN a b) := best_other
  have hz0 : bestOk a b = false → bestN a b = 0 := by
    intro h
    simp only [bestOk, Bool.or_eq_false_iff] at h
    simp only [bestN, h.1, Bool.false_eq_true, if_false]
    exact readN_no h.2
  clear ha hb hz
  unfold writeA writeB nextB
  generalize bestF a b = f at hok hno ⊢
  generalize bestOk a b = ok at hBS hok hz0 ⊢
  generalize bestN a b = N at hBS hbd hok hno hz0 ⊢
  generalize bestD a b = D at hBS
  generalize readOk a = x at hRA hok hno
  generalize readN a = u at hRA hok hno hub
  generalize readD a = da at hRA
  have hw1 : IntKind.i64.wrap (N + 1) = N + 1 := IntWalk.i64_in _ (by omega)
  have hw2 : IntKind.i64.wrap (N + 1 - 1) = N := by rw [show N + 1 - 1 = N by omega]; exact IntWalk.i64_in _ (by omega)
  cases ok
  · simp only [Bool.false_eq_true, if_false]
    have hff : f = false := by
      cases f
      · rfl
      · exact absurd (hok rfl).2.2 (by simp)
    subst hff
    obtain rfl := hz0 rfl
    clear hok hno hz0 hw1 hw2
    have hS1 := Lib.hid (fun W h => hS.out W (0) h)
    generalize saveR (0) z = xs at hS1 ⊢
    by_cases h0 : xs.length = 0
    · rw [if_pos h0, if_pos h0]
      obtain rfl := List.length_eq_zero_iff.1 h0
      go_enter Try.func26, Try.ntmps26
      go_wp2_with fail
      refine (hBS.out).mono ?_
      rintro e w' ⟨A', c', rfl, o, b⟩
      replace hE := Lib.hid (hE.out.push o b)
      clear o b
      go_wp2_with fail
      refine (hRA.out _ (hE.out.arg HA.out)).mono ?_
      rintro e w' ⟨A', c', rfl, o, b⟩
      replace hE := Lib.hid (hE.out.push o b)
      clear o b
      go_wp2_with fail
      refine (hS1.out _ (hE.out.arg HZ.out)).mono ?_
      rintro e w' ⟨A', c', rfl, o, b⟩
      replace hE := Lib.hid (hE.out.push o b)
      clear o b
      go_wp2_with fail
      refine bodyPost_ret (results_tmp2 (by rfl) _ _ _) rfl ?_
      exact givesD_lit hE.out.bel rfl
    · rw [if_neg h0, if_neg h0]
      have h00 : (((xs.length : Nat) : Int) == 0) = false := beq_eq_false_iff_ne.2 (by omega)
      simp only [Bool.false_eq_true, if_false]
      go_enter Try.func26, Try.ntmps26
      go_wp2_with fail
      refine (hBS.out).mono ?_
      rintro e w' ⟨A', c', rfl, o, b⟩
      replace hE := Lib.hid (hE.out.push o b)
      clear o b
      go_wp2_with fail
      refine (hRA.out _ (hE.out.arg HA.out)).mono ?_
      rintro e w' ⟨A', c', rfl, o, b⟩
      replace hE := Lib.hid (hE.out.push o b)
      clear o b
      go_wp2_with fail
      refine (hS1.out _ (hE.out.arg HZ.out)).mono ?_
      rintro e w' ⟨A', c', rfl, o, b⟩
      replace hE := Lib.hid (hE.out.push o b)
      clear o b
      go_wp2_with (at_builtin; refine push_list _ rfl _ _ rfl w'.heap.size 0 0 m d w'.heap.size _ _ [] b rfl rfl (HOE.out _) ((hE.out.arg HB.out).below ((Below.refl w'.heap.size w').alloc (Nat.le_refl w'.heap.size) _)) nB (by omega) (by simp) ?_; intro A2 c2 w2 o2 b2; rw [List.nil_append] at o2; have e2 := own_len o2; replace hE := Lib.hid (hE.out.push o2 (((Below.refl w'.heap.size w').alloc (Nat.le_refl w'.heap.size) _).trans b2)))
      rw [e2] at hE
      refine bodyPost_ret (results_tmp2 (by rfl) _ _ _) rfl ?_
      exact hE.out.two 1 0 rfl rfl (by decide) (by rw [← e2]; rfl)
  · simp only [if_true]
    clear hz0
    cases f
    · rcases hno rfl with hx | ⟨hx, hne⟩
      · subst hx
        clear hok hno
        have hS1 := Lib.hid (fun W h => hS.out W (N + 1) h)
        generalize saveR (N + 1) z = xs at hS1 ⊢
        by_cases h0 : xs.length = 0
        · rw [if_pos h0, if_pos h0]
          obtain rfl := List.length_eq_zero_iff.1 h0
          go_enter Try.func26, Try.ntmps26
          go_wp2_with fail
          refine (hBS.out).mono ?_
          rintro e w' ⟨A', c', rfl, o, b⟩
          replace hE := Lib.hid (hE.out.push o b)
          clear o b
          go_wp2_with fail
          refine (hRA.out _ (hE.out.arg HA.out)).mono ?_
          rintro e w' ⟨A', c', rfl, o, b⟩
          replace hE := Lib.hid (hE.out.push o b)
          clear o b
          go_wp2_with fail
          refine (hS1.out _ (hE.out.arg HZ.out)).mono ?_
          rintro e w' ⟨A', c', rfl, o, b⟩
          replace hE := Lib.hid (hE.out.push o b)
          clear o b
          go_wp2_with fail
          refine bodyPost_ret (results_tmp2 (by rfl) _ _ _) rfl ?_
          exact givesD_lit hE.out.bel rfl
        · rw [if_neg h0, if_neg h0]
          have h00 : (((xs.length : Nat) : Int) == 0) = false := beq_eq_false_iff_ne.2 (by omega)
          simp only [Bool.false_eq_true, if_false]
          go_enter Try.func26, Try.ntmps26
          go_wp2_with fail
          refine (hBS.out).mono ?_
          rintro e w' ⟨A', c', rfl, o, b⟩
          replace hE := Lib.hid (hE.out.push o b)
          clear o b
          go_wp2_with fail
          refine (hRA.out _ (hE.out.arg HA.out)).mono ?_
          rintro e w' ⟨A', c', rfl, o, b⟩
          replace hE := Lib.hid (hE.out.push o b)
          clear o b
          go_wp2_with fail
          refine (hS1.out _ (hE.out.arg HZ.out)).mono ?_
          rintro e w' ⟨A', c', rfl, o, b⟩
          replace hE := Lib.hid (hE.out.push o b)
          clear o b
          go_wp2_with (at_builtin; refine push_list _ rfl _ _ rfl w'.heap.size 0 0 m d w'.heap.size _ _ [] b rfl rfl (HOE.out _) ((hE.out.arg HB.out).below ((Below.refl w'.heap.size w').alloc (Nat.le_refl w'.heap.size) _)) nB (by omega) (by simp) ?_; intro A2 c2 w2 o2 b2; rw [List.nil_append] at o2; have e2 := own_len o2; replace hE := Lib.hid (hE.out.push o2 (((Below.refl w'.heap.size w').alloc (Nat.le_refl w'.heap.size) _).trans b2)))
          rw [e2] at hE
          refine bodyPost_ret (results_tmp2 (by rfl) _ _ _) rfl ?_
          exact hE.out.two 1 0 rfl rfl (by decide) (by rw [← e2]; rfl)
      · subst hx
        clear hok hno
        have hne1 : (u == N) = false := by simpa using hne
        have hS1 := Lib.hid (fun W h => hS.out W (N + 1) h)
        generalize saveR (N + 1) z = xs at hS1 ⊢
        by_cases h0 : xs.length = 0
        · rw [if_pos h0, if_pos h0]
          obtain rfl := List.length_eq_zero_iff.1 h0
          go_enter Try.func26, Try.ntmps26
          go_wp2_with fail
          refine (hBS.out).mono ?_
          rintro e w' ⟨A', c', rfl, o, b⟩
          replace hE := Lib.hid (hE.out.push o b)
          clear o b
          go_wp2_with fail
          refine (hRA.out _ (hE.out.arg HA.out)).mono ?_
          rintro e w' ⟨A', c', rfl, o, b⟩
          replace hE := Lib.hid (hE.out.push o b)
          clear o b
          go_wp2_with fail
          refine (hS1.out _ (hE.out.arg HZ.out)).mono ?_
          rintro e w' ⟨A', c', rfl, o, b⟩
          replace hE := Lib.hid (hE.out.push o b)
          clear o b
          go_wp2_with fail
          refine bodyPost_ret (results_tmp2 (by rfl) _ _ _) rfl ?_
          exact givesD_lit hE.out.bel rfl
        · rw [if_neg h0, if_neg h0]
          have h00 : (((xs.length : Nat) : Int) == 0) = false := beq_eq_false_iff_ne.2 (by omega)
          simp only [Bool.false_eq_true, if_false]
          go_enter Try.func26, Try.ntmps26
          go_wp2_with fail
          refine (hBS.out).mono ?_
          rintro e w' ⟨A', c', rfl, o, b⟩
          replace hE := Lib.hid (hE.out.push o b)
          clear o b
          go_wp2_with fail
          refine (hRA.out _ (hE.out.arg HA.out)).mono ?_
          rintro e w' ⟨A', c', rfl, o, b⟩
          replace hE := Lib.hid (hE.out.push o b)
          clear o b
          go_wp2_with fail
          refine (hS1.out _ (hE.out.arg HZ.out)).mono ?_
          rintro e w' ⟨A', c', rfl, o, b⟩
          replace hE := Lib.hid (hE.out.push o b)
          clear o b
          go_wp2_with (at_builtin; refine push_list _ rfl _ _ rfl w'.heap.size 0 0 m d w'.heap.size _ _ [] b rfl rfl (HOE.out _) ((hE.out.arg HB.out).below ((Below.refl w'.heap.size w').alloc (Nat.le_refl w'.heap.size) _)) nB (by omega) (by simp) ?_; intro A2 c2 w2 o2 b2; rw [List.nil_append] at o2; have e2 := own_len o2; replace hE := Lib.hid (hE.out.push o2 (((Below.refl w'.heap.size w').alloc (Nat.le_refl w'.heap.size) _).trans b2)))
          rw [e2] at hE
          refine bodyPost_ret (results_tmp2 (by rfl) _ _ _) rfl ?_
          exact hE.out.two 1 0 rfl rfl (by decide) (by rw [← e2]; rfl)
    · obtain ⟨rfl, rfl, _⟩ := hok rfl
      clear hok hno
      have hS1 := Lib.hid (fun W h => hS.out W (u + 1) h)
      generalize saveR (u + 1) z = xs at hS1 ⊢
      by_cases h0 : xs.length = 0
      · rw [if_pos h0, if_pos h0]
        obtain rfl := List.length_eq_zero_iff.1 h0
        go_enter Try.func26, Try.ntmps26
        go_wp2_with fail
        refine (hBS.out).mono ?_
        rintro e w' ⟨A', c', rfl, o, b⟩
        replace hE := Lib.hid (hE.out.push o b)
        clear o b
        go_wp2_with fail
        refine (hRA.out _ (hE.out.arg HA.out)).mono ?_
        rintro e w' ⟨A', c', rfl, o, b⟩
        replace hE := Lib.hid (hE.out.push o b)
        clear o b
        go_wp2_with fail
        refine (hS1.out _ (hE.out.arg HZ.out)).mono ?_
        rintro e w' ⟨A', c', rfl, o, b⟩
        replace hE := Lib.hid (hE.out.push o b)
        clear o b
        go_wp2_with fail
        refine bodyPost_ret (results_tmp2 (by rfl) _ _ _) rfl ?_
        exact givesD_lit hE.out.bel rfl
      · rw [if_neg h0, if_neg h0]
        have h00 : (((xs.length : Nat) : Int) == 0) = false := beq_eq_false_iff_ne.2 (by omega)
        simp only [if_true]
        go_enter Try.func26, Try.ntmps26
        go_wp2_with fail
        refine (hBS.out).mono ?_
        rintro e w' ⟨A', c', rfl, o, b⟩
        replace hE := Lib.hid (hE.out.push o b)
        clear o b
        go_wp2_with fail
        refine (hRA.out _ (hE.out.arg HA.out)).mono ?_
        rintro e w' ⟨A', c', rfl, o, b⟩
        replace hE := Lib.hid (hE.out.push o b)
        clear o b
        go_wp2_with fail
        refine (hS1.out _ (hE.out.arg HZ.out)).mono ?_
        rintro e w' ⟨A', c', rfl, o, b⟩
        replace hE := Lib.hid (hE.out.push o b)
        clear o b
        go_wp2_with (at_builtin; refine push_list _ rfl _ _ rfl w'.heap.size 0 0 n c w'.heap.size _ _ [] a rfl rfl (HOE.out _) ((hE.out.arg HA.out).below ((Below.refl w'.heap.size w').alloc (Nat.le_refl w'.heap.size) _)) nA (by omega) (by simp) ?_; intro A2 c2 w2 o2 b2; rw [List.nil_append] at o2; have e2 := own_len o2; replace hE := Lib.hid (hE.out.push o2 (((Below.refl w'.heap.size w').alloc (Nat.le_refl w'.heap.size) _).trans b2)))
        rw [e2] at hE
        refine bodyPost_ret (results_tmp2 (by rfl) _ _ _) rfl ?_
        exact hE.out.two 0 1 rfl rfl (by decide) (by rw [← e2]; rfl)
end Go.Proofs.Ytgmcbpnnololmaa
