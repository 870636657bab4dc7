/-
  bestSave, BestSave, WriteSave: contracts in both packages. No condition but that the lists' lengths stay in range.
-/
import Derived.Test.YtgmcbpnnololmaaSaveB
import Derived.Test.YtgmcbpnnololmaaSaveR
namespace Go.Proofs.Ytgmcbpnnololmaa
open Go.RowKit
set_option linter.unusedVariables false
set_option linter.unusedSimpArgs false
/-- The best save is the first slot's. -/
def bestF (a b : List Int) : Bool := readOk a && (!readOk b || decide (readN b ≤ readN a))
def bestN (a b : List Int) : Int := if bestF a b then readN a else readN b
def bestD (a b : List Int) : List Int := if bestF a b then readD a else readD b
def bestOk (a b : List Int) : Bool := bestF a b || readOk b
theorem bestD_len (a b : List Int) : (bestD a b).length ≤ 32 := by unfold bestD; split <;> exact readD_len _
theorem readN_bd (zs : List Int) : 0 ≤ readN zs ∧ readN zs ≤ 65535 := by
  unfold readN
  split
  · rename_i h
    simp only [readOk, Bool.and_eq_true, decide_eq_true_eq] at h
    have h0 := inB_iff.1 (allB_get h.1.1.1.1 (k := 0) (by omega))
    have h1 := inB_iff.1 (allB_get h.1.1.1.1 (k := 1) (by omega))
    omega
  · omega
theorem bestN_bd (a b : List Int) : 0 ≤ bestN a b ∧ bestN a b ≤ 65535 := by unfold bestN; split <;> exact readN_bd _
/-- The same by the reference's test. -/
theorem best_spec (a b : List Int) : (readOk b && (!readOk a || decide (readN b > readN a))) = true → bestN a b = readN b ∧ bestD a b = readD b ∧ bestOk a b = true := by
  intro h
  have hf : bestF a b = false := by
    simp only [Bool.and_eq_true, Bool.or_eq_true, Bool.not_eq_true', decide_eq_true_eq] at h
    cases ha : readOk a
    · simp [bestF, ha]
    · have h2 := h.2
      rw [ha] at h2
      simp only [Bool.true_eq_false, false_or] at h2
      simp only [bestF, ha, h.1, Bool.not_true, Bool.false_or, Bool.true_and, decide_eq_false_iff_not]
      omega
  simp only [Bool.and_eq_true] at h
  simp [bestN, bestD, bestOk, hf, h.1]
theorem best_spec2 (a b : List Int) : (readOk b && (!readOk a || decide (readN b > readN a))) = false → bestN a b = readN a ∧ bestD a b = readD a ∧ bestOk a b = readOk a := by
  intro h
  cases ha : readOk a
  · cases hb : readOk b
    · simp [bestN, bestD, bestOk, bestF, ha, hb, readN_no ha, readN_no hb, readD_no ha, readD_no hb]
    · simp [ha, hb] at h
  · have hf : bestF a b = true := by
      cases hb : readOk b
      · simp [bestF, ha, hb]
      · simp [ha, hb] at h
        simp [bestF, ha, hb, h]
    simp [bestN, bestD, bestOk, hf]
def GivesQ (w : World) (m : Int) (xs : List Int) (f ok : Bool) (e : Ending) (w' : World) : Prop := ∃ A c, e = .returned (.tuple #[.int .i64 m, .slice A xs.length c, .bool f, .bool ok]) ∧ w'.ownsRow w.heap.size 3 1 (.slice A xs.length c) xs.length (iv xs) ∧ Below w.heap.size w w'
set_option maxHeartbeats 2000000 in
theorem bestSave_low (A B : Option Addr) (n c m d : Nat) (a b : List Int) (w : World) (ha : Ints w w.heap.size A n a) (hb : Ints w w.heap.size B m b) (hn : n ≤ 1000000000) (hm : m ≤ 1000000000) (hc : n ≤ c) (hd : m ≤ d) :
    Calls Try.prog 38 #[.slice A n c, .slice B m d] w (GivesQ w (bestN a b) (bestD a b) (bestF a b) (bestOk a b)) := by
  have hE := Lib.hid (Env.start w)
  have hA := Lib.hid (fun W (h : Ints W W.heap.size A n a) => readSave_impl A n c a W h hn hc)
  have hB := Lib.hid (fun W (h : Ints W W.heap.size B m b) => readSave_impl B m d b W h hm hd)
  have HA := Lib.hid ha
  have HB := Lib.hid hb
  clear ha hb
  unfold bestN bestD bestOk bestF
  generalize readOk a = x at hA ⊢
  generalize readOk b = y at hB ⊢
  generalize readN a = u at hA ⊢
  generalize readN b = v at hB ⊢
  generalize readD a = da at hA ⊢
  generalize readD b = db at hB ⊢
  cases x
  · rw [show (false && (!y || decide (v ≤ u))) = false from rfl]
    simp only [Bool.false_or, Bool.false_eq_true, if_false]
    go_enter Try.func38, Try.ntmps38
    go_wp2_with fail
    refine (hA.out _ (hE.out.arg HA.out)).mono ?_
    rintro e w' ⟨A', c', rfl, o, b⟩
    replace hE := Lib.hid (hE.out.push o b)
    clear o b
    go_wp2_with fail
    refine (hB.out _ (hE.out.arg HB.out)).mono ?_
    rintro e w' ⟨A', c', rfl, o, b⟩
    replace hE := Lib.hid (hE.out.push o b)
    clear o b
    go_wp2_with fail
    refine bodyPost_ret (res4 (by rfl) _ _ _) rfl ?_
    exact ⟨_, _, rfl, hE.out.give 0 rfl, hE.out.bel⟩
  · cases y
    · rw [show (true && (!false || decide (v ≤ u))) = true from rfl]
      simp only [Bool.true_or, if_true]
      go_enter Try.func38, Try.ntmps38
      go_wp2_with fail
      refine (hA.out _ (hE.out.arg HA.out)).mono ?_
      rintro e w' ⟨A', c', rfl, o, b⟩
      replace hE := Lib.hid (hE.out.push o b)
      clear o b
      go_wp2_with fail
      refine (hB.out _ (hE.out.arg HB.out)).mono ?_
      rintro e w' ⟨A', c', rfl, o, b⟩
      replace hE := Lib.hid (hE.out.push o b)
      clear o b
      go_wp2_with fail
      refine bodyPost_ret (res4 (by rfl) _ _ _) rfl ?_
      exact ⟨_, _, rfl, hE.out.give 1 rfl, hE.out.bel⟩
    · by_cases hle : v ≤ u
      · rw [show (true && (!true || decide (v ≤ u))) = true by simp [hle]]
        simp only [Bool.true_or, if_true]
        go_enter Try.func38, Try.ntmps38
        go_wp2_with fail
        refine (hA.out _ (hE.out.arg HA.out)).mono ?_
        rintro e w' ⟨A', c', rfl, o, b⟩
        replace hE := Lib.hid (hE.out.push o b)
        clear o b
        go_wp2_with fail
        refine (hB.out _ (hE.out.arg HB.out)).mono ?_
        rintro e w' ⟨A', c', rfl, o, b⟩
        replace hE := Lib.hid (hE.out.push o b)
        clear o b
        go_wp2_with fail
        refine bodyPost_ret (res4 (by rfl) _ _ _) rfl ?_
        exact ⟨_, _, rfl, hE.out.give 1 rfl, hE.out.bel⟩
      · rw [show (true && (!true || decide (v ≤ u))) = false by simp [hle]]
        simp only [Bool.false_or, Bool.false_eq_true, if_false]
        go_enter Try.func38, Try.ntmps38
        go_wp2_with fail
        refine (hA.out _ (hE.out.arg HA.out)).mono ?_
        rintro e w' ⟨A', c', rfl, o, b⟩
        replace hE := Lib.hid (hE.out.push o b)
        clear o b
        go_wp2_with fail
        refine (hB.out _ (hE.out.arg HB.out)).mono ?_
        rintro e w' ⟨A', c', rfl, o, b⟩
        replace hE := Lib.hid (hE.out.push o b)
        clear o b
        go_wp2_with fail
        refine bodyPost_ret (res4 (by rfl) _ _ _) rfl ?_
        exact ⟨_, _, rfl, hE.out.give 0 rfl, hE.out.bel⟩
set_option maxHeartbeats 2000000 in
theorem bestSave_impl (A B : Option Addr) (n c m d : Nat) (a b : List Int) (w : World) (ha : Ints w w.heap.size A n a) (hb : Ints w w.heap.size B m b) (hn : n ≤ 1000000000) (hm : m ≤ 1000000000) (hc : n ≤ c) (hd : m ≤ d) :
    Calls Try.prog 21 #[.slice A n c, .slice B m d] w (GivesT w (bestN a b) (bestD a b) (bestOk a b)) := by
  have hlow := Lib.hid (bestSave_low A B n c m d a b w ha hb hn hm hc hd)
  have hE := Lib.hid (Env.start w)
  clear ha hb
  go_enter Try.func21, Try.ntmps21
  go_wp2_with fail
  refine (hlow.out).mono ?_
  rintro e w' ⟨A', c', rfl, o, b⟩
  replace hE := Lib.hid (hE.out.push o b)
  clear o b
  go_wp2_with fail
  refine bodyPost_ret (res3 (by rfl) _ _ _) rfl ?_
  exact ⟨_, _, rfl, hE.out.give 0 rfl, hE.out.bel⟩
set_option maxHeartbeats 2000000 in
theorem bestSave_spec (A B : Option Addr) (n c m d : Nat) (a b : List Int) (w : World) (ha : Ints w w.heap.size A n a) (hb : Ints w w.heap.size B m b) (hn : n ≤ 1000000000) (hm : m ≤ 1000000000) (hc : n ≤ c) (hd : m ≤ d) :
    Calls Try.prog 20 #[.slice A n c, .slice B m d] w (GivesT w (bestN a b) (bestD a b) (bestOk a b)) := by
  have hE := Lib.hid (Env.start w)
  have hA := Lib.hid (fun W (h : Ints W W.heap.size A n a) => readSave_spec A n c a W h hn hc)
  have hB := Lib.hid (fun W (h : Ints W W.heap.size B m b) => readSave_spec B m d b W h hm hd)
  have HA := Lib.hid ha
  have HB := Lib.hid hb
  clear ha hb
  cases hp : (readOk b && (!readOk a || decide (readN b > readN a)))
  · obtain ⟨e1, e2, e3⟩ := best_spec2 a b hp
    rw [e1, e2, e3]
    clear e1 e2 e3
    generalize readOk a = x at hA hp ⊢
    generalize readOk b = y at hB hp
    generalize readN a = u at hA hp ⊢
    generalize readN b = v at hB hp
    generalize readD a = da at hA ⊢
    generalize readD b = db at hB
    cases y
    · clear hp
      go_enter Try.func20, Try.ntmps20
      go_wp2_with fail
      refine (hA.out _ (hE.out.arg HA.out)).mono ?_
      rintro e w' ⟨A', c', rfl, o, b⟩
      replace hE := Lib.hid (hE.out.push o b)
      clear o b
      go_wp2_with fail
      refine (hB.out _ (hE.out.arg HB.out)).mono ?_
      rintro e w' ⟨A', c', rfl, o, b⟩
      replace hE := Lib.hid (hE.out.push o b)
      clear o b
      go_wp2_with fail
      refine bodyPost_ret (res3 (by rfl) _ _ _) rfl ?_
      exact ⟨_, _, rfl, hE.out.give 1 rfl, hE.out.bel⟩
    · cases x
      · simp at hp
      · have hle : ¬ v > u := by simpa using hp
        clear hp
        go_enter Try.func20, Try.ntmps20
        go_wp2_with fail
        refine (hA.out _ (hE.out.arg HA.out)).mono ?_
        rintro e w' ⟨A', c', rfl, o, b⟩
        replace hE := Lib.hid (hE.out.push o b)
        clear o b
        go_wp2_with fail
        refine (hB.out _ (hE.out.arg HB.out)).mono ?_
        rintro e w' ⟨A', c', rfl, o, b⟩
        replace hE := Lib.hid (hE.out.push o b)
        clear o b
        go_wp2_with fail
        refine bodyPost_ret (res3 (by rfl) _ _ _) rfl ?_
        exact ⟨_, _, rfl, hE.out.give 1 rfl, hE.out.bel⟩
  · obtain ⟨e1, e2, e3⟩ := best_spec a b hp
    rw [e1, e2, e3]
    clear e1 e2 e3
    generalize readOk a = x at hA hp
    generalize readOk b = y at hB hp
    generalize readN a = u at hA hp
    generalize readN b = v at hB hp ⊢
    generalize readD a = da at hA
    generalize readD b = db at hB ⊢
    cases y
    · simp at hp
    · cases x
      · clear hp
        go_enter Try.func20, Try.ntmps20
        go_wp2_with fail
        refine (hA.out _ (hE.out.arg HA.out)).mono ?_
        rintro e w' ⟨A', c', rfl, o, b⟩
        replace hE := Lib.hid (hE.out.push o b)
        clear o b
        go_wp2_with fail
        refine (hB.out _ (hE.out.arg HB.out)).mono ?_
        rintro e w' ⟨A', c', rfl, o, b⟩
        replace hE := Lib.hid (hE.out.push o b)
        clear o b
        go_wp2_with fail
        refine bodyPost_ret (res3 (by rfl) _ _ _) rfl ?_
        exact ⟨_, _, rfl, hE.out.give 0 rfl, hE.out.bel⟩
      · have hle : v > u := by simpa using hp
        clear hp
        go_enter Try.func20, Try.ntmps20
        go_wp2_with fail
        refine (hA.out _ (hE.out.arg HA.out)).mono ?_
        rintro e w' ⟨A', c', rfl, o, b⟩
        replace hE := Lib.hid (hE.out.push o b)
        clear o b
        go_wp2_with fail
        refine (hB.out _ (hE.out.arg HB.out)).mono ?_
        rintro e w' ⟨A', c', rfl, o, b⟩
        replace hE := Lib.hid (hE.out.push o b)
        clear o b
        go_wp2_with fail
        refine bodyPost_ret (res3 (by rfl) _ _ _) rfl ?_
        exact ⟨_, _, rfl, hE.out.give 0 rfl, hE.out.bel⟩
end Go.Proofs.Ytgmcbpnnololmaa
