/-
  MixVoices in both packages; sums of samples in plain words. No condition but that lengths stay in range.
-/
import Derived.Test.YtdhhkdkaigplaaaPlayI
import Derived.Test.YtdhhkdkaigplaaaTupVoice
namespace Go.Proofs.Ytdhhkdkaigplaaa
open Go.RowKit
set_option linter.unusedVariables false
set_option linter.unusedSimpArgs false
def voOf (t : TVoice) : Vo := ⟨t.1, t.2.1, t.2.2.1, t.2.2.2.1, t.2.2.2.2⟩
def mixS (N : Nat) (ts : List TVoice) : List Int := (List.range N).map fun k => (ts.map fun t => (sampV N (voOf t)).getD k 0).sum
theorem mixS_len (N : Nat) (ts : List TVoice) : (mixS N ts).length = N := by simp [mixS]
theorem mixS_get {N k : Nat} (ts : List TVoice) (h : k < N) : (mixS N ts).getD k 0 = (ts.map fun t => (sampV N (voOf t)).getD k 0).sum := by
  simp [mixS, List.getD_eq_getElem?_getD, h]
def addTo (j : Nat) (acc s : List Int) : List Int := (List.range acc.length).map fun i => if i < j then acc.getD i 0 + s.getD i 0 else acc.getD i 0
theorem addTo_len (j : Nat) (acc s : List Int) : (addTo j acc s).length = acc.length := by simp [addTo]
theorem addTo_zero (acc s : List Int) : addTo 0 acc s = acc := by
  apply List.ext_getElem (by simp [addTo])
  intro i h1 h2
  simp [addTo, List.getD_eq_getElem?_getD, h2]
theorem addTo_get {j : Nat} (acc s : List Int) (h : j < acc.length) : (addTo j acc s).getD j 0 = acc.getD j 0 := by
  simp [addTo, List.getD_eq_getElem?_getD, h]
theorem addTo_set {j : Nat} (acc s : List Int) (h : j < acc.length) : (addTo j acc s).set j (acc.getD j 0 + s.getD j 0) = addTo (j + 1) acc s := by
  apply List.ext_getElem (by simp [addTo])
  intro i h1 h2
  rw [List.getElem_set]
  simp only [addTo, List.getElem_map, List.getElem_range]
  by_cases e : j = i
  · subst e
    rw [if_pos rfl, if_pos (by omega)]
  · rw [if_neg e]
    by_cases hi : i < j
    · rw [if_pos hi, if_pos (by omega)]
    · rw [if_neg hi, if_neg (by omega)]
theorem addTo_mix (N : Nat) (us : List TVoice) (t : TVoice) : addTo N (mixS N us) (sampV N (voOf t)) = mixS N (us ++ [t]) := by
  apply List.ext_getElem (by simp [addTo, mixS])
  intro i h1 h2
  rw [mixS_len] at h2
  have e := mixS_get us h2
  simp only [addTo, mixS, List.getElem_map, List.getElem_range]
  rw [if_pos h2]
  simp only [mixS] at e
  rw [e]
  simp
theorem samp_bd : ∀ (n : Nat) {v : Vo}, vvB v = true → ∀ x ∈ sampV n v, 0 ≤ x ∧ x ≤ 15
  | 0, _, _, x, hx => by simp [sampV] at hx
  | n + 1, v, h, x, hx => by
    rcases List.mem_cons.1 hx with rfl | hx
    · have := lev_bd h; omega
    · exact samp_bd n (next_valid h) x hx
theorem sampD_bd (n k : Nat) {v : Vo} (h : vvB v = true) : 0 ≤ (sampV n v).getD k 0 ∧ (sampV n v).getD k 0 ≤ 15 := by
  rw [List.getD_eq_getElem?_getD]
  rcases Nat.lt_or_ge k (sampV n v).length with hk | hk
  · rw [List.getElem?_eq_getElem hk]
    exact samp_bd n h _ (List.getElem_mem hk)
  · rw [List.getElem?_eq_none hk]
    exact ⟨Int.le_refl 0, by decide⟩
theorem sum_bd (N k : Nat) : ∀ us : List TVoice, (∀ t ∈ us, vvB (voOf t) = true) → 0 ≤ (us.map fun t => (sampV N (voOf t)).getD k 0).sum ∧ (us.map fun t => (sampV N (voOf t)).getD k 0).sum ≤ 15 * (us.length : Int)
  | [], _ => by simp
  | t :: us, h => by
    obtain ⟨a1, a2⟩ := sum_bd N k us fun x hx => h x (List.mem_cons_of_mem _ hx)
    obtain ⟨b1, b2⟩ := sampD_bd N k (h t (List.mem_cons_self ..))
    simp only [List.map_cons, List.sum_cons, List.length_cons]
    omega
theorem mix_bd {N k : Nat} {us : List TVoice} (h : ∀ t ∈ us, vvB (voOf t) = true) (hk : k < N) : 0 ≤ (mixS N us).getD k 0 ∧ (mixS N us).getD k 0 ≤ 15 * (us.length : Int) := by
  rw [mixS_get us hk]; exact sum_bd N k us h
def mixB (ts : List TVoice) (n : Int) : Bool := decide (ts.length ≤ 4) && inB n 0 400 && ts.all fun t => vvB (voOf t)
def mixR (ts : List TVoice) (n : Int) : List Int := if mixB ts n then mixS n.toNat ts else []
theorem mixR_bad {ts : List TVoice} {n : Int} (h : mixB ts n = false) : mixR ts n = [] := by simp [mixR, h]
theorem mixR_good {ts : List TVoice} {N : Nat} (h : mixB ts N = true) : mixR ts N = mixS N ts := by simp [mixR, h]
theorem mixR_at {ts : List TVoice} {n : Int} {k : Nat} {t : TVoice} (hk : k < ts.length) (ht : t = ts.getD k (0, 0, 0, 0, 0)) (hv : vvB (voOf t) = false) : mixR ts n = [] := by
  refine mixR_bad ?_
  have : (ts.all fun t => vvB (voOf t)) = false := by
    rw [List.all_eq_false]
    refine ⟨t, ?_, by simp [hv]⟩
    rw [ht, List.getD_eq_getElem?_getD, List.getElem?_eq_getElem hk]
    exact List.getElem_mem hk
  simp [mixB, this]
theorem mixR_len (ts : List TVoice) (n : Int) : (mixR ts n).length ≤ 400 := by
  cases h : mixB ts n
  · rw [mixR_bad h]; simp
  · have h' := h
    simp only [mixB, Bool.and_eq_true, inB_iff] at h'
    obtain ⟨N, rfl⟩ := Int.eq_ofNat_of_zero_le h'.1.2.1
    rw [mixR_good h, mixS_len]
    omega
theorem take_snoc {k : Nat} (ts : List TVoice) (h : k < ts.length) : ts.take k ++ [ts.getD k (0, 0, 0, 0, 0)] = ts.take (k + 1) := by
  rw [List.take_add_one, List.getD_eq_getElem?_getD, List.getElem?_eq_getElem h]
  rfl
def GivesN (w : World) (N : Nat) (v : Vo) (e : Ending) (w' : World) : Prop := ∃ A c, e = .returned (.tuple #[.slice A N c, (iterV N v).val]) ∧ w'.ownsRow w.heap.size 3 1 (.slice A N c) N (iv (sampV N v)) ∧ Below w.heap.size w w'
theorem givesN_of {w w' : World} {N : Nat} {v : Vo} {e : Ending} (hv : vvB v = true) (hN : N ≤ 400) (h : GivesP w (playL v N) (playV v N) e w') : GivesN w N v e w' := by
  obtain ⟨e1, e2⟩ := play_good (show playB v N = true by simp [playB, hv, inB_iff]; omega)
  obtain ⟨A, c, rfl, o, b⟩ := h
  rw [e1, sampV_len] at o
  exact ⟨A, c, by rw [e1, e2, sampV_len], o, b⟩
end Go.Proofs.Ytdhhkdkaigplaaa
