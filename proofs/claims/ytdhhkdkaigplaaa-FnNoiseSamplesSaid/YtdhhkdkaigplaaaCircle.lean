/-
  The states of the noise generator lie on one circle of 32767: plain mathematics, no program. No condition.
-/
namespace Go.Proofs.Ytdhhkdkaigplaaa
namespace Circle
def nx (n : Nat) : Nat := n / 2 + (n + n / 2) % 2 * 16384
def it (s : Nat) : Nat → Nat
  | 0 => s
  | k + 1 => nx (it s k)
theorem it_add (s i j : Nat) : it s (i + j) = it (it s i) j := by
  induction j with
  | zero => rfl
  | succ j ih => show nx (it s (i + j)) = nx (it (it s i) j); rw [ih]
theorem nx_bd {n : Nat} (h : 1 ≤ n ∧ n ≤ 32767) : 1 ≤ nx n ∧ nx n ≤ 32767 := by
  unfold nx
  by_cases h1 : n = 1
  · subst h1; decide
  · have h2 : 1 ≤ n / 2 ∧ n / 2 ≤ 16383 := by omega
    have h3 : (n + n / 2) % 2 < 2 := Nat.mod_lt _ (by omega)
    generalize (n + n / 2) % 2 = b at *
    omega
theorem nx_inj {m n : Nat} (hm : m ≤ 32767) (hn : n ≤ 32767) (h : nx m = nx n) : m = n := by
  unfold nx at h
  have h1 : (m + m / 2) % 2 < 2 := Nat.mod_lt _ (by omega)
  have h2 : (n + n / 2) % 2 < 2 := Nat.mod_lt _ (by omega)
  have e1 : m / 2 = n / 2 := by
    generalize (m + m / 2) % 2 = b at *
    generalize (n + n / 2) % 2 = c at *
    omega
  rw [e1] at h
  omega
theorem it_bd {s : Nat} (h : 1 ≤ s ∧ s ≤ 32767) (k : Nat) : 1 ≤ it s k ∧ it s k ≤ 32767 := by
  induction k with
  | zero => exact h
  | succ k ih => exact nx_bd ih
theorem it_inj {m n : Nat} (hm : 1 ≤ m ∧ m ≤ 32767) (hn : 1 ≤ n ∧ n ≤ 32767) (k : Nat) (h : it m k = it n k) : m = n := by
  induction k with
  | zero => exact h
  | succ k ih => exact ih (nx_inj (it_bd hm k).2 (it_bd hn k).2 h)
def chk : Nat → List (Nat × Nat) → Bool
  | _, [] => true
  | s, (n, e) :: r => it s n == e && chk e r
def len : List (Nat × Nat) → Nat
  | [] => 0
  | (n, _) :: r => n + len r
def last : Nat → List (Nat × Nat) → Nat
  | s, [] => s
  | _, (_, e) :: r => last e r
theorem chk_it : ∀ (l : List (Nat × Nat)) (s : Nat), chk s l = true → it s (len l) = last s l
  | [], s, _ => rfl
  | (n, e) :: r, s, h => by
    simp only [chk, Bool.and_eq_true, beq_iff_eq] at h
    show it s (n + len r) = last e r
    rw [it_add, h.1, chk_it r e h.2]
def path : List (Nat × Nat) := [(217, 32341), (217, 13105), (217, 17935), (217, 3467), (217, 14144), (217, 8279), (217, 20160), (217, 24773), (217, 6932), (217, 4650), (217, 9932), (217, 4511), (217, 23197), (217, 22696), (217, 25851), (217, 20505), (217, 25269), (217, 786), (217, 5381), (217, 1134), (217, 781), (217, 28752), (217, 14197), (217, 25597), (217, 10478), (217, 17265), (217, 26245), (217, 17632), (217, 20262), (217, 22471), (217, 26179), (217, 9185), (217, 20027), (217, 20369), (217, 10604), (217, 396), (217, 19970), (217, 571), (217, 12460), (217, 7774), (217, 17627), (217, 115), (217, 6997), (217, 13184), (217, 16292), (217, 5555), (217, 1168), (217, 22515), (217, 23484), (217, 30462), (217, 11136), (217, 16267), (217, 18662), (217, 18481), (217, 18074), (217, 24096), (217, 20721), (217, 9908), (217, 32159), (217, 23093), (217, 17238), (217, 12335), (217, 23818), (217, 30219), (217, 2091), (217, 10063), (217, 11575), (217, 16683), (217, 22652), (217, 5882), (217, 11968), (217, 24698), (217, 28224), (217, 8366), (217, 25451), (217, 2031), (217, 17059), (217, 27768), (217, 27816), (217, 6998), (217, 20266), (217, 22983), (217, 6573), (217, 8071), (217, 14707), (217, 6931), (217, 27519), (217, 27146), (217, 2467), (217, 27826), (217, 1449), (217, 26021), (217, 27418), (217, 24992), (217, 28482), (217, 23981), (217, 8031), (217, 17778), (217, 6692), (217, 21974), (217, 28688), (217, 26762), (217, 18852), (217, 27341), (217, 4343), (217, 24222), (217, 23536), (217, 9985), (217, 32311), (217, 16846), (217, 27688), (217, 9384), (217, 7065), (217, 23937), (217, 16032), (217, 28592), (217, 1875), (217, 19293), (217, 14495), (217, 9489), (217, 5681), (217, 14740), (217, 11704), (217, 3199), (217, 5442), (217, 8900), (217, 26002), (217, 10831), (217, 21212), (217, 1767), (217, 13984), (217, 4181), (217, 19552), (217, 3901), (217, 18503), (217, 9829), (217, 29748), (217, 15736), (217, 5044), (217, 32206), (217, 27744), (217, 28840), (217, 25739), (217, 14310), (217, 14166), (217, 12456), (217, 7073), (217, 28286), (217, 5201), (217, 13933), (217, 1)]
theorem path_ok : chk 1 path = true := by decide +kernel
theorem path_len : len path = 32767 := by decide +kernel
theorem path_last : last 1 path = 1 := by decide +kernel
def p7 : List (Nat × Nat) := [(217, 32341), (217, 13105), (217, 17935), (217, 3467), (217, 14144), (217, 8279), (217, 20160), (217, 24773), (217, 6932), (217, 4650), (217, 9932), (217, 4511), (217, 23197), (217, 22696), (217, 25851), (217, 20505), (217, 25269), (217, 786), (217, 5381), (217, 1134), (217, 781), (124, 19560)]
theorem p7_ok : chk 1 p7 = true := by decide +kernel
theorem p7_len : len p7 = 4681 := by decide +kernel
theorem p7_last : last 1 p7 ≠ 1 := by decide +kernel
def p31 : List (Nat × Nat) := [(217, 32341), (217, 13105), (217, 17935), (217, 3467), (189, 3648)]
theorem p31_ok : chk 1 p31 = true := by decide +kernel
theorem p31_len : len p31 = 1057 := by decide +kernel
theorem p31_last : last 1 p31 ≠ 1 := by decide +kernel
def p151 : List (Nat × Nat) := [(217, 32341)]
theorem p151_ok : chk 1 p151 = true := by decide +kernel
theorem p151_len : len p151 = 217 := by decide +kernel
theorem p151_last : last 1 p151 ≠ 1 := by decide +kernel
/-- k steps lead from 1 back to 1. -/
def Per (k : Nat) : Prop := it 1 k = 1
theorem per_full : Per 32767 := by have := chk_it path 1 path_ok; rw [path_len, path_last] at this; exact this
theorem not7 : ¬ Per 4681 := by have := chk_it p7 1 p7_ok; rw [p7_len] at this; unfold Per; rw [this]; exact p7_last
theorem not31 : ¬ Per 1057 := by have := chk_it p31 1 p31_ok; rw [p31_len] at this; unfold Per; rw [this]; exact p31_last
theorem not151 : ¬ Per 217 := by have := chk_it p151 1 p151_ok; rw [p151_len] at this; unfold Per; rw [this]; exact p151_last
theorem per_mul {d : Nat} (h : Per d) (m : Nat) : Per (m * d) := by
  induction m with
  | zero => rw [Nat.zero_mul]; rfl
  | succ m ih => unfold Per at *; rw [Nat.succ_mul, it_add, ih, h]
theorem per_mod {m n : Nat} (hm : Per m) (hn : Per n) : Per (n % m) := by
  have e := Nat.div_add_mod n m
  have h1 := per_mul hm (n / m)
  unfold Per at *
  rw [Nat.mul_comm] at h1
  rw [← e, it_add, h1] at hn
  exact hn
theorem per_gcd (m n : Nat) : Per m → Per n → Per (Nat.gcd m n) := by
  refine Nat.gcd.induction (P := fun m n => Per m → Per n → Per (Nat.gcd m n)) m n ?_ ?_
  · intro n _ hn; rw [Nat.gcd_zero_left]; exact hn
  · intro m n _ ih hm hn; rw [Nat.gcd_rec]; exact ih (per_mod hm hn) hm
theorem per_dvd {g N : Nat} (hg : Per g) (h : g ∣ N) : Per N := by
  obtain ⟨k, rfl⟩ := h; rw [Nat.mul_comm]; exact per_mul hg k
theorem small_dvd : ∀ g, g < 182 → g ∣ 32767 → g ∣ 4681 ∨ g ∣ 1057 ∨ g ∣ 217 := by decide +kernel
theorem small_codvd : ∀ h, h < 182 → h ∣ 32767 → h ≠ 1 → 7 ∣ h ∨ 31 ∣ h ∨ 151 ∣ h := by decide +kernel
theorem dvd_cases {g : Nat} (h : g ∣ 32767) (hlt : g < 32767) : g ∣ 4681 ∨ g ∣ 1057 ∨ g ∣ 217 := by
  by_cases hs : g < 182
  · exact small_dvd g hs h
  · obtain ⟨k, hk⟩ := h
    have hk2 : k < 182 := by
      rcases Nat.lt_or_ge k 182 with h1 | h1
      · exact h1
      · have := Nat.mul_le_mul (show 182 ≤ g by omega) h1; omega
    have hk1 : k ≠ 1 := by rintro rfl; omega
    have hd : k ∣ 32767 := ⟨g, by rw [Nat.mul_comm]; exact hk⟩
    rcases small_codvd k hk2 hd hk1 with ⟨m, rfl⟩ | ⟨m, rfl⟩ | ⟨m, rfl⟩
    · refine .inl ⟨m, ?_⟩
      have : 7 * (g * m) = 7 * 4681 := by rw [Nat.mul_left_comm, ← hk]
      exact (Nat.eq_of_mul_eq_mul_left (by omega) this).symm
    · refine .inr (.inl ⟨m, ?_⟩)
      have : 31 * (g * m) = 31 * 1057 := by rw [Nat.mul_left_comm, ← hk]
      exact (Nat.eq_of_mul_eq_mul_left (by omega) this).symm
    · refine .inr (.inr ⟨m, ?_⟩)
      have : 151 * (g * m) = 151 * 217 := by rw [Nat.mul_left_comm, ← hk]
      exact (Nat.eq_of_mul_eq_mul_left (by omega) this).symm
theorem no_per {d : Nat} (h0 : 0 < d) (h1 : d < 32767) : ¬ Per d := by
  intro hd
  have hg := per_gcd d 32767 hd per_full
  have hle : Nat.gcd d 32767 ≤ d := Nat.gcd_le_left _ h0
  rcases dvd_cases (Nat.gcd_dvd_right d 32767) (by omega) with h | h | h
  · exact not7 (per_dvd hg h)
  · exact not31 (per_dvd hg h)
  · exact not151 (per_dvd hg h)
theorem it_ne {i j : Nat} (h : i < j) (hj : j < 32767) : it 1 i ≠ it 1 j := by
  intro e
  have : it 1 j = it (it 1 (j - i)) i := by rw [← it_add]; congr 1; omega
  rw [this] at e
  exact no_per (d := j - i) (by omega) (by omega) (it_inj (by omega) (it_bd (by omega) _) i e).symm
theorem sub_len : ∀ (l l' : List Nat), l.Nodup → l ⊆ l' → l.length ≤ l'.length
  | [], _, _, _ => Nat.zero_le _
  | x :: xs, l', hn, hs => by
    have hx : x ∈ l' := hs (List.mem_cons_self ..)
    rw [List.nodup_cons] at hn
    have h2 : xs ⊆ l'.erase x := by
      intro y hy
      have hne : y ≠ x := by rintro rfl; exact hn.1 hy
      exact (List.mem_erase_of_ne hne).2 (hs (List.mem_cons_of_mem _ hy))
    have := sub_len xs (l'.erase x) hn.2 h2
    rw [List.length_erase_of_mem hx] at this
    have h0 : 0 < l'.length := List.length_pos_of_mem hx
    simp only [List.length_cons]
    omega
theorem surj (N : Nat) (f : Nat → Nat) (hr : ∀ k, k < N → 1 ≤ f k ∧ f k ≤ N) (hi : ∀ i j, i < j → j < N → f i ≠ f j) (s : Nat) (h1 : 1 ≤ s) (h2 : s ≤ N) : ∃ k, k < N ∧ f k = s := by
  by_cases h : s ∈ (List.range N).map f
  · obtain ⟨k, hk, rfl⟩ := List.mem_map.1 h
    exact ⟨k, List.mem_range.1 hk, rfl⟩
  · exfalso
    have hn : ((List.range N).map f).Nodup := by
      rw [List.Nodup, List.pairwise_map]
      refine List.Pairwise.imp_of_mem ?_ (List.pairwise_lt_range (n := N))
      intro a b ha hb hab
      exact hi a b hab (List.mem_range.1 hb)
    have hs : (s :: (List.range N).map f) ⊆ (List.range N).map (· + 1) := by
      intro y hy
      rw [List.mem_cons] at hy
      have hb : 1 ≤ y ∧ y ≤ N := by
        rcases hy with rfl | hy
        · exact ⟨h1, h2⟩
        · obtain ⟨k, hk, rfl⟩ := List.mem_map.1 hy
          exact hr k (List.mem_range.1 hk)
      exact List.mem_map.2 ⟨y - 1, List.mem_range.2 (by omega), by omega⟩
    have := sub_len _ _ (List.nodup_cons.2 ⟨h, hn⟩) hs
    simp at this
    omega
theorem onto (s : Nat) (h1 : 1 ≤ s) (h2 : s ≤ 32767) : ∃ k, k < 32767 ∧ it 1 k = s :=
  surj 32767 (it 1) (fun k _ => it_bd (by omega) k) (fun i j h hj => it_ne h hj) s h1 h2
/-- A place of each state on the circle: different states have different places; a step leads to the next place. -/
theorem places : ∃ pos : Nat → Nat, (∀ s, 1 ≤ s → s ≤ 32767 → pos s < 32767) ∧ (∀ s t, 1 ≤ s → s ≤ 32767 → 1 ≤ t → t ≤ 32767 → pos s = pos t → s = t) ∧
    (∀ s, 1 ≤ s → s ≤ 32767 → pos (nx s) = (pos s + 1) % 32767) := by
  have hex : ∀ s : Nat, ∃ k, (1 ≤ s → s ≤ 32767 → k < 32767 ∧ it 1 k = s) := by
    intro s
    by_cases h : 1 ≤ s ∧ s ≤ 32767
    · obtain ⟨k, hk⟩ := onto s h.1 h.2; exact ⟨k, fun _ _ => hk⟩
    · exact ⟨0, fun a b => absurd ⟨a, b⟩ h⟩
  refine ⟨fun s => Classical.choose (hex s), ?_, ?_, ?_⟩
  · intro s h1 h2; exact (Classical.choose_spec (hex s) h1 h2).1
  · intro s t h1 h2 h3 h4 e
    have a := (Classical.choose_spec (hex s) h1 h2).2
    have b := (Classical.choose_spec (hex t) h3 h4).2
    simp only at e
    rw [← a, ← b, e]
  · intro s h1 h2
    have hb := nx_bd ⟨h1, h2⟩
    obtain ⟨a1, a2⟩ := Classical.choose_spec (hex s) h1 h2
    obtain ⟨b1, b2⟩ := Classical.choose_spec (hex (nx s)) hb.1 hb.2
    simp only
    generalize Classical.choose (hex s) = i at *
    generalize Classical.choose (hex (nx s)) = j at *
    have e : it 1 (i + 1) = it 1 j := by show nx (it 1 i) = _; rw [a2, b2]
    by_cases hi : i + 1 = 32767
    · have hj : it 1 j = 1 := by rw [← e, hi]; exact per_full
      rw [hi, Nat.mod_self]
      rcases Nat.eq_zero_or_pos j with h0 | h0
      · exact h0
      · exact absurd hj (no_per h0 b1)
    · rw [Nat.mod_eq_of_lt (by omega)]
      rcases Nat.lt_trichotomy (i + 1) j with h | h | h
      · exact absurd e (it_ne h b1)
      · exact h.symm
      · exact absurd e.symm (it_ne h (by omega))
end Circle
end Go.Proofs.Ytdhhkdkaigplaaa
