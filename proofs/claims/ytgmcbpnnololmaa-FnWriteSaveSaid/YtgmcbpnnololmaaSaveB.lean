/-
  SaveBytes: contracts in both packages. No condition but that the list's length stays in range.
-/
import Derived.Test.YtgmcbpnnololmaaBytes
namespace Go.Proofs.Ytgmcbpnnololmaa
open Go.RowKit
set_option linter.unusedVariables false
set_option linter.unusedSimpArgs false
def saveL (m : Int) (zs : List Int) : List Int := [m / 256, m % 256, (zs.length : Int)] ++ zs
def saveR (m : Int) (zs : List Int) : List Int := if inB m 0 65535 && decide (zs.length ≤ 32) && allB zs then saveL m zs ++ [chk (saveL m zs)] else []
theorem saveL_len (m : Int) (zs : List Int) : (saveL m zs).length = 3 + zs.length := by simp [saveL]; omega
theorem saveR_len (m : Int) (zs : List Int) : (saveR m zs).length ≤ 36 := by
  unfold saveR
  split
  · rename_i h
    simp at h
    simp [saveL_len]; omega
  · simp
theorem saveL_all {m : Int} {zs : List Int} (h : inB m 0 65535 = true) (hl : zs.length ≤ 32) (ha : allB zs = true) : allB (saveL m zs) = true := by
  have := inB_iff.1 h
  unfold allB at ha ⊢
  simp only [saveL, List.cons_append, List.nil_append, List.all_cons, ha, Bool.and_true, Bool.and_eq_true]
  exact ⟨inB_true (by omega), inB_true (by omega), inB_true (by omega)⟩
/-- What a call gives that makes a list of numbers, nil if it is empty. -/
def GivesN (w : World) (xs : List Int) (e : Ending) (w' : World) : Prop := ∃ A c, e = .returned (.slice A xs.length c) ∧ w'.ownsRow w.heap.size 3 1 (.slice A xs.length c) xs.length (iv xs) ∧ Below w.heap.size w w' ∧ (xs.length = 0 → A = none)
set_option maxHeartbeats 1000000 in
theorem saveBytes_implN (m : Int) (A : Option Addr) (n c : Nat) (zs : List Int) (w : World) (h : Ints w w.heap.size A n zs) (hn : n ≤ 1000000000) (hd : A = none → c = 0) :
    Calls Try.prog 14 #[.int .i64 m, .slice A n c] w (GivesN w (saveR m zs)) := by
  have hl := h.len
  have HI := Lib.hid h
  clear h
  by_cases hm : inB m 0 65535 = true
  case neg =>
    have hm : inB m 0 65535 = false := by simpa using hm
    rw [show saveR m zs = [] by simp [saveR, hm]]
    go_enter Try.func14, Try.ntmps14
    go_wp2_with (go_at_call 34; refine (within_any _ _ _ _).mono ?_; rintro e w' ⟨rfl, rfl⟩; rw [hm])
    go_ret
    exact ⟨_, _, rfl, World.ownsRow_nil _ _ _ _, Below.refl _ _, fun _ => rfl⟩
  by_cases hn32 : n ≤ 32
  case neg =>
    rw [show saveR m zs = [] by simp [saveR, hl]; omega]
    have q1 : (n : Int) > 32 := by omega
    go_enter Try.func14, Try.ntmps14
    go_wp2_with (go_at_call 34; refine (within_any _ _ _ _).mono ?_; rintro e w' ⟨rfl, rfl⟩; rw [hm])
    go_ret
    exact ⟨_, _, rfl, World.ownsRow_nil _ _ _ _, Below.refl _ _, fun _ => rfl⟩
  by_cases ha : allB zs = true
  case neg =>
    have ha : allB zs = false := by simpa using ha
    rw [show saveR m zs = [] by simp [saveR, ha]]
    have q1 : ¬ (n : Int) > 32 := by omega
    go_enter Try.func14, Try.ntmps14
    go_wp2_with (first | (go_at_call 34; refine (within_any _ _ _ _).mono ?_; rintro e w' ⟨rfl, rfl⟩; rw [hm]) | (go_at_call 35; refine (allBytes_any A n c zs _ HI.out hn).mono ?_; rintro e w' ⟨rfl, rfl⟩; rw [ha]))
    go_ret
    exact ⟨_, _, rfl, World.ownsRow_nil _ _ _ _, Below.refl _ _, fun _ => rfl⟩
  rw [show saveR m zs = saveL m zs ++ [chk (saveL m zs)] by simp [saveR, hm, ha, hl, hn32]]
  obtain ⟨m0, m1⟩ := inB_iff.1 hm
  have q1 : ¬ (n : Int) > 32 := by omega
  have t1 : m.tdiv 256 = m / 256 := Int.tdiv_eq_ediv_of_nonneg m0
  have t2 : m.tmod 256 = m % 256 := Int.tmod_eq_emod_of_nonneg m0
  have hall := Lib.hid (saveL_all hm (by omega) ha)
  have hsl : saveL m zs = [m / 256, m % 256, (n : Int)] ++ zs := by rw [← hl]; rfl
  have HSL := Lib.hid hsl
  have hown0 : (w.alloc (.cells #[.int .i64 (m / 256), .int .i64 (m % 256), .int .i64 (n : Int)] 3)).ownsRow w.heap.size 3 1 (.slice (some ⟨w.heap.size, 0, none⟩) 3 3) 3 (iv [m / 256, m % 256, (n : Int)]) := World.ownsRow_lit w #[.int .i64 (m / 256), .int .i64 (m % 256), .int .i64 (n : Int)] 3 (Nat.le_refl _) (by simp [maxLen]) rfl
  have HO0 := Lib.hid hown0
  have hlen : (saveL m zs ++ [chk (saveL m zs)]).length = 3 + n + 1 := by simp [saveL_len, hl]
  have HL := Lib.hid hlen
  clear hown0 hsl hlen
  generalize hck : chk (saveL m zs) = ck at HL ⊢
  replace hck := Lib.hid hck
  go_enter Try.func14, Try.ntmps14
  go_wp2_with (first | (go_at_call 34; refine (within_any _ _ _ _).mono ?_; rintro e w' ⟨rfl, rfl⟩; rw [hm]) | (go_at_call 35; refine (allBytes_any A n c zs _ HI.out hn).mono ?_; rintro e w' ⟨rfl, rfl⟩; rw [ha]) | (at_builtin; refine push_list _ rfl _ _ rfl w.heap.size 3 3 n c w.heap.size _ _ [m / 256, m % 256, (n : Int)] zs rfl rfl HO0.out (HI.out.below (by go_grown)) hd (by omega) (by simp) ?_; intro A' c' w2 hown2 hb2; rw [← HSL.out] at hown2; clear HO0; replace hown2 := Lib.hid hown2; replace hb2 := Lib.hid (((Below.refl w.heap.size w).alloc (Nat.le_refl _) _).trans hb2)) | (go_at_call 36; refine (checkByte_any A' (3 + n) c' (saveL m zs) _ (own_ints hown2.out) (by omega) hall.out).mono ?_; rintro e w' ⟨rfl, rfl⟩; rw [hck.out]) | (at_builtin; refine push_own _ rfl _ _ rfl w.heap.size (3 + n) c' w2.heap.size 1 A' (saveL m zs) ck rfl rfl (hown2.out.alloc _) (by simp [go_sem]) (by omega) (by have := hb2.out.size; simp; omega) ?_; intro A3 c3 w3 hown3 hb3))
  go_ret
  refine ⟨A3, c3, by rw [HL.out]; rfl, by rw [HL.out]; exact hown3, (hb2.out.alloc hb2.out.size _).trans hb3, fun h => by rw [HL.out] at h; omega⟩
theorem saveBytes_impl (m : Int) (A : Option Addr) (n c : Nat) (zs : List Int) (w : World) (h : Ints w w.heap.size A n zs) (hn : n ≤ 1000000000) (hd : A = none → c = 0) :
    Calls Try.prog 14 #[.int .i64 m, .slice A n c] w (Gives w (saveR m zs)) := by
  refine (saveBytes_implN m A n c zs w h hn hd).mono ?_
  rintro e w' ⟨A', c', h1, h2, h3, _⟩
  exact ⟨A', c', h1, h2, h3⟩
set_option maxHeartbeats 1000000 in
theorem saveBytes_spec (m : Int) (A : Option Addr) (n c : Nat) (zs : List Int) (w : World) (h : Ints w w.heap.size A n zs) (hn : n ≤ 1000000000) (hd : A = none → c = 0) :
    Calls Try.prog 12 #[.int .i64 m, .slice A n c] w (Gives w (saveR m zs)) := by
  have hownE : (w.alloc (.cells #[] 3)).ownsRow w.heap.size 3 1 (.slice (some ⟨w.heap.size, 0, none⟩) 0 0) 0 (iv []) := World.ownsRow_lit w #[] 0 (Nat.le_refl _) (by simp [maxLen]) rfl
  have HOE := Lib.hid hownE
  clear hownE
  have hl := h.len
  have HI := Lib.hid h
  clear h
  by_cases hm : inB m 0 65535 = true
  case neg =>
    have hm : inB m 0 65535 = false := by simpa using hm
    rw [show saveR m zs = [] by simp [saveR, hm]]
    go_enter Try.func12, Try.ntmps12
    go_wp2_with (go_at_call 31; refine (l1In_any _ _ _ _).mono ?_; rintro e w' ⟨rfl, rfl⟩; rw [hm])
    go_ret
    exact ⟨_, _, rfl, HOE.out, by go_grown⟩
  by_cases hn32 : n ≤ 32
  case neg =>
    rw [show saveR m zs = [] by simp [saveR, hl]; omega]
    have q1 : (n : Int) > 32 := by omega
    go_enter Try.func12, Try.ntmps12
    go_wp2_with (go_at_call 31; refine (l1In_any _ _ _ _).mono ?_; rintro e w' ⟨rfl, rfl⟩; rw [hm])
    go_ret
    exact ⟨_, _, rfl, HOE.out, by go_grown⟩
  by_cases ha : allB zs = true
  case neg =>
    have ha : allB zs = false := by simpa using ha
    rw [show saveR m zs = [] by simp [saveR, ha]]
    have q1 : ¬ (n : Int) > 32 := by omega
    go_enter Try.func12, Try.ntmps12
    go_wp2_with (first | (go_at_call 31; refine (l1In_any _ _ _ _).mono ?_; rintro e w' ⟨rfl, rfl⟩; rw [hm]) | (go_at_call 32; refine (l2Bytes_any A n c zs _ HI.out hn).mono ?_; rintro e w' ⟨rfl, rfl⟩; rw [ha]))
    go_ret
    exact ⟨_, _, rfl, HOE.out, by go_grown⟩
  rw [show saveR m zs = saveL m zs ++ [chk (saveL m zs)] by simp [saveR, hm, ha, hl, hn32]]
  obtain ⟨m0, m1⟩ := inB_iff.1 hm
  have q1 : ¬ (n : Int) > 32 := by omega
  have t1 : m.tdiv 256 = m / 256 := Int.tdiv_eq_ediv_of_nonneg m0
  have t2 : m.tmod 256 = m % 256 := Int.tmod_eq_emod_of_nonneg m0
  have hall := Lib.hid (saveL_all hm (by omega) ha)
  have hsl : saveL m zs = [m / 256, m % 256, (n : Int)] ++ zs := by rw [← hl]; rfl
  have HSL := Lib.hid hsl
  have hown0 : (w.alloc (.cells #[.int .i64 (m / 256), .int .i64 (m % 256), .int .i64 (n : Int)] 3)).ownsRow w.heap.size 3 1 (.slice (some ⟨w.heap.size, 0, none⟩) 3 3) 3 (iv [m / 256, m % 256, (n : Int)]) := World.ownsRow_lit w #[.int .i64 (m / 256), .int .i64 (m % 256), .int .i64 (n : Int)] 3 (Nat.le_refl _) (by simp [maxLen]) rfl
  have HO0 := Lib.hid hown0
  have hlen : (saveL m zs ++ [chk (saveL m zs)]).length = 3 + n + 1 := by simp [saveL_len, hl]
  have HL := Lib.hid hlen
  clear hown0 hsl hlen
  generalize hck : chk (saveL m zs) = ck at HL ⊢
  replace hck := Lib.hid hck
  go_enter Try.func12, Try.ntmps12
  go_wp2_with (first | (go_at_call 31; refine (l1In_any _ _ _ _).mono ?_; rintro e w' ⟨rfl, rfl⟩; rw [hm]) | (go_at_call 32; refine (l2Bytes_any A n c zs _ HI.out hn).mono ?_; rintro e w' ⟨rfl, rfl⟩; rw [ha]) | (at_builtin; refine push_list _ rfl _ _ rfl w.heap.size 3 3 n c w.heap.size _ _ [m / 256, m % 256, (n : Int)] zs rfl rfl HO0.out (HI.out.below (by go_grown)) hd (by omega) (by simp) ?_; intro A' c' w2 hown2 hb2; rw [← HSL.out] at hown2; clear HO0; replace hown2 := Lib.hid hown2; replace hb2 := Lib.hid (((Below.refl w.heap.size w).alloc (Nat.le_refl _) _).trans hb2)) | (go_at_call 33; refine (l17Sum_any A' (3 + n) c' (saveL m zs) _ (own_ints hown2.out) (by omega) hall.out).mono ?_; rintro e w' ⟨rfl, rfl⟩; rw [hck.out]) | (at_builtin; refine push_own _ rfl _ _ rfl w.heap.size (3 + n) c' w2.heap.size 1 A' (saveL m zs) ck rfl rfl (hown2.out.alloc _) (by simp [go_sem]) (by omega) (by have := hb2.out.size; simp; omega) ?_; intro A3 c3 w3 hown3 hb3))
  go_ret
  refine ⟨A3, c3, by rw [HL.out]; rfl, by rw [HL.out]; exact hown3, (hb2.out.alloc hb2.out.size _).trans hb3⟩
end Go.Proofs.Ytgmcbpnnololmaa
