/-
  The drawn laws on stops, changes and beam parts: plain lemmas and walks. No condition.
-/
import Derived.Test.YtmenehgbhgehjaaDrwC
import Derived.Test.YtmenehgbhgehjaaBeamP
namespace Go.Proofs.Ytmenehgbhgehjaa
open Go.RowKit
set_option linter.unusedVariables false
set_option linter.unusedSimpArgs false
set_option maxHeartbeats 400000 in
theorem alive_any (w : World) : Calls Try.prog 19 #[] w fun e w' => e = .returned (.bool true) ∧ w = w' := by
  have e8 : wrap64 (IntKind.i8.wrap 255) = -1 := by
    rw [show IntKind.i8.wrap 255 = -1 by decide]
    exact IntWalk.wrap64_in _ (by omega)
  go_enter Try.func19, Try.ntmps19
  go_wp2_with (first | (go_at_call 56; refine (within_any _ _ _ _).mono ?_; rintro e w' ⟨rfl, rfl⟩; rw [show inB 255 0 255 = true from rfl]) | go_in)
  go_ret
  exact ⟨rfl, rfl⟩
theorem res3 {fn : Func} {t u v : Tmp} (h : fn.results = #[.tmp t, .tmp u, .tmp v]) (tmps : Array Value) (P : Program) (w : World) :
    (results fn tmps).run P w = .ok (.tuple #[tmps.getD t undef, tmps.getD u undef, tmps.getD v undef]) w := by
  simp [results, h]
theorem fl3_take : ∀ (ts : List Tri) (k : Nat), fl3 (ts.take k) = (fl3 ts).take (k * 3)
  | [], k => by simp [fl3]
  | t :: ts, 0 => by simp [fl3]
  | t :: ts, k + 1 => by
    rw [show (k + 1) * 3 = k * 3 + 1 + 1 + 1 by omega]
    simp only [List.take_succ_cons, fl3, fl3_take ts k]
theorem Tri.take {w : World} {B n k : Nat} {A : Option Addr} {ts : List Tri} (h : Reads w B 3 A n (iv (fl3 ts))) (hk : k ≤ n) : Reads w B 3 A k (iv (fl3 (ts.take k))) := by
  have hl := Tri.len h
  refine ⟨by rw [iv_len, fl3_len, List.length_take]; omega, fun h0 => ?_⟩
  obtain ⟨ad, e, hb, hc⟩ := h.2 (by omega)
  refine ⟨ad, e, hb, fun j u hu => hc j u ?_⟩
  rw [fl3_take, ← iv_take, List.getElem?_take] at hu
  split at hu
  · exact hu
  · cases hu
theorem stops_take {ts : List Tri} (k : Nat) (h : stopsB ts = true) : stopsB (ts.take k) = true := by
  simp only [stopsB, Bool.and_eq_true, decide_eq_true_eq] at h ⊢
  refine ⟨by rw [List.length_take]; omega, List.all_eq_true.2 fun x hx => List.all_eq_true.1 h.2 x (List.mem_of_mem_take hx)⟩
theorem stops_bad (ts : List Tri) : stopsB (ts ++ [(4, 0, 0)]) = false := by
  simp [stopsB, stopP, inB]
theorem chg_app {us : List Tri} (h : ∀ l, chgFrom l us = false) : ∀ (ts : List Tri) (l : Int), chgFrom l (ts ++ us) = false
  | [], l => h l
  | t :: ts, l => by simp [chgFrom, chg_app h ts t.1]
theorem chg_bad (ts : List Tri) : chgB (ts ++ [(5, 0, 0), (4, 0, 0)]) = false := by
  rw [chgB, chg_app (fun l => by simp [chgFrom, inB]) ts 0, Bool.and_false]
theorem chgFrom_take : ∀ (ts : List Tri) (l : Int) (k : Nat), chgFrom l ts = true → chgFrom l (ts.take k) = true
  | [], l, k, _ => by simp [chgFrom]
  | t :: ts, l, 0, _ => rfl
  | t :: ts, l, k + 1, h => by
    simp only [chgFrom, Bool.and_eq_true, List.take_succ_cons] at h ⊢
    exact ⟨h.1, chgFrom_take ts t.1 k h.2⟩
theorem chg_take {ts : List Tri} (k : Nat) (h : chgB ts = true) : chgB (ts.take k) = true := by
  simp only [chgB, Bool.and_eq_true, decide_eq_true_eq] at h ⊢
  exact ⟨by rw [List.length_take]; omega, chgFrom_take ts 0 k h.2⟩
theorem partsB_mem : ∀ (ts : List Tri) (x y z : Int), z ∈ partsB x y ts → ∃ t ∈ ts, t.1 = z
  | [], _, _, _, h => by simp [partsB] at h
  | t :: ts, x, y, z, h => by
    unfold partsB at h
    split at h
    · obtain ⟨u, hu, e⟩ := partsB_mem ts x y z h
      exact ⟨u, List.mem_cons_of_mem _ hu, e⟩
    · rcases List.mem_append.1 h with h | h
      · split at h
        · simp at h; exact ⟨t, List.mem_cons_self .., h.symm⟩
        · cases h
      · obtain ⟨u, hu, e⟩ := partsB_mem ts t.2.1 t.2.2 z h
        exact ⟨u, List.mem_cons_of_mem _ hu, e⟩
theorem chg_strict {t : Tri} : ∀ {ts : List Tri}, chgFrom t.1 ts = true → nextSame t ts = false → chgFrom (t.1 + 1) ts = true
  | [], _, _ => rfl
  | u :: r, h, hn => by
    simp only [chgFrom, Bool.and_eq_true, nextSame, beq_eq_false_iff_ne] at h hn ⊢
    have h1 := inB_iff.1 h.1.1
    exact ⟨⟨inB_true (by omega), h.1.2⟩, h.2⟩
theorem partsB_sorted : ∀ (ts : List Tri) (l x y : Int), chgFrom l ts = true → (partsB x y ts).Pairwise (· < ·) ∧ ∀ z ∈ partsB x y ts, l ≤ z
  | [], l, x, y, _ => by simp [partsB]
  | t :: ts, l, x, y, h => by
    have h' := h
    simp only [chgFrom, Bool.and_eq_true] at h'
    have h1 := inB_iff.1 h'.1.1
    unfold partsB
    split
    · obtain ⟨p, q⟩ := partsB_sorted ts t.1 x y h'.2
      exact ⟨p, fun z hz => by have := q z hz; omega⟩
    · rename_i hn
      obtain ⟨p, q⟩ := partsB_sorted ts (t.1 + 1) t.2.1 t.2.2 (chg_strict h'.2 (by simpa using hn))
      split
      · refine ⟨List.pairwise_cons.2 ⟨fun z hz => by have := q z hz; omega, p⟩, fun z hz => ?_⟩
        rcases List.mem_cons.1 hz with rfl | hz
        · omega
        · have := q z hz; omega
      · exact ⟨p, fun z hz => by have := q z hz; omega⟩
theorem getD_lt {xs : List Int} (h : xs.Pairwise (· < ·)) {k : Nat} (h0 : 0 < k) (hk : k < xs.length) : xs.getD (k - 1) 0 < xs.getD k 0 := by
  rw [List.getD_eq_getElem?_getD, List.getD_eq_getElem?_getD, List.getElem?_eq_getElem hk, List.getElem?_eq_getElem (show k - 1 < xs.length by omega)]
  exact List.pairwise_iff_getElem.1 h (k - 1) k (by omega) hk (by omega)
theorem parts_facts (x y : Int) (ts : List Tri) : (partsR x y ts).length ≤ ts.length ∧ (∀ k, k < (partsR x y ts).length → ts.any (fun t => t.1 == (partsR x y ts).getD k 0) = true) ∧ ∀ k, 0 < k → k < (partsR x y ts).length → (partsR x y ts).getD (k - 1) 0 < (partsR x y ts).getD k 0 := by
  cases h : (inB x 0 255 && inB y 0 255 && chgB ts)
  · have e : partsR x y ts = [] := by simp only [partsR, h]; rfl
    rw [e]
    exact ⟨Nat.zero_le _, fun k hk => by simp at hk, fun k _ hk => by simp at hk⟩
  · have e : partsR x y ts = partsB x y ts := by simp only [partsR, h]; rfl
    simp only [Bool.and_eq_true, chgB] at h
    rw [e]
    refine ⟨partsB_len ts x y, fun k hk => ?_, fun k h0 hk => getD_lt (partsB_sorted ts 0 x y h.2.2).1 h0 hk⟩
    obtain ⟨t, ht, e⟩ := partsB_mem ts x y ((partsB x y ts).getD k 0) (by rw [List.getD_eq_getElem?_getD, List.getElem?_eq_getElem hk]; exact List.getElem_mem hk)
    exact List.any_eq_true.2 ⟨t, ht, by rw [e]; simp⟩
/-- A drawn list of structs, as the laws read it. -/
def DT (m : Nat) (w' : World) (A : Option Addr) (c : Nat) (ts : List Tri) : Prop := ts.length ≤ c ∧ (A = none → c = 0) ∧ Reads w' w'.heap.size 3 A ts.length (iv (fl3 ts)) ∧ ts.length ≤ m
def GivesDT (m : Nat) (w : World) (e : Ending) (w' : World) : Prop := ∃ (A : Option Addr) (c : Nat) (ts : List Tri), e = .returned (.slice A ts.length c) ∧ DT m w' A c ts ∧ Below w.heap.size w w'
theorem own_dt {E base m c : Nat} {w : World} {A : Option Addr} {ts : List Tri} (o : w.ownsRow base E 3 (.slice A ts.length c) ts.length (iv (fl3 ts))) (hm : ts.length ≤ m) : DT m w A c ts := by
  refine ⟨own_cap o, ?_, Reads.of_own o, hm⟩
  rintro rfl
  rcases own_block o with ⟨_, _, h⟩ | ⟨g, e, _⟩
  · exact h
  · cases e
theorem TRow.dt {E base m : Nat} {w : World} {v : Value} (h : TRow E base m w v) : ∃ A c ts, v = .slice A ts.length c ∧ DT m w A c ts := by
  obtain ⟨A, c, ts, rfl, o, hm⟩ := h
  refine ⟨A, c, ts, rfl, own_cap o, ?_, Reads.of_own o, hm⟩
  rintro rfl
  rcases own_block o with ⟨_, _, h⟩ | ⟨g, e, _⟩
  · exact h
  · cases e
theorem drawStopsValid_any (A : Option Addr) (n c : Nat) (zs : List Int) (w : World) (h : IsRow .u8 w A n c zs) :
    Calls Try.prog 42 #[.slice A n c] w (GivesDT 9 w) := by
  have HI := Lib.hid h
  clear h
  go_enter Try.func42, Try.ntmps42
  go_wp2_with fail
  refine (open_any A n c zs _ HI.out).mono ?_
  rintro e w1 ⟨len, cap, rfl, hR, hb1⟩
  obtain ⟨g, hg0⟩ : ∃ g, g = w.heap.size := ⟨_, rfl⟩
  rw [← hg0] at hR ⊢
  have HD := Lib.hid (Drs.start hR)
  replace hb1 := Lib.hid hb1
  have hgl := hR.lt
  replace hg0 := Lib.hid hg0
  clear hR
  go_wp2_with fail
  refine (l20Stops_d HD.out 2 (by omega) (by omega) (by omega)).mono ?_
  rintro e W' ⟨v, rfl, hv, hD, hgr⟩
  replace HD := Lib.hid hD
  clear hD
  obtain ⟨B, c', ts, rfl, hd⟩ := hv.dt
  have hd := Lib.hid hd
  clear hv hgr
  go_wp2_with fail
  go_ret
  exact ⟨B, c', ts, rfl, hd.out, below_rd hb1.out (by rw [← hg0.out]; exact HD.out.hg)⟩
theorem drawChangesValid_any (A : Option Addr) (n c : Nat) (zs : List Int) (w : World) (h : IsRow .u8 w A n c zs) :
    Calls Try.prog 48 #[.slice A n c] w (GivesDT 9 w) := by
  have HI := Lib.hid h
  clear h
  go_enter Try.func48, Try.ntmps48
  go_wp2_with fail
  refine (open_any A n c zs _ HI.out).mono ?_
  rintro e w1 ⟨len, cap, rfl, hR, hb1⟩
  obtain ⟨g, hg0⟩ : ∃ g, g = w.heap.size := ⟨_, rfl⟩
  rw [← hg0] at hR ⊢
  have HD := Lib.hid (Drs.start hR)
  replace hb1 := Lib.hid hb1
  have hgl := hR.lt
  replace hg0 := Lib.hid hg0
  clear hR
  go_wp2_with fail
  refine (l20Changes_d HD.out 2 (by omega) (by omega) (by omega)).mono ?_
  rintro e W' ⟨v, rfl, hv, hD, hgr⟩
  replace HD := Lib.hid hD
  clear hD
  obtain ⟨B, c', ts, rfl, hd⟩ := hv.dt
  have hd := Lib.hid hd
  clear hv hgr
  go_wp2_with fail
  go_ret
  exact ⟨B, c', ts, rfl, hd.out, below_rd hb1.out (by rw [← hg0.out]; exact HD.out.hg)⟩
theorem stopsValid_implE {A : Option Addr} {n c : Nat} {ts : List Tri} {w : World} {b : Bool} (hb : stopsB ts = b) (h : Reads w w.heap.size 3 A n (iv (fl3 ts))) (hn : n ≤ 1000000000) :
    Calls Try.prog 40 #[.slice A n c] w fun e w' => e = .returned (.bool b) ∧ Below w.heap.size w w' := by
  subst hb; exact stopsValid_impl A n c ts w h hn
theorem changesValid_implE {A : Option Addr} {n c : Nat} {ts : List Tri} {w : World} {b : Bool} (hb : chgB ts = b) (h : Reads w w.heap.size 3 A n (iv (fl3 ts))) (hn : n ≤ 1000000000) :
    Calls Try.prog 46 #[.slice A n c] w fun e w' => e = .returned (.bool b) ∧ Below w.heap.size w w' := by
  subst hb; exact changesValid_impl A n c ts w h hn
theorem stopsValid_specE {A : Option Addr} {n c : Nat} {ts : List Tri} {w : World} {b : Bool} (hb : stopsB ts = b) (h : Reads w w.heap.size 3 A n (iv (fl3 ts))) (hn : n ≤ 1000000000) :
    Calls Try.prog 38 #[.slice A n c] w fun e w' => e = .returned (.bool b) ∧ Below w.heap.size w w' := by
  subst hb; exact stopsValid_spec A n c ts w h hn
theorem changesValid_specE {A : Option Addr} {n c : Nat} {ts : List Tri} {w : World} {b : Bool} (hb : chgB ts = b) (h : Reads w w.heap.size 3 A n (iv (fl3 ts))) (hn : n ≤ 1000000000) :
    Calls Try.prog 44 #[.slice A n c] w fun e w' => e = .returned (.bool b) ∧ Below w.heap.size w w' := by
  subst hb; exact changesValid_spec A n c ts w h hn
set_option maxHeartbeats 2000000 in
theorem fnStopsValid_walk (w : World) (A : Option Addr) (n c : Nat) (zs : List Int) (h : IsRow .u8 w A n c zs) :
    Calls Try.prog 10 #[.slice A n c] w fun e w' => e = .returned (.bool true) ∧ Below w.heap.size w w' := by
  by_cases hlong : 1048576 < n
  · go_enter Try.func10, Try.ntmps10
    go_wp2_with fail
    go_ret
    exact ⟨rfl, Below.refl _ _⟩
  have HI := Lib.hid h
  clear h
  go_enter Try.func10, Try.ntmps10
  go_wp2_with fail
  refine (drawStopsValid_any A n c zs _ HI.out).mono ?_
  rintro e w1 ⟨B, k, ts, rfl, ⟨l1, l2, l3, l4⟩, hb⟩
  have HX := Lib.hid l3
  have HN := Lib.hid l2
  have HB := Lib.hid hb
  have hw1 := hb.size
  have hE := Lib.hid (Env.start w1)
  have hbad := Lib.hid (stops_bad ts)
  have d1 : ((ts.length : Int) / 2).toNat = ts.length / 2 := by omega
  have d2 : (0 : Int) ≤ (ts.length : Int) / 2 := by omega
  have d3 : (ts.length : Int) / 2 ≤ (k : Int) := by omega
  clear l2 l3 hb
  cases ok : stopsB ts
  · go_wp2_with fail
    refine (stopsValid_implE ok (c := k) (hE.out.argR HX.out) (by omega)).mono ?_
    rintro e w2 ⟨rfl, b⟩
    replace hE := Lib.hid (hE.out.below b)
    clear b
    go_wp2_with fail
    refine (stopsValid_specE ok (c := k) (hE.out.argR HX.out) (by omega)).mono ?_
    rintro e w3 ⟨rfl, b⟩
    replace hE := Lib.hid (hE.out.below b)
    clear b
    go_wp2_with (first | (go_at_call 40; (with_reducible refine (stopsValid_implE (stops_take (ts.length / 2) ok) (Tri.take (hE.out.argR HX.out) (by omega)) (by omega)).mono ?_); rintro e w4 ⟨rfl, b⟩; replace hE := Lib.hid (hE.out.below b); clear b) | (at_builtin; refine wpList_unguard (by rfl) ?_; refine push_stop _ rfl _ _ rfl (w3).heap.size 0 0 ts.length k _ (some ⟨(w3).heap.size, 0, none⟩) B [] (fl3 ts) rfl rfl (World.ownsRow_lit w3 #[] 0 (Nat.le_refl _) (by simp [maxLen]) rfl) ((hE.out.argR HX.out).below ((Below.refl _ _).alloc (Nat.le_refl _) _)) HN.out (by omega) (by simp) ?_; intro A3 c3 w5 hown3 hg3; simp only [Nat.zero_add, List.nil_append] at hown3 ⊢; have hb3 := ((Below.refl (w3).heap.size w3).alloc (Nat.le_refl _) _).grown hg3 (by simp) (fun k hk => by simp [Value.ownBlock] at hk; omega); replace hown3 := Lib.hid hown3; replace hb3 := Lib.hid hb3; clear hg3) | (at_builtin; refine wpList_unguard (by rfl) ?_; refine push_stop _ rfl _ _ rfl (w3).heap.size ts.length c3 1 1 _ A3 (some ⟨w5.heap.size, 0, none⟩) (fl3 ts) (fl3 [(4, 0, 0)]) rfl rfl (hown3.out.alloc _) (reads_lit3 [(4, 0, 0)] _ rfl (by simp)) (by intro h; cases h) (by omega) (Nat.le_trans hb3.out.size (size_alloc_le _ _)) ?_; intro A4 c4 w6 hown4 hg4; rw [← fl3_app] at hown4; replace hE := Lib.hid (hE.out.push hown4 ((hb3.out.alloc hb3.out.size _).grown hg4 (Nat.le_trans hb3.out.size (size_alloc_le _ _)) (fun k hk => (hown3.out.lt k hk).1))); clear hown4 hg4) | (go_at_call 40; (with_reducible refine (stopsValid_implE hbad.out (hE.out.reads 0 rfl) (by omega)).mono ?_); rintro e w7 ⟨rfl, b⟩; replace hE := Lib.hid (hE.out.below b); clear b) | (go_at_call 19; refine (alive_any _).mono ?_; rintro e w' ⟨rfl, rfl⟩))
    go_ret
    exact ⟨rfl, HB.out.trans (hE.out.bel.mono hw1)⟩
  · go_wp2_with fail
    refine (stopsValid_implE ok (c := k) (hE.out.argR HX.out) (by omega)).mono ?_
    rintro e w2 ⟨rfl, b⟩
    replace hE := Lib.hid (hE.out.below b)
    clear b
    go_wp2_with fail
    refine (stopsValid_specE ok (c := k) (hE.out.argR HX.out) (by omega)).mono ?_
    rintro e w3 ⟨rfl, b⟩
    replace hE := Lib.hid (hE.out.below b)
    clear b
    go_wp2_with (first | (go_at_call 40; (with_reducible refine (stopsValid_implE (stops_take (ts.length / 2) ok) (Tri.take (hE.out.argR HX.out) (by omega)) (by omega)).mono ?_); rintro e w4 ⟨rfl, b⟩; replace hE := Lib.hid (hE.out.below b); clear b) | (at_builtin; refine wpList_unguard (by rfl) ?_; refine push_stop _ rfl _ _ rfl (w4).heap.size 0 0 ts.length k _ (some ⟨(w4).heap.size, 0, none⟩) B [] (fl3 ts) rfl rfl (World.ownsRow_lit w4 #[] 0 (Nat.le_refl _) (by simp [maxLen]) rfl) ((hE.out.argR HX.out).below ((Below.refl _ _).alloc (Nat.le_refl _) _)) HN.out (by omega) (by simp) ?_; intro A3 c3 w5 hown3 hg3; simp only [Nat.zero_add, List.nil_append] at hown3 ⊢; have hb3 := ((Below.refl (w4).heap.size w4).alloc (Nat.le_refl _) _).grown hg3 (by simp) (fun k hk => by simp [Value.ownBlock] at hk; omega); replace hown3 := Lib.hid hown3; replace hb3 := Lib.hid hb3; clear hg3) | (at_builtin; refine wpList_unguard (by rfl) ?_; refine push_stop _ rfl _ _ rfl (w4).heap.size ts.length c3 1 1 _ A3 (some ⟨w5.heap.size, 0, none⟩) (fl3 ts) (fl3 [(4, 0, 0)]) rfl rfl (hown3.out.alloc _) (reads_lit3 [(4, 0, 0)] _ rfl (by simp)) (by intro h; cases h) (by omega) (Nat.le_trans hb3.out.size (size_alloc_le _ _)) ?_; intro A4 c4 w6 hown4 hg4; rw [← fl3_app] at hown4; replace hE := Lib.hid (hE.out.push hown4 ((hb3.out.alloc hb3.out.size _).grown hg4 (Nat.le_trans hb3.out.size (size_alloc_le _ _)) (fun k hk => (hown3.out.lt k hk).1))); clear hown4 hg4) | (go_at_call 40; (with_reducible refine (stopsValid_implE hbad.out (hE.out.reads 0 rfl) (by omega)).mono ?_); rintro e w7 ⟨rfl, b⟩; replace hE := Lib.hid (hE.out.below b); clear b) | (go_at_call 19; refine (alive_any _).mono ?_; rintro e w' ⟨rfl, rfl⟩))
    go_ret
    exact ⟨rfl, HB.out.trans (hE.out.bel.mono hw1)⟩
set_option maxHeartbeats 2000000 in
theorem fnChangesValid_walk (w : World) (A : Option Addr) (n c : Nat) (zs : List Int) (h : IsRow .u8 w A n c zs) :
    Calls Try.prog 12 #[.slice A n c] w fun e w' => e = .returned (.bool true) ∧ Below w.heap.size w w' := by
  by_cases hlong : 1048576 < n
  · go_enter Try.func12, Try.ntmps12
    go_wp2_with fail
    go_ret
    exact ⟨rfl, Below.refl _ _⟩
  have HI := Lib.hid h
  clear h
  go_enter Try.func12, Try.ntmps12
  go_wp2_with fail
  refine (drawChangesValid_any A n c zs _ HI.out).mono ?_
  rintro e w1 ⟨B, k, ts, rfl, ⟨l1, l2, l3, l4⟩, hb⟩
  have HX := Lib.hid l3
  have HN := Lib.hid l2
  have HB := Lib.hid hb
  have hw1 := hb.size
  have hE := Lib.hid (Env.start w1)
  have hbad := Lib.hid (chg_bad ts)
  have d1 : ((ts.length : Int) / 2).toNat = ts.length / 2 := by omega
  have d2 : (0 : Int) ≤ (ts.length : Int) / 2 := by omega
  have d3 : (ts.length : Int) / 2 ≤ (k : Int) := by omega
  clear l2 l3 hb
  cases ok : chgB ts
  · go_wp2_with fail
    refine (changesValid_implE ok (c := k) (hE.out.argR HX.out) (by omega)).mono ?_
    rintro e w2 ⟨rfl, b⟩
    replace hE := Lib.hid (hE.out.below b)
    clear b
    go_wp2_with fail
    refine (changesValid_specE ok (c := k) (hE.out.argR HX.out) (by omega)).mono ?_
    rintro e w3 ⟨rfl, b⟩
    replace hE := Lib.hid (hE.out.below b)
    clear b
    go_wp2_with (first | (go_at_call 46; (with_reducible refine (changesValid_implE (chg_take (ts.length / 2) ok) (Tri.take (hE.out.argR HX.out) (by omega)) (by omega)).mono ?_); rintro e w4 ⟨rfl, b⟩; replace hE := Lib.hid (hE.out.below b); clear b) | (at_builtin; refine push_change _ rfl _ _ rfl (w3).heap.size 0 0 ts.length k _ (some ⟨(w3).heap.size, 0, none⟩) B [] (fl3 ts) rfl rfl (World.ownsRow_lit w3 #[] 0 (Nat.le_refl _) (by simp [maxLen]) rfl) ((hE.out.argR HX.out).below ((Below.refl _ _).alloc (Nat.le_refl _) _)) HN.out (by omega) (by simp) ?_; intro A3 c3 w5 hown3 hg3; simp only [Nat.zero_add, List.nil_append] at hown3 ⊢; have hb3 := ((Below.refl (w3).heap.size w3).alloc (Nat.le_refl _) _).grown hg3 (by simp) (fun k hk => by simp [Value.ownBlock] at hk; omega); replace hown3 := Lib.hid hown3; replace hb3 := Lib.hid hb3; clear hg3) | (at_builtin; refine push_change _ rfl _ _ rfl (w3).heap.size ts.length c3 2 2 _ A3 (some ⟨w5.heap.size, 0, none⟩) (fl3 ts) (fl3 [(5, 0, 0), (4, 0, 0)]) rfl rfl (hown3.out.alloc _) (reads_lit3 [(5, 0, 0), (4, 0, 0)] _ rfl (by simp)) (by intro h; cases h) (by omega) (Nat.le_trans hb3.out.size (size_alloc_le _ _)) ?_; intro A4 c4 w6 hown4 hg4; rw [← fl3_app] at hown4; replace hE := Lib.hid (hE.out.push hown4 ((hb3.out.alloc hb3.out.size _).grown hg4 (Nat.le_trans hb3.out.size (size_alloc_le _ _)) (fun k hk => (hown3.out.lt k hk).1))); clear hown4 hg4) | (go_at_call 46; (with_reducible refine (changesValid_implE hbad.out (hE.out.reads 0 rfl) (by omega)).mono ?_); rintro e w7 ⟨rfl, b⟩; replace hE := Lib.hid (hE.out.below b); clear b) | (go_at_call 19; refine (alive_any _).mono ?_; rintro e w' ⟨rfl, rfl⟩))
    go_ret
    exact ⟨rfl, HB.out.trans (hE.out.bel.mono hw1)⟩
  · go_wp2_with fail
    refine (changesValid_implE ok (c := k) (hE.out.argR HX.out) (by omega)).mono ?_
    rintro e w2 ⟨rfl, b⟩
    replace hE := Lib.hid (hE.out.below b)
    clear b
    go_wp2_with fail
    refine (changesValid_specE ok (c := k) (hE.out.argR HX.out) (by omega)).mono ?_
    rintro e w3 ⟨rfl, b⟩
    replace hE := Lib.hid (hE.out.below b)
    clear b
    go_wp2_with (first | (go_at_call 46; (with_reducible refine (changesValid_implE (chg_take (ts.length / 2) ok) (Tri.take (hE.out.argR HX.out) (by omega)) (by omega)).mono ?_); rintro e w4 ⟨rfl, b⟩; replace hE := Lib.hid (hE.out.below b); clear b) | (at_builtin; refine push_change _ rfl _ _ rfl (w3).heap.size 0 0 ts.length k _ (some ⟨(w3).heap.size, 0, none⟩) B [] (fl3 ts) rfl rfl (World.ownsRow_lit w3 #[] 0 (Nat.le_refl _) (by simp [maxLen]) rfl) ((hE.out.argR HX.out).below ((Below.refl _ _).alloc (Nat.le_refl _) _)) HN.out (by omega) (by simp) ?_; intro A3 c3 w5 hown3 hg3; simp only [Nat.zero_add, List.nil_append] at hown3 ⊢; have hb3 := ((Below.refl (w3).heap.size w3).alloc (Nat.le_refl _) _).grown hg3 (by simp) (fun k hk => by simp [Value.ownBlock] at hk; omega); replace hown3 := Lib.hid hown3; replace hb3 := Lib.hid hb3; clear hg3) | (at_builtin; refine push_change _ rfl _ _ rfl (w3).heap.size ts.length c3 2 2 _ A3 (some ⟨w5.heap.size, 0, none⟩) (fl3 ts) (fl3 [(5, 0, 0), (4, 0, 0)]) rfl rfl (hown3.out.alloc _) (reads_lit3 [(5, 0, 0), (4, 0, 0)] _ rfl (by simp)) (by intro h; cases h) (by omega) (Nat.le_trans hb3.out.size (size_alloc_le _ _)) ?_; intro A4 c4 w6 hown4 hg4; rw [← fl3_app] at hown4; replace hE := Lib.hid (hE.out.push hown4 ((hb3.out.alloc hb3.out.size _).grown hg4 (Nat.le_trans hb3.out.size (size_alloc_le _ _)) (fun k hk => (hown3.out.lt k hk).1))); clear hown4 hg4) | (go_at_call 46; (with_reducible refine (changesValid_implE hbad.out (hE.out.reads 0 rfl) (by omega)).mono ?_); rintro e w7 ⟨rfl, b⟩; replace hE := Lib.hid (hE.out.below b); clear b) | (go_at_call 19; refine (alive_any _).mono ?_; rintro e w' ⟨rfl, rfl⟩))
    go_ret
    exact ⟨rfl, HB.out.trans (hE.out.bel.mono hw1)⟩
def GivesBP (w : World) (e : Ending) (w' : World) : Prop := ∃ (x y : Int) (A : Option Addr) (c : Nat) (ts : List Tri), e = .returned (.tuple #[.int .i64 x, .int .i64 y, .slice A ts.length c]) ∧ DT 9 w' A c ts ∧ Below w.heap.size w w'
theorem mul13 {x : Int} (h0 : 0 ≤ x) (h1 : x ≤ 13) : 0 ≤ x / 13 * 300 ∧ x / 13 * 300 ≤ 300 := by omega
set_option maxHeartbeats 2000000 in
theorem drawBeamParts_any (A : Option Addr) (n c : Nat) (zs : List Int) (w : World) (h : IsRow .u8 w A n c zs) :
    Calls Try.prog 49 #[.slice A n c] w (GivesBP w) := by
  have HI := Lib.hid h
  clear h
  go_enter Try.func49, Try.ntmps49
  go_wp2_with fail
  refine (open_any A n c zs _ HI.out).mono ?_
  rintro e w1 ⟨len, cap, rfl, hR, hb1⟩
  obtain ⟨g, hg0⟩ : ∃ g, g = w.heap.size := ⟨_, rfl⟩
  rw [← hg0] at hR ⊢
  have HD := Lib.hid (Drs.start hR)
  replace hb1 := Lib.hid hb1
  have hgl := hR.lt
  replace hg0 := Lib.hid hg0
  clear hR
  go_wp2_with fail
  refine (l20Changes_d HD.out 12 (by omega) (by omega) (by omega)).mono ?_
  rintro e W' ⟨v, rfl, hv, hD, hgr⟩
  replace HD := Lib.hid hD
  clear hD
  obtain ⟨B, c', ts, rfl, hO, hm9⟩ := hv
  have HO := Lib.hid hO
  have hgl2 : g < W'.heap.size := Nat.lt_of_lt_of_le hgl HD.out.size.2
  clear hO hgr
  go_wp2_with fail
  refine (pick_d HD.out 256 (by omega) (by omega) (by omega)).mono ?_
  rintro e W' ⟨v, rfl, ⟨x, rfl, x0, x1⟩, hD, hgr⟩
  replace HD := Lib.hid hD
  clear hD
  replace HO := Lib.hid (own_rd HO.out hgr hgl)
  clear hgr
  go_wp2_with fail
  refine (pick_d HD.out 14 (by omega) (by omega) (by omega)).mono ?_
  rintro e W' ⟨v, rfl, ⟨y, rfl, y0, y1⟩, hD, hgr⟩
  replace HD := Lib.hid hD
  clear hD
  replace HO := Lib.hid (own_rd HO.out hgr hgl)
  clear hgr
  have m13 := mul13 y0 (show y ≤ 13 by omega)
  go_wp2_with fail
  refine (pick_d HD.out 20 (by omega) (by omega) (by omega)).mono ?_
  rintro e W' ⟨v, rfl, ⟨z, rfl, z0, z1⟩, hD, hgr⟩
  replace HD := Lib.hid hD
  clear hD
  replace HO := Lib.hid (own_rd HO.out hgr hgl)
  clear hgr
  by_cases ho : ts.length = 0
  · have q1 : ¬ (ts.length : Int) > 0 := by omega
    clear ho
    go_wp2_with fail
    refine bodyPost_ret (res3 (by rfl) _ _ _) rfl ?_
    exact ⟨_, _, B, c', ts, rfl, own_dt HO.out hm9, below_rd hb1.out (by rw [← hg0.out]; exact HD.out.hg)⟩
  have q1 : (ts.length : Int) > 0 := by omega
  go_wp2_with fail
  refine (pick_d HD.out 3 (by omega) (by omega) (by omega)).mono ?_
  rintro e W' ⟨v, rfl, ⟨u, rfl, u0, u1⟩, hD, hgr⟩
  replace HD := Lib.hid hD
  clear hD
  replace HO := Lib.hid (own_rd HO.out hgr hgl)
  clear hgr
  by_cases hu : u = 0
  · subst hu
    obtain ⟨gb, cp, ev, gb0, gb1⟩ := HO.out.form (by omega)
    injection ev with ev _ ec
    subst ev ec
    obtain ⟨-, -, c1, c2⟩ := Tri.cells (Reads.of_own HO.out) (show 0 < ts.length by omega)
    rw [show 0 + 0 * 3 + 1 = 1 from rfl] at c1
    rw [show 0 + 0 * 3 + 2 = 2 from rfl] at c2
    have q2 : (0 : Int) < (ts.length : Int) := by omega
    have q3 : 0 < ts.length := by omega
    go_wp2_with fail
    refine bodyPost_ret (res3 (by rfl) _ _ _) rfl ?_
    exact ⟨_, _, some ⟨gb, 0, none⟩, c', ts, rfl, own_dt HO.out hm9, below_rd hb1.out (by rw [← hg0.out]; exact HD.out.hg)⟩
  · have hu2 : (u == 0) = false := by simp; omega
    go_wp2_with fail
    refine bodyPost_ret (res3 (by rfl) _ _ _) rfl ?_
    exact ⟨_, _, B, c', ts, rfl, own_dt HO.out hm9, below_rd hb1.out (by rw [← hg0.out]; exact HD.out.hg)⟩
end Go.Proofs.Ytmenehgbhgehjaa
