/-
  The drawn laws on saves: their walks. No condition.
-/
import Derived.Test.YtgmcbpnnololmaaSaveL
import Derived.Test.YtgmcbpnnololmaaDrwS
import Derived.Test.YtgmcbpnnololmaaSaveX
namespace Go.Proofs.Ytgmcbpnnololmaa
open Go.RowKit
set_option linter.unusedVariables false
set_option linter.unusedSimpArgs false
attribute [local go_sem ↓] Go.wp_at_zero Go.wp_at_succ
set_option maxHeartbeats 400000 in
theorem alive_any (w : World) : Calls Try.prog 24 #[] w fun e w' => e = .returned (.bool true) ∧ w = w' := by
  have e8 : wrap64 (IntKind.i8.wrap 255) = -1 := by
    rw [show IntKind.i8.wrap 255 = -1 by decide]
    exact IntWalk.wrap64_in _ (by omega)
  go_enter Try.func24, Try.ntmps24
  go_wp2_with (first | (go_at_call 34; refine (within_any _ _ _ _).mono ?_; rintro e w' ⟨rfl, rfl⟩; rw [show inB 255 0 255 = true from rfl]) | go_in)
  go_ret
  exact ⟨rfl, rfl⟩
theorem abs_any (m : Int) (w : World) (h0 : -1000000000 ≤ m) (h1 : m ≤ 1000000000) : Calls Try.prog 30 #[.int .i64 m] w fun e w' => e = .returned (.int .i64 (if 0 ≤ m then m else -m)) ∧ w = w' := by
  by_cases h : 0 ≤ m
  · rw [if_pos h]
    go_enter Try.func30, Try.ntmps30
    go_wp2
    go_ret
    exact ⟨ret_int (by omega), rfl⟩
  · rw [if_neg h]
    go_enter Try.func30, Try.ntmps30
    go_wp2
    go_ret
    exact ⟨ret_int (by omega), rfl⟩
section
variable {A B Z : Option Addr} {n c m d l k : Nat} {a b z zs x y : List Int} {w : World} {u : Int} {v : List Int} {f : Bool}
theorem readSave_implE (h1 : readN zs = u) (h2 : readD zs = v) (h3 : readOk zs = f) (h : Ints w w.heap.size A n zs) (hn : n ≤ 1000000000) (hnc : n ≤ c) : Calls Try.prog 19 #[.slice A n c] w (GivesT w u v f) := by
  subst h1 h2 h3; exact readSave_impl A n c zs w h hn hnc
theorem readSave_specE (h1 : readN zs = u) (h2 : readD zs = v) (h3 : readOk zs = f) (h : Ints w w.heap.size A n zs) (hn : n ≤ 1000000000) (hnc : n ≤ c) : Calls Try.prog 18 #[.slice A n c] w (GivesT w u v f) := by
  subst h1 h2 h3; exact readSave_spec A n c zs w h hn hnc
theorem bestSave_specE (h1 : bestN a b = u) (h2 : bestD a b = v) (h3 : bestOk a b = f) (ha : Ints w w.heap.size A n a) (hb : Ints w w.heap.size B m b) (hn : n ≤ 1000000000) (hm : m ≤ 1000000000) (hc : n ≤ c) (hd : m ≤ d) :
    Calls Try.prog 20 #[.slice A n c, .slice B m d] w (GivesT w u v f) := by
  subst h1 h2 h3; exact bestSave_spec A B n c m d a b w ha hb hn hm hc hd
theorem saveBytes_implE (h1 : saveR u zs = v) (h : Ints w w.heap.size A n zs) (hn : n ≤ 1000000000) (hd : A = none → c = 0) : Calls Try.prog 14 #[.int .i64 u, .slice A n c] w (Gives w v) := by
  subst h1; exact saveBytes_impl u A n c zs w h hn hd
theorem bestSave_implE (h1 : bestN a b = u) (h2 : bestD a b = v) (h3 : bestOk a b = f) (ha : Ints w w.heap.size A n a) (hb : Ints w w.heap.size B m b) (hn : n ≤ 1000000000) (hm : m ≤ 1000000000) (hc : n ≤ c) (hd : m ≤ d) :
    Calls Try.prog 21 #[.slice A n c, .slice B m d] w (GivesT w u v f) := by
  subst h1 h2 h3; exact bestSave_impl A B n c m d a b w ha hb hn hm hc hd
theorem writeSave_implE (h1 : writeA a b z = x) (h2 : writeB a b z = y) (ha : Ints w w.heap.size A n a) (hb : Ints w w.heap.size B m b) (hz : Ints w w.heap.size Z l z)
    (hn : n ≤ 1000000000) (hm : m ≤ 1000000000) (hl : l ≤ 1000000000) (hc : n ≤ c) (hd : m ≤ d) (nA : A = none → c = 0) (nB : B = none → d = 0) (nZ : Z = none → k = 0) :
    Calls Try.prog 27 #[.slice A n c, .slice B m d, .slice Z l k] w (GivesD w x y) := by
  subst h1 h2; exact writeSave_impl A B Z n c m d l k a b z w ha hb hz hn hm hl hc hd nA nB nZ
theorem writeSave_specE (h1 : writeA a b z = x) (h2 : writeB a b z = y) (ha : Ints w w.heap.size A n a) (hb : Ints w w.heap.size B m b) (hz : Ints w w.heap.size Z l z)
    (hn : n ≤ 1000000000) (hm : m ≤ 1000000000) (hl : l ≤ 1000000000) (hc : n ≤ c) (hd : m ≤ d) (nA : A = none → c = 0) (nB : B = none → d = 0) (nZ : Z = none → k = 0) :
    Calls Try.prog 26 #[.slice A n c, .slice B m d, .slice Z l k] w (GivesD w x y) := by
  subst h1 h2; exact writeSave_spec A B Z n c m d l k a b z w ha hb hz hn hm hl hc hd nA nB nZ
end
theorem Env.drew {w0 w : World} {L : List Lot} (h : Env w0 w L) : Env w0 w.drew L := ⟨h.bel.drew, h.row, h.ord⟩
theorem iv_getD {xs : List Int} {k : Nat} (h : k < xs.length) : (iv xs)[k]? = some (.int .i64 (xs.getD k 0)) := by
  rw [iv_at h, List.getD_eq_getElem?_getD, List.getElem?_eq_getElem h]; rfl
set_option maxHeartbeats 2000000 in
theorem fnSaveBytes_walk (w : World) (A : Option Addr) (n c : Nat) (zs : List Int) (h : IsRow .u8 w A n c zs) (A2 : Option Addr) (n2 c2 : Nat) (zs2 : List Int) (h2 : IsRow .u8 w A2 n2 c2 zs2) :
    Calls Try.prog 6 #[.slice A n c, .slice A2 n2 c2] w fun e w' => e = .returned (.bool true) ∧ Below w.heap.size w w' := by
  by_cases hlong : 1048576 < n
  · go_enter Try.func6, Try.ntmps6
    go_wp2_with fail
    go_ret
    exact ⟨rfl, Below.refl _ _⟩
  by_cases hlong2 : 1048576 < n2
  · go_enter Try.func6, Try.ntmps6
    go_wp2_with fail
    go_ret
    exact ⟨rfl, Below.refl _ _⟩
  have HI := Lib.hid h
  clear h h2
  go_enter Try.func6, Try.ntmps6
  go_wp2_with fail
  refine (drawSaveBytes_any A n c zs _ HI.out).mono ?_
  rintro e w1 ⟨m, B, k, xs, rfl, m0, m1, ⟨l1, l2, l3, l4, -⟩, hb⟩
  have HX := Lib.hid l3
  have HL2 := Lib.hid l2
  have HB := Lib.hid hb
  have hw1 := hb.size
  have hE := Lib.hid (Env.start w1)
  have hsl := saveR_len m xs
  clear l2 l3 hb
  go_wp2_with fail
  refine (saveBytes_impl m _ _ _ xs _ (hE.out.arg HX.out) (by omega) HL2.out).mono ?_
  rintro e w' ⟨A', c', rfl, o, b⟩
  replace hE := Lib.hid (hE.out.push o b)
  clear o b
  go_wp2_with fail
  refine (saveBytes_spec m _ _ _ xs _ (hE.out.arg HX.out) (by omega) HL2.out).mono ?_
  rintro e w' ⟨A', c', rfl, o, b⟩
  replace hE := Lib.hid (hE.out.push o b)
  clear o b
  go_wp2_with fail
  refine (sameInts_same _ _ _ _ _ _ _ (hE.out.ints 1 rfl) (hE.out.ints 0 rfl) (by omega)).mono ?_
  rintro e w' ⟨rfl, b⟩
  replace hE := Lib.hid (hE.out.below b)
  clear b
  by_cases hz : (saveR m xs).length = 0
  · have hz2 : (((saveR m xs).length : Int) == 0) = true := by rw [beq_iff_eq]; omega
    clear hz
    go_wp2_with (go_at_call 24; refine (alive_any _).mono ?_; rintro e w' ⟨rfl, rfl⟩)
    go_ret
    exact ⟨rfl, HB.out.trans (hE.out.bel.mono hw1)⟩
  have hz2 : (((saveR m xs).length : Int) == 0) = false := by rw [beq_eq_false_iff_ne]; omega
  have hz3 : (((saveR m xs).length : Int) == (xs.length : Int) + 4) = true := by have := (saveR_nz hz).2.2.2.2; rw [beq_iff_eq]; omega
  have hrd := Lib.hid (fun tail ht => saveR_read tail hz ht)
  clear hz
  generalize hS : saveR m xs = S at hE hsl hz2 hz3 hrd ⊢
  clear hS
  have hr := Lib.hid (hrd.out [(n2 : Int) % 256, 0] (by simp [allB, inB_true (show 0 ≤ (n2 : Int) % 256 ∧ (n2 : Int) % 256 ≤ 255 by omega), inB_true (show (0 : Int) ≤ 0 ∧ (0 : Int) ≤ 255 by omega)]))
  clear hrd
  go_wp2_with (first | (at_builtin; refine push_list _ rfl _ _ rfl w'.heap.size 0 0 S.length _ w'.heap.size _ _ [] S rfl rfl (World.ownsRow_lit w' #[] 0 (Nat.le_refl _) (by simp [maxLen]) rfl) ((hE.out.ints 1 rfl).below ((Below.refl _ _).alloc (Nat.le_refl _) _)) (hE.out.nil_ 1 rfl) (by omega) (by simp) ?_; intro A3 c3 w3 hown3 hb3; simp only [Nat.zero_add, List.nil_append] at hown3 ⊢; have hb3' := (((Below.refl w'.heap.size w').alloc (Nat.le_refl _) _).trans hb3); replace hown3 := Lib.hid hown3; replace hb3 := Lib.hid hb3'; clear hb3') | (at_builtin; refine push_list _ rfl _ _ rfl w'.heap.size S.length c3 2 2 _ _ _ S [(n2 : Int) % 256, 0] rfl rfl (hown3.out.alloc _) (own_ints (World.ownsRow_lit w3 #[.int .i64 ((n2 : Int) % 256), .int .i64 0] 2 (Nat.le_refl _) (by simp [maxLen]) rfl)) (by intro h; cases h) (by omega) (Nat.le_trans hb3.out.size (by simp)) ?_; intro A4 c4 w4 hown4 hb4; replace hE := Lib.hid (hE.out.push hown4 ((hb3.out.alloc hb3.out.size _).trans hb4)); clear hown4 hb4 hown3 hb3))
  go_wp2_with fail
  refine (readSave_implE hr.out.2.1 hr.out.2.2 hr.out.1 (hE.out.ints 0 rfl) (by omega) (hE.out.cap 0 rfl)).mono ?_
  rintro e w' ⟨A', c', rfl, o, b⟩
  replace hE := Lib.hid (hE.out.push o b)
  clear o b
  have hb1 : (m == m) = true := by simp
  go_wp2_with (go_at_call 23; refine (sameInts_same _ _ _ _ _ _ _ (hE.out.ints 0 rfl) (hE.out.arg HX.out) (by omega)).mono ?_; rintro e w6 ⟨rfl, b⟩; replace hE := Lib.hid (hE.out.below b); clear b)
  go_ret
  exact ⟨rfl, HB.out.trans (hE.out.bel.mono hw1)⟩
set_option maxHeartbeats 4000000 in
theorem fnReadSave_walk (w : World) (A : Option Addr) (n c : Nat) (zs : List Int) (h : IsRow .u8 w A n c zs) :
    Calls Try.prog 7 #[.slice A n c] w fun e w' => e = .returned (.bool true) ∧ Below w.heap.size w w' := by
  by_cases hlong : 1048576 < n
  · go_enter Try.func7, Try.ntmps7
    go_wp2_with fail
    go_ret
    exact ⟨rfl, Below.refl _ _⟩
  have HI := Lib.hid h
  clear h
  go_enter Try.func7, Try.ntmps7
  go_wp2_with fail
  refine (drawReadSave_any A n c zs _ HI.out).mono ?_
  rintro e w1 ⟨B, k, xs, rfl, ⟨l1, l2, l3, l4⟩, hb⟩
  have HX := Lib.hid l3
  have HL2 := Lib.hid l2
  have HB := Lib.hid hb
  have hw1 := hb.size
  have hE := Lib.hid (Env.start w1)
  have l4 : xs.length ≤ 40 := l4
  clear l2 l3 hb
  have hdl := readD_len xs
  cases hok : readOk xs
  · have q1 : ((0 : Int) != 0) = false := by simp
    go_wp2_with fail
    refine (readSave_implE (readN_no hok) (readD_no hok) hok (hE.out.arg HX.out) (by omega) l1).mono ?_
    rintro e w' ⟨A', c', rfl, o, b⟩
    replace hE := Lib.hid (hE.out.push o b)
    clear o b
    go_wp2_with fail
    refine (readSave_specE (readN_no hok) (readD_no hok) hok (hE.out.arg HX.out) (by omega) l1).mono ?_
    rintro e w' ⟨A', c', rfl, o, b⟩
    replace hE := Lib.hid (hE.out.push o b)
    clear o b
    go_wp2_with (first | (go_at_call 23; refine (sameInts_same _ _ _ _ _ _ _ (hE.out.ints 1 rfl) (hE.out.ints 0 rfl) (by simp)).mono ?_; rintro e w6 ⟨rfl, b⟩; replace hE := Lib.hid (hE.out.below b); clear b) | (go_at_call 24; refine (alive_any _).mono ?_; rintro e w' ⟨rfl, rfl⟩))
    go_ret
    exact ⟨rfl, HB.out.trans (hE.out.bel.mono hw1)⟩
  have hb0 := read_back hok
  have hbd := bad_save hok
  have hdl := readD_len xs
  have hal : allB xs = true := by obtain ⟨_, _, _, _, _, ha, _⟩ := read_parts hok; exact ha
  obtain ⟨u, hu⟩ : ∃ u, readN xs = u := ⟨_, rfl⟩
  obtain ⟨v, hv⟩ : ∃ v, readD xs = v := ⟨_, rfl⟩
  rw [hu, hv] at hb0
  rw [hv] at hbd hdl
  obtain ⟨hT, hlx⟩ := hb0
  have hz := inB_iff.1 (allB_get hal (k := v.length + 3) (by omega))
  obtain ⟨z, hzz⟩ : ∃ z, z = xs.getD (v.length + 3) 0 := ⟨_, rfl⟩
  rw [← hzz] at hz hbd
  obtain ⟨T, hTT⟩ : ∃ T, T = xs.take (v.length + 4) := ⟨_, rfl⟩
  rw [← hTT] at hT
  have hTL : T.length = v.length + 4 := by rw [hTT, List.length_take]; omega
  have HT := Lib.hid hT
  have HTL := Lib.hid hTL
  have HTT := Lib.hid hTT
  have HZ := Lib.hid hzz
  have HBD := Lib.hid hbd
  have HU := Lib.hid hu
  have HV := Lib.hid hv
  have HOK := Lib.hid hok
  have HBD' := Lib.hid (And.intro (readN_no hbd) (readD_no hbd))
  clear hT hTL hTT hzz hbd hu hv hok hal
  obtain ⟨L, hL⟩ : ∃ L, L = v.length := ⟨_, rfl⟩
  rw [← hL] at HTL HTT HZ HBD HBD' hlx hdl
  have q1 : (u != u) = false := by simp
  have t1 : ((L : Int) + 4 - 1).toNat = L + 3 := by omega
  have t2 : ((L : Int) + 4).toNat = L + 4 := by omega
  have t3 : (0 : Int) ≤ (L : Int) + 4 := by omega
  have t4 : (L : Int) + 4 ≤ (k : Int) := by omega
  have t5 : (0 : Int) ≤ (L : Int) + 4 - 1 := by omega
  have t6 : (L : Int) + 4 - 1 < (xs.length : Int) := by omega
  have HL := Lib.hid hL
  clear hL
  go_wp2_with fail
  refine (readSave_implE HU.out HV.out HOK.out (hE.out.arg HX.out) (by omega) l1).mono ?_
  rintro e w' ⟨A', c', rfl, o, b⟩
  replace hE := Lib.hid (hE.out.push o b)
  clear o b
  rw [← HL.out] at hE ⊢
  go_wp2_with fail
  refine (readSave_specE HU.out HV.out HOK.out (hE.out.arg HX.out) (by omega) l1).mono ?_
  rintro e w' ⟨A', c', rfl, o, b⟩
  replace hE := Lib.hid (hE.out.push o b)
  clear o b
  rw [← HL.out] at hE ⊢
  go_wp2_with (first | (go_at_call 23; refine (sameInts_same _ _ _ _ _ _ _ (hE.out.ints 1 rfl) (hE.out.ints 0 rfl) (by omega)).mono ?_; rintro e w6 ⟨rfl, b⟩; replace hE := Lib.hid (hE.out.below b); clear b) | (at_builtin; refine push_list _ rfl _ _ rfl w6.heap.size 0 0 xs.length k w1.heap.size _ _ [] xs rfl rfl (World.ownsRow_lit w6 #[] 0 (Nat.le_refl _) (by simp [maxLen]) rfl) (HX.out.below (hE.out.bel.alloc hE.out.bel.size _)) HL2.out (by omega) (by simp) ?_; intro A3 c3 w3 hown3 hb3; simp only [Nat.zero_add, List.nil_append] at hown3 ⊢; obtain ⟨gb, cp, ev, gb0, gb1⟩ := hown3.form (by omega); injection ev with ev _ e3; subst ev e3; have hcell := (hown3.cellAt (L + 3) (by omega)).trans (iv_getD (by omega)); rw [← HZ.out] at hcell; have hfz := hown3.frozenAt (L + 3); have hb3 := Lib.hid (((Below.refl w6.heap.size w6).alloc (Nat.le_refl _) _).trans hb3); replace hown3 := Lib.hid hown3))
  have hst := hown3.out.stored (L + 3) (.int .i64 ((z + 1) % 256))
  rw [iv_set] at hst
  replace hE := Lib.hid (hE.out.push hst.1 (hb3.out.grown hst.2 hb3.out.size (by intro k hk; injection hk with hk; omega)))
  clear hst hcell hfz
  go_wp2_with fail
  refine (readSave_implE HBD'.out.1 HBD'.out.2 HBD.out (hE.out.ints 0 rfl) (by omega) (hE.out.cap 0 rfl)).mono ?_
  rintro e w' ⟨A', c', rfl, o, b⟩
  replace hE := Lib.hid (hE.out.push o b)
  clear o b
  go_wp2_with fail
  go_region_held3 (fun _ => True) (trivial) ((first | (go_at_call 14; refine (saveBytes_implE HT.out (hE.out.drew.ints 3 rfl) (by omega) (hE.out.nil_ 3 rfl)).mono ?_; rintro e w5 ⟨A5, c5, rfl, o5, b5⟩; rw [HTL.out] at o5 ⊢; replace hE := Lib.hid (hE.out.drew.push o5 b5); clear o5 b5) | (go_at_call 23; refine (sameInts_same _ _ _ _ _ _ _ (hE.out.ints 0 rfl) (HTT.out ▸ (hE.out.arg HX.out).take hlx) (by omega)).mono ?_; rintro e w7 ⟨rfl, b⟩; replace hE := Lib.hid (hE.out.below b); clear b)))
  go_wp2_with fail
  go_ret
  exact ⟨rfl, HB.out.trans (hE.out.bel.mono hw1)⟩
end Go.Proofs.Ytgmcbpnnololmaa
