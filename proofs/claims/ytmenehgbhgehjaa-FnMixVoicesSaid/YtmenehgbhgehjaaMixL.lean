/-
  The drawn law on mixed channels: plain lemmas and its walk. No condition.
-/
import Derived.Test.YtmenehgbhgehjaaVoL
namespace Go.Proofs.Ytmenehgbhgehjaa
open Go.RowKit
set_option linter.unusedVariables false
set_option linter.unusedSimpArgs false
section
variable {o : Oper} {a : Act} {w : World} {K : Act → World → Prop} {Q : Exit → Act → World → Prop}
theorem ob_eqlI (x y : Operand) {u v : Int} (ho : o.op = .binOp .eql 3 x y 3) (hx : a.eval x = .int .i64 u) (hy : a.eval y = .int .i64 v) (he : u = v) (h : K (a.put o.dst (.bool true)) w) : o.wp Try.prog a w K Q := by
  subst he
  have hr : (binOp .eql 3 (.int .i64 u) (.int .i64 u)).run Try.prog w = .ok (.bool true) w := by simp [go_sem]
  have hq : (eqGuard .eql 3 x y (.int .i64 u) (.int .i64 u)).run Try.prog w = .ok () w := by simp [eqGuard, go_sem]
  unfold Oper.wp execOp
  simp only [ho, hx, hy, hr, hq, Sem.run_bind, Sem.run_pure, Result.andThen_ok]
  exact h
theorem ob_makeB (l c : Operand) {n : Nat} (ho : o.op = Op.makeSlice 30 l c) (hl : a.eval l = .int .i64 (n : Int)) (hc : a.eval c = .int .i64 (n : Int)) (hn : n ≤ 1000000000) (base : Nat) (hb : base ≤ w.heap.size)
    (h : ∀ w', w'.ownsRow base 3 1 (.slice (some ⟨w.heap.size, 0, none⟩) n n) n (iv (List.replicate n 0)) → Below w.heap.size w w' → K (a.put o.dst (.slice (some ⟨w.heap.size, 0, none⟩) n n)) w') : o.wp Try.prog a w K Q := by
  obtain ⟨i0, hi0, hz0, hz1, hz2⟩ := info_parts int_info
  obtain ⟨w', hrun, r1, r2⟩ := run_make_full (P := Try.prog) w base 30 3 i0 (.int .i64 0) 1 Try.underlying30 hi0 hz0 hz1 .i64 .i64 n (by rw [hz2]; omega) (by simp only [maxLen]; omega) hb
  have e : (madeCells (Value.int .i64 0).cells (n * 1)).toList = iv (List.replicate n 0) := by
    rw [Nat.mul_one]
    show (madeCells #[Value.int .i64 0] n).toList = _
    rw [toList_madeCells_one]
    simp [iv]
  rw [e] at r1
  unfold Oper.wp
  simp [execOp, ho, hl, hc, hrun, Result.andThen]
  exact h w' r1 (below_of_grown r2 (Nat.le_refl _) (by intro k hk; cases hk))
end
def RowB (base n : Nat) (xs : List Int) (w : World) (v : Value) : Prop := ∃ A c, v = .slice A n c ∧ w.ownsRow base 3 1 (.slice A n c) n (iv xs)
theorem st_rowB (base n : Nat) (xs : List Int) : Stable none (RowB base n xs) := by
  rintro w w' v hg ⟨A, c, rfl, o⟩
  refine ⟨A, c, rfl, o.kept hg ?_⟩
  rcases hu : (Value.slice A n c).ownBlock with _ | k
  · exact .inl rfl
  · exact .inr (by simp)
theorem mixS_split (N k : Nat) (ts us : List TVoice) (hk : k < N) : (mixS N (ts ++ us)).getD k 0 = (mixS N ts).getD k 0 + (mixS N us).getD k 0 := by
  rw [mixS_get _ hk, mixS_get _ hk, mixS_get _ hk, List.map_append, List.sum_append]
theorem mixS_nil (N : Nat) : mixS N [] = List.replicate N 0 := by simp [mixS, List.map_const']
theorem mix_ok {ts : List TVoice} {N : Nat} (h : mixB ts (N : Int) = true) : N ≤ 400 ∧ ts.length ≤ 4 ∧ (∀ t ∈ ts, vvB (voOf t) = true) ∧ mixR ts N = mixS N ts := by
  have h' := h
  simp only [mixB, Bool.and_eq_true, inB_iff, decide_eq_true_eq] at h'
  exact ⟨by omega, h'.1.1, fun t ht => List.all_eq_true.1 h'.2 t ht, mixR_good h⟩
theorem mix_of {ts : List TVoice} {N : Nat} (h0 : N ≤ 400) (h1 : ts.length ≤ 4) (h2 : ∀ t ∈ ts, vvB (voOf t) = true) : mixR ts (N : Int) = mixS N ts := by
  refine mixR_good ?_
  simp only [mixB, Bool.and_eq_true, inB_iff, decide_eq_true_eq]
  exact ⟨⟨h1, by omega⟩, List.all_eq_true.2 h2⟩
theorem mix_none {ts : List TVoice} {n : Int} (h : mixR ts n ≠ []) : ∃ N : Nat, n = N ∧ mixB ts (N : Int) = true := by
  cases hb : mixB ts n
  · exact absurd (mixR_bad hb) h
  · have h' := hb
    simp only [mixB, Bool.and_eq_true, inB_iff] at h'
    obtain ⟨N, rfl⟩ := Int.eq_ofNat_of_zero_le h'.1.2.1
    exact ⟨N, rfl, hb⟩
def GiveI (L : Nat) (xs : List Int) (w : World) (e : Ending) (w' : World) : Prop := ∃ A c, e = .returned (.slice A L c) ∧ w'.ownsRow w.heap.size 3 1 (.slice A L c) L (iv xs) ∧ Below w.heap.size w w'
theorem mixVoices_implE {ts : List TVoice} {n : Int} {L0 : Nat} {xs : List Int} (hx : mixR ts n = xs) (hL0 : xs.length = L0) (A : Option Addr) (L c : Nat) (w : World) (h : Reads w w.heap.size 5 A L (iv (flVoice ts))) (hL : L ≤ 1000000000) :
    Calls Try.prog 31 #[.slice A L c, .int .i64 n] w (GiveI L0 xs w) := by subst hx; subst hL0; exact mixVoices_impl A L c ts n w h hL
theorem mix_nilB {n : Int} {L0 base : Nat} {xs : List Int} (hx : mixR [] n = xs) (hL0 : xs.length = L0) {w' : World} {b : Value} (hbase : base ≤ w'.heap.size) (hb : IntIn n n w' b) :
    Calls Try.prog 31 #[.slice none 0 0, b] w' fun e w2 => ∃ v, e = .returned v ∧ RowB base L0 xs w2 v ∧ Below w'.heap.size w' w2 := by
  obtain ⟨y, rfl, y0, y1⟩ := hb
  obtain rfl : y = n := by omega
  refine (mixVoices_implE hx hL0 none 0 0 w' ⟨rfl, fun h => absurd h (by omega)⟩ (by omega)).mono ?_
  rintro e w2 ⟨A, c, rfl, o, b⟩
  exact ⟨_, rfl, ⟨A, c, rfl, own_base o hbase⟩, b⟩
theorem mixVoices_specE {ts : List TVoice} {n : Int} {L0 : Nat} {xs : List Int} (hx : mixR ts n = xs) (hL0 : xs.length = L0) (A : Option Addr) (L c : Nat) (w : World) (h : Reads w w.heap.size 5 A L (iv (flVoice ts))) (hL : L ≤ 1000000000) :
    Calls Try.prog 32 #[.slice A L c, .int .i64 n] w (GiveI L0 xs w) := by subst hx; subst hL0; exact mixVoices_spec A L c ts n w h hL
theorem same_rowB {base n : Nat} {xs : List Int} {w' : World} {a b : Value} (hn : n ≤ 1000000) (ha : RowB base n xs w' a) (hb : RowB base n xs w' b) :
    Calls Try.prog 29 #[a, b] w' fun e w2 => ∃ v, e = .returned v ∧ IsVal (.bool true) w2 v ∧ Below w'.heap.size w' w2 := by
  obtain ⟨A, c, rfl, o⟩ := ha
  obtain ⟨B, d, rfl, o2⟩ := hb
  exact (sameInts_same _ _ _ _ _ _ _ (own_ints o) (own_ints o2) (by omega)).mono fun e w2 ⟨h1, h2⟩ => ⟨_, h1, rfl, h2⟩
theorem flVoice_drop : ∀ (ts : List TVoice) (k : Nat), flVoice (ts.drop k) = (flVoice ts).drop (k * 5)
  | [], k => by simp [flVoice]
  | t :: ts, 0 => by simp
  | t :: ts, k + 1 => by
    rw [show (k + 1) * 5 = k * 5 + 1 + 1 + 1 + 1 + 1 by omega]
    simp only [List.drop_succ_cons, flVoice, flVoice_drop ts k]
theorem voice_dropR {w : World} {B n k cap : Nat} {A : Option Addr} {ts : List TVoice} (h : Reads w B 5 A n (iv (flVoice ts))) (hk : k ≤ n) (hc : n ≤ cap) : Reads w B 5 (if cap = k then A else A.map (·.add (k * 5))) (n - k) (iv (flVoice (ts.drop k))) := by
  have := Reads.cut h hk hc
  rwa [iv_drop, ← flVoice_drop] at this
set_option maxHeartbeats 1000000 in
theorem fnMixVoices_walk (w : World) (A : Option Addr) (n c : Nat) (zs : List Int) (h : IsRow .u8 w A n c zs) :
    Calls Try.prog 7 #[.slice A n c] w fun e w' => e = .returned (.bool true) ∧ Below w.heap.size w w' := by
  by_cases hlong : 1048576 < n
  · go_enter Try.func7, Try.ntmps7
    go_wp2_with fail
    go_ret
    exact ⟨rfl, Below.refl _ _⟩
  have HI := Lib.hid h
  clear h
  go_enter Try.func7, Try.ntmps7
  go_wp2_with fail
  refine (drawMixVoices_any A n c zs _ HI.out).mono ?_
  rintro e w1 ⟨B, cB, ts, N, rfl, ⟨hcap, hnil⟩, hx, hl, ⟨N0, N1⟩, hb⟩
  have HX := Lib.hid hx
  have HB := Lib.hid hb
  have hw1 := hb.size
  have hE := Lib.hid (Env.start w1)
  clear hx hb
  have hrl := mixR_len ts N
  by_cases hz : mixR ts N = []
  · replace hz := Lib.hid hz
    go_wp2_with fail
    refine (mixVoices_implE hz.out rfl B ts.length cB _ (hE.out.argR HX.out) (by omega)).mono ?_
    rintro e w' ⟨A', c', rfl, o, b⟩
    replace hE := Lib.hid (hE.out.push o b)
    clear o b
    go_wp2_with fail
    refine (mixVoices_specE hz.out rfl B ts.length cB _ (hE.out.argR HX.out) (by omega)).mono ?_
    rintro e w' ⟨A', c', rfl, o, b⟩
    replace hE := Lib.hid (hE.out.push o b)
    clear o b
    go_wp2_with fail
    refine (sameInts_same _ _ _ _ _ _ _ (hE.out.ints 1 rfl) (hE.out.ints 0 rfl) (by first | omega | simp)).mono ?_
    rintro e w' ⟨rfl, b⟩
    replace hE := Lib.hid (hE.out.below b)
    clear b
    go_wp2_with (go_at_call 19; refine (alive_any _).mono ?_; rintro e w' ⟨rfl, rfl⟩)
    go_ret
    exact ⟨rfl, HB.out.trans (hE.out.bel.mono hw1)⟩
  obtain ⟨J0, rfl, hok⟩ := mix_none hz
  obtain ⟨hJ, h4, hval, hmix⟩ := mix_ok hok
  obtain ⟨xs, hxs⟩ : ∃ xs, xs = mixS J0 ts := ⟨_, rfl⟩
  have hxl : xs.length = J0 := by rw [hxs, mixS_len]
  have hJ1 : 1 ≤ J0 := by
    rcases Nat.eq_zero_or_pos J0 with h0 | h0
    · rw [hmix, ← hxs] at hz
      exact absurd (List.length_eq_zero_iff.1 (hxl.trans h0)) hz
    · exact h0
  have hm0 := Lib.hid (hmix.trans hxs.symm)
  have hhalf : ts.length / 2 ≤ ts.length := by omega
  obtain ⟨ys, hys⟩ : ∃ ys, ys = mixS J0 (ts.take (ts.length / 2)) := ⟨_, rfl⟩
  obtain ⟨us, hus⟩ : ∃ us, us = mixS J0 (ts.drop (ts.length / 2)) := ⟨_, rfl⟩
  have hyl : ys.length = J0 := by rw [hys, mixS_len]
  have hul : us.length = J0 := by rw [hus, mixS_len]
  have hm1 := Lib.hid ((mix_of hJ (by rw [List.length_take]; omega) (fun t ht => hval t (List.mem_of_mem_take ht)) : mixR (ts.take (ts.length / 2)) (J0 : Int) = _).trans hys.symm)
  have hm2 := Lib.hid ((mix_of hJ (by rw [List.length_drop]; omega) (fun t ht => hval t (List.mem_of_mem_drop ht)) : mixR (ts.drop (ts.length / 2)) (J0 : Int) = _).trans hus.symm)
  have hsum := Lib.hid (fun (k : Nat) (hk : k < J0) => (by rw [hxs, hys, hus, ← mixS_split J0 k _ _ hk, List.take_append_drop] : xs.getD k 0 = ys.getD k 0 + us.getD k 0))
  have hbd := Lib.hid (fun (k : Nat) (hk : k < J0) => (by rw [hxs]; exact mix_bd hval hk : 0 ≤ xs.getD k 0 ∧ xs.getD k 0 ≤ 15 * (ts.length : Int)))
  have hbd2 := Lib.hid (fun (k : Nat) (hk : k < J0) => (by rw [hys]; exact mix_bd (fun t ht => hval t (List.mem_of_mem_take ht)) hk : 0 ≤ ys.getD k 0 ∧ ys.getD k 0 ≤ 15 * ((ts.take (ts.length / 2)).length : Int)))
  have hnl := Lib.hid ((mix_of hJ (by simp) (by simp) : mixR [] (J0 : Int) = mixS J0 []).trans (mixS_nil J0))
  have hbz : ((J0 : Int) == 0) = false := by simp; omega
  have hd1 : (ts.length : Int) / 2 = ((ts.length / 2 : Nat) : Int) := by omega
  have d1 : ((ts.length : Int) / 2).toNat = ts.length / 2 := by omega
  have d2 : (0 : Int) ≤ (ts.length : Int) / 2 := by omega
  have d3 : (ts.length : Int) / 2 ≤ (cB : Int) := by omega
  have d4 : (ts.length : Int) / 2 ≤ (ts.length : Int) := by omega
  have HD1 := Lib.hid hd1
  clear hok hval hmix hz hxs hys hus hrl hd1
  go_wp2_with fail
  refine (mixVoices_implE hm0.out hxl B ts.length cB _ (hE.out.argR HX.out) (by omega)).mono ?_
  rintro e w2 ⟨A1, c1, rfl, o, b⟩
  replace hE := Lib.hid (hE.out.push o b)
  clear o b
  go_wp2_with fail
  refine (mixVoices_specE hm0.out hxl B ts.length cB _ (hE.out.argR HX.out) (by omega)).mono ?_
  rintro e w' ⟨A', c', rfl, o, b⟩
  replace hE := Lib.hid (hE.out.push o b)
  clear o b
  go_wp2_with fail
  refine (sameInts_same _ _ _ _ _ _ _ (hE.out.ints 1 rfl) (hE.out.ints 0 rfl) (by first | omega | simp)).mono ?_
  rintro e w' ⟨rfl, b⟩
  replace hE := Lib.hid (hE.out.below b)
  clear b
  go_wp2_with fail
  refine (mixVoices_implE hm1.out hyl B _ cB _ (voice_take (hE.out.argR HX.out) hhalf) (by omega)).mono ?_
  rintro e w' ⟨A', c', rfl, o, b⟩
  replace hE := Lib.hid (hE.out.push o b)
  clear o b
  have hdr := voice_dropR HX.out hhalf hcap
  by_cases hcc : cB = ts.length / 2
  · rw [if_pos hcc] at hdr
    replace hdr := Lib.hid hdr
    go_wp2_with fail
    all_goals first | (exfalso; omega) | skip
    refine (mixVoices_implE hm2.out hul _ _ _ _ (hE.out.argR hdr.out) (by omega)).mono ?_
    rintro e w5 ⟨A5, c5, rfl, o, b⟩
    replace hE := Lib.hid (hE.out.push o b)
    clear o b
    go_wp2_with fail
    go_loopw [9] (fun i wr => ∃ k : Nat, k ≤ J0 ∧ i = .int .i64 k ∧ ∃ q, wr = w5.drewN q) (fun i _ => J0 - (intOf i).toNat)
    case atStart => exact ⟨0, Nat.zero_le _, rfl, 0, rfl⟩
    case round =>
      obtain ⟨k, hk, rfl, q, rfl⟩ := hrel
      by_cases hlt : k < J0
      · obtain ⟨b0, o0, e0, _, z0⟩ := (hE.out.ints 3 rfl).spot hlt
        obtain ⟨b1, o1, e1, _, z1⟩ := (hE.out.ints 1 rfl).spot hlt
        obtain ⟨b2, o2, e2, _, z2⟩ := (hE.out.ints 0 rfl).spot hlt
        have hs := hsum.out k hlt
        have hb := hbd.out k hlt
        have hb2 := hbd2.out k hlt
        rw [hs] at z0 hb
        generalize ys.getD k 0 = y at z0 z1 hb hb2
        generalize us.getD k 0 = u at z0 z2 hb
        have q0 : (0 : Int) ≤ (k : Int) := by omega
        have q1 : (k : Int) < (J0 : Int) := by omega
        obtain ⟨X, hX⟩ : ∃ X, X = y + u := ⟨_, rfl⟩
        rw [← hX] at z0 hb
        have w1' : IntKind.i64.wrap (y + u) = X := by rw [IntWalk.i64_in _ (by omega), hX]
        have w2' : y + u = X := hX.symm
        have w3' : IntKind.i64.wrap X = X := IntWalk.i64_in _ (by omega)
        have hXX : (X != X) = false := by simp
        have g1 : decide (X > 15 * (ts.length : Int)) = false := decide_eq_false (by omega)
        have e0 := Lib.hid e0
        have e1 := Lib.hid e1
        have e2 := Lib.hid e2
        clear hX hs hb hb2
        rw [e0.out, e1.out, e2.out]
        go_wp2_with fail
        go_quiet (fail)
        go_wp2_with fail
        go_roundw
        case rel => exact ⟨k + 1, by omega, by go_num, _, by first | rfl | simp⟩
        case measure => simp [intOf]; omega
      · obtain rfl : k = J0 := by omega
        obtain ⟨W, hW⟩ : ∃ W, W = w5.drewN q := ⟨_, rfl⟩
        replace hE := Lib.hid (show Env w1 W _ by rw [hW]; exact hE.out.below (below_drewN (Below.refl _ _) q))
        go_upto_region 17 with (fail)
        rw [← hW]
        have hrep : (List.replicate k (0 : Int)).length = k := by simp
        refine region_list none (IntIn ((k : Int)) ((k : Int)) :: RowB W.heap.size k (List.replicate k 0) :: IntIn ((k : Int)) ((k : Int)) :: RowB W.heap.size k (List.replicate k 0) :: IsVal (.bool true) :: IsVal (.bool true) :: IsVal (.slice A1 k c1) :: IntIn ((k : Int)) ((k : Int)) :: IntIn ((k : Int)) ((k : Int)) :: IsVal (.bool true) :: IsVal (.bool true) :: IsVal (.bool true) :: []) (fun _ w' => Below (W).heap.size (W) w') ?_ ?_ ?_ ?_ ?_ ?_ ?_
        · kernel_rfl
        · exact ⟨(fun _ _ _ _ h => h), st_rowB _ _ _, (fun _ _ _ _ h => h), st_rowB _ _ _, (fun _ _ _ _ h => h), (fun _ _ _ _ h => h), (fun _ _ _ _ h => h), (fun _ _ _ _ h => h), (fun _ _ _ _ h => h), (fun _ _ _ _ h => h), (fun _ _ _ _ h => h), (fun _ _ _ _ h => h), trivial⟩
        · exact of_decide_eq_true (by kernel_rfl)
        · kernel_rfl
        · exact (Below.refl _ _).drew
        · refine each_cons ?_ (each_cons ?_ (each_cons ?_ (each_cons ?_ (each_cons ?_ (each_cons ?_ (each_cons ?_ (each_cons ?_ (each_cons ?_ (each_cons ?_ (each_cons ?_ (each_cons ?_ ( trivial))))))))))))
          · intro n vs aa w' haa hJ hd K hK
            refine ob_plain rfl ?_
            refine ob_move _ (v := .int .i64 ((k : Int))) rfl (ev_of haa (by kernel_rfl)) ?_
            refine hK _ _ ?_ (World.grownBy.refl _ _) hJ
            show (IntIn ((k : Int)) ((k : Int))) w' _
            exact ⟨_, rfl, Int.le_refl _, Int.le_refl _⟩
          · intro n vs aa w' haa hJ hd K hK
            refine ob_plain rfl ?_
            have d0 : (IntIn ((k : Int)) ((k : Int))) w' (vs 0) := hd.1 rfl
            refine ob_call 31 _ _ #[.slice none 0 0, vs 0] rfl (evs_of haa (by kernel_rfl)) (fun _ _ => by kernel_rfl) ?_
            refine (mix_nilB hnl.out hrep hJ.size d0).mono ?_
            rintro e w2 ⟨v, rfl, hv, hb2⟩
            refine ⟨_, rfl, ?_⟩
            refine hK _ _ ?_ (grown_of_below hb2 _) (below_step hJ hb2 hJ.size)
            show (RowB W.heap.size k (List.replicate k 0)) w2 _
            exact hv
          · intro n vs aa w' haa hJ hd K hK
            refine ob_plain rfl ?_
            refine ob_move _ (v := .int .i64 ((k : Int))) rfl (ev_of haa (by kernel_rfl)) ?_
            refine hK _ _ ?_ (World.grownBy.refl _ _) hJ
            show (IntIn ((k : Int)) ((k : Int))) w' _
            exact ⟨_, rfl, Int.le_refl _, Int.le_refl _⟩
          · intro n vs aa w' haa hJ hd K hK
            refine ob_plain rfl ?_
            have d2 : (IntIn ((k : Int)) ((k : Int))) w' (vs 2) := hd.1 rfl
            obtain ⟨x2, e2, l2, u2⟩ := d2
            obtain rfl : x2 = (k : Int) := by omega
            refine ob_makeB _ _ rfl (Eq.trans (b := vs 2) (ev_of haa (by kernel_rfl)) e2) (Eq.trans (b := vs 2) (ev_of haa (by kernel_rfl)) e2) (by omega) ((W).heap.size) hJ.size ?_
            intro w2 ho2 hb2
            refine hK _ _ ?_ (grown_of_below hb2 _) (below_step hJ hb2 hJ.size)
            show (RowB W.heap.size k (List.replicate k 0)) w2 _
            exact ⟨_, _, rfl, ho2⟩
          · intro n vs aa w' haa hJ hd K hK
            refine ob_plain rfl ?_
            have d1 : (RowB W.heap.size k (List.replicate k 0)) w' (vs 1) := hd.1 rfl
            have d3 : (RowB W.heap.size k (List.replicate k 0)) w' (vs 3) := hd.2.1 rfl
            refine ob_call 29 _ _ #[vs 1, vs 3] rfl (evs_of haa (by kernel_rfl)) (fun _ _ => by kernel_rfl) ?_
            refine (same_rowB (by omega) d1 d3).mono ?_
            rintro e w2 ⟨v, rfl, hv, hb2⟩
            refine ⟨_, rfl, ?_⟩
            refine hK _ _ ?_ (grown_of_below hb2 _) (below_step hJ hb2 hJ.size)
            show (IsVal (.bool true)) w2 _
            exact hv
          · intro n vs aa w' haa hJ hd K hK
            refine ob_plain rfl ?_
            have d4 : (IsVal (.bool true)) w' (vs 4) := hd.1 rfl
            refine ob_move _ (v := vs 4) rfl (ev_of haa (by kernel_rfl)) ?_
            refine hK _ _ ?_ (World.grownBy.refl _ _) hJ
            show (IsVal (.bool true)) w' _
            exact d4
          · intro n vs aa w' haa hJ hd K hK
            refine ob_guarded (v := vs 5) rfl rfl (ev_of haa (by kernel_rfl)) (hd.1 rfl) ?_
            refine ob_move _ (v := .slice A1 k c1) rfl (ev_of haa (by kernel_rfl)) ?_
            refine hK _ _ ?_ (World.grownBy.refl _ _) hJ
            show (IsVal (.slice A1 k c1)) w' _
            exact rfl
          · intro n vs aa w' haa hJ hd K hK
            refine ob_guarded (v := vs 5) rfl rfl (ev_of haa (by kernel_rfl)) (hd.2.1 rfl) ?_
            have d6 : (IsVal (.slice A1 k c1)) w' (vs 6) := hd.1 rfl
            have e6 := d6
            refine ob_len _ _ (by simp) rfl (Eq.trans (b := vs 6) (ev_of haa (by kernel_rfl)) e6) ?_
            refine hK _ _ ?_ (World.grownBy.refl _ _) hJ
            show (IntIn ((k : Int)) ((k : Int))) w' _
            exact ⟨_, rfl, Int.le_refl _, Int.le_refl _⟩
          · intro n vs aa w' haa hJ hd K hK
            refine ob_guarded (v := vs 5) rfl rfl (ev_of haa (by kernel_rfl)) (hd.1 rfl) ?_
            refine ob_move _ (v := .int .i64 ((k : Int))) rfl (ev_of haa (by kernel_rfl)) ?_
            refine hK _ _ ?_ (World.grownBy.refl _ _) hJ
            show (IntIn ((k : Int)) ((k : Int))) w' _
            exact ⟨_, rfl, Int.le_refl _, Int.le_refl _⟩
          · intro n vs aa w' haa hJ hd K hK
            refine ob_guarded (v := vs 5) rfl rfl (ev_of haa (by kernel_rfl)) (hd.2.2.1 rfl) ?_
            have d7 : (IntIn ((k : Int)) ((k : Int))) w' (vs 7) := hd.1 rfl
            obtain ⟨x7, e7, l7, u7⟩ := d7
            have d8 : (IntIn ((k : Int)) ((k : Int))) w' (vs 8) := hd.2.1 rfl
            obtain ⟨x8, e8, l8, u8⟩ := d8
            refine ob_eqlI _ _ (u := x7) (v := x8) rfl (Eq.trans (b := vs 7) (ev_of haa (by kernel_rfl)) e7) (Eq.trans (b := vs 8) (ev_of haa (by kernel_rfl)) e8) (by omega) ?_
            refine hK _ _ ?_ (World.grownBy.refl _ _) hJ
            show (IsVal (.bool true)) w' _
            exact rfl
          · intro n vs aa w' haa hJ hd K hK
            refine ob_plain rfl ?_
            have d5 : (IsVal (.bool true)) w' (vs 5) := hd.1 rfl
            have e5 := d5
            have d9 : (IsVal (.bool true)) w' (vs 9) := hd.2.1 rfl
            have e9 := d9
            refine ob_pickT _ _ _ (v := .bool true) rfl (Eq.trans (b := vs 5) (ev_of haa (by kernel_rfl)) e5) (Eq.trans (b := vs 9) (ev_of haa (by kernel_rfl)) e9) ?_
            refine hK _ _ ?_ (World.grownBy.refl _ _) hJ
            show (IsVal (.bool true)) w' _
            exact rfl
          · intro n vs aa w' haa hJ hd K hK
            refine ob_plain rfl ?_
            have d10 : (IsVal (.bool true)) w' (vs 10) := hd.1 rfl
            refine ob_assign _ (v := vs 10) rfl (ev_of haa (by kernel_rfl)) ?_
            refine hK _ _ ?_ (World.grownBy.refl _ _) hJ
            show (IsVal (.bool true)) w' _
            exact d10
        intro vs w' hJ hall
        have hx : vs 11 = .bool true := hall 11 (by decide)
        clear hall
        replace hE := Lib.hid (hE.out.below hJ)
        clear hJ
        simp only [fill, Act.put, List.toList_toArray, List.setIfInBounds_toArray, List.set_cons_zero, List.set_cons_succ, Nat.zero_add, Nat.reduceAdd, hx]
        go_wp2_with fail
        go_ret
        exact ⟨rfl, HB.out.trans (hE.out.bel.mono hw1)⟩
  · rw [if_neg hcc] at hdr
    replace hdr := Lib.hid hdr
    go_wp2_with fail
    all_goals first | (exfalso; omega) | skip
    refine (mixVoices_implE hm2.out hul _ _ _ _ (hE.out.argR hdr.out) (by omega)).mono ?_
    rintro e w5 ⟨A5, c5, rfl, o, b⟩
    replace hE := Lib.hid (hE.out.push o b)
    clear o b
    go_wp2_with fail
    go_loopw [9] (fun i wr => ∃ k : Nat, k ≤ J0 ∧ i = .int .i64 k ∧ ∃ q, wr = w5.drewN q) (fun i _ => J0 - (intOf i).toNat)
    case atStart => exact ⟨0, Nat.zero_le _, rfl, 0, rfl⟩
    case round =>
      obtain ⟨k, hk, rfl, q, rfl⟩ := hrel
      by_cases hlt : k < J0
      · obtain ⟨b0, o0, e0, _, z0⟩ := (hE.out.ints 3 rfl).spot hlt
        obtain ⟨b1, o1, e1, _, z1⟩ := (hE.out.ints 1 rfl).spot hlt
        obtain ⟨b2, o2, e2, _, z2⟩ := (hE.out.ints 0 rfl).spot hlt
        have hs := hsum.out k hlt
        have hb := hbd.out k hlt
        have hb2 := hbd2.out k hlt
        rw [hs] at z0 hb
        generalize ys.getD k 0 = y at z0 z1 hb hb2
        generalize us.getD k 0 = u at z0 z2 hb
        have q0 : (0 : Int) ≤ (k : Int) := by omega
        have q1 : (k : Int) < (J0 : Int) := by omega
        obtain ⟨X, hX⟩ : ∃ X, X = y + u := ⟨_, rfl⟩
        rw [← hX] at z0 hb
        have w1' : IntKind.i64.wrap (y + u) = X := by rw [IntWalk.i64_in _ (by omega), hX]
        have w2' : y + u = X := hX.symm
        have w3' : IntKind.i64.wrap X = X := IntWalk.i64_in _ (by omega)
        have hXX : (X != X) = false := by simp
        have g1 : decide (X > 15 * (ts.length : Int)) = false := decide_eq_false (by omega)
        have e0 := Lib.hid e0
        have e1 := Lib.hid e1
        have e2 := Lib.hid e2
        clear hX hs hb hb2
        rw [e0.out, e1.out, e2.out]
        go_wp2_with fail
        go_quiet (fail)
        go_wp2_with fail
        go_roundw
        case rel => exact ⟨k + 1, by omega, by go_num, _, by first | rfl | simp⟩
        case measure => simp [intOf]; omega
      · obtain rfl : k = J0 := by omega
        obtain ⟨W, hW⟩ : ∃ W, W = w5.drewN q := ⟨_, rfl⟩
        replace hE := Lib.hid (show Env w1 W _ by rw [hW]; exact hE.out.below (below_drewN (Below.refl _ _) q))
        go_upto_region 17 with (fail)
        rw [← hW]
        have hrep : (List.replicate k (0 : Int)).length = k := by simp
        refine region_list none (IntIn ((k : Int)) ((k : Int)) :: RowB W.heap.size k (List.replicate k 0) :: IntIn ((k : Int)) ((k : Int)) :: RowB W.heap.size k (List.replicate k 0) :: IsVal (.bool true) :: IsVal (.bool true) :: IsVal (.slice A1 k c1) :: IntIn ((k : Int)) ((k : Int)) :: IntIn ((k : Int)) ((k : Int)) :: IsVal (.bool true) :: IsVal (.bool true) :: IsVal (.bool true) :: []) (fun _ w' => Below (W).heap.size (W) w') ?_ ?_ ?_ ?_ ?_ ?_ ?_
        · kernel_rfl
        · exact ⟨(fun _ _ _ _ h => h), st_rowB _ _ _, (fun _ _ _ _ h => h), st_rowB _ _ _, (fun _ _ _ _ h => h), (fun _ _ _ _ h => h), (fun _ _ _ _ h => h), (fun _ _ _ _ h => h), (fun _ _ _ _ h => h), (fun _ _ _ _ h => h), (fun _ _ _ _ h => h), (fun _ _ _ _ h => h), trivial⟩
        · exact of_decide_eq_true (by kernel_rfl)
        · kernel_rfl
        · exact (Below.refl _ _).drew
        · refine each_cons ?_ (each_cons ?_ (each_cons ?_ (each_cons ?_ (each_cons ?_ (each_cons ?_ (each_cons ?_ (each_cons ?_ (each_cons ?_ (each_cons ?_ (each_cons ?_ (each_cons ?_ ( trivial))))))))))))
          · intro n vs aa w' haa hJ hd K hK
            refine ob_plain rfl ?_
            refine ob_move _ (v := .int .i64 ((k : Int))) rfl (ev_of haa (by kernel_rfl)) ?_
            refine hK _ _ ?_ (World.grownBy.refl _ _) hJ
            show (IntIn ((k : Int)) ((k : Int))) w' _
            exact ⟨_, rfl, Int.le_refl _, Int.le_refl _⟩
          · intro n vs aa w' haa hJ hd K hK
            refine ob_plain rfl ?_
            have d0 : (IntIn ((k : Int)) ((k : Int))) w' (vs 0) := hd.1 rfl
            refine ob_call 31 _ _ #[.slice none 0 0, vs 0] rfl (evs_of haa (by kernel_rfl)) (fun _ _ => by kernel_rfl) ?_
            refine (mix_nilB hnl.out hrep hJ.size d0).mono ?_
            rintro e w2 ⟨v, rfl, hv, hb2⟩
            refine ⟨_, rfl, ?_⟩
            refine hK _ _ ?_ (grown_of_below hb2 _) (below_step hJ hb2 hJ.size)
            show (RowB W.heap.size k (List.replicate k 0)) w2 _
            exact hv
          · intro n vs aa w' haa hJ hd K hK
            refine ob_plain rfl ?_
            refine ob_move _ (v := .int .i64 ((k : Int))) rfl (ev_of haa (by kernel_rfl)) ?_
            refine hK _ _ ?_ (World.grownBy.refl _ _) hJ
            show (IntIn ((k : Int)) ((k : Int))) w' _
            exact ⟨_, rfl, Int.le_refl _, Int.le_refl _⟩
          · intro n vs aa w' haa hJ hd K hK
            refine ob_plain rfl ?_
            have d2 : (IntIn ((k : Int)) ((k : Int))) w' (vs 2) := hd.1 rfl
            obtain ⟨x2, e2, l2, u2⟩ := d2
            obtain rfl : x2 = (k : Int) := by omega
            refine ob_makeB _ _ rfl (Eq.trans (b := vs 2) (ev_of haa (by kernel_rfl)) e2) (Eq.trans (b := vs 2) (ev_of haa (by kernel_rfl)) e2) (by omega) ((W).heap.size) hJ.size ?_
            intro w2 ho2 hb2
            refine hK _ _ ?_ (grown_of_below hb2 _) (below_step hJ hb2 hJ.size)
            show (RowB W.heap.size k (List.replicate k 0)) w2 _
            exact ⟨_, _, rfl, ho2⟩
          · intro n vs aa w' haa hJ hd K hK
            refine ob_plain rfl ?_
            have d1 : (RowB W.heap.size k (List.replicate k 0)) w' (vs 1) := hd.1 rfl
            have d3 : (RowB W.heap.size k (List.replicate k 0)) w' (vs 3) := hd.2.1 rfl
            refine ob_call 29 _ _ #[vs 1, vs 3] rfl (evs_of haa (by kernel_rfl)) (fun _ _ => by kernel_rfl) ?_
            refine (same_rowB (by omega) d1 d3).mono ?_
            rintro e w2 ⟨v, rfl, hv, hb2⟩
            refine ⟨_, rfl, ?_⟩
            refine hK _ _ ?_ (grown_of_below hb2 _) (below_step hJ hb2 hJ.size)
            show (IsVal (.bool true)) w2 _
            exact hv
          · intro n vs aa w' haa hJ hd K hK
            refine ob_plain rfl ?_
            have d4 : (IsVal (.bool true)) w' (vs 4) := hd.1 rfl
            refine ob_move _ (v := vs 4) rfl (ev_of haa (by kernel_rfl)) ?_
            refine hK _ _ ?_ (World.grownBy.refl _ _) hJ
            show (IsVal (.bool true)) w' _
            exact d4
          · intro n vs aa w' haa hJ hd K hK
            refine ob_guarded (v := vs 5) rfl rfl (ev_of haa (by kernel_rfl)) (hd.1 rfl) ?_
            refine ob_move _ (v := .slice A1 k c1) rfl (ev_of haa (by kernel_rfl)) ?_
            refine hK _ _ ?_ (World.grownBy.refl _ _) hJ
            show (IsVal (.slice A1 k c1)) w' _
            exact rfl
          · intro n vs aa w' haa hJ hd K hK
            refine ob_guarded (v := vs 5) rfl rfl (ev_of haa (by kernel_rfl)) (hd.2.1 rfl) ?_
            have d6 : (IsVal (.slice A1 k c1)) w' (vs 6) := hd.1 rfl
            have e6 := d6
            refine ob_len _ _ (by simp) rfl (Eq.trans (b := vs 6) (ev_of haa (by kernel_rfl)) e6) ?_
            refine hK _ _ ?_ (World.grownBy.refl _ _) hJ
            show (IntIn ((k : Int)) ((k : Int))) w' _
            exact ⟨_, rfl, Int.le_refl _, Int.le_refl _⟩
          · intro n vs aa w' haa hJ hd K hK
            refine ob_guarded (v := vs 5) rfl rfl (ev_of haa (by kernel_rfl)) (hd.1 rfl) ?_
            refine ob_move _ (v := .int .i64 ((k : Int))) rfl (ev_of haa (by kernel_rfl)) ?_
            refine hK _ _ ?_ (World.grownBy.refl _ _) hJ
            show (IntIn ((k : Int)) ((k : Int))) w' _
            exact ⟨_, rfl, Int.le_refl _, Int.le_refl _⟩
          · intro n vs aa w' haa hJ hd K hK
            refine ob_guarded (v := vs 5) rfl rfl (ev_of haa (by kernel_rfl)) (hd.2.2.1 rfl) ?_
            have d7 : (IntIn ((k : Int)) ((k : Int))) w' (vs 7) := hd.1 rfl
            obtain ⟨x7, e7, l7, u7⟩ := d7
            have d8 : (IntIn ((k : Int)) ((k : Int))) w' (vs 8) := hd.2.1 rfl
            obtain ⟨x8, e8, l8, u8⟩ := d8
            refine ob_eqlI _ _ (u := x7) (v := x8) rfl (Eq.trans (b := vs 7) (ev_of haa (by kernel_rfl)) e7) (Eq.trans (b := vs 8) (ev_of haa (by kernel_rfl)) e8) (by omega) ?_
            refine hK _ _ ?_ (World.grownBy.refl _ _) hJ
            show (IsVal (.bool true)) w' _
            exact rfl
          · intro n vs aa w' haa hJ hd K hK
            refine ob_plain rfl ?_
            have d5 : (IsVal (.bool true)) w' (vs 5) := hd.1 rfl
            have e5 := d5
            have d9 : (IsVal (.bool true)) w' (vs 9) := hd.2.1 rfl
            have e9 := d9
            refine ob_pickT _ _ _ (v := .bool true) rfl (Eq.trans (b := vs 5) (ev_of haa (by kernel_rfl)) e5) (Eq.trans (b := vs 9) (ev_of haa (by kernel_rfl)) e9) ?_
            refine hK _ _ ?_ (World.grownBy.refl _ _) hJ
            show (IsVal (.bool true)) w' _
            exact rfl
          · intro n vs aa w' haa hJ hd K hK
            refine ob_plain rfl ?_
            have d10 : (IsVal (.bool true)) w' (vs 10) := hd.1 rfl
            refine ob_assign _ (v := vs 10) rfl (ev_of haa (by kernel_rfl)) ?_
            refine hK _ _ ?_ (World.grownBy.refl _ _) hJ
            show (IsVal (.bool true)) w' _
            exact d10
        intro vs w' hJ hall
        have hx : vs 11 = .bool true := hall 11 (by decide)
        clear hall
        replace hE := Lib.hid (hE.out.below hJ)
        clear hJ
        simp only [fill, Act.put, List.toList_toArray, List.setIfInBounds_toArray, List.set_cons_zero, List.set_cons_succ, Nat.zero_add, Nat.reduceAdd, hx]
        go_wp2_with fail
        go_ret
        exact ⟨rfl, HB.out.trans (hE.out.bel.mono hw1)⟩
end Go.Proofs.Ytmenehgbhgehjaa
