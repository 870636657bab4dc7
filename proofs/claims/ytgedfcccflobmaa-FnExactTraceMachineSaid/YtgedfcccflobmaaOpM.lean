/-
  A machine that came in, opened to what it reads as.
-/
import Derived.Test.YtgedfcccflobmaaOpG
import Derived.Test.YtgedfcccflobmaaMacL
namespace Go.Proofs.Ytgedfcccflobmaa
open Go.ChangeShapes Go.WideShapes Go.Deep Go.RowKit
set_option linter.unusedVariables false
section
variable {H : Type} {enc : TypeId × Value → H} {P : Program} {w : World} {base : Nat} {spare : Nat → Bool} {held : Bool}
theorem open_machine {r : Reach} {b0 : Nat} {tM tm tl tg ti tb : TypeId} {s0 s1 s2 s3 s4 s5 s6 m0 m1 m2 : Field} {v : Value} {d : DataW H} {p : List MemPlace}
    (htM : P.underlying tM = some (.struct #[s0, s1, s2, s3, s4, s5, s6])) (hCM : P.cellsOf tM = 9) (htm : P.underlying tm = some (.struct #[m0, m1, m2])) (hCm : P.cellsOf tm = 3)
    (e0 : s0.offset = 0 ∧ s0.type = tm) (e1 : s1.offset = 3 ∧ s1.type = ti) (e2 : s2.offset = 4 ∧ s2.type = ti) (e3 : s3.offset = 5 ∧ s3.type = tb) (e4 : s4.offset = 6 ∧ s4.type = tl) (e5 : s5.offset = 7 ∧ s5.type = tb) (e6 : s6.offset = 8 ∧ s6.type = ti)
    (f0 : m0.offset = 0 ∧ m0.type = tl) (f1 : m1.offset = 1 ∧ m1.type = tg) (f2 : m2.offset = 2 ∧ m2.type = ti)
    (htl : P.underlying tl = some (.slice ti)) (htg : P.underlying tg = some (.slice tl)) (hti : P.underlying ti = some (.int .i64)) (htb : P.underlying tb = some .bool) (hci : P.cellsOf ti = 1) (hcl : P.cellsOf tl = 1) (hcg : P.cellsOf tg = 1) (hcb : P.cellsOf tb = 1)
    (hv : Value.okWide P w r b0 tM v) (h : DataW.Trod enc P w base spare held tM v d p) : ∃ x : Mch, v = .agg #[.slice x.A x.n x.c, .slice x.R x.rn x.rc, .int .i64 x.bank, .int .i64 x.a, .int .i64 x.pc, .bool x.cy, .slice x.B x.bn x.bc, .bool x.st, .int .i64 x.cyc] ∧ MRd0 w x := by
  obtain ⟨⟨l⟩, rfl, hsz⟩ := okWide_struct htM hv
  obtain ⟨fuel, hf⟩ := h
  simp only [Value.cells] at hf
  obtain ⟨xs, n, _, hx, hl, hlen, hg⟩ := DataW.trod_struct htM hf
  obtain ⟨o0, rfl⟩ := e0
  obtain ⟨o1, q1⟩ := e1
  obtain ⟨o2, q2⟩ := e2
  obtain ⟨o3, q3⟩ := e3
  obtain ⟨o4, q4⟩ := e4
  obtain ⟨o5, q5⟩ := e5
  obtain ⟨o6, q6⟩ := e6
  match l, hl.trans hCM, xs, hlen with
  | [c0, c1, c2, c3, c4, c5, c6, c7, c8], _, [y0, y1, y2, y3, y4, y5, y6], _ =>
    have t0 : DataW.trod enc P w base spare held n s0.type [c0, c1, c2] = some y0 := by simpa [o0, hCm] using hg 0 s0 rfl
    have t1 : DataW.trod enc P w base spare held n ti [c3] = some y1 := by simpa [o1, q1, hci] using hg 1 s1 rfl
    have t2 : DataW.trod enc P w base spare held n ti [c4] = some y2 := by simpa [o2, q2, hci] using hg 2 s2 rfl
    have t3 : DataW.trod enc P w base spare held n tb [c5] = some y3 := by simpa [o3, q3, hcb] using hg 3 s3 rfl
    have t4 : DataW.trod enc P w base spare held n tl [c6] = some y4 := by simpa [o4, q4, hcl] using hg 4 s4 rfl
    have t5 : DataW.trod enc P w base spare held n tb [c7] = some y5 := by simpa [o5, q5, hcb] using hg 5 s5 rfl
    have t6 : DataW.trod enc P w base spare held n ti [c8] = some y6 := by simpa [o6, q6, hci] using hg 6 s6 rfl
    obtain ⟨zs, k, _, _, _, hzl, hz⟩ := DataW.trod_struct htm t0
    obtain ⟨p0, r0⟩ := f0
    obtain ⟨p1, r1⟩ := f1
    obtain ⟨p2, r2⟩ := f2
    match zs, hzl with
    | [z0, z1, z2], _ =>
      have u0 : DataW.trod enc P w base spare held k tl [c0] = some z0 := by simpa [p0, r0, hcl] using hz 0 m0 rfl
      have u1 : DataW.trod enc P w base spare held k tg [c1] = some z1 := by simpa [p1, r1, hcg] using hz 1 m1 rfl
      have u2 : DataW.trod enc P w base spare held k ti [c2] = some z2 := by simpa [p2, r2, hci] using hz 2 m2 rfl
      obtain ⟨i2, j2, -, -⟩ := DataW.trod_int hti u2
      obtain ⟨i3, j3, -, -⟩ := DataW.trod_int hti t1
      obtain ⟨i4, j4, -, -⟩ := DataW.trod_int hti t2
      obtain ⟨i5, j5, -⟩ := DataW.trod_bool htb t3
      obtain ⟨i7, j7, -⟩ := DataW.trod_bool htb t5
      obtain ⟨i8, j8, -, -⟩ := DataW.trod_int hti t6
      obtain ⟨rs, ⟨A, c, ea, -, -, ia, -⟩, la⟩ := slc_of htl hti hci u0
      obtain ⟨bs, ⟨B, bc, eb, -, -, ib, -⟩, lb⟩ := slc_of htl hti hci t4
      obtain ⟨R, rn, rc, er⟩ : ∃ R rn rc, c1 = .slice R rn rc := by
        rcases open_slice htg u1 with ⟨hcs, _⟩ | ⟨_, _, _, _, _, _, _, hcs, _⟩
        · injection hcs with hcs _; exact ⟨_, _, _, hcs⟩
        · injection hcs with hcs _; exact ⟨_, _, _, hcs⟩
      subst er
      obtain ⟨rows, ig, lg, ld⟩ := open_rows (ti := ti) (A := R) (n := rn) (c := rc) htg htl hcl hti hci ⟨k, u1⟩
      simp only [List.cons.injEq, and_true] at j2 j3 j4 j5 j7 j8
      subst ea eb j2 j3 j4 j5 j7 j8
      exact ⟨⟨A, rs.length, c, rs, R, rn, rc, rows, i2, i3, i4, i5, B, bs.length, bc, bs, i7, i8⟩, rfl, ia, ig, ib, la, lg, ld, lb⟩
end
end Go.Proofs.Ytgedfcccflobmaa
