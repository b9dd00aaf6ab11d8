/-
  shoallaw9.LanePlays on the abstract machine: the loop.
-/
import Derived.Test.YtgiphcfpopgchaaPlayB
namespace Go.Proofs.Ytgiphcfpopgchaa
open Go.ChangeShapes Go.WideShapes Go.ChangeAt Go.RowKit Go.Av
set_option maxRecDepth 100000
set_option maxHeartbeats 4000000
set_option linter.unusedSimpArgs false
set_option linter.unusedVariables false

theorem n6c_eq : n6c = .seq (lf n6c) (.seq (.block 1 (.seq (lf x6) (.seq (lf (rg x6)) (.seq c6 (.seq (lf d6) (rg d6)))))) (rg (rg n6c))) := by kernel_rfl

theorem Sl.beq {h : AH} {Q : Option Nat} {S : AV} {L : List AV} (hs : Sl h Q S L) : S.beq S = true := by cases hs <;> simp [AV.beq]

theorem Sl.lens {h : AH} {Q : Option Nat} {S : AV} {L : List AV} (hs : Sl h Q S L) (g : AH) : lenA Try.prog g 22 S = some (.i .i64 L.length) := by cases hs <;> simp [lenA, Try.underlying22]

theorem s6 {p r m : Nat} {zs : List Int} (hz : zs.length = m * 3) (hm : m ≤ 100) : ∀ (k i : Nat) (t : List AV) (h : AH) (Q Qr : Option Nat) (xs : List Int) (c : Cnt) (n : Nat), i + k = m → k + 200 ≤ n → t.length = 163 → t[0]? = some (.imm (zs.map I) m) → t[3]? = some (.p (some (p, 0))) → t[4]? = some (.p (some (r, 0))) →
    t[5]? = some (.i .i64 i) → Two h p r Q Qr xs c i →
    ∃ t' h', run E n (.loop 6 n6c ⟨t, h⟩) = some (.code (.exit 0) ⟨t', h'⟩) ∧ t'.length = 163
  | 0, i, t, h, Q, Qr, xs, c, n, hik, hn, ht, t0, t3, t4, t5, hl => by
    obtain ⟨n, rfl⟩ : ∃ m, n = m + 1 := ⟨n - 1, by omega⟩
    have hi : i = m := by omega
    subst hi
    have g0 := slot (by omega) t0
    have g5 := slot (by omega) t5
    have hb : stepCode E (run E n) 6 n6c ⟨t, h⟩ = some (.exit 0, ⟨(((t.set 24 (.i .i64 i)).set 25 (.imm (zs.map I) i)).set 26 (.i .i64 i)).set 27 (.b false), h⟩) := by
      rw [n6c_eq]
      generalize run E n = R
      simp [n6c, e6, body6, lf, rg, Try.f6, lenA, stepTask, stepCall, bodyA, stepCode, stepOps, List.range_succ, step1, wantedA, stepOp, execA, evA, putA, ofV, builtinA, binA, unA, resultsA, resA, indexAddrA, fieldAddrA, storeA, cells_i, cells_own, callFnA, E_P, E_fun, E_mode, E_hook, E_phook, E_ext, E_own, E_glob, Try.underlying2, Try.underlying22, Try.underlying3, Try.underlying50, Try.underlying35, Try.underlying40, Try.underlying38, Try.underlying4, sz2, sz22, sz3, sz40, sz38, agg2, agg22, agg3, agg40, agg38, intA, loadA, cellsAt, tk0, tk1, tk2, tk3, tk4, undefA, List.getElem?_set, List.getElem_set, eqA, AV.beq, ht, g0, g5]
    have hr : run E (n + 1) (.loop 6 n6c ⟨t, h⟩) = some (.code (.exit 0) ⟨(((t.set 24 (.i .i64 i)).set 25 (.imm (zs.map I) i)).set 26 (.i .i64 i)).set 27 (.b false), h⟩) := by
      rw [run]; simp only [stepTask, hb]
    exact ⟨_, h, hr, by simp [ht]⟩
  | k + 1, i, t, h, Q, Qr, xs, c, n, hik, hn, ht, t0, t3, t4, t5, hl => by
    obtain ⟨n, rfl⟩ : ∃ m, n = m + 4 := ⟨n - 4, by omega⟩
    have hi : i < m := by omega
    have c1 : (i : Int) < m := by omega
    have w1 : IntKind.wrap .i64 ((i : Int) + 1) = (i : Int) + 1 := wrap_int (by omega)
    have q0 : i * 3 < zs.length := by omega
    have q1 : i * 3 + 1 < zs.length := by omega
    have q2 : i * 3 + 2 < zs.length := by omega
    have k0 : takeN (zs.map I) (i * 3) 3 = some [.i .i64 zs[i * 3], .i .i64 zs[i * 3 + 1], .i .i64 zs[i * 3 + 2]] := by
      have e : ((zs.map I).drop (i * 3)).take 3 = [.i .i64 zs[i * 3], .i .i64 zs[i * 3 + 1], .i .i64 zs[i * 3 + 2]] := by
        rw [List.drop_eq_getElem_cons (by simp; omega), List.drop_eq_getElem_cons (by simp; omega), List.drop_eq_getElem_cons (by simp; omega)]
        simp [I]
      unfold takeN
      simp only [e]
      rfl
    generalize zs[i * 3] = o at k0
    generalize zs[i * 3 + 1] = a1 at k0
    generalize zs[i * 3 + 2] = a2 at k0
    have hpl : p < h.next := by obtain ⟨_, _, _, hlt, _⟩ := obj_of hl.a; exact hlt
    obtain ⟨u1, b1, l1, z1_0, z1_3, z1_4, z1_5⟩ := H1 (run E (n + 3)) t h p r m i zs c1 ht t0 t3 t4 t5
    obtain ⟨u2, hA, b2, hget, hkeep, hnext, l2, z2_0, z2_3, z2_4, z2_5, z2_6⟩ := H2 (run E (n + 3)) u1 h p r m i zs o a1 a2 l1 z1_0 z1_3 z1_4 z1_5 c1 k0
    have b3 := H3 (run E (n + 3)) u2 hA
    obtain ⟨u3, e3, l3, z3_0, z3_3, z3_4, z3_5, z3_6⟩ : ∃ u, u = u2.set 7 (.b true) ∧ u.length = 163 ∧ u[0]? = some (.imm (zs.map I) m) ∧ u[3]? = some (.p (some (p, 0))) ∧ u[4]? = some (.p (some (r, 0))) ∧ u[5]? = some (.i .i64 i) ∧ u[6]? = some (.p (some (h.next, 0))) :=
      ⟨_, rfl, by simp [l2], (List.getElem?_set_ne (by decide)).trans z2_0, (List.getElem?_set_ne (by decide)).trans z2_3, (List.getElem?_set_ne (by decide)).trans z2_4, (List.getElem?_set_ne (by decide)).trans z2_5, (List.getElem?_set_ne (by decide)).trans z2_6⟩
    rw [← e3] at b3
    have hlA : Two hA p r Q Qr xs c i := hl.keep hkeep (by omega)
    have haq : Q ≠ some h.next := by
      intro e
      have := hl.a
      rw [e] at this
      have := this.blt
      omega
    have main : ∃ u h2 Q' Qr' ys c', stepCode E (run E (n + 3)) 6 c6 ⟨u3, hA⟩ = some (.normal, ⟨u, h2⟩) ∧ u.length = 163 ∧ u[0]? = some (.imm (zs.map I) m) ∧ u[3]? = some (.p (some (p, 0))) ∧ u[4]? = some (.p (some (r, 0))) ∧ u[5]? = some (.i .i64 i) ∧ u[7]? = some (.b true) ∧ Two h2 p r Q' Qr' ys c' (i + 1) := by
      by_cases o0 : o = 0
      · subst o0
        obtain ⟨X, h1, h2, Q', Qr', ys, c', x1, x2, x3, x4, _, _⟩ := pl0 hlA (by omega) (by omega) (by omega) haq a2 n
        obtain ⟨u, y1, y2, y3, y4, y5, y6, y7⟩ := C0 _ u3 hA p r m i zs h.next h1 h2 X 0 a1 a2 hget (x2.trans hget) l3 z3_0 z3_3 z3_4 z3_5 z3_6 x1 x3
        exact ⟨u, h2, Q', Qr', ys, c', y1, y2, y3, y4, y5, y6, y7, x4⟩
      by_cases o1 : o = 1
      · subst o1
        obtain ⟨z, X, h1, h2, Q', Qr', ys, c', x1, x2, x3, x4, _, _⟩ := pl1 hlA (by omega) (by omega) (by omega) haq a1 n
        obtain ⟨u, y1, y2, y3, y4, y5, y6, y7⟩ := C1 _ u3 hA p r m i zs h.next h1 h2 X z a1 a2 hget (x2.trans hget) l3 z3_0 z3_3 z3_4 z3_5 z3_6 x1 x3
        exact ⟨u, h2, Q', Qr', ys, c', y1, y2, y3, y4, y5, y6, y7, x4⟩
      by_cases o2 : o = 2
      · subst o2
        obtain ⟨X, h1, h2, Q', Qr', ys, c', x1, x2, x3, x4, _, _⟩ := pl2 hlA (by omega) (by omega) (by omega) haq a1 n
        obtain ⟨u, y1, y2, y3, y4, y5, y6, y7⟩ := C2 _ u3 hA p r m i zs h.next h1 h2 X 0 a1 a2 hget (x2.trans hget) l3 z3_0 z3_3 z3_4 z3_5 z3_6 x1 x3
        exact ⟨u, h2, Q', Qr', ys, c', y1, y2, y3, y4, y5, y6, y7, x4⟩
      by_cases o3 : o = 3
      · subst o3
        obtain ⟨X, h1, h2, Q', Qr', ys, c', x1, x2, x3, x4, _, _⟩ := pl3 hlA (by omega) (by omega) (by omega) haq a1 n
        obtain ⟨u, y1, y2, y3, y4, y5, y6, y7⟩ := C3 _ u3 hA p r m i zs h.next h1 h2 X 0 a1 a2 hget (x2.trans hget) l3 z3_0 z3_3 z3_4 z3_5 z3_6 x1 x3
        exact ⟨u, h2, Q', Qr', ys, c', y1, y2, y3, y4, y5, y6, y7, x4⟩
      · obtain ⟨X, h1, h2, Q', Qr', ys, c', x1, x2, x3, x4, _, _⟩ := pl4 hlA (by omega) (by omega) (by omega) haq a1 n
        obtain ⟨u, y1, y2, y3, y4, y5, y6, y7⟩ := C4 _ u3 hA p r m i zs h.next h1 h2 X 0 a1 a2 o o0 o1 o2 o3 hget (x2.trans hget) l3 z3_0 z3_3 z3_4 z3_5 z3_6 x1 x3
        exact ⟨u, h2, Q', Qr', ys, c', y1, y2, y3, y4, y5, y6, y7, x4⟩
    obtain ⟨u4, h2, Q', Qr', ys, c', b4, l4, z4_0, z4_3, z4_4, z4_5, z4_7, hl4⟩ := main
    have ylen := hl4.len
    have cr := counts_run hl4.a (n + 2)
    obtain ⟨u5, b5, l5, z5_0, z5_3, z5_4, z5_5, z5_7, z5_12, z5_13, z5_14, z5_15⟩ := H5 _ u4 h2 p r m i zs c' l4 z4_0 z4_3 z4_4 z4_5 z4_7 cr
    obtain ⟨S', h3, ar, rd, nx, kp⟩ := all_run hl4.a (by simp; omega) (n + 1)
    obtain ⟨Sr, hr0, hsr, hrl, _⟩ := obj_of hl4.b
    have hl5 : Two h3 p r Q' Qr' ys c' (i + 1) := hl4.keep kp nx
    have hr1 : h3.get r = some (.cells 5 (obj Sr c')) := by rw [kp r hrl]; exact hr0
    have hsr3 : Sl h3 Qr' Sr (ys.map I) := hsr.keep (fun j e => kp j (by subst e; exact hsr.lt)) nx
    have lS : ∀ g, lenA Try.prog g 22 Sr = some (.i .i64 ys.length) := fun g => by
      have := hsr.lens g
      rwa [List.length_map] at this
    have ir := ints_run (n := n + 2) rd (Rd.own hsr3) (by omega) (by omega)
    have lr := len_run hl5.a (n + 2)
    rw [List.length_map] at lr
    obtain ⟨u6, b6, l6, z6_0, z6_3, z6_4, z6_5⟩ := H6 _ u5 h2 p r m i zs c' S' Sr ys.length h3 hr0 hr1 lS hsr.beq l5 z5_0 z5_3 z5_4 z5_5 z5_7 z5_12 z5_13 z5_14 z5_15 ar ir lr
    obtain ⟨u7, b7, l7, z7_0, z7_3, z7_4, z7_5⟩ := H7 (run E (n + 3)) u6 h3 p r m i zs w1 l6 z6_0 z6_3 z6_4 z6_5
    have hb : stepCode E (run E (n + 3)) 6 n6c ⟨t, h⟩ = some (.normal, ⟨u7, h3⟩) := by
      rw [n6c_eq]
      simp only [stepCode, b1, b2, b3, b4, b5, b6, b7]
    obtain ⟨t', h'', y1, y2⟩ := s6 hz hm k (i + 1) u7 h3 Q' Qr' ys c' (n + 3) (by omega) (by omega) l7 z7_0 z7_3 z7_4 z7_5 hl5
    refine ⟨t', h'', ?_, y2⟩
    rw [show n + 4 = (n + 3) + 1 from rfl, run]
    simp only [stepTask, hb]
    exact y1
end Go.Proofs.Ytgiphcfpopgchaa
