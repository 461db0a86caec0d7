/- The statement PlaneLawsSaid is proved: PlaneLaws returns true for every seven integers and leaves its arguments as they are; no condition. -/
import Derived.Test.YtkonlhglknfflaaW9
namespace Go.Proofs.Ytkonlhglknfflaa.planeLaws
open Go.ChangeShapes Go.WideShapes Go.ChangeAt Go.RowKit
open PF
set_option linter.unusedVariables false

theorem part_bd (n : Int) : Sm 262144 (n.tmod 262144) := by
  have h1 := Int.tmod_lt_of_pos n (b := 262144) (by decide)
  have h2 := Int.lt_tmod_of_pos n (b := 262144) (by decide)
  exact Sm.mk (by omega) (by omega)

theorem gtrans {a b c : World} (h : Grown a b) (k : Grown b c) : Grown a c :=
  ⟨World.keptBut_mono (fun _ f => by simp at f) (World.keptBut_trans h.1 k.1), fun x => (k.2.1 x).trans (h.2.1 x), Nat.le_trans h.2.2 k.2.2⟩
theorem wrap_id {n : Int} (h : Sm 1099511627776 n) : wrap64 n = n := by
  have := h.le
  unfold wrap64
  omega
theorem far_sm {p q : Int × Int} (h1 : Sm 262144 p.1) (h2 : Sm 262144 p.2) (h3 : Sm 262144 q.1) (h4 : Sm 262144 q.2) : Sm 549755813888 (farZ p q) :=
  (((h1.sub h3).mul (h1.sub h3)).add ((h2.sub h4).mul (h2.sub h4))).mono (by decide)
theorem wf_bd {n : Int} (h : (Lit.int .i64 n).wf = true) : -9223372036854775808 ≤ n ∧ n ≤ 9223372036854775807 := by
  simpa [Lit.wf, IntKind.min, IntKind.max, IntKind.bits, IntKind.signed] using h

set_option maxRecDepth 100000 in
set_option maxHeartbeats 2000000 in
theorem walk (a0 : Int) (a1 : Int) (a2 : Int) (a3 : Int) (a4 : Int) (a5 : Int) (a6 : Int) (w0 : (Lit.int .i64 a0).wf = true) (w1 : (Lit.int .i64 a1).wf = true) (w2 : (Lit.int .i64 a2).wf = true) (w3 : (Lit.int .i64 a3).wf = true) (w4 : (Lit.int .i64 a4).wf = true) (w5 : (Lit.int .i64 a5).wf = true) (w6 : (Lit.int .i64 a6).wf = true) (w : World) :
    Calls Try.prog 3 #[.int .i64 a0, .int .i64 a1, .int .i64 a2, .int .i64 a3, .int .i64 a4, .int .i64 a5, .int .i64 a6] w fun e w' => e = .returned (.bool true) ∧ Grown w w' := by
  have P0 := Lib.hid (fun w => part_ok a0 w (wf_bd w0).1 (wf_bd w0).2)
  have P1 := Lib.hid (fun w => part_ok a1 w (wf_bd w1).1 (wf_bd w1).2)
  have P2 := Lib.hid (fun w => part_ok a2 w (wf_bd w2).1 (wf_bd w2).2)
  have P3 := Lib.hid (fun w => part_ok a3 w (wf_bd w3).1 (wf_bd w3).2)
  have P4 := Lib.hid (fun w => part_ok a4 w (wf_bd w4).1 (wf_bd w4).2)
  have P5 := Lib.hid (fun w => part_ok a5 w (wf_bd w5).1 (wf_bd w5).2)
  clear w0 w1 w2 w3 w4 w5 w6
  go_enter Try.func3, Try.ntmps3
  go_wp2_with fail
  refine (P0.out _).mono ?_
  rintro e w' ⟨x0, rfl, h, rfl⟩
  have F0 := Lib.hid h
  clear h P0
  go_wp2_with fail
  refine (P1.out _).mono ?_
  rintro e w' ⟨x1, rfl, h, rfl⟩
  have F1 := Lib.hid h
  clear h P1
  go_wp2_with fail
  refine (P2.out _).mono ?_
  rintro e w' ⟨x2, rfl, h, rfl⟩
  have F2 := Lib.hid h
  clear h P2
  go_wp2_with fail
  refine (P3.out _).mono ?_
  rintro e w' ⟨x3, rfl, h, rfl⟩
  have F3 := Lib.hid h
  clear h P3
  go_wp2_with fail
  refine (P4.out _).mono ?_
  rintro e w' ⟨x4, rfl, h, rfl⟩
  have F4 := Lib.hid h
  clear h P4
  go_wp2_with fail
  refine (P5.out _).mono ?_
  rintro e w' ⟨x5, rfl, h, rfl⟩
  have F5 := Lib.hid h
  clear h P5
  obtain ⟨a, ha⟩ : ∃ a : Int × Int, a = (a0.tmod 262144, a1.tmod 262144) := ⟨_, rfl⟩
  obtain ⟨b, hb⟩ : ∃ a : Int × Int, a = (a2.tmod 262144, a3.tmod 262144) := ⟨_, rfl⟩
  obtain ⟨p, hp⟩ : ∃ a : Int × Int, a = (a4.tmod 262144, a5.tmod 262144) := ⟨_, rfl⟩
  have A := Lib.hid (show Pl x0 x1 a.1 a.2 by rw [ha]; exact ⟨F0.out, F1.out, (part_bd _).mono (by decide), (part_bd _).mono (by decide)⟩)
  have B := Lib.hid (show Pl x2 x3 b.1 b.2 by rw [hb]; exact ⟨F2.out, F3.out, (part_bd _).mono (by decide), (part_bd _).mono (by decide)⟩)
  have PP := Lib.hid (show Pl x4 x5 p.1 p.2 by rw [hp]; exact ⟨F4.out, F5.out, (part_bd _).mono (by decide), (part_bd _).mono (by decide)⟩)
  have BD := Lib.hid (show (Sm 262144 a.1 ∧ Sm 262144 a.2) ∧ (Sm 262144 b.1 ∧ Sm 262144 b.2) ∧ Sm 262144 p.1 ∧ Sm 262144 p.2 by rw [ha, hb, hp]; exact ⟨⟨part_bd _, part_bd _⟩, ⟨part_bd _, part_bd _⟩, part_bd _, part_bd _⟩)
  clear F0 F1 F2 F3 F4 F5 ha hb hp
  have Q1 := Lib.hid (fun w => quarter_ok x0 x1 a6 a.1 a.2 w A.out)
  have Q2 := Lib.hid (fun w => quarter_ok x2 x3 a6 b.1 b.2 w B.out)
  have Q3 := Lib.hid (fun w => quarter_ok x4 x5 a6 p.1 p.2 w PP.out)
  go_wp2_with fail
  refine (Q1.out _).mono ?_
  rintro e w' ⟨r0, r1, rfl, h, rfl⟩
  have QA := Lib.hid h
  clear h Q1
  go_wp2_with fail
  refine (Q2.out _).mono ?_
  rintro e w' ⟨r2, r3, rfl, h, rfl⟩
  have QB := Lib.hid h
  clear h Q2
  go_wp2_with fail
  refine (Q3.out _).mono ?_
  rintro e w' ⟨r4, r5, rfl, h, rfl⟩
  have QP := Lib.hid h
  clear h Q3
  obtain ⟨j, hj⟩ : ∃ j, j = qn a6 := ⟨_, rfl⟩
  have J := Lib.hid (show j < 4 by rw [hj]; exact qn_lt a6)
  rw [← hj] at QA QB QP
  clear hj
  have AW := Lib.hid awake_ok
  go_wp2_with fail
  refine (AW.out _).mono ?_
  rintro e W1 ⟨rfl, h⟩
  have G1 := Lib.hid h
  clear h AW
  have C1 := Lib.hid (dot_p A.out B.out)
  have C2 := Lib.hid (dot_p (p := rt j a) (q := rt j b) QA.out QB.out)
  have C3 := Lib.hid (cross_p A.out B.out)
  have C4 := Lib.hid (cross_p (p := rt j b) (q := rt j a) QB.out QA.out)
  have C5 := Lib.hid (Side_p A.out B.out PP.out)
  have C6 := Lib.hid (Side_p (p := rt j b) (q := rt j p) (s := rt j a) QB.out QP.out QA.out)
  have C7 := Lib.hid (disc_p A.out B.out PP.out)
  have C8 := Lib.hid (far_p A.out PP.out)
  have C9 := Lib.hid (far_p B.out PP.out)
  have C10 := Lib.hid (far_p A.out B.out)
  have O := Lib.hid (show Pl 0 0 ((0, 0) : Int × Int).1 ((0, 0) : Int × Int).2 from ⟨isF_0, isF_0, Sm.mk (by decide) (by decide), Sm.mk (by decide) (by decide)⟩)
  have C11 := Lib.hid (fun w => meet_ok x0 x1 x2 x3 x4 x5 0 0 a b p (0, 0) w A.out B.out PP.out O.out)
  have C12 := Lib.hid (fun w => meet_ok 0 0 x4 x5 x2 x3 x0 x1 (0, 0) p b a w O.out PP.out B.out A.out)
  clear A B PP QA QB QP
  go_wp2_with fail
  refine (C1.out _).mono ?_
  rintro e W2 ⟨rfl, h⟩
  have G2 := Lib.hid h
  clear h C1
  go_wp2_with fail
  refine (C2.out _).mono ?_
  rintro e W3 ⟨rfl, h⟩
  have G3 := Lib.hid h
  clear h C2
  go_wp2_with fail
  refine (C3.out _).mono ?_
  rintro e W4 ⟨rfl, h⟩
  have G4 := Lib.hid h
  clear h C3
  go_wp2_with fail
  refine (C4.out _).mono ?_
  rintro e W5 ⟨rfl, h⟩
  have G5 := Lib.hid h
  clear h C4
  go_wp2_with fail
  refine (C5.out _).mono ?_
  rintro e W6 ⟨rfl, h⟩
  have G6 := Lib.hid h
  clear h C5
  go_wp2_with fail
  refine (C6.out _).mono ?_
  rintro e W7 ⟨rfl, h⟩
  have G7 := Lib.hid h
  clear h C6
  go_wp2_with fail
  refine (C7.out _).mono ?_
  rintro e W8 ⟨rfl, h⟩
  have G8 := Lib.hid h
  clear h C7
  go_wp2_with fail
  refine (C8.out _).mono ?_
  rintro e W9 ⟨rfl, h⟩
  have G9 := Lib.hid h
  clear h C8
  go_wp2_with fail
  refine (C9.out _).mono ?_
  rintro e W10 ⟨rfl, h⟩
  have G10 := Lib.hid h
  clear h C9
  go_wp2_with fail
  refine (C10.out _).mono ?_
  rintro e W11 ⟨rfl, h⟩
  have G11 := Lib.hid h
  clear h C10
  go_wp2_with fail
  refine (C11.out _).mono ?_
  rintro e W12 ⟨rfl, h⟩
  have G12 := Lib.hid h
  clear h C11
  go_wp2_with fail
  refine (C12.out _).mono ?_
  rintro e W13 ⟨rfl, h⟩
  have G13 := Lib.hid h
  clear h C12
  have e1 : (dotZ a b == dotZ (rt j a) (rt j b)) = true := by rw [← dot_rt j J.out]; simp
  have e2 : (crossZ a b == wrap64 (-crossZ (rt j b) (rt j a))) = true := by
    have hs := (BD.out.1.1.mul BD.out.2.1.2).sub (BD.out.1.2.mul BD.out.2.1.1)
    have hc : crossZ a b = -crossZ (rt j b) (rt j a) := cross_rt j J.out a b
    have hl : Sm (262144 * 262144 + 262144 * 262144) (crossZ a b) := hs
    rw [← hc, wrap_id (hl.mono (by decide))]; simp
  have e3 : (sd a b p == sd (rt j b) (rt j p) (rt j a)) = true := by rw [← sd_rt j J.out]; simp
  have e4 : (onB a b p == decide (wrap64 (farZ a p + farZ b p) ≤ farZ a b)) = true := by
    have f1 := far_sm BD.out.1.1 BD.out.1.2 BD.out.2.2.1 BD.out.2.2.2
    have f2 := far_sm BD.out.2.1.1 BD.out.2.1.2 BD.out.2.2.1 BD.out.2.2.2
    rw [wrap_id ((f1.add f2).mono (by decide)), on_far]; simp
  have e5 : (meetB a b p (0, 0) == meetB (0, 0) p b a) = true := by rw [meet_sym]; simp
  go_wp2_with fail
  go_ret
  exact ⟨rfl, gtrans G1.out (gtrans G2.out (gtrans G3.out (gtrans G4.out (gtrans G5.out (gtrans G6.out (gtrans G7.out (gtrans G8.out (gtrans G9.out (gtrans G10.out (gtrans G11.out (gtrans G12.out G13.out)))))))))))⟩

theorem own : ownKnob Try.prog.godebug = none := by kernel_rfl

set_option maxRecDepth 100000 in
theorem lifted (os : Os) (started : os.Started) (H : Type) (enc : TypeId × Value → H) :
    ReturnsInHanded {} Try.checked os 3 .any (Rows.planeLawsSpec.pre6 enc Try.prog Try.f3 Rows.planeLawsRow.domain false) (Rows.planeLawsSpec.post enc Try.prog Try.f3 false true false false) := by
  refine returnsInHanded_of_change (C := Try.checked) own started (by kernel_rfl) Try.func3
    (ChangeSpec.witness6 (enc := enc) (C := Try.checked) false ⟨#[], #[.int .i64 0, .int .i64 0, .int .i64 0, .int .i64 0, .int .i64 0, .int .i64 0, .int .i64 0], []⟩ 8 (by kernel_rfl) (by kernel_rfl) (by kernel_rfl) (by kernel_rfl)) ?_
  intro W base args ds gs before hval0 hW hcnd _
  have hval : ∀ (j : Nat) t v, Try.f3.params[j]? = some t → args[j]? = some v → Value.okWide Try.prog W .any base t v := hval0
  have hW' := hW
  obtain ⟨p, q, hA0, hV, rfl, hfz, hnd⟩ := hW
  have hA : DataW.TrodAll enc Try.prog W 0 (fun _ => true) true Try.f3.params.toList args.toList ds p := hA0
  rw [Try.params3] at hA hval
  obtain ⟨v0, vs0, d0, ds0, p0, q0, hargs, rfl, rfl, h0, r0⟩ := trodAll_cons hA
  obtain ⟨v1, vs1, d1, ds1, p1, q1, rfl, rfl, rfl, h1, r1⟩ := trodAll_cons r0
  obtain ⟨v2, vs2, d2, ds2, p2, q2, rfl, rfl, rfl, h2, r2⟩ := trodAll_cons r1
  obtain ⟨v3, vs3, d3, ds3, p3, q3, rfl, rfl, rfl, h3, r3⟩ := trodAll_cons r2
  obtain ⟨v4, vs4, d4, ds4, p4, q4, rfl, rfl, rfl, h4, r4⟩ := trodAll_cons r3
  obtain ⟨v5, vs5, d5, ds5, p5, q5, rfl, rfl, rfl, h5, r5⟩ := trodAll_cons r4
  obtain ⟨v6, vs6, d6, ds6, p6, q6, rfl, rfl, rfl, h6, r6⟩ := trodAll_cons r5
  obtain ⟨rfl, rfl, rfl⟩ := trodAll_nil r6
  obtain rfl : args = #[v0, v1, v2, v3, v4, v5, v6] := by cases args; simp_all
  obtain ⟨rfl, rfl⟩ := trodVars_none hV
  obtain ⟨a0, rfl, rfl, rfl, w0⟩ := open_int Try.underlying3 (hval 0 3 v0 rfl rfl) h0
  obtain ⟨a1, rfl, rfl, rfl, w1⟩ := open_int Try.underlying3 (hval 1 3 v1 rfl rfl) h1
  obtain ⟨a2, rfl, rfl, rfl, w2⟩ := open_int Try.underlying3 (hval 2 3 v2 rfl rfl) h2
  obtain ⟨a3, rfl, rfl, rfl, w3⟩ := open_int Try.underlying3 (hval 3 3 v3 rfl rfl) h3
  obtain ⟨a4, rfl, rfl, rfl, w4⟩ := open_int Try.underlying3 (hval 4 3 v4 rfl rfl) h4
  obtain ⟨a5, rfl, rfl, rfl, w5⟩ := open_int Try.underlying3 (hval 5 3 v5 rfl rfl) h5
  obtain ⟨a6, rfl, rfl, rfl, w6⟩ := open_int Try.underlying3 (hval 6 3 v6 rfl rfl) h6
  clear hA0 hval0
  simp only [List.append_nil] at hW'
  refine (walk a0 a1 a2 a3 a4 a5 a6 w0 w1 w2 w3 w4 w5 w6 W).mono fun e W' ⟨he, hg⟩ => ?_
  subst he
  exact ⟨_, rfl, post_of_same (pa := []) (pv := []) hW' (fun _ _ _ => (trodAll_cons_mk (shut_bool Try.underlying4 _) trodAll_mk0)) (fun sp _ => (trodAll_cons_mk (shut_int Try.underlying3 w0) (trodAll_cons_mk (shut_int Try.underlying3 w1) (trodAll_cons_mk (shut_int Try.underlying3 w2) (trodAll_cons_mk (shut_int Try.underlying3 w3) (trodAll_cons_mk (shut_int Try.underlying3 w4) (trodAll_cons_mk (shut_int Try.underlying3 w5) (trodAll_cons_mk (shut_int Try.underlying3 w6) trodAll_mk0)))))))) (fun _ _ => rfl) rfl
    (hg.frame _) hg.2.1 (ok_one (by kernel_rfl) rfl (okWide_bool_mk Try.underlying4 _))⟩

theorem over : Rows.planeLawsRow.holds Try.pinned (OpenSpec.ofChange Rows.planeLawsSpec) :=
  OpenClaim.holds_of_wide 3 Try.f3 rfl rfl rfl rfl rfl rfl rfl ⟨rfl, rfl, rfl, rfl, rfl⟩ rfl rfl rfl rfl rfl (by kernel_rfl) Try.func3 (by kernel_rfl)
    (of_decide_eq_true (by kernel_rfl)) (by unfold Func.isWrapper; first | (rw [if_pos (by decide +kernel)]; kernel_rfl) | (rw [if_neg (by decide +kernel)]; exact ⟨rfl, rfl⟩))
    (fun os started H enc _ => lifted os started H enc)

/-- ████ THE STATEMENT ████ -/
theorem proved : Rows.PlaneLawsSaid :=
  over
#print axioms proved
end Go.Proofs.Ytkonlhglknfflaa.planeLaws
