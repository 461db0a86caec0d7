/- Contracts of plane.on, far, side and plain on complex numbers with whole parts; conditions: the stated bounds on the parts. -/
import Derived.Test.YtkonlhglknfflaaW2
namespace Go.Proofs.Ytkonlhglknfflaa.planeLaws
open Go.ChangeShapes Go.WideShapes Go.ChangeAt Go.RowKit
open PF
set_option linter.unusedVariables false

set_option maxHeartbeats 400000 in
theorem on_ok (a1 a2 b1 b2 c1 c2 : Nat) (A1 A2 B1 B2 C1 C2 : Int) (w : World) (ha1 : IsF a1 A1) (ha2 : IsF a2 A2) (hb1 : IsF b1 B1) (hb2 : IsF b2 B2) (hc1 : IsF c1 C1) (hc2 : IsF c2 C2)
    (sa1 : Sm 1048576 A1) (sa2 : Sm 1048576 A2) (sb1 : Sm 1048576 B1) (sb2 : Sm 1048576 B2) (sc1 : Sm 1048576 C1) (sc2 : Sm 1048576 C2) :
    Calls Try.prog 18 #[.complex .f64 a1 a2, .complex .f64 b1 b2, .complex .f64 c1 c2] w fun e w' => e = .returned (.bool (decide ((A1 - C1) * (B1 - C1) + (A2 - C2) * (B2 - C2) ≤ 0))) ∧ w = w' := by
  obtain ⟨u1, u2, e1, f1, f2⟩ := csub_isF ha1 ha2 hc1 hc2 (sa1.mono (by decide)) (sa2.mono (by decide)) (sc1.mono (by decide)) (sc2.mono (by decide))
  obtain ⟨v1, v2, e2, g1, g2⟩ := csub_isF hb1 hb2 hc1 hc2 (sb1.mono (by decide)) (sb2.mono (by decide)) (sc1.mono (by decide)) (sc2.mono (by decide))
  have hop1 := fun t w => run_complex_sum (P := Try.prog) w .sub (Or.inr rfl) t .f64 a1 a2 c1 c2 u1 u2 e1
  have hop2 := fun t w => run_complex_sum (P := Try.prog) w .sub (Or.inr rfl) t .f64 b1 b2 c1 c2 v1 v2 e2
  have t1 := (sa1.sub sc1).mono (C := 8388608) (by decide)
  have t2 := (sa2.sub sc2).mono (C := 8388608) (by decide)
  have t3 := (sb1.sub sc1).mono (C := 8388608) (by decide)
  have t4 := (sb2.sub sc2).mono (C := 8388608) (by decide)
  have hb := fun w => both_ok u1 u2 v1 v2 _ _ _ _ w f1 f2 g1 g2 t1 t2 t3 t4
  have fin : ∀ r, IsF r ((A1 - C1) * (B1 - C1) + (A2 - C2) * (B2 - C2)) → (FloatKind.f64.format.order r 0 == some .lt || FloatKind.f64.format.order r 0 == some .eq) = decide ((A1 - C1) * (B1 - C1) + (A2 - C2) * (B2 - C2) ≤ 0) :=
    fun r hr => ordLe hr isF_0 (((t1.mul t3).add (t2.mul t4)).lt (by decide)) (by decide)
  have FIN := Lib.hid fin
  have HB := Lib.hid hb
  clear hb fin ha1 ha2 hb1 hb2 hc1 hc2 f1 f2 g1 g2 sa1 sa2 sb1 sb2 sc1 sc2 t1 t2 t3 t4
  have H1 := Lib.hid hop1
  have H2 := Lib.hid hop2
  clear hop1 hop2 e1 e2
  go_enter Try.func18, Try.ntmps18
  go_wp2_with (first | simp only [H1.out] | simp only [H2.out] | fail)
  refine (HB.out _).mono ?_
  rintro e w' ⟨r, i, rfl, hr, hi, rfl⟩
  have F := Lib.hid (FIN.out r hr)
  clear hr hi FIN
  go_wp2_with fail
  go_ret
  exact ⟨by rw [← F.out]; rfl, rfl⟩

set_option maxHeartbeats 400000 in
theorem far_ok (a1 a2 b1 b2 : Nat) (A1 A2 B1 B2 : Int) (w : World) (ha1 : IsF a1 A1) (ha2 : IsF a2 A2) (hb1 : IsF b1 B1) (hb2 : IsF b2 B2)
    (sa1 : Sm 1048576 A1) (sa2 : Sm 1048576 A2) (sb1 : Sm 1048576 B1) (sb2 : Sm 1048576 B2) :
    Calls Try.prog 19 #[.complex .f64 a1 a2, .complex .f64 b1 b2] w fun e w' => e = .returned (.int .i64 ((A1 - B1) * (A1 - B1) + (A2 - B2) * (A2 - B2))) ∧ w = w' := by
  obtain ⟨u1, u2, e1, f1, f2⟩ := csub_isF ha1 ha2 hb1 hb2 (sa1.mono (by decide)) (sa2.mono (by decide)) (sb1.mono (by decide)) (sb2.mono (by decide))
  have hop1 := fun t w => run_complex_sum (P := Try.prog) w .sub (Or.inr rfl) t .f64 a1 a2 b1 b2 u1 u2 e1
  have t1 := (sa1.sub sb1).mono (C := 8388608) (by decide)
  have t2 := (sa2.sub sb2).mono (C := 8388608) (by decide)
  have hb := fun w => both_ok u1 u2 u1 u2 _ _ _ _ w f1 f2 f1 f2 t1 t2 t1 t2
  have fin : ∀ r, IsF r ((A1 - B1) * (A1 - B1) + (A2 - B2) * (A2 - B2)) → ∀ w, (convert 23 3 (.float .f64 r)).run Try.prog w = .ok (.int .i64 ((A1 - B1) * (A1 - B1) + (A2 - B2) * (A2 - B2))) w :=
    fun r hr w => run_convert_float_int w 23 3 .f64 .i64 r _ (by rw [Try.underlying23]; rfl) Try.underlying3 (fval hr (((t1.mul t1).add (t2.mul t2)).lt (by decide)))
  have FIN := Lib.hid fin
  have HB := Lib.hid hb
  have H1 := Lib.hid hop1
  clear hb fin ha1 ha2 hb1 hb2 f1 f2 sa1 sa2 sb1 sb2 t1 t2 hop1 e1
  go_enter Try.func19, Try.ntmps19
  go_wp2_with (first | simp only [H1.out] | fail)
  refine (HB.out _).mono ?_
  rintro e w' ⟨r, i, rfl, hr, hi, rfl⟩
  have F := Lib.hid (FIN.out r hr)
  clear hr hi FIN
  go_wp2_with (simp only [F.out])
  go_ret
  exact ⟨rfl, rfl⟩

def sgn (x : Int) : Int := if 0 < x then 1 else if x < 0 then -1 else 0

set_option maxHeartbeats 800000 in
theorem side_ok (a1 a2 b1 b2 c1 c2 : Nat) (A1 A2 B1 B2 C1 C2 : Int) (w : World) (ha1 : IsF a1 A1) (ha2 : IsF a2 A2) (hb1 : IsF b1 B1) (hb2 : IsF b2 B2) (hc1 : IsF c1 C1) (hc2 : IsF c2 C2)
    (sa1 : Sm 1048576 A1) (sa2 : Sm 1048576 A2) (sb1 : Sm 1048576 B1) (sb2 : Sm 1048576 B2) (sc1 : Sm 1048576 C1) (sc2 : Sm 1048576 C2) :
    Calls Try.prog 17 #[.complex .f64 a1 a2, .complex .f64 b1 b2, .complex .f64 c1 c2] w fun e w' => e = .returned (.int .i64 (sgn ((B1 - A1) * (C2 - A2) - (B2 - A2) * (C1 - A1)))) ∧ w = w' := by
  obtain ⟨u1, u2, e1, f1, f2⟩ := csub_isF hb1 hb2 ha1 ha2 (sb1.mono (by decide)) (sb2.mono (by decide)) (sa1.mono (by decide)) (sa2.mono (by decide))
  obtain ⟨v1, v2, e2, g1, g2⟩ := csub_isF hc1 hc2 ha1 ha2 (sc1.mono (by decide)) (sc2.mono (by decide)) (sa1.mono (by decide)) (sa2.mono (by decide))
  have hop1 := fun t w => run_complex_sum (P := Try.prog) w .sub (Or.inr rfl) t .f64 b1 b2 a1 a2 u1 u2 e1
  have hop2 := fun t w => run_complex_sum (P := Try.prog) w .sub (Or.inr rfl) t .f64 c1 c2 a1 a2 v1 v2 e2
  have t1 := (sb1.sub sa1).mono (C := 8388608) (by decide)
  have t2 := (sb2.sub sa2).mono (C := 8388608) (by decide)
  have t3 := (sc1.sub sa1).mono (C := 8388608) (by decide)
  have t4 := (sc2.sub sa2).mono (C := 8388608) (by decide)
  have hb := fun w => both_ok u1 u2 v1 v2 _ _ _ _ w f1 f2 g1 g2 t1 t2 t3 t4
  have fin : ∀ r, IsF r ((B1 - A1) * (C2 - A2) - (B2 - A2) * (C1 - A1)) → (FloatKind.f64.format.order r 0 == some .gt) = decide (0 < (B1 - A1) * (C2 - A2) - (B2 - A2) * (C1 - A1)) ∧ (FloatKind.f64.format.order r 0 == some .lt) = decide ((B1 - A1) * (C2 - A2) - (B2 - A2) * (C1 - A1) < 0) :=
    fun r hr => ⟨ordGt hr isF_0 (((t1.mul t4).sub (t2.mul t3)).lt (by decide)) (by decide), ordLt hr isF_0 (((t1.mul t4).sub (t2.mul t3)).lt (by decide)) (by decide)⟩
  have FIN := Lib.hid fin
  have HB := Lib.hid hb
  have H1 := Lib.hid hop1
  have H2 := Lib.hid hop2
  clear hb fin ha1 ha2 hb1 hb2 hc1 hc2 f1 f2 g1 g2 sa1 sa2 sb1 sb2 sc1 sc2 t1 t2 t3 t4 hop1 hop2 e1 e2
  go_enter Try.func17, Try.ntmps17
  go_wp2_with (first | simp only [H1.out] | simp only [H2.out] | fail)
  refine (HB.out _).mono ?_
  rintro e w' ⟨r, i, rfl, hr, hi, rfl⟩
  have f := FIN.out i hi
  obtain ⟨D, hD⟩ : ∃ D, D = (B1 - A1) * (C2 - A2) - (B2 - A2) * (C1 - A1) := ⟨_, rfl⟩
  rw [← hD] at f
  have HD := Lib.hid hD
  clear hD
  obtain ⟨f1, f2⟩ := f
  clear hr hi FIN
  by_cases h1 : 0 < D
  · rw [decide_eq_true h1] at f1
    have e : sgn D = 1 := by simp [sgn, h1]
    have E := Lib.hid e
    clear e
    go_wp2_with fail
    go_ret
    exact ⟨by rw [← HD.out, E.out]; rfl, rfl⟩
  · rw [decide_eq_false h1] at f1
    by_cases h2 : D < 0
    · rw [decide_eq_true h2] at f2
      have e : sgn D = -1 := by simp [sgn, h1, h2]
      have E := Lib.hid e
      clear e
      go_wp2_with fail
      go_ret
      exact ⟨by rw [← HD.out, E.out]; rfl, rfl⟩
    · rw [decide_eq_false h2] at f2
      have e : sgn D = 0 := by simp [sgn, h1, h2]
      have E := Lib.hid e
      clear e
      go_wp2_with fail
      go_ret
      exact ⟨by rw [← HD.out, E.out]; rfl, rfl⟩

set_option maxHeartbeats 400000 in
theorem plain_ok (a b : Nat) (A B : Int) (w : World) (ha : IsF a A) (hb : IsF b B) (sa : Sm 8388608 A) (sb : Sm 8388608 B) :
    Calls Try.prog 14 #[.complex .f64 a b] w (RetC A B w) := by
  obtain ⟨r, e1, f1⟩ := add_isF ha isF_0 (sa.lt (by decide)) (by decide) ((sa.add (Sm.mk (B := 0) (by decide) (by decide))).lt (by decide))
  obtain ⟨i, e2, f2⟩ := add_isF hb isF_0 (sb.lt (by decide)) (by decide) ((sb.add (Sm.mk (B := 0) (by decide) (by decide))).lt (by decide))
  rw [Int.add_zero] at f1 f2
  have h1 : ∀ t w, (binOp .add t (.float .f64 a) (.float .f64 0)).run Try.prog w = .ok (.float .f64 r) w := fun t w => run_float_arith w .add t .f64 a 0 r e1
  have h2 : ∀ t w, (binOp .add t (.float .f64 b) (.float .f64 0)).run Try.prog w = .ok (.float .f64 i) w := fun t w => run_float_arith w .add t .f64 b 0 i e2
  have fin : RetC A B w (.returned (.complex .f64 r i)) w := ⟨r, i, rfl, f1, f2, rfl⟩
  have FIN := Lib.hid fin
  clear fin ha hb e1 e2 f1 f2
  go_enter Try.func14, Try.ntmps14
  go_wp2_with (first | simp only [h1] | simp only [h2])
  go_ret
  exact FIN.out
end Go.Proofs.Ytkonlhglknfflaa.planeLaws
