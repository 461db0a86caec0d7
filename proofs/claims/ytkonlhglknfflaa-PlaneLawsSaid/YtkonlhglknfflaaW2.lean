/- Contracts of plane.Ok and plane.both on complex numbers with whole parts; conditions: the stated bounds on the parts. -/
import Derived.Test.YtkonlhglknfflaaW1
import Derived.Lib.Hide
namespace Go.Proofs.Ytkonlhglknfflaa.planeLaws
open Go.ChangeShapes Go.WideShapes Go.ChangeAt Go.RowKit
open PF
set_option linter.unusedVariables false

def Sm (B : Nat) (n : Int) : Prop := n.natAbs ≤ B
theorem Sm.mk {B : Nat} {n : Int} (h1 : -(B : Int) ≤ n) (h2 : n ≤ B) : Sm B n := by unfold Sm; omega
theorem Sm.lt {B : Nat} {n : Int} (h : Sm B n) (hB : B < 2 ^ 53) : n.natAbs < 2 ^ 53 := Nat.lt_of_le_of_lt h hB
theorem Sm.mul {B C : Nat} {n m : Int} (h : Sm B n) (k : Sm C m) : Sm (B * C) (n * m) := by unfold Sm at *; rw [Int.natAbs_mul]; exact Nat.mul_le_mul h k
theorem Sm.add {B C : Nat} {n m : Int} (h : Sm B n) (k : Sm C m) : Sm (B + C) (n + m) := by unfold Sm at *; omega
theorem Sm.sub {B C : Nat} {n m : Int} (h : Sm B n) (k : Sm C m) : Sm (B + C) (n - m) := by unfold Sm at *; omega
theorem Sm.neg {B : Nat} {n : Int} (h : Sm B n) : Sm B (-n) := by unfold Sm at *; omega
theorem Sm.mono {B C : Nat} {n : Int} (h : Sm B n) (k : B ≤ C) : Sm C n := Nat.le_trans h k
theorem Sm.le {B : Nat} {n : Int} (h : Sm B n) : -(B : Int) ≤ n ∧ n ≤ B := by unfold Sm at h; omega

theorem csub_isF {a b c d : Nat} {A B C D : Int} (ha : IsF a A) (hb : IsF b B) (hc : IsF c C) (hd : IsF d D) (sa : Sm 4194304 A) (sb : Sm 4194304 B) (sc : Sm 4194304 C) (sd : Sm 4194304 D) :
    ∃ re im, cSumBits .sub .f64 a b c d = some (re, im) ∧ IsF re (A - C) ∧ IsF im (B - D) := by
  obtain ⟨re, e1, f1⟩ := sub_isF ha hc (sa.lt (by decide)) (sc.lt (by decide)) ((sa.sub sc).lt (by decide))
  obtain ⟨im, e2, f2⟩ := sub_isF hb hd (sb.lt (by decide)) (sd.lt (by decide)) ((sb.sub sd).lt (by decide))
  refine ⟨re, im, ?_, f1, f2⟩
  have g1 : floatBits .sub .f64 a c = some re := e1
  have g2 : floatBits .sub .f64 b d = some im := e2
  simp [cSumBits, g1, g2]

theorem cmul_isF {a b c d : Nat} {A B C D : Int} (ha : IsF a A) (hb : IsF b B) (hc : IsF c C) (hd : IsF d D) (sa : Sm 8388608 A) (sb : Sm 8388608 B) (sc : Sm 8388608 C) (sd : Sm 8388608 D) :
    ∃ re im, cMulBits a b c d = some (re, im) ∧ IsF re (A * C - B * D) ∧ IsF im (A * D + B * C) := by
  obtain ⟨ac, e1, f1⟩ := mul_isF ha hc (sa.lt (by decide)) (sc.lt (by decide)) ((sa.mul sc).lt (by decide))
  obtain ⟨bd, e2, f2⟩ := mul_isF hb hd (sb.lt (by decide)) (sd.lt (by decide)) ((sb.mul sd).lt (by decide))
  obtain ⟨re, e3, f3⟩ := sub_isF f1 f2 ((sa.mul sc).lt (by decide)) ((sb.mul sd).lt (by decide)) (((sa.mul sc).sub (sb.mul sd)).lt (by decide))
  obtain ⟨ad, e4, f4⟩ := mul_isF ha hd (sa.lt (by decide)) (sd.lt (by decide)) ((sa.mul sd).lt (by decide))
  obtain ⟨bc, e5, f5⟩ := mul_isF hb hc (sb.lt (by decide)) (sc.lt (by decide)) ((sb.mul sc).lt (by decide))
  obtain ⟨im, e6, f6⟩ := add_isF f4 f5 ((sa.mul sd).lt (by decide)) ((sb.mul sc).lt (by decide)) (((sa.mul sd).add (sb.mul sc)).lt (by decide))
  refine ⟨re, im, ?_, f3, f6⟩
  have g1 : floatBits .mul .f64 a c = some ac := e1
  have g2 : floatBits .mul .f64 b d = some bd := e2
  have g3 : floatBits .sub .f64 ac bd = some re := e3
  have g4 : floatBits .mul .f64 a d = some ad := e4
  have g5 : floatBits .mul .f64 b c = some bc := e5
  have g6 : floatBits .add .f64 ad bc = some im := e6
  simp [cMulBits, g1, g2, g3, g4, g5, g6]

/-- returns the complex number A + iB -/
def RetC (A B : Int) (w : World) (e : Ending) (w' : World) : Prop := ∃ r i, e = .returned (.complex .f64 r i) ∧ IsF r A ∧ IsF i B ∧ w = w'

set_option maxHeartbeats 400000 in
theorem ok_ok (x y : Nat) (n m : Int) (w : World) (hx : IsF x n) (hy : IsF y m) (h1 : Sm 1048576 n) (h2 : Sm 1048576 m) :
    Calls Try.prog 13 #[.complex .f64 x y] w fun e w' => e = .returned (.bool true) ∧ w = w' := by
  have c1 := fun w => whole_ok x n w hx h1.le.1 h1.le.2
  have c2 := fun w => whole_ok y m w hy h2.le.1 h2.le.2
  have C1 := Lib.hid c1
  have C2 := Lib.hid c2
  clear c1 c2 hx hy
  go_enter Try.func13, Try.ntmps13
  go_wp2_with fail
  refine (C1.out _).mono ?_
  rintro e w' ⟨rfl, rfl⟩
  go_wp2_with fail
  refine (C2.out _).mono ?_
  rintro e w' ⟨rfl, rfl⟩
  go_wp2_with fail
  go_ret
  exact ⟨rfl, rfl⟩

set_option maxHeartbeats 400000 in
theorem both_ok (a b c d : Nat) (A B C D : Int) (w : World) (ha : IsF a A) (hb : IsF b B) (hc : IsF c C) (hd : IsF d D) (sa : Sm 8388608 A) (sb : Sm 8388608 B) (sc : Sm 8388608 C) (sd : Sm 8388608 D) :
    Calls Try.prog 16 #[.complex .f64 a b, .complex .f64 c d] w (RetC (A * C + B * D) (A * D - B * C) w) := by
  have hnb : IsF (Op.negFloat .f64 b) (-B) := negBits_isF hb (sb.lt (by decide))
  obtain ⟨re, im, e, f1, f2⟩ := cmul_isF ha hnb hc hd sa sb.neg sc sd
  rw [Int.neg_mul, Int.sub_neg] at f1
  rw [Int.neg_mul, ← Int.sub_eq_add_neg] at f2
  have hop := fun t w => run_complex_mul (P := Try.prog) w t a (Op.negFloat .f64 b) c d re im e
  have hneg : ∀ w, (Op.unary .neg (.float .f64 b)).run Try.prog w = .ok (.float .f64 (Op.negFloat .f64 b)) w := fun w => rfl
  have fin : RetC (A * C + B * D) (A * D - B * C) w (.returned (.complex .f64 re im)) w := ⟨re, im, rfl, f1, f2, rfl⟩
  clear ha hb hc hd hnb e f1 f2
  have FIN := Lib.hid fin
  clear fin
  go_enter Try.func16, Try.ntmps16
  go_wp2_with (first | simp only [hop] | simp only [hneg])
  go_ret
  exact FIN.out
end Go.Proofs.Ytkonlhglknfflaa.planeLaws
