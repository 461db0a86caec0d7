/- The plain laws of quarter turns, sides and meeting ways on whole numbers, and the contract of causewaylaw02.awake; no condition. -/
import Derived.Test.YtkonlhglknfflaaW8
namespace Go.Proofs.Ytkonlhglknfflaa.planeLaws
open Go.ChangeShapes Go.WideShapes Go.ChangeAt Go.RowKit
open PF
set_option linter.unusedVariables false

/-! ### The plain law -/
def dotZ (p q : Int × Int) : Int := p.1 * q.1 + p.2 * q.2
def crossZ (p q : Int × Int) : Int := p.1 * q.2 - p.2 * q.1
def farZ (p q : Int × Int) : Int := (p.1 - q.1) * (p.1 - q.1) + (p.2 - q.2) * (p.2 - q.2)

theorem rt_cases {P : Int × Int → Prop} (j : Nat) (p : Int × Int) (h : j < 4) (h0 : P p) (h1 : P (-p.2, p.1)) (h2 : P (-p.1, -p.2)) (h3 : P (p.2, -p.1)) : P (rt j p) := by
  rcases (by omega : j = 0 ∨ j = 1 ∨ j = 2 ∨ j = 3) with rfl | rfl | rfl | rfl
  · exact h0
  · exact h1
  · exact h2
  · show P (- -p.2, -p.1)
    rw [Int.neg_neg]; exact h3

theorem rt_eq (j : Nat) (h : j < 4) : (∀ p, rt j p = p) ∨ (∀ p, rt j p = (-p.2, p.1)) ∨ (∀ p, rt j p = (-p.1, -p.2)) ∨ (∀ p, rt j p = (p.2, -p.1)) := by
  rcases (by omega : j = 0 ∨ j = 1 ∨ j = 2 ∨ j = 3) with rfl | rfl | rfl | rfl
  · exact .inl fun p => rfl
  · exact .inr (.inl fun p => rfl)
  · exact .inr (.inr (.inl fun p => rfl))
  · exact .inr (.inr (.inr fun p => by show (- -p.2, -p.1) = _; rw [Int.neg_neg]))

theorem dot_rt (j : Nat) (h : j < 4) (a b : Int × Int) : dotZ a b = dotZ (rt j a) (rt j b) := by
  unfold dotZ
  rcases rt_eq j h with e | e | e | e <;> rw [e, e] <;> (try dsimp only) <;> grind
theorem cross_rt (j : Nat) (h : j < 4) (a b : Int × Int) : crossZ a b = -crossZ (rt j b) (rt j a) := by
  unfold crossZ
  rcases rt_eq j h with e | e | e | e <;> rw [e, e] <;> (try dsimp only) <;> grind
theorem sd_rt (j : Nat) (h : j < 4) (a b p : Int × Int) : sd a b p = sd (rt j b) (rt j p) (rt j a) := by
  unfold sd
  congr 1
  rcases rt_eq j h with e | e | e | e <;> rw [e, e, e] <;> (try dsimp only) <;> grind
theorem on_far (a b p : Int × Int) : onB a b p = decide (farZ a p + farZ b p ≤ farZ a b) := by
  unfold onB
  rw [decide_eq_decide]
  have : farZ a b = farZ a p + farZ b p - 2 * ((a.1 - p.1) * (b.1 - p.1) + (a.2 - p.2) * (b.2 - p.2)) := by unfold farZ; grind
  omega

theorem sgn_neg (x : Int) : sgn (-x) = -sgn x := by unfold sgn; split <;> split <;> (try split) <;> (try split) <;> omega
theorem sd_swap (a b c : Int × Int) : sd b a c = -sd a b c := by
  unfold sd
  rw [← sgn_neg]
  congr 1
  grind
theorem sd_rev (a b c : Int × Int) : sd c b a = -sd a b c := by
  unfold sd
  rw [← sgn_neg]
  congr 1
  grind
theorem onB_swap (a b c : Int × Int) : onB b a c = onB a b c := by
  unfold onB
  rw [decide_eq_decide, Int.mul_comm (b.1 - c.1), Int.mul_comm (b.2 - c.2)]

theorem neg_beq (x : Int) : (-x == 0) = (x == 0) := by
  by_cases h : x = 0
  · subst h; rfl
  · have h2 : ¬ -x = 0 := by omega
    rw [beq_eq_false_iff_ne.2 h, beq_eq_false_iff_ne.2 h2]

theorem meet_sym (a b c d : Int × Int) : meetB a b c d = meetB d c b a := by
  have e1 : sd d c b = -sd c d b := sd_swap c d b
  have e2 : sd d c a = -sd c d a := sd_swap c d a
  have e3 : sd b a d = -sd a b d := sd_swap a b d
  have e4 : sd b a c = -sd a b c := sd_swap a b c
  have o1 : onB d c b = onB c d b := onB_swap c d b
  have o2 : onB d c a = onB c d a := onB_swap c d a
  have o3 : onB b a d = onB a b d := onB_swap a b d
  have o4 : onB b a c = onB a b c := onB_swap a b c
  unfold meetB
  rw [e1, e2, e3, e4, o1, o2, o3, o4]
  by_cases h1 : a = b
  · by_cases h2 : c = d
    · subst h1 h2
      rw [if_pos ⟨rfl, rfl⟩, if_pos ⟨rfl, rfl⟩, decide_eq_decide]
      exact eq_comm
    · subst h1
      have h3 : ¬ d = c := fun h => h2 h.symm
      rw [if_neg (fun h => h2 h.2), if_pos rfl, if_neg (fun h => h3 h.1), if_neg h3, if_pos rfl]
      rw [neg_beq]
  · by_cases h2 : c = d
    · subst h2
      have h3 : ¬ b = a := fun h => h1 h.symm
      rw [if_neg (fun h => h1 h.1), if_neg h1, if_pos rfl, if_neg (fun h => h3 h.2), if_pos rfl]
      rw [neg_beq]
    · have h3 : ¬ d = c := fun h => h2 h.symm
      have h4 : ¬ b = a := fun h => h1 h.symm
      simp only [h1, h2, h3, h4, and_self, if_false]
      rw [Int.neg_mul_neg, Int.neg_mul_neg, neg_beq, neg_beq, neg_beq, neg_beq, Int.mul_comm (sd c d b), Int.mul_comm (sd a b d)]
      have hc : (sd a b c * sd a b d < 0 ∧ sd c d a * sd c d b < 0) = (sd c d a * sd c d b < 0 ∧ sd a b c * sd a b d < 0) := propext and_comm
      simp only [hc]
      congr 1
      cases (sd a b c == 0 && onB a b c) <;> cases (sd a b d == 0 && onB a b d) <;> cases (sd c d a == 0 && onB c d a) <;> cases (sd c d b == 0 && onB c d b) <;> rfl

theorem dot_p {a b c d : Nat} {p q : Int × Int} (hp : Pl a b p.1 p.2) (hq : Pl c d q.1 q.2) (w : World) :
    Calls Try.prog 7 #[.complex .f64 a b, .complex .f64 c d] w fun e w' => e = .returned (.tuple #[.int .i64 (dotZ p q), .int .i64 0]) ∧ Grown w w' := dot_ok a b c d _ _ _ _ w hp hq
theorem cross_p {a b c d : Nat} {p q : Int × Int} (hp : Pl a b p.1 p.2) (hq : Pl c d q.1 q.2) (w : World) :
    Calls Try.prog 8 #[.complex .f64 a b, .complex .f64 c d] w fun e w' => e = .returned (.tuple #[.int .i64 (crossZ p q), .int .i64 0]) ∧ Grown w w' := cross_ok a b c d _ _ _ _ w hp hq
theorem far_p {a b c d : Nat} {p q : Int × Int} (hp : Pl a b p.1 p.2) (hq : Pl c d q.1 q.2) (w : World) :
    Calls Try.prog 11 #[.complex .f64 a b, .complex .f64 c d] w fun e w' => e = .returned (.tuple #[.int .i64 (farZ p q), .int .i64 0]) ∧ Grown w w' := Far_ok a b c d _ _ _ _ w hp hq
theorem Side_p {a b c d f g : Nat} {p q s : Int × Int} (hp : Pl a b p.1 p.2) (hq : Pl c d q.1 q.2) (hs : Pl f g s.1 s.2) (w : World) :
    Calls Try.prog 9 #[.complex .f64 a b, .complex .f64 c d, .complex .f64 f g] w fun e w' => e = .returned (.tuple #[.int .i64 (sd p q s), .int .i64 0]) ∧ Grown w w' := Side_ok a b c d f g _ _ _ _ _ _ w hp hq hs
theorem disc_p {a b c d f g : Nat} {p q s : Int × Int} (hp : Pl a b p.1 p.2) (hq : Pl c d q.1 q.2) (hs : Pl f g s.1 s.2) (w : World) :
    Calls Try.prog 10 #[.complex .f64 a b, .complex .f64 c d, .complex .f64 f g] w fun e w' => e = .returned (.tuple #[.bool (onB p q s), .int .i64 0]) ∧ Grown w w' := disc_ok a b c d f g _ _ _ _ _ _ w hp hq hs

theorem isF_2 : IsF 4611686018427387904 2 := ⟨false, by decide +kernel, fun h => by omega, fun _ => rfl⟩
theorem isF_3 : IsF 4613937818241073152 3 := ⟨false, by decide +kernel, fun h => by omega, fun _ => rfl⟩
theorem isF_4 : IsF 4616189618054758400 4 := ⟨false, by decide +kernel, fun h => by omega, fun _ => rfl⟩

set_option maxHeartbeats 400000 in
theorem awake_ok (w : World) : Calls Try.prog 6 #[] w fun e w' => e = .returned (.bool true) ∧ Grown w w' := by
  have H1 := Lib.hid (fun w => cross_ok _ _ _ _ _ _ _ _ w ⟨isF_1, isF_2, Sm.mk (by decide) (by decide), Sm.mk (by decide) (by decide)⟩ ⟨isF_3, isF_4, Sm.mk (by decide) (by decide), Sm.mk (by decide) (by decide)⟩)
  have H2 := Lib.hid (fun w => ok_ok 0 0 0 0 w isF_0 isF_0 (Sm.mk (by decide) (by decide)) (Sm.mk (by decide) (by decide)))
  go_enter Try.func6, Try.ntmps6
  go_wp2_with fail
  refine (H1.out _).mono ?_
  rintro e w' ⟨rfl, hg⟩
  go_wp2_with fail
  refine (H2.out _).mono ?_
  rintro e w' ⟨rfl, rfl⟩
  go_wp2_with fail
  go_ret
  exact ⟨rfl, hg⟩
end Go.Proofs.Ytkonlhglknfflaa.planeLaws
