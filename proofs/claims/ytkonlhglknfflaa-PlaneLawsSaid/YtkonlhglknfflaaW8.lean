/- Contract of plane.Meet on places; condition: the arguments are places. -/
import Derived.Test.YtkonlhglknfflaaW6
namespace Go.Proofs.Ytkonlhglknfflaa.planeLaws
open Go.ChangeShapes Go.WideShapes Go.ChangeAt Go.RowKit
open PF
set_option linter.unusedVariables false

def sd (a b c : Int × Int) : Int := sgn ((b.1 - a.1) * (c.2 - a.2) - (b.2 - a.2) * (c.1 - a.1))
def onB (a b c : Int × Int) : Bool := decide ((a.1 - c.1) * (b.1 - c.1) + (a.2 - c.2) * (b.2 - c.2) ≤ 0)

structure PlP (x y : Nat) (p : Int × Int) : Prop where
  pl : Pl x y p.1 p.2

theorem eqC {x y u v : Nat} {p q : Int × Int} (h : Pl x y p.1 p.2) (k : Pl u v q.1 q.2) : ((FloatKind.f64.format.order x u == some .eq) && (FloatKind.f64.format.order y v == some .eq)) = decide (p = q) := by
  rw [ordEq h.re k.re (h.sre.lt (by decide)) (k.sre.lt (by decide)), ordEq h.im k.im (h.sim.lt (by decide)) (k.sim.lt (by decide))]
  obtain ⟨p1, p2⟩ := p
  obtain ⟨q1, q2⟩ := q
  by_cases h1 : p1 = q1 <;> by_cases h2 : p2 = q2 <;> simp [h1, h2]

theorem side_p {a b c d f g : Nat} {p q s : Int × Int} (hp : Pl a b p.1 p.2) (hq : Pl c d q.1 q.2) (hs : Pl f g s.1 s.2) (w : World) :
    Calls Try.prog 17 #[.complex .f64 a b, .complex .f64 c d, .complex .f64 f g] w fun e w' => e = .returned (.int .i64 (sd p q s)) ∧ w = w' :=
  side_ok a b c d f g _ _ _ _ _ _ w hp.re hp.im hq.re hq.im hs.re hs.im hp.sre hp.sim hq.sre hq.sim hs.sre hs.sim
theorem on_p {a b c d f g : Nat} {p q s : Int × Int} (hp : Pl a b p.1 p.2) (hq : Pl c d q.1 q.2) (hs : Pl f g s.1 s.2) (w : World) :
    Calls Try.prog 18 #[.complex .f64 a b, .complex .f64 c d, .complex .f64 f g] w fun e w' => e = .returned (.bool (onB p q s)) ∧ w = w' :=
  on_ok a b c d f g _ _ _ _ _ _ w hp.re hp.im hq.re hq.im hs.re hs.im hp.sre hp.sim hq.sre hq.sim hs.sre hs.sim

theorem sgn_bd (x : Int) : -1 ≤ sgn x ∧ sgn x ≤ 1 := by unfold sgn; split <;> (try split) <;> omega

/-- Meet's answer on whole places -/
def meetB (a b c d : Int × Int) : Bool :=
  if a = b ∧ c = d then decide (a = c)
  else if a = b then sd c d a == 0 && onB c d a
  else if c = d then sd a b c == 0 && onB a b c
  else if sd a b c * sd a b d < 0 ∧ sd c d a * sd c d b < 0 then true
  else sd a b c == 0 && onB a b c || sd a b d == 0 && onB a b d || sd c d a == 0 && onB c d a || sd c d b == 0 && onB c d b

def RetM (B : Bool) (w : World) (e : Ending) (w' : World) : Prop := e = .returned (.tuple #[.bool B, .int .i64 0]) ∧ Grown w w'
theorem RetM.mk {B B' : Bool} {w w' : World} (h : B = B') (g : Grown w w') : RetM B' w (.returned (.tuple #[.bool B, .int .i64 0])) w' := ⟨by rw [h], g⟩

theorem mul_bd {x y : Int} (h : -1 ≤ x ∧ x ≤ 1) (k : -1 ≤ y ∧ y ≤ 1) : -1 ≤ x * y ∧ x * y ≤ 1 := by
  rcases (by omega : x = -1 ∨ x = 0 ∨ x = 1) with rfl | rfl | rfl <;> omega

set_option maxHeartbeats 1000000 in
theorem meet_eq (a1 a2 b1 b2 c1 c2 d1 d2 : Nat) (a b c d : Int × Int) (w : World) (pa : Pl a1 a2 a.1 a.2) (pb : Pl b1 b2 b.1 b.2) (pc : Pl c1 c2 c.1 c.2) (pd : Pl d1 d2 d.1 d.2) (h1 : a = b) (h2 : c = d) :
    Calls Try.prog 12 #[.complex .f64 a1 a2, .complex .f64 b1 b2, .complex .f64 c1 c2, .complex .f64 d1 d2] w (RetM (meetB a b c d) w) := by
  have H0 := Lib.hid (all4 pa pb pc pd)
  have H1 := Lib.hid (side_p pa pb pc)
  have H2 := Lib.hid (side_p pa pb pd)
  have H3 := Lib.hid (side_p pc pd pa)
  have H4 := Lib.hid (side_p pc pd pb)
  have O1 := Lib.hid (on_p pa pb pc)
  have O2 := Lib.hid (on_p pa pb pd)
  have O3 := Lib.hid (on_p pc pd pa)
  have O4 := Lib.hid (on_p pc pd pb)
  have q1 := eqC pa pb
  have q2 := eqC pc pd
  have q3 := eqC pa pc
  have s1 := sgn_bd ((b.1 - a.1) * (c.2 - a.2) - (b.2 - a.2) * (c.1 - a.1))
  have s2 := sgn_bd ((b.1 - a.1) * (d.2 - a.2) - (b.2 - a.2) * (d.1 - a.1))
  have s3 := sgn_bd ((d.1 - c.1) * (a.2 - c.2) - (d.2 - c.2) * (a.1 - c.1))
  have s4 := sgn_bd ((d.1 - c.1) * (b.2 - c.2) - (d.2 - c.2) * (b.1 - c.1))
  have m1 : wrap64 (sd a b c * sd a b d) = sd a b c * sd a b d := by
    have := mul_bd s1 s2
    show wrap64 _ = _
    unfold wrap64; unfold sd; omega
  have m2 : wrap64 (sd c d a * sd c d b) = sd c d a * sd c d b := by
    have := mul_bd s3 s4
    unfold wrap64; unfold sd; omega
  clear pa pb pc pd s1 s2 s3 s4
  rw [decide_eq_true h1] at q1
  rw [decide_eq_true h2] at q2
  have fin : meetB a b c d = decide (a = c) := by unfold meetB; rw [if_pos ⟨h1, h2⟩]
  have Q3 := Lib.hid q3
  have FIN := Lib.hid fin
  clear h1 h2 q3 fin m1 m2
  go_enter Try.func12, Try.ntmps12
  go_wp2_with fail
  refine (H0.out _).mono ?_
  rintro e w' ⟨rfl, rfl⟩
  go_wp2_with fail
  refine (H1.out _).mono ?_
  rintro e w' ⟨rfl, rfl⟩
  go_wp2_with fail
  refine (H2.out _).mono ?_
  rintro e w' ⟨rfl, rfl⟩
  go_wp2_with fail
  refine (H3.out _).mono ?_
  rintro e w' ⟨rfl, rfl⟩
  go_wp2_with fail
  refine (H4.out _).mono ?_
  rintro e w' ⟨rfl, rfl⟩
  clear H0 H1 H2 H3 H4
  go_wp2_with fail
  go_ret2
  exact RetM.mk (by rw [FIN.out]; exact Q3.out) ((Grown.refl _).alloc _ _)

set_option maxHeartbeats 1000000 in
theorem meet_ab (a1 a2 b1 b2 c1 c2 d1 d2 : Nat) (a b c d : Int × Int) (w : World) (pa : Pl a1 a2 a.1 a.2) (pb : Pl b1 b2 b.1 b.2) (pc : Pl c1 c2 c.1 c.2) (pd : Pl d1 d2 d.1 d.2) (h1 : a = b) (h2 : ¬ c = d) :
    Calls Try.prog 12 #[.complex .f64 a1 a2, .complex .f64 b1 b2, .complex .f64 c1 c2, .complex .f64 d1 d2] w (RetM (meetB a b c d) w) := by
  have H0 := Lib.hid (all4 pa pb pc pd)
  have H1 := Lib.hid (side_p pa pb pc)
  have H2 := Lib.hid (side_p pa pb pd)
  have H3 := Lib.hid (side_p pc pd pa)
  have H4 := Lib.hid (side_p pc pd pb)
  have O1 := Lib.hid (on_p pa pb pc)
  have O2 := Lib.hid (on_p pa pb pd)
  have O3 := Lib.hid (on_p pc pd pa)
  have O4 := Lib.hid (on_p pc pd pb)
  have q1 := eqC pa pb
  have q2 := eqC pc pd
  have q3 := eqC pa pc
  have s1 := sgn_bd ((b.1 - a.1) * (c.2 - a.2) - (b.2 - a.2) * (c.1 - a.1))
  have s2 := sgn_bd ((b.1 - a.1) * (d.2 - a.2) - (b.2 - a.2) * (d.1 - a.1))
  have s3 := sgn_bd ((d.1 - c.1) * (a.2 - c.2) - (d.2 - c.2) * (a.1 - c.1))
  have s4 := sgn_bd ((d.1 - c.1) * (b.2 - c.2) - (d.2 - c.2) * (b.1 - c.1))
  have m1 : wrap64 (sd a b c * sd a b d) = sd a b c * sd a b d := by
    have := mul_bd s1 s2
    show wrap64 _ = _
    unfold wrap64; unfold sd; omega
  have m2 : wrap64 (sd c d a * sd c d b) = sd c d a * sd c d b := by
    have := mul_bd s3 s4
    unfold wrap64; unfold sd; omega
  clear pa pb pc pd s1 s2 s3 s4
  rw [decide_eq_true h1] at q1
  rw [decide_eq_false h2] at q2
  have fin : meetB a b c d = (sd c d a == 0 && onB c d a) := by unfold meetB; rw [if_neg (fun h => h2 h.2), if_pos h1]
  have FIN := Lib.hid fin
  clear h1 h2 q3 fin m1 m2
  go_enter Try.func12, Try.ntmps12
  go_wp2_with fail
  refine (H0.out _).mono ?_
  rintro e w' ⟨rfl, rfl⟩
  go_wp2_with fail
  refine (H1.out _).mono ?_
  rintro e w' ⟨rfl, rfl⟩
  go_wp2_with fail
  refine (H2.out _).mono ?_
  rintro e w' ⟨rfl, rfl⟩
  go_wp2_with fail
  refine (H3.out _).mono ?_
  rintro e w' ⟨rfl, rfl⟩
  go_wp2_with fail
  refine (H4.out _).mono ?_
  rintro e w' ⟨rfl, rfl⟩
  clear H0 H1 H2 H3 H4
  by_cases hz : sd c d a = 0
  · have hz' : (sd c d a == 0) = true := by simpa using hz
    have Z := Lib.hid hz'
    clear hz
    go_wp2_with fail
    refine (O3.out _).mono ?_
    rintro e w' ⟨rfl, rfl⟩
    go_wp2_with fail
    go_ret2
    exact RetM.mk (by rw [FIN.out, Z.out]; rfl) ((Grown.refl _).alloc _ _)
  · have hz' : (sd c d a == 0) = false := by simpa using hz
    have Z := Lib.hid hz'
    clear hz
    go_wp2_with fail
    go_ret2
    exact RetM.mk (by rw [FIN.out, Z.out]; rfl) ((Grown.refl _).alloc _ _)

set_option maxHeartbeats 1000000 in
theorem meet_cd (a1 a2 b1 b2 c1 c2 d1 d2 : Nat) (a b c d : Int × Int) (w : World) (pa : Pl a1 a2 a.1 a.2) (pb : Pl b1 b2 b.1 b.2) (pc : Pl c1 c2 c.1 c.2) (pd : Pl d1 d2 d.1 d.2) (h1 : ¬ a = b) (h2 : c = d) :
    Calls Try.prog 12 #[.complex .f64 a1 a2, .complex .f64 b1 b2, .complex .f64 c1 c2, .complex .f64 d1 d2] w (RetM (meetB a b c d) w) := by
  have H0 := Lib.hid (all4 pa pb pc pd)
  have H1 := Lib.hid (side_p pa pb pc)
  have H2 := Lib.hid (side_p pa pb pd)
  have H3 := Lib.hid (side_p pc pd pa)
  have H4 := Lib.hid (side_p pc pd pb)
  have O1 := Lib.hid (on_p pa pb pc)
  have O2 := Lib.hid (on_p pa pb pd)
  have O3 := Lib.hid (on_p pc pd pa)
  have O4 := Lib.hid (on_p pc pd pb)
  have q1 := eqC pa pb
  have q2 := eqC pc pd
  have q3 := eqC pa pc
  have s1 := sgn_bd ((b.1 - a.1) * (c.2 - a.2) - (b.2 - a.2) * (c.1 - a.1))
  have s2 := sgn_bd ((b.1 - a.1) * (d.2 - a.2) - (b.2 - a.2) * (d.1 - a.1))
  have s3 := sgn_bd ((d.1 - c.1) * (a.2 - c.2) - (d.2 - c.2) * (a.1 - c.1))
  have s4 := sgn_bd ((d.1 - c.1) * (b.2 - c.2) - (d.2 - c.2) * (b.1 - c.1))
  have m1 : wrap64 (sd a b c * sd a b d) = sd a b c * sd a b d := by
    have := mul_bd s1 s2
    show wrap64 _ = _
    unfold wrap64; unfold sd; omega
  have m2 : wrap64 (sd c d a * sd c d b) = sd c d a * sd c d b := by
    have := mul_bd s3 s4
    unfold wrap64; unfold sd; omega
  clear pa pb pc pd s1 s2 s3 s4
  rw [decide_eq_false h1] at q1
  rw [decide_eq_true h2] at q2
  have fin : meetB a b c d = (sd a b c == 0 && onB a b c) := by unfold meetB; rw [if_neg (fun h => h1 h.1), if_neg h1, if_pos h2]
  have FIN := Lib.hid fin
  clear h1 h2 q3 fin m1 m2
  go_enter Try.func12, Try.ntmps12
  go_wp2_with fail
  refine (H0.out _).mono ?_
  rintro e w' ⟨rfl, rfl⟩
  go_wp2_with fail
  refine (H1.out _).mono ?_
  rintro e w' ⟨rfl, rfl⟩
  go_wp2_with fail
  refine (H2.out _).mono ?_
  rintro e w' ⟨rfl, rfl⟩
  go_wp2_with fail
  refine (H3.out _).mono ?_
  rintro e w' ⟨rfl, rfl⟩
  go_wp2_with fail
  refine (H4.out _).mono ?_
  rintro e w' ⟨rfl, rfl⟩
  clear H0 H1 H2 H3 H4
  by_cases hz : sd a b c = 0
  · have hz' : (sd a b c == 0) = true := by simpa using hz
    have Z := Lib.hid hz'
    clear hz
    go_wp2_with fail
    refine (O1.out _).mono ?_
    rintro e w' ⟨rfl, rfl⟩
    go_wp2_with fail
    go_ret2
    exact RetM.mk (by rw [FIN.out, Z.out]; rfl) ((Grown.refl _).alloc _ _)
  · have hz' : (sd a b c == 0) = false := by simpa using hz
    have Z := Lib.hid hz'
    clear hz
    go_wp2_with fail
    go_ret2
    exact RetM.mk (by rw [FIN.out, Z.out]; rfl) ((Grown.refl _).alloc _ _)

set_option maxHeartbeats 1000000 in
theorem meet_x1 (a1 a2 b1 b2 c1 c2 d1 d2 : Nat) (a b c d : Int × Int) (w : World) (pa : Pl a1 a2 a.1 a.2) (pb : Pl b1 b2 b.1 b.2) (pc : Pl c1 c2 c.1 c.2) (pd : Pl d1 d2 d.1 d.2) (h1 : ¬ a = b) (h2 : ¬ c = d) (k1 : sd a b c * sd a b d < 0) (k2 : sd c d a * sd c d b < 0) :
    Calls Try.prog 12 #[.complex .f64 a1 a2, .complex .f64 b1 b2, .complex .f64 c1 c2, .complex .f64 d1 d2] w (RetM (meetB a b c d) w) := by
  have H0 := Lib.hid (all4 pa pb pc pd)
  have H1 := Lib.hid (side_p pa pb pc)
  have H2 := Lib.hid (side_p pa pb pd)
  have H3 := Lib.hid (side_p pc pd pa)
  have H4 := Lib.hid (side_p pc pd pb)
  have O1 := Lib.hid (on_p pa pb pc)
  have O2 := Lib.hid (on_p pa pb pd)
  have O3 := Lib.hid (on_p pc pd pa)
  have O4 := Lib.hid (on_p pc pd pb)
  have q1 := eqC pa pb
  have q2 := eqC pc pd
  have q3 := eqC pa pc
  have s1 := sgn_bd ((b.1 - a.1) * (c.2 - a.2) - (b.2 - a.2) * (c.1 - a.1))
  have s2 := sgn_bd ((b.1 - a.1) * (d.2 - a.2) - (b.2 - a.2) * (d.1 - a.1))
  have s3 := sgn_bd ((d.1 - c.1) * (a.2 - c.2) - (d.2 - c.2) * (a.1 - c.1))
  have s4 := sgn_bd ((d.1 - c.1) * (b.2 - c.2) - (d.2 - c.2) * (b.1 - c.1))
  have m1 : wrap64 (sd a b c * sd a b d) = sd a b c * sd a b d := by
    have := mul_bd s1 s2
    show wrap64 _ = _
    unfold wrap64; unfold sd; omega
  have m2 : wrap64 (sd c d a * sd c d b) = sd c d a * sd c d b := by
    have := mul_bd s3 s4
    unfold wrap64; unfold sd; omega
  clear pa pb pc pd s1 s2 s3 s4
  rw [decide_eq_false h1] at q1
  rw [decide_eq_false h2] at q2
  have fin : meetB a b c d = (if sd a b c * sd a b d < 0 ∧ sd c d a * sd c d b < 0 then true
    else sd a b c == 0 && onB a b c || sd a b d == 0 && onB a b d || sd c d a == 0 && onB c d a || sd c d b == 0 && onB c d b) := by unfold meetB; rw [if_neg (fun h => h1 h.1), if_neg h1, if_neg h2]
  have FIN := Lib.hid fin
  clear h1 h2 q3 fin
  go_enter Try.func12, Try.ntmps12
  go_wp2_with fail
  refine (H0.out _).mono ?_
  rintro e w' ⟨rfl, rfl⟩
  go_wp2_with fail
  refine (H1.out _).mono ?_
  rintro e w' ⟨rfl, rfl⟩
  go_wp2_with fail
  refine (H2.out _).mono ?_
  rintro e w' ⟨rfl, rfl⟩
  go_wp2_with fail
  refine (H3.out _).mono ?_
  rintro e w' ⟨rfl, rfl⟩
  go_wp2_with fail
  refine (H4.out _).mono ?_
  rintro e w' ⟨rfl, rfl⟩
  clear H0 H1 H2 H3 H4
  go_wp2_with fail
  go_ret2
  exact RetM.mk (by rw [FIN.out, if_pos ⟨k1, k2⟩]) ((Grown.refl _).alloc _ _)

set_option maxHeartbeats 1000000 in
theorem meet_x2 (a1 a2 b1 b2 c1 c2 d1 d2 : Nat) (a b c d : Int × Int) (w : World) (pa : Pl a1 a2 a.1 a.2) (pb : Pl b1 b2 b.1 b.2) (pc : Pl c1 c2 c.1 c.2) (pd : Pl d1 d2 d.1 d.2) (h1 : ¬ a = b) (h2 : ¬ c = d) (k1 : sd a b c * sd a b d < 0) (k2 : ¬ sd c d a * sd c d b < 0) :
    Calls Try.prog 12 #[.complex .f64 a1 a2, .complex .f64 b1 b2, .complex .f64 c1 c2, .complex .f64 d1 d2] w (RetM (meetB a b c d) w) := by
  have H0 := Lib.hid (all4 pa pb pc pd)
  have H1 := Lib.hid (side_p pa pb pc)
  have H2 := Lib.hid (side_p pa pb pd)
  have H3 := Lib.hid (side_p pc pd pa)
  have H4 := Lib.hid (side_p pc pd pb)
  have O1 := Lib.hid (on_p pa pb pc)
  have O2 := Lib.hid (on_p pa pb pd)
  have O3 := Lib.hid (on_p pc pd pa)
  have O4 := Lib.hid (on_p pc pd pb)
  have q1 := eqC pa pb
  have q2 := eqC pc pd
  have q3 := eqC pa pc
  have s1 := sgn_bd ((b.1 - a.1) * (c.2 - a.2) - (b.2 - a.2) * (c.1 - a.1))
  have s2 := sgn_bd ((b.1 - a.1) * (d.2 - a.2) - (b.2 - a.2) * (d.1 - a.1))
  have s3 := sgn_bd ((d.1 - c.1) * (a.2 - c.2) - (d.2 - c.2) * (a.1 - c.1))
  have s4 := sgn_bd ((d.1 - c.1) * (b.2 - c.2) - (d.2 - c.2) * (b.1 - c.1))
  have m1 : wrap64 (sd a b c * sd a b d) = sd a b c * sd a b d := by
    have := mul_bd s1 s2
    show wrap64 _ = _
    unfold wrap64; unfold sd; omega
  have m2 : wrap64 (sd c d a * sd c d b) = sd c d a * sd c d b := by
    have := mul_bd s3 s4
    unfold wrap64; unfold sd; omega
  clear pa pb pc pd s1 s2 s3 s4
  rw [decide_eq_false h1] at q1
  rw [decide_eq_false h2] at q2
  have fin : meetB a b c d = (if sd a b c * sd a b d < 0 ∧ sd c d a * sd c d b < 0 then true
    else sd a b c == 0 && onB a b c || sd a b d == 0 && onB a b d || sd c d a == 0 && onB c d a || sd c d b == 0 && onB c d b) := by unfold meetB; rw [if_neg (fun h => h1 h.1), if_neg h1, if_neg h2]
  have FIN := Lib.hid fin
  rw [if_neg (fun h => k2 h.2)] at fin
  have FIN2 := Lib.hid fin
  clear h1 h2 q3 fin FIN
  go_enter Try.func12, Try.ntmps12
  go_wp2_with fail
  refine (H0.out _).mono ?_
  rintro e w' ⟨rfl, rfl⟩
  go_wp2_with fail
  refine (H1.out _).mono ?_
  rintro e w' ⟨rfl, rfl⟩
  go_wp2_with fail
  refine (H2.out _).mono ?_
  rintro e w' ⟨rfl, rfl⟩
  go_wp2_with fail
  refine (H3.out _).mono ?_
  rintro e w' ⟨rfl, rfl⟩
  go_wp2_with fail
  refine (H4.out _).mono ?_
  rintro e w' ⟨rfl, rfl⟩
  clear H0 H1 H2 H3 H4
  by_cases hz0 : sd a b c = 0
  · have z0 : (sd a b c == 0) = true := by simpa using hz0
    clear hz0
    go_wp2_with fail
    refine (O1.out _).mono ?_
    rintro e w' ⟨rfl, rfl⟩
    rcases Bool.eq_false_or_eq_true (onB a b c) with o0 | o0
    ·
      go_wp2_with fail
      go_ret2
      exact RetM.mk (by rw [FIN2.out]; simp [z0, o0]) ((Grown.refl _).alloc _ _)
    ·
      by_cases hz1 : sd a b d = 0
      · have z1 : (sd a b d == 0) = true := by simpa using hz1
        clear hz1
        go_wp2_with fail
        refine (O2.out _).mono ?_
        rintro e w' ⟨rfl, rfl⟩
        rcases Bool.eq_false_or_eq_true (onB a b d) with o1 | o1
        ·
          go_wp2_with fail
          go_ret2
          exact RetM.mk (by rw [FIN2.out]; simp [z0, o0, z1, o1]) ((Grown.refl _).alloc _ _)
        ·
          by_cases hz2 : sd c d a = 0
          · have z2 : (sd c d a == 0) = true := by simpa using hz2
            clear hz2
            go_wp2_with fail
            refine (O3.out _).mono ?_
            rintro e w' ⟨rfl, rfl⟩
            rcases Bool.eq_false_or_eq_true (onB c d a) with o2 | o2
            ·
              go_wp2_with fail
              go_ret2
              exact RetM.mk (by rw [FIN2.out]; simp [z0, o0, z1, o1, z2, o2]) ((Grown.refl _).alloc _ _)
            ·
              by_cases hz3 : sd c d b = 0
              · have z3 : (sd c d b == 0) = true := by simpa using hz3
                clear hz3
                go_wp2_with fail
                refine (O4.out _).mono ?_
                rintro e w' ⟨rfl, rfl⟩
                rcases Bool.eq_false_or_eq_true (onB c d b) with o3 | o3
                ·
                  go_wp2_with fail
                  go_ret2
                  exact RetM.mk (by rw [FIN2.out]; simp [z0, o0, z1, o1, z2, o2, z3, o3]) ((Grown.refl _).alloc _ _)
                ·
                  go_wp2_with fail
                  go_ret2
                  exact RetM.mk (by rw [FIN2.out]; simp [z0, o0, z1, o1, z2, o2, z3, o3]) ((Grown.refl _).alloc _ _)
              · have z3 : (sd c d b == 0) = false := by simpa using hz3
                clear hz3
                go_wp2_with fail
                go_ret2
                exact RetM.mk (by rw [FIN2.out]; simp [z0, o0, z1, o1, z2, o2, z3]) ((Grown.refl _).alloc _ _)
          · have z2 : (sd c d a == 0) = false := by simpa using hz2
            clear hz2
            by_cases hz3 : sd c d b = 0
            · have z3 : (sd c d b == 0) = true := by simpa using hz3
              clear hz3
              go_wp2_with fail
              refine (O4.out _).mono ?_
              rintro e w' ⟨rfl, rfl⟩
              rcases Bool.eq_false_or_eq_true (onB c d b) with o3 | o3
              ·
                go_wp2_with fail
                go_ret2
                exact RetM.mk (by rw [FIN2.out]; simp [z0, o0, z1, o1, z2, z3, o3]) ((Grown.refl _).alloc _ _)
              ·
                go_wp2_with fail
                go_ret2
                exact RetM.mk (by rw [FIN2.out]; simp [z0, o0, z1, o1, z2, z3, o3]) ((Grown.refl _).alloc _ _)
            · have z3 : (sd c d b == 0) = false := by simpa using hz3
              clear hz3
              go_wp2_with fail
              go_ret2
              exact RetM.mk (by rw [FIN2.out]; simp [z0, o0, z1, o1, z2, z3]) ((Grown.refl _).alloc _ _)
      · have z1 : (sd a b d == 0) = false := by simpa using hz1
        clear hz1
        by_cases hz2 : sd c d a = 0
        · have z2 : (sd c d a == 0) = true := by simpa using hz2
          clear hz2
          go_wp2_with fail
          refine (O3.out _).mono ?_
          rintro e w' ⟨rfl, rfl⟩
          rcases Bool.eq_false_or_eq_true (onB c d a) with o2 | o2
          ·
            go_wp2_with fail
            go_ret2
            exact RetM.mk (by rw [FIN2.out]; simp [z0, o0, z1, z2, o2]) ((Grown.refl _).alloc _ _)
          ·
            by_cases hz3 : sd c d b = 0
            · have z3 : (sd c d b == 0) = true := by simpa using hz3
              clear hz3
              go_wp2_with fail
              refine (O4.out _).mono ?_
              rintro e w' ⟨rfl, rfl⟩
              rcases Bool.eq_false_or_eq_true (onB c d b) with o3 | o3
              ·
                go_wp2_with fail
                go_ret2
                exact RetM.mk (by rw [FIN2.out]; simp [z0, o0, z1, z2, o2, z3, o3]) ((Grown.refl _).alloc _ _)
              ·
                go_wp2_with fail
                go_ret2
                exact RetM.mk (by rw [FIN2.out]; simp [z0, o0, z1, z2, o2, z3, o3]) ((Grown.refl _).alloc _ _)
            · have z3 : (sd c d b == 0) = false := by simpa using hz3
              clear hz3
              go_wp2_with fail
              go_ret2
              exact RetM.mk (by rw [FIN2.out]; simp [z0, o0, z1, z2, o2, z3]) ((Grown.refl _).alloc _ _)
        · have z2 : (sd c d a == 0) = false := by simpa using hz2
          clear hz2
          by_cases hz3 : sd c d b = 0
          · have z3 : (sd c d b == 0) = true := by simpa using hz3
            clear hz3
            go_wp2_with fail
            refine (O4.out _).mono ?_
            rintro e w' ⟨rfl, rfl⟩
            rcases Bool.eq_false_or_eq_true (onB c d b) with o3 | o3
            ·
              go_wp2_with fail
              go_ret2
              exact RetM.mk (by rw [FIN2.out]; simp [z0, o0, z1, z2, z3, o3]) ((Grown.refl _).alloc _ _)
            ·
              go_wp2_with fail
              go_ret2
              exact RetM.mk (by rw [FIN2.out]; simp [z0, o0, z1, z2, z3, o3]) ((Grown.refl _).alloc _ _)
          · have z3 : (sd c d b == 0) = false := by simpa using hz3
            clear hz3
            go_wp2_with fail
            go_ret2
            exact RetM.mk (by rw [FIN2.out]; simp [z0, o0, z1, z2, z3]) ((Grown.refl _).alloc _ _)
  · have z0 : (sd a b c == 0) = false := by simpa using hz0
    clear hz0
    by_cases hz1 : sd a b d = 0
    · have z1 : (sd a b d == 0) = true := by simpa using hz1
      clear hz1
      go_wp2_with fail
      refine (O2.out _).mono ?_
      rintro e w' ⟨rfl, rfl⟩
      rcases Bool.eq_false_or_eq_true (onB a b d) with o1 | o1
      ·
        go_wp2_with fail
        go_ret2
        exact RetM.mk (by rw [FIN2.out]; simp [z0, z1, o1]) ((Grown.refl _).alloc _ _)
      ·
        by_cases hz2 : sd c d a = 0
        · have z2 : (sd c d a == 0) = true := by simpa using hz2
          clear hz2
          go_wp2_with fail
          refine (O3.out _).mono ?_
          rintro e w' ⟨rfl, rfl⟩
          rcases Bool.eq_false_or_eq_true (onB c d a) with o2 | o2
          ·
            go_wp2_with fail
            go_ret2
            exact RetM.mk (by rw [FIN2.out]; simp [z0, z1, o1, z2, o2]) ((Grown.refl _).alloc _ _)
          ·
            by_cases hz3 : sd c d b = 0
            · have z3 : (sd c d b == 0) = true := by simpa using hz3
              clear hz3
              go_wp2_with fail
              refine (O4.out _).mono ?_
              rintro e w' ⟨rfl, rfl⟩
              rcases Bool.eq_false_or_eq_true (onB c d b) with o3 | o3
              ·
                go_wp2_with fail
                go_ret2
                exact RetM.mk (by rw [FIN2.out]; simp [z0, z1, o1, z2, o2, z3, o3]) ((Grown.refl _).alloc _ _)
              ·
                go_wp2_with fail
                go_ret2
                exact RetM.mk (by rw [FIN2.out]; simp [z0, z1, o1, z2, o2, z3, o3]) ((Grown.refl _).alloc _ _)
            · have z3 : (sd c d b == 0) = false := by simpa using hz3
              clear hz3
              go_wp2_with fail
              go_ret2
              exact RetM.mk (by rw [FIN2.out]; simp [z0, z1, o1, z2, o2, z3]) ((Grown.refl _).alloc _ _)
        · have z2 : (sd c d a == 0) = false := by simpa using hz2
          clear hz2
          by_cases hz3 : sd c d b = 0
          · have z3 : (sd c d b == 0) = true := by simpa using hz3
            clear hz3
            go_wp2_with fail
            refine (O4.out _).mono ?_
            rintro e w' ⟨rfl, rfl⟩
            rcases Bool.eq_false_or_eq_true (onB c d b) with o3 | o3
            ·
              go_wp2_with fail
              go_ret2
              exact RetM.mk (by rw [FIN2.out]; simp [z0, z1, o1, z2, z3, o3]) ((Grown.refl _).alloc _ _)
            ·
              go_wp2_with fail
              go_ret2
              exact RetM.mk (by rw [FIN2.out]; simp [z0, z1, o1, z2, z3, o3]) ((Grown.refl _).alloc _ _)
          · have z3 : (sd c d b == 0) = false := by simpa using hz3
            clear hz3
            go_wp2_with fail
            go_ret2
            exact RetM.mk (by rw [FIN2.out]; simp [z0, z1, o1, z2, z3]) ((Grown.refl _).alloc _ _)
    · have z1 : (sd a b d == 0) = false := by simpa using hz1
      clear hz1
      by_cases hz2 : sd c d a = 0
      · have z2 : (sd c d a == 0) = true := by simpa using hz2
        clear hz2
        go_wp2_with fail
        refine (O3.out _).mono ?_
        rintro e w' ⟨rfl, rfl⟩
        rcases Bool.eq_false_or_eq_true (onB c d a) with o2 | o2
        ·
          go_wp2_with fail
          go_ret2
          exact RetM.mk (by rw [FIN2.out]; simp [z0, z1, z2, o2]) ((Grown.refl _).alloc _ _)
        ·
          by_cases hz3 : sd c d b = 0
          · have z3 : (sd c d b == 0) = true := by simpa using hz3
            clear hz3
            go_wp2_with fail
            refine (O4.out _).mono ?_
            rintro e w' ⟨rfl, rfl⟩
            rcases Bool.eq_false_or_eq_true (onB c d b) with o3 | o3
            ·
              go_wp2_with fail
              go_ret2
              exact RetM.mk (by rw [FIN2.out]; simp [z0, z1, z2, o2, z3, o3]) ((Grown.refl _).alloc _ _)
            ·
              go_wp2_with fail
              go_ret2
              exact RetM.mk (by rw [FIN2.out]; simp [z0, z1, z2, o2, z3, o3]) ((Grown.refl _).alloc _ _)
          · have z3 : (sd c d b == 0) = false := by simpa using hz3
            clear hz3
            go_wp2_with fail
            go_ret2
            exact RetM.mk (by rw [FIN2.out]; simp [z0, z1, z2, o2, z3]) ((Grown.refl _).alloc _ _)
      · have z2 : (sd c d a == 0) = false := by simpa using hz2
        clear hz2
        by_cases hz3 : sd c d b = 0
        · have z3 : (sd c d b == 0) = true := by simpa using hz3
          clear hz3
          go_wp2_with fail
          refine (O4.out _).mono ?_
          rintro e w' ⟨rfl, rfl⟩
          rcases Bool.eq_false_or_eq_true (onB c d b) with o3 | o3
          ·
            go_wp2_with fail
            go_ret2
            exact RetM.mk (by rw [FIN2.out]; simp [z0, z1, z2, z3, o3]) ((Grown.refl _).alloc _ _)
          ·
            go_wp2_with fail
            go_ret2
            exact RetM.mk (by rw [FIN2.out]; simp [z0, z1, z2, z3, o3]) ((Grown.refl _).alloc _ _)
        · have z3 : (sd c d b == 0) = false := by simpa using hz3
          clear hz3
          go_wp2_with fail
          go_ret2
          exact RetM.mk (by rw [FIN2.out]; simp [z0, z1, z2, z3]) ((Grown.refl _).alloc _ _)

set_option maxHeartbeats 1000000 in
theorem meet_x3 (a1 a2 b1 b2 c1 c2 d1 d2 : Nat) (a b c d : Int × Int) (w : World) (pa : Pl a1 a2 a.1 a.2) (pb : Pl b1 b2 b.1 b.2) (pc : Pl c1 c2 c.1 c.2) (pd : Pl d1 d2 d.1 d.2) (h1 : ¬ a = b) (h2 : ¬ c = d) (k1 : ¬ sd a b c * sd a b d < 0) :
    Calls Try.prog 12 #[.complex .f64 a1 a2, .complex .f64 b1 b2, .complex .f64 c1 c2, .complex .f64 d1 d2] w (RetM (meetB a b c d) w) := by
  have H0 := Lib.hid (all4 pa pb pc pd)
  have H1 := Lib.hid (side_p pa pb pc)
  have H2 := Lib.hid (side_p pa pb pd)
  have H3 := Lib.hid (side_p pc pd pa)
  have H4 := Lib.hid (side_p pc pd pb)
  have O1 := Lib.hid (on_p pa pb pc)
  have O2 := Lib.hid (on_p pa pb pd)
  have O3 := Lib.hid (on_p pc pd pa)
  have O4 := Lib.hid (on_p pc pd pb)
  have q1 := eqC pa pb
  have q2 := eqC pc pd
  have q3 := eqC pa pc
  have s1 := sgn_bd ((b.1 - a.1) * (c.2 - a.2) - (b.2 - a.2) * (c.1 - a.1))
  have s2 := sgn_bd ((b.1 - a.1) * (d.2 - a.2) - (b.2 - a.2) * (d.1 - a.1))
  have s3 := sgn_bd ((d.1 - c.1) * (a.2 - c.2) - (d.2 - c.2) * (a.1 - c.1))
  have s4 := sgn_bd ((d.1 - c.1) * (b.2 - c.2) - (d.2 - c.2) * (b.1 - c.1))
  have m1 : wrap64 (sd a b c * sd a b d) = sd a b c * sd a b d := by
    have := mul_bd s1 s2
    show wrap64 _ = _
    unfold wrap64; unfold sd; omega
  have m2 : wrap64 (sd c d a * sd c d b) = sd c d a * sd c d b := by
    have := mul_bd s3 s4
    unfold wrap64; unfold sd; omega
  clear pa pb pc pd s1 s2 s3 s4
  rw [decide_eq_false h1] at q1
  rw [decide_eq_false h2] at q2
  have fin : meetB a b c d = (if sd a b c * sd a b d < 0 ∧ sd c d a * sd c d b < 0 then true
    else sd a b c == 0 && onB a b c || sd a b d == 0 && onB a b d || sd c d a == 0 && onB c d a || sd c d b == 0 && onB c d b) := by unfold meetB; rw [if_neg (fun h => h1 h.1), if_neg h1, if_neg h2]
  have FIN := Lib.hid fin
  rw [if_neg (fun h => k1 h.1)] at fin
  have FIN2 := Lib.hid fin
  clear h1 h2 q3 fin FIN
  go_enter Try.func12, Try.ntmps12
  go_wp2_with fail
  refine (H0.out _).mono ?_
  rintro e w' ⟨rfl, rfl⟩
  go_wp2_with fail
  refine (H1.out _).mono ?_
  rintro e w' ⟨rfl, rfl⟩
  go_wp2_with fail
  refine (H2.out _).mono ?_
  rintro e w' ⟨rfl, rfl⟩
  go_wp2_with fail
  refine (H3.out _).mono ?_
  rintro e w' ⟨rfl, rfl⟩
  go_wp2_with fail
  refine (H4.out _).mono ?_
  rintro e w' ⟨rfl, rfl⟩
  clear H0 H1 H2 H3 H4
  by_cases hz0 : sd a b c = 0
  · have z0 : (sd a b c == 0) = true := by simpa using hz0
    clear hz0
    go_wp2_with fail
    refine (O1.out _).mono ?_
    rintro e w' ⟨rfl, rfl⟩
    rcases Bool.eq_false_or_eq_true (onB a b c) with o0 | o0
    ·
      go_wp2_with fail
      go_ret2
      exact RetM.mk (by rw [FIN2.out]; simp [z0, o0]) ((Grown.refl _).alloc _ _)
    ·
      by_cases hz1 : sd a b d = 0
      · have z1 : (sd a b d == 0) = true := by simpa using hz1
        clear hz1
        go_wp2_with fail
        refine (O2.out _).mono ?_
        rintro e w' ⟨rfl, rfl⟩
        rcases Bool.eq_false_or_eq_true (onB a b d) with o1 | o1
        ·
          go_wp2_with fail
          go_ret2
          exact RetM.mk (by rw [FIN2.out]; simp [z0, o0, z1, o1]) ((Grown.refl _).alloc _ _)
        ·
          by_cases hz2 : sd c d a = 0
          · have z2 : (sd c d a == 0) = true := by simpa using hz2
            clear hz2
            go_wp2_with fail
            refine (O3.out _).mono ?_
            rintro e w' ⟨rfl, rfl⟩
            rcases Bool.eq_false_or_eq_true (onB c d a) with o2 | o2
            ·
              go_wp2_with fail
              go_ret2
              exact RetM.mk (by rw [FIN2.out]; simp [z0, o0, z1, o1, z2, o2]) ((Grown.refl _).alloc _ _)
            ·
              by_cases hz3 : sd c d b = 0
              · have z3 : (sd c d b == 0) = true := by simpa using hz3
                clear hz3
                go_wp2_with fail
                refine (O4.out _).mono ?_
                rintro e w' ⟨rfl, rfl⟩
                rcases Bool.eq_false_or_eq_true (onB c d b) with o3 | o3
                ·
                  go_wp2_with fail
                  go_ret2
                  exact RetM.mk (by rw [FIN2.out]; simp [z0, o0, z1, o1, z2, o2, z3, o3]) ((Grown.refl _).alloc _ _)
                ·
                  go_wp2_with fail
                  go_ret2
                  exact RetM.mk (by rw [FIN2.out]; simp [z0, o0, z1, o1, z2, o2, z3, o3]) ((Grown.refl _).alloc _ _)
              · have z3 : (sd c d b == 0) = false := by simpa using hz3
                clear hz3
                go_wp2_with fail
                go_ret2
                exact RetM.mk (by rw [FIN2.out]; simp [z0, o0, z1, o1, z2, o2, z3]) ((Grown.refl _).alloc _ _)
          · have z2 : (sd c d a == 0) = false := by simpa using hz2
            clear hz2
            by_cases hz3 : sd c d b = 0
            · have z3 : (sd c d b == 0) = true := by simpa using hz3
              clear hz3
              go_wp2_with fail
              refine (O4.out _).mono ?_
              rintro e w' ⟨rfl, rfl⟩
              rcases Bool.eq_false_or_eq_true (onB c d b) with o3 | o3
              ·
                go_wp2_with fail
                go_ret2
                exact RetM.mk (by rw [FIN2.out]; simp [z0, o0, z1, o1, z2, z3, o3]) ((Grown.refl _).alloc _ _)
              ·
                go_wp2_with fail
                go_ret2
                exact RetM.mk (by rw [FIN2.out]; simp [z0, o0, z1, o1, z2, z3, o3]) ((Grown.refl _).alloc _ _)
            · have z3 : (sd c d b == 0) = false := by simpa using hz3
              clear hz3
              go_wp2_with fail
              go_ret2
              exact RetM.mk (by rw [FIN2.out]; simp [z0, o0, z1, o1, z2, z3]) ((Grown.refl _).alloc _ _)
      · have z1 : (sd a b d == 0) = false := by simpa using hz1
        clear hz1
        by_cases hz2 : sd c d a = 0
        · have z2 : (sd c d a == 0) = true := by simpa using hz2
          clear hz2
          go_wp2_with fail
          refine (O3.out _).mono ?_
          rintro e w' ⟨rfl, rfl⟩
          rcases Bool.eq_false_or_eq_true (onB c d a) with o2 | o2
          ·
            go_wp2_with fail
            go_ret2
            exact RetM.mk (by rw [FIN2.out]; simp [z0, o0, z1, z2, o2]) ((Grown.refl _).alloc _ _)
          ·
            by_cases hz3 : sd c d b = 0
            · have z3 : (sd c d b == 0) = true := by simpa using hz3
              clear hz3
              go_wp2_with fail
              refine (O4.out _).mono ?_
              rintro e w' ⟨rfl, rfl⟩
              rcases Bool.eq_false_or_eq_true (onB c d b) with o3 | o3
              ·
                go_wp2_with fail
                go_ret2
                exact RetM.mk (by rw [FIN2.out]; simp [z0, o0, z1, z2, o2, z3, o3]) ((Grown.refl _).alloc _ _)
              ·
                go_wp2_with fail
                go_ret2
                exact RetM.mk (by rw [FIN2.out]; simp [z0, o0, z1, z2, o2, z3, o3]) ((Grown.refl _).alloc _ _)
            · have z3 : (sd c d b == 0) = false := by simpa using hz3
              clear hz3
              go_wp2_with fail
              go_ret2
              exact RetM.mk (by rw [FIN2.out]; simp [z0, o0, z1, z2, o2, z3]) ((Grown.refl _).alloc _ _)
        · have z2 : (sd c d a == 0) = false := by simpa using hz2
          clear hz2
          by_cases hz3 : sd c d b = 0
          · have z3 : (sd c d b == 0) = true := by simpa using hz3
            clear hz3
            go_wp2_with fail
            refine (O4.out _).mono ?_
            rintro e w' ⟨rfl, rfl⟩
            rcases Bool.eq_false_or_eq_true (onB c d b) with o3 | o3
            ·
              go_wp2_with fail
              go_ret2
              exact RetM.mk (by rw [FIN2.out]; simp [z0, o0, z1, z2, z3, o3]) ((Grown.refl _).alloc _ _)
            ·
              go_wp2_with fail
              go_ret2
              exact RetM.mk (by rw [FIN2.out]; simp [z0, o0, z1, z2, z3, o3]) ((Grown.refl _).alloc _ _)
          · have z3 : (sd c d b == 0) = false := by simpa using hz3
            clear hz3
            go_wp2_with fail
            go_ret2
            exact RetM.mk (by rw [FIN2.out]; simp [z0, o0, z1, z2, z3]) ((Grown.refl _).alloc _ _)
  · have z0 : (sd a b c == 0) = false := by simpa using hz0
    clear hz0
    by_cases hz1 : sd a b d = 0
    · have z1 : (sd a b d == 0) = true := by simpa using hz1
      clear hz1
      go_wp2_with fail
      refine (O2.out _).mono ?_
      rintro e w' ⟨rfl, rfl⟩
      rcases Bool.eq_false_or_eq_true (onB a b d) with o1 | o1
      ·
        go_wp2_with fail
        go_ret2
        exact RetM.mk (by rw [FIN2.out]; simp [z0, z1, o1]) ((Grown.refl _).alloc _ _)
      ·
        by_cases hz2 : sd c d a = 0
        · have z2 : (sd c d a == 0) = true := by simpa using hz2
          clear hz2
          go_wp2_with fail
          refine (O3.out _).mono ?_
          rintro e w' ⟨rfl, rfl⟩
          rcases Bool.eq_false_or_eq_true (onB c d a) with o2 | o2
          ·
            go_wp2_with fail
            go_ret2
            exact RetM.mk (by rw [FIN2.out]; simp [z0, z1, o1, z2, o2]) ((Grown.refl _).alloc _ _)
          ·
            by_cases hz3 : sd c d b = 0
            · have z3 : (sd c d b == 0) = true := by simpa using hz3
              clear hz3
              go_wp2_with fail
              refine (O4.out _).mono ?_
              rintro e w' ⟨rfl, rfl⟩
              rcases Bool.eq_false_or_eq_true (onB c d b) with o3 | o3
              ·
                go_wp2_with fail
                go_ret2
                exact RetM.mk (by rw [FIN2.out]; simp [z0, z1, o1, z2, o2, z3, o3]) ((Grown.refl _).alloc _ _)
              ·
                go_wp2_with fail
                go_ret2
                exact RetM.mk (by rw [FIN2.out]; simp [z0, z1, o1, z2, o2, z3, o3]) ((Grown.refl _).alloc _ _)
            · have z3 : (sd c d b == 0) = false := by simpa using hz3
              clear hz3
              go_wp2_with fail
              go_ret2
              exact RetM.mk (by rw [FIN2.out]; simp [z0, z1, o1, z2, o2, z3]) ((Grown.refl _).alloc _ _)
        · have z2 : (sd c d a == 0) = false := by simpa using hz2
          clear hz2
          by_cases hz3 : sd c d b = 0
          · have z3 : (sd c d b == 0) = true := by simpa using hz3
            clear hz3
            go_wp2_with fail
            refine (O4.out _).mono ?_
            rintro e w' ⟨rfl, rfl⟩
            rcases Bool.eq_false_or_eq_true (onB c d b) with o3 | o3
            ·
              go_wp2_with fail
              go_ret2
              exact RetM.mk (by rw [FIN2.out]; simp [z0, z1, o1, z2, z3, o3]) ((Grown.refl _).alloc _ _)
            ·
              go_wp2_with fail
              go_ret2
              exact RetM.mk (by rw [FIN2.out]; simp [z0, z1, o1, z2, z3, o3]) ((Grown.refl _).alloc _ _)
          · have z3 : (sd c d b == 0) = false := by simpa using hz3
            clear hz3
            go_wp2_with fail
            go_ret2
            exact RetM.mk (by rw [FIN2.out]; simp [z0, z1, o1, z2, z3]) ((Grown.refl _).alloc _ _)
    · have z1 : (sd a b d == 0) = false := by simpa using hz1
      clear hz1
      by_cases hz2 : sd c d a = 0
      · have z2 : (sd c d a == 0) = true := by simpa using hz2
        clear hz2
        go_wp2_with fail
        refine (O3.out _).mono ?_
        rintro e w' ⟨rfl, rfl⟩
        rcases Bool.eq_false_or_eq_true (onB c d a) with o2 | o2
        ·
          go_wp2_with fail
          go_ret2
          exact RetM.mk (by rw [FIN2.out]; simp [z0, z1, z2, o2]) ((Grown.refl _).alloc _ _)
        ·
          by_cases hz3 : sd c d b = 0
          · have z3 : (sd c d b == 0) = true := by simpa using hz3
            clear hz3
            go_wp2_with fail
            refine (O4.out _).mono ?_
            rintro e w' ⟨rfl, rfl⟩
            rcases Bool.eq_false_or_eq_true (onB c d b) with o3 | o3
            ·
              go_wp2_with fail
              go_ret2
              exact RetM.mk (by rw [FIN2.out]; simp [z0, z1, z2, o2, z3, o3]) ((Grown.refl _).alloc _ _)
            ·
              go_wp2_with fail
              go_ret2
              exact RetM.mk (by rw [FIN2.out]; simp [z0, z1, z2, o2, z3, o3]) ((Grown.refl _).alloc _ _)
          · have z3 : (sd c d b == 0) = false := by simpa using hz3
            clear hz3
            go_wp2_with fail
            go_ret2
            exact RetM.mk (by rw [FIN2.out]; simp [z0, z1, z2, o2, z3]) ((Grown.refl _).alloc _ _)
      · have z2 : (sd c d a == 0) = false := by simpa using hz2
        clear hz2
        by_cases hz3 : sd c d b = 0
        · have z3 : (sd c d b == 0) = true := by simpa using hz3
          clear hz3
          go_wp2_with fail
          refine (O4.out _).mono ?_
          rintro e w' ⟨rfl, rfl⟩
          rcases Bool.eq_false_or_eq_true (onB c d b) with o3 | o3
          ·
            go_wp2_with fail
            go_ret2
            exact RetM.mk (by rw [FIN2.out]; simp [z0, z1, z2, z3, o3]) ((Grown.refl _).alloc _ _)
          ·
            go_wp2_with fail
            go_ret2
            exact RetM.mk (by rw [FIN2.out]; simp [z0, z1, z2, z3, o3]) ((Grown.refl _).alloc _ _)
        · have z3 : (sd c d b == 0) = false := by simpa using hz3
          clear hz3
          go_wp2_with fail
          go_ret2
          exact RetM.mk (by rw [FIN2.out]; simp [z0, z1, z2, z3]) ((Grown.refl _).alloc _ _)

theorem meet_ok (a1 a2 b1 b2 c1 c2 d1 d2 : Nat) (a b c d : Int × Int) (w : World) (pa : Pl a1 a2 a.1 a.2) (pb : Pl b1 b2 b.1 b.2) (pc : Pl c1 c2 c.1 c.2) (pd : Pl d1 d2 d.1 d.2) :
    Calls Try.prog 12 #[.complex .f64 a1 a2, .complex .f64 b1 b2, .complex .f64 c1 c2, .complex .f64 d1 d2] w (RetM (meetB a b c d) w) := by
  by_cases h1 : a = b
  · by_cases h2 : c = d
    · exact meet_eq a1 a2 b1 b2 c1 c2 d1 d2 a b c d w pa pb pc pd h1 h2
    · exact meet_ab a1 a2 b1 b2 c1 c2 d1 d2 a b c d w pa pb pc pd h1 h2
  · by_cases h2 : c = d
    · exact meet_cd a1 a2 b1 b2 c1 c2 d1 d2 a b c d w pa pb pc pd h1 h2
    · by_cases k1 : sd a b c * sd a b d < 0
      · by_cases k2 : sd c d a * sd c d b < 0
        · exact meet_x1 a1 a2 b1 b2 c1 c2 d1 d2 a b c d w pa pb pc pd h1 h2 k1 k2
        · exact meet_x2 a1 a2 b1 b2 c1 c2 d1 d2 a b c d w pa pb pc pd h1 h2 k1 k2
      · exact meet_x3 a1 a2 b1 b2 c1 c2 d1 d2 a b c d w pa pb pc pd h1 h2 k1

end Go.Proofs.Ytkonlhglknfflaa.planeLaws
