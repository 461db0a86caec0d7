/- Contracts of causewaylaw02.part and plane.Quarter; condition: the argument is a place. -/
import Derived.Test.YtkonlhglknfflaaW5
namespace Go.Proofs.Ytkonlhglknfflaa.planeLaws
open Go.ChangeShapes Go.WideShapes Go.ChangeAt Go.RowKit
open PF
set_option linter.unusedVariables false

def RetF (A : Int) (w : World) (e : Ending) (w' : World) : Prop := ∃ x, e = .returned (.float .f64 x) ∧ IsF x A ∧ w = w'

set_option maxHeartbeats 400000 in
theorem part_ok (n : Int) (w : World) (h1 : -9223372036854775808 ≤ n) (h2 : n ≤ 9223372036854775807):
    Calls Try.prog 4 #[.int .i64 n] w (RetF (n.tmod 262144) w) := by
  go_enter Try.func4, Try.ntmps4
  go_wp2_with fail
  go_ret
  exact ⟨_, rfl, ofInt_isF _, rfl⟩

/-- j quarters of a turn -/
def rt : Nat → Int × Int → Int × Int
  | 0, p => p
  | j + 1, p => (-(rt j p).2, (rt j p).1)

def qn (k : Int) : Nat := ((k.tmod 4 + 4).tmod 4).toNat
theorem qn_lt (k : Int) : qn k < 4 := by
  unfold qn
  have := Int.tmod_lt_of_pos (k.tmod 4 + 4) (b := 4) (by decide)
  omega
theorem qn_eq (k : Int) : (wrap64 (k.tmod 4 + 4)).tmod 4 = (qn k : Int) := by
  have a1 := Int.tmod_lt_of_pos k (b := 4) (by decide)
  have a2 := Int.lt_tmod_of_pos k (b := 4) (by decide)
  have e : wrap64 (k.tmod 4 + 4) = k.tmod 4 + 4 := by unfold wrap64; omega
  rw [e]
  unfold qn
  have := Int.tmod_nonneg 4 (a := k.tmod 4 + 4) (by omega)
  omega

def RetP (A B : Int) (w : World) (e : Ending) (w' : World) : Prop := ∃ r i, e = .returned (.tuple #[.complex .f64 r i, .int .i64 0]) ∧ Pl r i A B ∧ w = w'

set_option maxHeartbeats 400000 in
theorem quarter_ok (a b : Nat) (k : Int) (A B : Int) (w : World) (p : Pl a b A B) :
    Calls Try.prog 5 #[.complex .f64 a b, .int .i64 k] w (RetP (rt (qn k) (A, B)).1 (rt (qn k) (A, B)).2 w) := by
  have H1 := Lib.hid (fun w => ok_ok a b A B w p.re p.im p.sre p.sim)
  have hq := qn_eq k
  have hq4 := qn_lt k
  have P := Lib.hid p
  clear p
  generalize hqq : qn k = q at *
  go_enter Try.func5, Try.ntmps5
  go_wp2_with fail
  refine (H1.out _).mono ?_
  rintro e w' ⟨rfl, rfl⟩
  go_wp2_with fail
  clear hqq hq H1
  go_loop [0, 13] (fun c i => ∃ (j : Nat) (x y : Nat), j ≤ q ∧ i = .int .i64 j ∧ c = .complex .f64 x y ∧ Hid (Pl x y (rt j (A, B)).1 (rt j (A, B)).2)) (fun _ i => q - (intOf i).toNat)
  case atStart => exact ⟨0, a, b, Nat.zero_le _, rfl, rfl, P⟩
  case round =>
    obtain ⟨j, x, y, hj, rfl, rfl, hp⟩ := hrel
    clear P
    by_cases hlt : j < q
    · obtain ⟨re, im, e, f1, f2⟩ := cmul_isF hp.out.re hp.out.im isF_0 isF_1 (hp.out.sre.mono (by decide)) (hp.out.sim.mono (by decide)) (Sm.mk (by decide) (by decide)) (Sm.mk (by decide) (by decide))
      rw [Int.mul_zero, Int.mul_one, Int.zero_sub] at f1
      rw [Int.mul_zero, Int.mul_one, Int.add_zero] at f2
      have hn : Hid (Pl re im (rt (j + 1) (A, B)).1 (rt (j + 1) (A, B)).2) := Lib.hid ⟨f1, f2, hp.out.sim.neg, hp.out.sre⟩
      have hop := Lib.hid (fun t w => run_complex_mul (P := Try.prog) w t x y 0 4607182418800017408 re im e)
      clear e f1 f2 hp
      go_wp2_with (simp only [hop.out])
      go_round
      case rel => exact ⟨j + 1, re, im, by omega, by go_num, rfl, hn⟩
      case measure => simp [intOf]; omega
    · have hjq : j = q := by omega
      subst hjq
      have H2 := Lib.hid (fun w => plain_ok x y _ _ w hp.out.re hp.out.im (hp.out.sre.mono (by decide)) (hp.out.sim.mono (by decide)))
      go_wp2_with fail
      refine (H2.out _).mono ?_
      rintro e w' ⟨r, i, rfl, hr, hi, rfl⟩
      have F := Lib.hid (⟨hr, hi, hp.out.sre, hp.out.sim⟩ : Pl r i _ _)
      clear hr hi hp H2
      go_wp2_with fail
      go_ret2
      exact ⟨r, i, rfl, F.out, rfl⟩

end Go.Proofs.Ytkonlhglknfflaa.planeLaws
