/- Leaves for the distances: clamp, Sum, Less, and 'is it a node's number'. -/
import Derived.Test.YtpklcefiabjplaaG1
namespace Go.Proofs.Ytpklcefiabjplaa
open Go.ChangeShapes Go.WideShapes Go.ChangeAt Go.RowKit
set_option linter.unusedVariables false
/-- a distance kept in its bounds -/
def clp (n : Int) : Int := min (max n 0) 1073741824
def dsum (a b : Int) : Int := min (clp a + clp b) 1073741824
theorem clp_ge (n : Int) : 0 ≤ clp n := by unfold clp; omega
theorem clp_le (n : Int) : clp n ≤ 1073741824 := by unfold clp; omega
theorem clp_id {n : Int} (h0 : 0 ≤ n) (h1 : n ≤ 1073741824) : clp n = n := by unfold clp; omega
set_option maxRecDepth 100000 in
theorem clamp_ok (n : Int) (w : World) : Calls Try.prog 120 #[.int .i64 n] w fun e w' => e = .returned (.int .i64 (clp n)) ∧ Below w.heap.size w w' := by
  go_enter Try.func120, Try.ntmps120
  go_wp2_with fail
  go_ret
  exact ⟨by first | rfl | (unfold clp; congr 2; simp only [Int.max_def, Int.min_def]; repeat' split <;> omega), Below.refl _ _⟩
set_option maxRecDepth 100000 in
theorem Sum_ok (a b : Int) (w : World) : Calls Try.prog 84 #[.int .i64 a, .int .i64 b] w fun e w' => e = .returned (.int .i64 (dsum a b)) ∧ Below w.heap.size w w' := by
  have ha := clp_ge a
  have ha2 := clp_le a
  have hb := clp_ge b
  have hb2 := clp_le b
  have hw : IntKind.i64.wrap (clp a + clp b) = clp a + clp b := by rw [IntKind.wrap_i64]; omega
  clear ha ha2 hb hb2
  go_enter Try.func84, Try.ntmps84
  go_wp2_with fail
  refine (clamp_ok a _).mono ?_
  rintro e w1 ⟨rfl, hb1⟩
  go_wp2_with fail
  refine (clamp_ok b _).mono ?_
  rintro e w2 ⟨rfl, hb2⟩
  have B := Lib.hid (bthen hb1 hb2)
  clear hb1 hb2
  go_wp2_with fail
  go_ret
  exact ⟨by first | rfl | (unfold dsum; congr 2; simp only [Int.min_def]; repeat' split <;> omega), B.out⟩
set_option maxRecDepth 100000 in
theorem Less_ok (a b : Int) (w : World) : Calls Try.prog 86 #[.int .i64 a, .int .i64 b] w fun e w' => e = .returned (.bool (decide (clp a < clp b))) ∧ Below w.heap.size w w' := by
  go_enter Try.func86, Try.ntmps86
  go_wp2_with fail
  refine (clamp_ok a _).mono ?_
  rintro e w1 ⟨rfl, hb1⟩
  go_wp2_with fail
  refine (clamp_ok b _).mono ?_
  rintro e w2 ⟨rfl, hb2⟩
  have B := Lib.hid (bthen hb1 hb2)
  clear hb1 hb2
  go_wp2_with fail
  go_ret
  exact ⟨rfl, B.out⟩
set_option maxRecDepth 100000 in
theorem hin_ok (n : Int) (w : World) : Calls Try.prog 116 #[.int .i64 n] w fun e w' => e = .returned (.bool (rng 0 127 n)) ∧ Below w.heap.size w w' := by
  cases t0 : decide (0 ≤ n) <;> cases t1 : decide (n ≤ 127) <;>
  · go_enter Try.func116, Try.ntmps116
    go_wp2_with fail
    go_ret
    exact ⟨by simp [rng, t0, t1], Below.refl _ _⟩
set_option maxRecDepth 100000 in
theorem bin_ok (n : Int) (w : World) : Calls Try.prog 52 #[.int .i64 n] w fun e w' => e = .returned (.bool (rng 0 127 n)) ∧ Below w.heap.size w w' := by
  cases t0 : decide (0 ≤ n) <;> cases t1 : decide (n ≤ 127) <;>
  · go_enter Try.func52, Try.ntmps52
    go_wp2_with fail
    go_ret
    exact ⟨by simp [rng, t0, t1], Below.refl _ _⟩
set_option maxRecDepth 100000 in
theorem Clamp_ok (n : Int) (w : World) : Calls Try.prog 123 #[.int .i64 n] w fun e w' => e = .returned (.int .i64 (clp n)) ∧ Below w.heap.size w w' := by
  by_cases h0 : n < 0
  · have e : clp n = 0 := by unfold clp; omega
    rw [e]
    go_enter Try.func123, Try.ntmps123
    go_wp2_with fail
    go_ret
    exact ⟨rfl, Below.refl _ _⟩
  · by_cases h1 : 1073741824 < n
    · have e : clp n = 1073741824 := by unfold clp; omega
      rw [e]
      go_enter Try.func123, Try.ntmps123
      go_wp2_with fail
      go_ret
      exact ⟨rfl, Below.refl _ _⟩
    · have e : clp n = n := by unfold clp; omega
      rw [e]
      go_enter Try.func123, Try.ntmps123
      go_wp2_with fail
      go_ret
      exact ⟨rfl, Below.refl _ _⟩
theorem dsum_eq (a b : Int) : clp (clp a + clp b) = dsum a b := by
  have := clp_ge a
  have := clp_ge b
  unfold dsum
  generalize clp a = x at *
  generalize clp b = y at *
  unfold clp
  omega
set_option maxRecDepth 100000 in
theorem rSum_ok (a b : Int) (w : World) : Calls Try.prog 96 #[.int .i64 a, .int .i64 b] w fun e w' => e = .returned (.int .i64 (dsum a b)) ∧ Below w.heap.size w w' := by
  have ha := clp_ge a
  have ha2 := clp_le a
  have hb := clp_ge b
  have hb2 := clp_le b
  have hw : IntKind.i64.wrap (clp a + clp b) = clp a + clp b := by rw [IntKind.wrap_i64]; omega
  rw [← dsum_eq]
  clear ha ha2 hb hb2
  go_enter Try.func96, Try.ntmps96
  go_wp2_with fail
  refine (Clamp_ok a _).mono ?_
  rintro e w1 ⟨rfl, hb1⟩
  go_wp2_with fail
  refine (Clamp_ok b _).mono ?_
  rintro e w2 ⟨rfl, hb2⟩
  have B := Lib.hid (bthen hb1 hb2)
  clear hb1 hb2
  go_wp2_with fail
  refine (Clamp_ok _ _).mono ?_
  rintro e w3 ⟨rfl, hb3⟩
  have B3 := Lib.hid (bthen B.out hb3)
  clear hb3
  go_wp2_with fail
  go_ret
  exact ⟨rfl, B3.out⟩
set_option maxRecDepth 100000 in
theorem rLess_ok (a b : Int) (w : World) : Calls Try.prog 95 #[.int .i64 a, .int .i64 b] w fun e w' => e = .returned (.bool (decide (clp a < clp b))) ∧ Below w.heap.size w w' := by
  go_enter Try.func95, Try.ntmps95
  go_wp2_with fail
  refine (Clamp_ok a _).mono ?_
  rintro e w1 ⟨rfl, hb1⟩
  go_wp2_with fail
  refine (Clamp_ok b _).mono ?_
  rintro e w2 ⟨rfl, hb2⟩
  have B := Lib.hid (bthen hb1 hb2)
  clear hb1 hb2
  go_wp2_with fail
  go_ret
  exact ⟨rfl, B.out⟩
end Go.Proofs.Ytpklcefiabjplaa
