/- Comparisons, truncation and the function plane.whole on floats that are whole numbers; no condition beyond the stated ones. -/
import Derived.Test.YtkonlhglknfflaaRows
import Derived.Test.YtkonlhglknfflaaFl
import Derived.WalkKit
import Derived.ProofKit
import Derived.OpenShut
import Derived.BigQuiet
import Derived.Laws.ComplexArith
import Derived.WalkLawsBesides
namespace Go.Proofs.Ytkonlhglknfflaa.planeLaws
open Go.ChangeShapes Go.WideShapes Go.ChangeAt Go.RowKit
open PF
set_option linter.unusedVariables false

theorem ordGe {x y : Nat} {a b : Int} (hx : IsF x a) (hy : IsF y b) (ha : a.natAbs < 2 ^ 53) (hb : b.natAbs < 2 ^ 53) : (FloatKind.f64.format.order x y == some .gt || FloatKind.f64.format.order x y == some .eq) = decide (b ≤ a) := by
  have h : FloatKind.f64.format.order x y = some (compare a b) := order_isF hx hy ha hb
  rw [h]
  rcases Int.lt_trichotomy a b with h | h | h
  · rw [Int.compare_eq_lt.2 h]; simp; omega
  · subst h; rw [Int.compare_eq_eq.2 rfl]; simp
  · rw [Int.compare_eq_gt.2 h]; simp; omega
theorem ordLe {x y : Nat} {a b : Int} (hx : IsF x a) (hy : IsF y b) (ha : a.natAbs < 2 ^ 53) (hb : b.natAbs < 2 ^ 53) : (FloatKind.f64.format.order x y == some .lt || FloatKind.f64.format.order x y == some .eq) = decide (a ≤ b) := by
  have h : FloatKind.f64.format.order x y = some (compare a b) := order_isF hx hy ha hb
  rw [h]
  rcases Int.lt_trichotomy a b with h | h | h
  · rw [Int.compare_eq_lt.2 h]; simp; omega
  · subst h; rw [Int.compare_eq_eq.2 rfl]; simp
  · rw [Int.compare_eq_gt.2 h]; simp; omega
theorem ordEq {x y : Nat} {a b : Int} (hx : IsF x a) (hy : IsF y b) (ha : a.natAbs < 2 ^ 53) (hb : b.natAbs < 2 ^ 53) : (FloatKind.f64.format.order x y == some .eq) = decide (a = b) := by
  have h : FloatKind.f64.format.order x y = some (compare a b) := order_isF hx hy ha hb
  rw [h]
  rcases Int.lt_trichotomy a b with h | h | h
  · rw [Int.compare_eq_lt.2 h]; simp; omega
  · subst h; rw [Int.compare_eq_eq.2 rfl]; simp
  · rw [Int.compare_eq_gt.2 h]; simp; omega
theorem ordGt {x y : Nat} {a b : Int} (hx : IsF x a) (hy : IsF y b) (ha : a.natAbs < 2 ^ 53) (hb : b.natAbs < 2 ^ 53) : (FloatKind.f64.format.order x y == some .gt) = decide (b < a) := by
  have h : FloatKind.f64.format.order x y = some (compare a b) := order_isF hx hy ha hb
  rw [h]
  rcases Int.lt_trichotomy a b with h | h | h
  · rw [Int.compare_eq_lt.2 h]; simp; omega
  · subst h; rw [Int.compare_eq_eq.2 rfl]; simp
  · rw [Int.compare_eq_gt.2 h]; simp; omega
theorem ordLt {x y : Nat} {a b : Int} (hx : IsF x a) (hy : IsF y b) (ha : a.natAbs < 2 ^ 53) (hb : b.natAbs < 2 ^ 53) : (FloatKind.f64.format.order x y == some .lt) = decide (a < b) := by
  have h : FloatKind.f64.format.order x y = some (compare a b) := order_isF hx hy ha hb
  rw [h]
  rcases Int.lt_trichotomy a b with h | h | h
  · rw [Int.compare_eq_lt.2 h]; simp; omega
  · subst h; rw [Int.compare_eq_eq.2 rfl]; simp
  · rw [Int.compare_eq_gt.2 h]; simp; omega

theorem fval {x : Nat} {n : Int} (h : IsF x n) (hn : n.natAbs < 2 ^ 53) : floatToIntVal .f64 x .i64 = some n := by
  unfold floatToIntVal
  have h1 : (FloatKind.f64.decode x).toInt .zero = some n := toInt_isF h hn
  rw [h1]
  have h53 : (2 : Nat) ^ 53 = 9007199254740992 := rfl
  rw [h53] at hn
  have : IntKind.i64.min ≤ n ∧ n ≤ IntKind.i64.max := by
    show (-9223372036854775808 : Int) ≤ n ∧ n ≤ 9223372036854775807
    omega
  simp only [this, and_self, if_true]


theorem isF_m20 : IsF 13920626448202203136 (-1048576) := ⟨true, by decide +kernel, fun _ => rfl, fun h => by omega⟩
theorem isF_p20 : IsF 4697254411347427328 1048576 := ⟨false, by decide +kernel, fun h => by omega, fun _ => rfl⟩
theorem isF_0 : IsF 0 0 := ⟨false, by decide +kernel, fun h => by omega, fun h => by omega⟩
theorem isF_1 : IsF 4607182418800017408 1 := ⟨false, by decide +kernel, fun h => by omega, fun _ => rfl⟩

set_option maxHeartbeats 400000 in
theorem whole_ok (x : Nat) (n : Int) (w : World) (hx : IsF x n) (h1 : -1048576 ≤ n) (h2 : n ≤ 1048576) :
    Calls Try.prog 20 #[.float .f64 x] w fun e w' => e = .returned (.bool true) ∧ w = w' := by
  have hn : n.natAbs < 2 ^ 53 := by
    have h53 : (2 : Nat) ^ 53 = 9007199254740992 := rfl
    omega
  have e1 := ordGe hx isF_m20 hn (by decide)
  have e2 := ordLe hx isF_p20 hn (by decide)
  rw [decide_eq_true h1] at e1
  rw [decide_eq_true h2] at e2
  have hc : ∀ w, (convert 23 3 (.float .f64 x)).run Try.prog w = .ok (.int .i64 n) w := fun w => run_convert_float_int w 23 3 .f64 .i64 x n (by rw [Try.underlying23]; rfl) Try.underlying3 (fval hx hn)
  have hd : ∀ w, (convert 3 23 (.int .i64 n)).run Try.prog w = .ok (.float .f64 (floatOfInt .f64 n)) w := fun w => run_convert_int_float w 3 23 .i64 .f64 n (by rw [Try.underlying3]; rfl) Try.underlying23
  have hf : IsF (floatOfInt .f64 n) n := ofInt_isF n
  have e3 := ordEq hx hf hn hn
  rw [decide_eq_true rfl] at e3
  clear hx hn hf
  go_enter Try.func20, Try.ntmps20
  go_wp2_with (first | simp only [hc] | simp only [hd])
  go_ret
  exact ⟨rfl, rfl⟩
end Go.Proofs.Ytkonlhglknfflaa.planeLaws
