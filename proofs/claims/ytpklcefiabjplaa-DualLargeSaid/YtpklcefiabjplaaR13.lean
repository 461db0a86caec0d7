/- Labels: pairs of whole numbers as floats, and which comes first; conditions as stated. -/
import Derived.Test.YtpklcefiabjplaaR12
import Derived.Test.YtpklcefiabjplaaFl
import Derived.BigQuiet
import Derived.Laws.ComplexArith
namespace Go.Proofs.Ytpklcefiabjplaa
open Go.ChangeShapes Go.WideShapes Go.ChangeAt Go.RowKit
set_option linter.unusedVariables false
set_option linter.unusedSimpArgs false
attribute [local go_sem] Og.Opt Og.OpY

open PF
theorem ordGe {x y : Nat} {a b : Int} (hx : IsF x a) (hy : IsF y b) (ha : a.natAbs < 2 ^ 53) (hb : b.natAbs < 2 ^ 53) : (FloatKind.f64.format.order x y == some .gt || FloatKind.f64.format.order x y == some .eq) = decide (b ≤ a) := by
  have h : FloatKind.f64.format.order x y = some (compare a b) := order_isF hx hy ha hb
  rw [h]
  rcases Int.lt_trichotomy a b with h | h | h
  · rw [Int.compare_eq_lt.2 h]; simp; omega
  · subst h; rw [Int.compare_eq_eq.2 rfl]; simp
  · rw [Int.compare_eq_gt.2 h]; simp; omega
theorem ordLe {x y : Nat} {a b : Int} (hx : IsF x a) (hy : IsF y b) (ha : a.natAbs < 2 ^ 53) (hb : b.natAbs < 2 ^ 53) : (FloatKind.f64.format.order x y == some .lt || FloatKind.f64.format.order x y == some .eq) = decide (a ≤ b) := by
  have h : FloatKind.f64.format.order x y = some (compare a b) := order_isF hx hy ha hb
  rw [h]
  rcases Int.lt_trichotomy a b with h | h | h
  · rw [Int.compare_eq_lt.2 h]; simp; omega
  · subst h; rw [Int.compare_eq_eq.2 rfl]; simp
  · rw [Int.compare_eq_gt.2 h]; simp; omega
theorem ordEq {x y : Nat} {a b : Int} (hx : IsF x a) (hy : IsF y b) (ha : a.natAbs < 2 ^ 53) (hb : b.natAbs < 2 ^ 53) : (FloatKind.f64.format.order x y == some .eq) = decide (a = b) := by
  have h : FloatKind.f64.format.order x y = some (compare a b) := order_isF hx hy ha hb
  rw [h]
  rcases Int.lt_trichotomy a b with h | h | h
  · rw [Int.compare_eq_lt.2 h]; simp; omega
  · subst h; rw [Int.compare_eq_eq.2 rfl]; simp
  · rw [Int.compare_eq_gt.2 h]; simp; omega
theorem ordGt {x y : Nat} {a b : Int} (hx : IsF x a) (hy : IsF y b) (ha : a.natAbs < 2 ^ 53) (hb : b.natAbs < 2 ^ 53) : (FloatKind.f64.format.order x y == some .gt) = decide (b < a) := by
  have h : FloatKind.f64.format.order x y = some (compare a b) := order_isF hx hy ha hb
  rw [h]
  rcases Int.lt_trichotomy a b with h | h | h
  · rw [Int.compare_eq_lt.2 h]; simp; omega
  · subst h; rw [Int.compare_eq_eq.2 rfl]; simp
  · rw [Int.compare_eq_gt.2 h]; simp; omega
theorem ordLt {x y : Nat} {a b : Int} (hx : IsF x a) (hy : IsF y b) (ha : a.natAbs < 2 ^ 53) (hb : b.natAbs < 2 ^ 53) : (FloatKind.f64.format.order x y == some .lt) = decide (a < b) := by
  have h : FloatKind.f64.format.order x y = some (compare a b) := order_isF hx hy ha hb
  rw [h]
  rcases Int.lt_trichotomy a b with h | h | h
  · rw [Int.compare_eq_lt.2 h]; simp; omega
  · subst h; rw [Int.compare_eq_eq.2 rfl]; simp
  · rw [Int.compare_eq_gt.2 h]; simp; omega

theorem fval {x : Nat} {n : Int} (h : IsF x n) (hn : n.natAbs < 2 ^ 53) : floatToIntVal .f64 x .i64 = some n := by
  unfold floatToIntVal
  have h1 : (FloatKind.f64.decode x).toInt .zero = some n := toInt_isF h hn
  rw [h1]
  have h53 : (2 : Nat) ^ 53 = 9007199254740992 := rfl
  rw [h53] at hn
  have : IntKind.i64.min ≤ n ∧ n ≤ IntKind.i64.max := by
    show (-9223372036854775808 : Int) ≤ n ∧ n ≤ 9223372036854775807
    omega
  simp only [this, and_self, if_true]



/-- a whole number as a float -/
def fb (n : Nat) : Nat := fl false n
theorem fb_isF (n : Nat) : IsF (fb n) (n : Int) := ⟨false, by rw [Int.natAbs_natCast]; rfl, fun h => by omega, fun _ => rfl⟩
def big : Nat := 1073741824
theorem big53 {n : Nat} (h : n ≤ big) : (n : Int).natAbs < 2 ^ 53 := by
  have h53 : (2 : Nat) ^ 53 = 9007199254740992 := rfl
  unfold big at h
  rw [Int.natAbs_natCast]
  omega
theorem fb_zero : fb 0 = 0 := by unfold fb; decide +kernel
theorem fb_big : fb big = 4742290407621132288 := by unfold fb big; decide +kernel
theorem IsF.eq {x : Nat} {n : Nat} (h : IsF x (n : Int)) (hn : 0 < n) : x = fb n := by
  obtain ⟨s, rfl, -, h2⟩ := h
  rw [h2 (by omega), Int.natAbs_natCast]
  rfl
/-- the sum of two whole numbers -/
theorem fb_add {a b : Nat} (ha : a ≤ big) (hb : b ≤ big) (h : a + b ≤ big) : FloatKind.f64.format.add (fb a) (fb b) = some (fb (a + b)) := by
  by_cases h0 : a + b = 0
  · obtain ⟨rfl, rfl⟩ : a = 0 ∧ b = 0 := by omega
    simp only [fb_zero]
    decide +kernel
  · have e : ((a : Int) + (b : Int)) = ((a + b : Nat) : Int) := by omega
    obtain ⟨r, hr, hf⟩ := add_isF (fb_isF a) (fb_isF b) (big53 ha) (big53 hb) (by rw [e]; exact big53 h)
    rw [e] at hf
    rw [← IsF.eq hf (by omega)]
    exact hr
theorem fb_int (n : Nat) : floatOfInt .f64 (n : Int) = fb n := by
  have : decide ((n : Int) < 0) = false := by simp
  show Ieee.double.write (.number (decide ((n : Int) < 0)) (n : Int).natAbs 0) = _
  rw [this, Int.natAbs_natCast]
  rfl
theorem fbGe {a b : Nat} (ha : a ≤ big) (hb : b ≤ big) : (FloatKind.f64.format.order (fb a) (fb b) == some .gt || FloatKind.f64.format.order (fb a) (fb b) == some .eq) = decide (b ≤ a) := by
  rw [ordGe (fb_isF a) (fb_isF b) (big53 ha) (big53 hb)]; exact decide_eq_decide.2 ⟨fun h => by omega, fun h => by omega⟩
theorem fbLe {a b : Nat} (ha : a ≤ big) (hb : b ≤ big) : (FloatKind.f64.format.order (fb a) (fb b) == some .lt || FloatKind.f64.format.order (fb a) (fb b) == some .eq) = decide (a ≤ b) := by
  rw [ordLe (fb_isF a) (fb_isF b) (big53 ha) (big53 hb)]; exact decide_eq_decide.2 ⟨fun h => by omega, fun h => by omega⟩
theorem fbEq {a b : Nat} (ha : a ≤ big) (hb : b ≤ big) : (FloatKind.f64.format.order (fb a) (fb b) == some .eq) = decide (a = b) := by
  rw [ordEq (fb_isF a) (fb_isF b) (big53 ha) (big53 hb)]; exact decide_eq_decide.2 ⟨fun h => by omega, fun h => by omega⟩
theorem fbLt {a b : Nat} (ha : a ≤ big) (hb : b ≤ big) : (FloatKind.f64.format.order (fb a) (fb b) == some .lt) = decide (a < b) := by
  rw [ordLt (fb_isF a) (fb_isF b) (big53 ha) (big53 hb)]; exact decide_eq_decide.2 ⟨fun h => by omega, fun h => by omega⟩
set_option maxRecDepth 100000 in
set_option maxHeartbeats 4000000 in
theorem fits_ok (n : Nat) (hn : n ≤ big) (w : World) : Calls Try.prog 140 #[.float .f64 (fb n)] w fun e w' => e = .returned (.bool true) ∧ Below w.heap.size w w' := by
  have e1 := fbGe (a := n) (b := 0) hn (by decide)
  have e2 := fbLe (a := n) (b := big) hn (Nat.le_refl _)
  have e3 := fbEq (a := n) (b := n) hn hn
  rw [decide_eq_true (Nat.zero_le _), fb_zero] at e1
  rw [decide_eq_true hn, fb_big] at e2
  rw [decide_eq_true rfl] at e3
  have hc : ∀ w, (convert 92 3 (.float .f64 (fb n))).run Try.prog w = .ok (.int .i64 n) w := fun w => run_convert_float_int w 92 3 .f64 .i64 _ n (by rw [Try.underlying92]; rfl) Try.underlying3 (fval (fb_isF n) (big53 hn))
  have hd : ∀ w, (convert 3 92 (.int .i64 n)).run Try.prog w = .ok (.float .f64 (fb n)) w := fun w => by
    have := run_convert_int_float (P := Try.prog) w 3 92 .i64 .f64 n (by rw [Try.underlying3]; rfl) Try.underlying92
    rwa [fb_int] at this
  clear hn
  go_enter Try.func140, Try.ntmps140
  go_wp2_with (first | simp only [hc] | simp only [hd])
  go_ret
  exact ⟨rfl, Below.refl _ _⟩
set_option maxRecDepth 100000 in
set_option maxHeartbeats 4000000 in
theorem pair_ok (a b : Nat) (ha : a ≤ big) (hb : b ≤ big) (w : World) : Calls Try.prog 130 #[.complex .f64 (fb a) (fb b)] w fun e w' => e = .returned (.bool true) ∧ Below w.heap.size w w' := by
  have HA := Lib.hid (fun w => fits_ok a ha w)
  have HB := Lib.hid (fun w => fits_ok b hb w)
  clear ha hb
  go_enter Try.func130, Try.ntmps130
  go_wp2_with fail
  with_reducible refine (HA.out _).mono ?_
  rintro e w2 ⟨rfl, h2⟩
  go_wp2_with fail
  with_reducible refine (HB.out _).mono ?_
  rintro e w3 ⟨rfl, h3⟩
  have B := Lib.hid (bthen h2 h3)
  clear h2 h3
  go_wp2_with fail
  go_ret
  exact ⟨rfl, B.out⟩
structure La where
  r : Nat
  i : Nat
  n : Int
deriving DecidableEq
def cLa (x : La) : List Value := [.complex .f64 (fb x.r) (fb x.i), .int .i64 x.n]
theorem cLa_len (x : La) : (cLa x).length = 2 := rfl
theorem cLa_one (x : La) : ∀ u ∈ cLa x, u.oneCell' = true := by
  intro u hu
  simp only [cLa, List.mem_cons, List.not_mem_nil, or_false] at hu
  rcases hu with rfl | rfl <;> rfl
def La.sm (x : La) : Prop := x.r ≤ big ∧ x.i ≤ big
def befL (x y : La) : Bool := decide (x.r < y.r) || (decide (x.r = y.r) && decide (x.i < y.i))
set_option maxRecDepth 100000 in
set_option maxHeartbeats 4000000 in
theorem Before_ok (x y : La) (hx : x.sm) (hy : y.sm) (w : World) : Calls Try.prog 114 #[.complex .f64 (fb x.r) (fb x.i), .complex .f64 (fb y.r) (fb y.i)] w fun e w' => e = .returned (.bool (befL x y)) ∧ Below w.heap.size w w' := by
  have HA := Lib.hid (fun w => pair_ok x.r x.i hx.1 hx.2 w)
  have HB := Lib.hid (fun w => pair_ok y.r y.i hy.1 hy.2 w)
  have e1 := fbLt hx.1 hy.1
  have e2 := fbEq hx.1 hy.1
  have e3 := fbLt hx.2 hy.2
  clear hx hy
  cases t0 : decide (x.r < y.r) <;> cases t1 : decide (x.r = y.r) <;> cases t2 : decide (x.i < y.i)
  all_goals
    rw [t0] at e1
    rw [t1] at e2
    rw [t2] at e3
    have QQ : befL x y = (decide (x.r < y.r) || (decide (x.r = y.r) && decide (x.i < y.i))) := rfl
    rw [t0, t1, t2] at QQ
    have Q := Lib.hid QQ
    clear QQ t0 t1 t2
    go_enter Try.func114, Try.ntmps114
    go_wp2_with fail
    refine (HA.out _).mono ?_
    rintro e w2 ⟨rfl, h2⟩
    go_wp2_with fail
    refine (HB.out _).mono ?_
    rintro e w3 ⟨rfl, h3⟩
    have B := Lib.hid (bthen h2 h3)
    clear h2 h3
    go_wp2_with fail
    go_ret
    exact ⟨by rw [Q.out]; rfl, B.out⟩
/-- the order of the labels as 'put' takes it -/
def cmpLa (a b : La) : Int := if befL a b = true then 1 else if befL b a = true then -1 else b.n - a.n
theorem info91s : (Try.prog.info? 91).map (·.size) = some 2 := by kernel_rfl
theorem size91 (w : World) : (sizeOf 91).run Try.prog w = .ok 2 w := by kernel_rfl
theorem isAgg91 (w : World) : (isAgg 91).run Try.prog w = .ok true w := by kernel_rfl
set_option maxRecDepth 100000 in
set_option maxHeartbeats 4000000 in
theorem put1_ok (x y : La) (hx : x.sm) (hy : y.sm) (hn : oks x.n = true ∧ oks y.n = true) (w : World) : Calls Try.prog 113 #[.agg (cLa x).toArray, .agg (cLa y).toArray] w fun e w' => e = .returned (.int .i64 (cmpLa x y)) ∧ Below w.heap.size w w' := by
  have HA := Lib.hid (fun w => Before_ok x y hx hy w)
  have HB := Lib.hid (fun w => Before_ok y x hy hx w)
  simp only [oks, Bool.and_eq_true, decide_eq_true_eq] at hn
  have gw : wrap64 (y.n - x.n) = y.n - x.n := by unfold wrap64; omega
  obtain ⟨z, hz⟩ : ∃ z, z = w.heap.size := ⟨_, rfl⟩
  have ba : Below w.heap.size w ((w.alloc (.cells (cLa x).toArray 91)).alloc (.cells (cLa y).toArray 91)) := ((Below.refl _ _).alloc (Nat.le_refl _) _).alloc (by simp) _
  have k0 : ((w.alloc (.cells (cLa x).toArray 91)).alloc (.cells (cLa y).toArray 91)).heap[z]? = some (.cells (cLa x).toArray 91 (0, 0)) := heap_keep ((Below.refl _ _).alloc (Nat.le_refl _) _) (heap_at hz)
  have k1 : ((w.alloc (.cells (cLa x).toArray 91)).alloc (.cells (cLa y).toArray 91)).heap[z + 1]? = some (.cells (cLa y).toArray 91 (0, 0)) := heap_at (by rw [hz]; simp)
  have BA := Lib.hid ba
  have K0 := Lib.hid k0
  have K1 := Lib.hid k1
  have HZ := Lib.hid hz
  have CF : Hid (∀ w5, Below ((w.alloc (.cells (cLa x).toArray 91)).alloc (.cells (cLa y).toArray 91)).heap.size ((w.alloc (.cells (cLa x).toArray 91)).alloc (.cells (cLa y).toArray 91)) w5 → w5.cell? ⟨z, 0, none⟩ = some (.complex .f64 (fb x.r) (fb x.i)) ∧ w5.cell? ⟨z, 1, none⟩ = some (.int .i64 x.n) ∧ w5.cell? ⟨z + 1, 0, none⟩ = some (.complex .f64 (fb y.r) (fb y.i)) ∧ w5.cell? ⟨z + 1, 1, none⟩ = some (.int .i64 y.n)) := Lib.hid (fun w5 h5 => by
    have a := heap_keep h5 k0
    have b := heap_keep h5 k1
    exact ⟨by rw [cell_of_row w5 _ 0 _ _ _ a]; rfl, by rw [cell_of_row w5 _ 1 _ _ _ a]; rfl, by rw [cell_of_row w5 _ 0 _ _ _ b]; rfl, by rw [cell_of_row w5 _ 1 _ _ _ b]; rfl⟩)
  have EA : ((w.alloc (.cells (cLa x).toArray 91)).alloc (.cells (cLa y).toArray 91)) = ((w.alloc (.cells #[.complex .f64 (fb x.r) (fb x.i), .int .i64 x.n] 91)).alloc (.cells #[.complex .f64 (fb y.r) (fb y.i), .int .i64 y.n] 91)) := rfl
  rw [EA] at BA CF
  clear ba k0 k1 hx hy hn EA K0 K1
  unfold cLa
  go_enter Try.func113, Try.ntmps113
  go_wp2_with fail
  rw [← hz]
  clear hz
  generalize ((w.alloc (.cells #[.complex .f64 (fb x.r) (fb x.i), .int .i64 x.n] 91)).alloc (.cells #[.complex .f64 (fb y.r) (fb y.i), .int .i64 y.n] 91)) = wa at *
  refine (HA.out _).mono ?_
  rintro e w2 ⟨rfl, hb⟩
  have B2 := Lib.hid (bthen BA.out hb)
  obtain ⟨c0, c1, c2, c3⟩ := CF.out w2 hb
  cases q0 : befL x y with
  | true =>
    clear CF hb
    go_wp2_with fail
    go_ret
    exact ⟨by simp [cmpLa, q0], B2.out⟩
  | false =>
    have HB2 := Lib.hid hb
    clear hb
    go_wp2_with fail
    refine (HB.out _).mono ?_
    rintro e w3 ⟨rfl, hb3⟩
    have B3 := Lib.hid (bthen B2.out hb3)
    have d0 := bcell hb3 c0
    have d1 := bcell hb3 c1
    have d2 := bcell hb3 c2
    have d3 := bcell hb3 c3
    clear c0 c1 c2 c3 hb3
    cases q1 : befL y x with
    | true =>
      go_wp2_with fail
      go_ret
      exact ⟨by simp [cmpLa, q0, q1], B3.out⟩
    | false =>
      go_wp2_with fail
      go_ret
      exact ⟨by simp [cmpLa, q0, q1] <;> exact gw, B3.out⟩

end Go.Proofs.Ytpklcefiabjplaa
