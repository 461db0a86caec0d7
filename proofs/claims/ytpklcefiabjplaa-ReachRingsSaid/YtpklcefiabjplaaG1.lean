/- Contracts of the small functions: limits, comparisons, places; conditions as stated. -/
import Derived.Test.YtpklcefiabjplaaG0
import Derived.Laws.ComplexArith
import Derived.BigQuiet
namespace Go.Proofs.Ytpklcefiabjplaa
open Go.ChangeShapes Go.WideShapes Go.ChangeAt Go.RowKit
set_option linter.unusedVariables false
set_option linter.unusedSimpArgs false
attribute [local go_sem] Og.Opt Og.OpY

/-- lo ≤ n ≤ hi -/
def rng (lo hi n : Int) : Bool := decide (lo ≤ n) && decide (n ≤ hi)
theorem rng_of {lo hi n : Int} (h : rng lo hi n = true) : lo ≤ n ∧ n ≤ hi := by unfold rng at h; simpa using h
theorem rng_mk {lo hi n : Int} (h1 : lo ≤ n) (h2 : n ≤ hi) : rng lo hi n = true := by unfold rng; simp [h1, h2]
def sg (a b : Int) : Int := if a < b then -1 else if b < a then 1 else 0
def orz (a b : Int) : Int := if a ≠ 0 then a else b

theorem in_ok (n : Int) (w : World) : Calls Try.prog 34 #[.int .i64 n] w fun e w' => e = .returned (.bool (rng 0 127 n)) ∧ Below w.heap.size w w' := by
  have E := Lib.hid (show rng 0 127 n = (decide (0 ≤ n) && decide (n ≤ 127)) from rfl)
  cases h1 : decide ((0 : Int) ≤ n) with
  | true =>
    rw [h1, Bool.true_and] at E
    go_enter Try.func34, Try.ntmps34
    go_wp2_with fail
    go_ret
    exact ⟨by rw [E.out]; rfl, Below.refl _ _⟩
  | false =>
    rw [h1, Bool.false_and] at E
    go_enter Try.func34, Try.ntmps34
    go_wp2_with fail
    go_ret
    exact ⟨by rw [E.out]; rfl, Below.refl _ _⟩

theorem cost_ok (n : Int) (w : World) : Calls Try.prog 36 #[.int .i64 n] w fun e w' => e = .returned (.bool (rng 1 65535 n)) ∧ Below w.heap.size w w' := by
  have E := Lib.hid (show rng 1 65535 n = (decide (1 ≤ n) && decide (n ≤ 65535)) from rfl)
  cases h1 : decide ((1 : Int) ≤ n) with
  | true =>
    rw [h1, Bool.true_and] at E
    go_enter Try.func36, Try.ntmps36
    go_wp2_with fail
    go_ret
    exact ⟨by rw [E.out]; rfl, Below.refl _ _⟩
  | false =>
    rw [h1, Bool.false_and] at E
    go_enter Try.func36, Try.ntmps36
    go_wp2_with fail
    go_ret
    exact ⟨by rw [E.out]; rfl, Below.refl _ _⟩

theorem delay_ok (n : Int) (w : World) : Calls Try.prog 37 #[.int .i64 n] w fun e w' => e = .returned (.bool (rng 0 65535 n)) ∧ Below w.heap.size w w' := by
  have E := Lib.hid (show rng 0 65535 n = (decide (0 ≤ n) && decide (n ≤ 65535)) from rfl)
  cases h1 : decide ((0 : Int) ≤ n) with
  | true =>
    rw [h1, Bool.true_and] at E
    go_enter Try.func37, Try.ntmps37
    go_wp2_with fail
    go_ret
    exact ⟨by rw [E.out]; rfl, Below.refl _ _⟩
  | false =>
    rw [h1, Bool.false_and] at E
    go_enter Try.func37, Try.ntmps37
    go_wp2_with fail
    go_ret
    exact ⟨by rw [E.out]; rfl, Below.refl _ _⟩

theorem metric_ok (n : Int) (w : World) : Calls Try.prog 40 #[.int .i64 n] w fun e w' => e = .returned (.bool (rng 0 65535 n)) ∧ Below w.heap.size w w' := by
  have E := Lib.hid (show rng 0 65535 n = (decide (0 ≤ n) && decide (n ≤ 65535)) from rfl)
  cases h1 : decide ((0 : Int) ≤ n) with
  | true =>
    rw [h1, Bool.true_and] at E
    go_enter Try.func40, Try.ntmps40
    go_wp2_with fail
    go_ret
    exact ⟨by rw [E.out]; rfl, Below.refl _ _⟩
  | false =>
    rw [h1, Bool.false_and] at E
    go_enter Try.func40, Try.ntmps40
    go_wp2_with fail
    go_ret
    exact ⟨by rw [E.out]; rfl, Below.refl _ _⟩

set_option maxHeartbeats 400000 in
theorem cmpU (a b : Int) (w : World) :
    Calls Try.prog 111 #[.int .u32 a, .int .u32 b] w fun e w' => e = .returned (.int .i64 (sg a b)) ∧ Below w.heap.size w w' := by
  have h1 : (a != a) = false := by simp
  have h2 : (b != b) = false := by simp
  rcases Int.lt_trichotomy a b with h | h | h
  · have e : sg a b = -1 := by unfold sg; rw [if_pos h]
    have E := Lib.hid e
    clear e
    go_enter Try.func111, Try.ntmps111
    go_wp2
    go_ret
    exact ⟨by rw [E.out]; rfl, Below.refl _ _⟩
  · subst h
    have e : sg a a = 0 := by unfold sg; rw [if_neg (by omega), if_neg (by omega)]
    have E := Lib.hid e
    clear e
    go_enter Try.func111, Try.ntmps111
    go_wp2
    go_ret
    exact ⟨by rw [E.out]; rfl, Below.refl _ _⟩
  · have e : sg a b = 1 := by unfold sg; rw [if_neg (by omega), if_pos h]
    have E := Lib.hid e
    clear e
    go_enter Try.func111, Try.ntmps111
    go_wp2
    go_ret
    exact ⟨by rw [E.out]; rfl, Below.refl _ _⟩

set_option maxHeartbeats 400000 in
theorem cmpI (a b : Int) (w : World) :
    Calls Try.prog 74 #[.int .i64 a, .int .i64 b] w fun e w' => e = .returned (.int .i64 (sg a b)) ∧ Below w.heap.size w w' := by
  have h1 : (a != a) = false := by simp
  have h2 : (b != b) = false := by simp
  rcases Int.lt_trichotomy a b with h | h | h
  · have e : sg a b = -1 := by unfold sg; rw [if_pos h]
    have E := Lib.hid e
    clear e
    go_enter Try.func74, Try.ntmps74
    go_wp2
    go_ret
    exact ⟨by rw [E.out]; rfl, Below.refl _ _⟩
  · subst h
    have e : sg a a = 0 := by unfold sg; rw [if_neg (by omega), if_neg (by omega)]
    have E := Lib.hid e
    clear e
    go_enter Try.func74, Try.ntmps74
    go_wp2
    go_ret
    exact ⟨by rw [E.out]; rfl, Below.refl _ _⟩
  · have e : sg a b = 1 := by unfold sg; rw [if_neg (by omega), if_pos h]
    have E := Lib.hid e
    clear e
    go_enter Try.func74, Try.ntmps74
    go_wp2
    go_ret
    exact ⟨by rw [E.out]; rfl, Below.refl _ _⟩

set_option maxHeartbeats 400000 in
theorem or_ok (x y : Int) (b : Nat) (w : World) (h0 : w.cell? ⟨b, 0, none⟩ = some (.int .i64 x)) (h1 : w.cell? ⟨b, 1, none⟩ = some (.int .i64 y)) :
    Calls Try.prog 73 #[.slice (some ⟨b, 0, none⟩) 2 2] w fun e w' => e = .returned (.int .i64 (orz x y)) ∧ Below w.heap.size w w' := by
  have hx : x ≠ 0 → orz x y = x := fun h => by unfold orz; rw [if_pos h]
  have hy : x = 0 → orz x y = y := fun h => by unfold orz; rw [if_neg (by omega)]
  have HX := Lib.hid hx
  have HY := Lib.hid hy
  clear hx hy
  go_enter Try.func73, Try.ntmps73
  go_wp2_with fail
  go_loop [5, 8] (fun u i => (i = .int .i64 0) ∨ (i = .int .i64 1 ∧ Hid (x = 0)) ∨ (i = .int .i64 2 ∧ Hid (x = 0) ∧ Hid (y = 0))) (fun _ i => 2 - (intOf i).toNat)
  case atStart => exact .inl rfl
  case round =>
    rcases hrel with rfl | ⟨rfl, hz⟩ | ⟨rfl, hz, hz'⟩
    · by_cases hx0 : x = 0
      · have X0 := Lib.hid hx0
        have hb : (x != 0) = false := by simpa using hx0
        clear hx0
        go_wp2_with fail
        go_round
        case rel => exact .inr (.inl ⟨rfl, X0⟩)
        case measure => simp [intOf]
      · have X0 := Lib.hid hx0
        have hb : (x != 0) = true := by simpa using hx0
        clear hx0
        go_wp2_with fail
        go_ret
        exact ⟨by rw [HX.out X0.out]; rfl, Below.refl _ _⟩
    · by_cases hy0 : y = 0
      · have Y0 := Lib.hid hy0
        have hb : (y != 0) = false := by simpa using hy0
        clear hy0
        go_wp2_with fail
        go_round
        case rel => exact .inr (.inr ⟨rfl, hz, Y0⟩)
        case measure => simp [intOf]
      · have Y0 := Lib.hid hy0
        have hb : (y != 0) = true := by simpa using hy0
        clear hy0
        go_wp2_with fail
        go_ret
        exact ⟨by rw [HY.out hz.out]; rfl, Below.refl _ _⟩
    · go_wp2_with fail
      go_ret
      exact ⟨by rw [HY.out hz.out, hz'.out]; rfl, Below.refl _ _⟩
theorem or_heap (x y : Int) (b : Nat) (w : World) (h : w.heap[b]? = some (.cells #[.int .i64 x, .int .i64 y] 3 (0, 0))) :
    Calls Try.prog 73 #[.slice (some ⟨b, 0, none⟩) 2 2] w fun e w' => e = .returned (.int .i64 (orz x y)) ∧ Below w.heap.size w w' := or_ok x y b w (by simp [World.cell?, h]) (by simp [World.cell?, h])

def cmpP (p q : Pf) : Int := orz (sg p.a q.a) (sg p.l q.l)
def cmpL (p q : Lk) : Int := orz (sg p.f q.f) (sg p.t q.t)
def cmpN (p q : Pn) : Int := orz (cmpP p.p q.p) (sg p.n q.n)

set_option maxRecDepth 100000 in
set_option maxHeartbeats 4000000 in
theorem cmpP_ok (p q : Pf) (w : World) : Calls Try.prog 76 #[.agg #[.int .u32 p.a, .int .i64 p.l], .agg #[.int .u32 q.a, .int .i64 q.l]] w fun e w' => e = .returned (.int .i64 (cmpP p q)) ∧ Below w.heap.size w w' := by
  go_enter Try.func76, Try.ntmps76
  go_wp2_with fail
  obtain ⟨W, hW⟩ : ∃ W, (w.alloc (Obj.cells #[.int .u32 p.a, .int .i64 p.l] 47)).alloc (Obj.cells #[.int .u32 q.a, .int .i64 q.l] 47) = W := ⟨_, rfl⟩
  have hB : Below w.heap.size w W := by rw [← hW]; exact ((Below.refl _ _).alloc (Nat.le_refl _) _).alloc (by simp) _
  have h0 : W.cell? ⟨w.heap.size, 0, none⟩ = some (.int .u32 p.a) ∧ W.cell? ⟨w.heap.size, 1, none⟩ = some (.int .i64 p.l) ∧ W.cell? ⟨w.heap.size + 1, 0, none⟩ = some (.int .u32 q.a) ∧ W.cell? ⟨w.heap.size + 1, 1, none⟩ = some (.int .i64 q.l) := by rw [← hW]; simp
  have HC : ∀ w2, Below W.heap.size W w2 → w2.cell? ⟨w.heap.size, 0, none⟩ = some (.int .u32 p.a) ∧ w2.cell? ⟨w.heap.size, 1, none⟩ = some (.int .i64 p.l) ∧ w2.cell? ⟨w.heap.size + 1, 0, none⟩ = some (.int .u32 q.a) ∧ w2.cell? ⟨w.heap.size + 1, 1, none⟩ = some (.int .i64 q.l) := fun w2 h => by
    obtain ⟨c0, c1, c2, c3⟩ := h0
    exact ⟨bcell h c0, bcell h c1, bcell h c2, bcell h c3⟩
  rw [hW]
  clear hW h0
  refine Og.Tail.walk_lit 10 [[],[0],[],[2],[1,3,0,2],[],[5],[],[7],[6,8,4,5,7,1,3,0,2],[4,9,1,3,0,2,6,8,5,7],[10,9,4,1,3,0,2,6,8,5,7],[11,0,1,2,3,4,5,6,7,8,9,10]] (fun w2 => Below W.heap.size W w2) (fun w1 w2 => Below w1.heap.size w1 w2) (by kernel_rfl) (by kernel_rfl) (by kernel_rfl) (bdrew) ?_
  simp only [List.take_succ_cons, List.take_zero, List.drop_succ_cons, List.drop_zero]
  repeat (first | (refine Og.step_pure (fun _ => Below.refl _ _) ?_; apply Exists.intro; refine And.intro ?_ ?_; focus (intro vs w2 hC hk; have hm := HC w2 hC; revert hk; simp only [Og.KS, Og.K0, Og.Is, List.getD_cons_zero, List.getD_cons_succ, List.getD_nil, List.contains_cons, List.contains_nil, Nat.reduceAdd, Nat.reduceBEq, Bool.or_false, Bool.false_or, Bool.or_true, Bool.true_or, Bool.false_eq_true, false_implies, true_implies, true_and, and_true, forall_const]; intros; go_simp; rfl)) | (refine Og.step_one ?_; apply Exists.intro; refine And.intro ?_ ?_; focus (intro vs w2 hC hk; have hm := HC w2 hC; revert hk; simp only [Og.KS, Og.K0, Og.Is, List.getD_cons_zero, List.getD_cons_succ, List.getD_nil, List.contains_cons, List.contains_nil, Nat.reduceAdd, Nat.reduceBEq, Bool.or_false, Bool.false_or, Bool.or_true, Bool.true_or, Bool.false_eq_true, false_implies, true_implies, true_and, and_true, forall_const]; intros; go_simp; with_reducible refine (cmpU _ _ _).mono ?_; rintro e w3 ⟨rfl, hb⟩; exact Og.RetV.mk ⟨bthen hC hb, hb, rfl⟩)) | (refine Og.step_one ?_; apply Exists.intro; refine And.intro ?_ ?_; focus (intro vs w2 hC hk; have hm := HC w2 hC; revert hk; simp only [Og.KS, Og.K0, Og.Is, List.getD_cons_zero, List.getD_cons_succ, List.getD_nil, List.contains_cons, List.contains_nil, Nat.reduceAdd, Nat.reduceBEq, Bool.or_false, Bool.false_or, Bool.or_true, Bool.true_or, Bool.false_eq_true, false_implies, true_implies, true_and, and_true, forall_const]; intros; go_simp; with_reducible refine (cmpI _ _ _).mono ?_; rintro e w3 ⟨rfl, hb⟩; exact Og.RetV.mk ⟨bthen hC hb, hb, rfl⟩)))
  intro vs w2 hC hk
  have hm := HC w2 hC
  simp only [Og.KS, Og.K0, Og.Is, List.getD_cons_zero, List.getD_cons_succ, List.getD_nil, List.contains_cons, List.contains_nil, Nat.reduceAdd, Nat.reduceBEq, Bool.or_false, Bool.false_or, Bool.or_true, Bool.true_or, Bool.false_eq_true, false_implies, true_implies, true_and, and_true, forall_const] at hk
  simp only [hk, Act.put, List.setIfInBounds_toArray, List.set_cons_zero, List.set_cons_succ]
  clear hk
  have B2 := Lib.hid (bthen' hB hB.size hC)
  clear hC hm HC hB
  go_wp2_with fail
  refine (or_heap _ _ w2.heap.size _ (heap_at rfl)).mono ?_
  rintro e w3 ⟨rfl, hb⟩
  have B3 := Lib.hid (bthen' (B2.out.alloc B2.out.size _) (by have := B2.out.size; simp; omega) hb)
  clear hb
  go_wp2_with fail
  go_ret
  exact ⟨rfl, B3.out⟩

set_option maxRecDepth 100000 in
set_option maxHeartbeats 4000000 in
theorem cmpL_ok (p q : Lk) (w : World) : Calls Try.prog 38 #[.agg #[.int .i64 p.f, .int .i64 p.t, .int .i64 p.c, .int .i64 p.d], .agg #[.int .i64 q.f, .int .i64 q.t, .int .i64 q.c, .int .i64 q.d]] w fun e w' => e = .returned (.int .i64 (cmpL p q)) ∧ Below w.heap.size w w' := by
  go_enter Try.func38, Try.ntmps38
  go_wp2_with fail
  obtain ⟨W, hW⟩ : ∃ W, (w.alloc (Obj.cells #[.int .i64 p.f, .int .i64 p.t, .int .i64 p.c, .int .i64 p.d] 43)).alloc (Obj.cells #[.int .i64 q.f, .int .i64 q.t, .int .i64 q.c, .int .i64 q.d] 43) = W := ⟨_, rfl⟩
  have hB : Below w.heap.size w W := by rw [← hW]; exact ((Below.refl _ _).alloc (Nat.le_refl _) _).alloc (by simp) _
  have h0 : W.cell? ⟨w.heap.size, 0, none⟩ = some (.int .i64 p.f) ∧ W.cell? ⟨w.heap.size, 1, none⟩ = some (.int .i64 p.t) ∧ W.cell? ⟨w.heap.size, 2, none⟩ = some (.int .i64 p.c) ∧ W.cell? ⟨w.heap.size, 3, none⟩ = some (.int .i64 p.d) ∧ W.cell? ⟨w.heap.size + 1, 0, none⟩ = some (.int .i64 q.f) ∧ W.cell? ⟨w.heap.size + 1, 1, none⟩ = some (.int .i64 q.t) ∧ W.cell? ⟨w.heap.size + 1, 2, none⟩ = some (.int .i64 q.c) ∧ W.cell? ⟨w.heap.size + 1, 3, none⟩ = some (.int .i64 q.d) := by rw [← hW]; simp
  have HC : ∀ w2, Below W.heap.size W w2 → w2.cell? ⟨w.heap.size, 0, none⟩ = some (.int .i64 p.f) ∧ w2.cell? ⟨w.heap.size, 1, none⟩ = some (.int .i64 p.t) ∧ w2.cell? ⟨w.heap.size, 2, none⟩ = some (.int .i64 p.c) ∧ w2.cell? ⟨w.heap.size, 3, none⟩ = some (.int .i64 p.d) ∧ w2.cell? ⟨w.heap.size + 1, 0, none⟩ = some (.int .i64 q.f) ∧ w2.cell? ⟨w.heap.size + 1, 1, none⟩ = some (.int .i64 q.t) ∧ w2.cell? ⟨w.heap.size + 1, 2, none⟩ = some (.int .i64 q.c) ∧ w2.cell? ⟨w.heap.size + 1, 3, none⟩ = some (.int .i64 q.d) := fun w2 h => by
    obtain ⟨c0, c1, c2, c3, c4, c5, c6, c7⟩ := h0
    exact ⟨bcell h c0, bcell h c1, bcell h c2, bcell h c3, bcell h c4, bcell h c5, bcell h c6, bcell h c7⟩
  rw [hW]
  clear hW h0
  refine Og.Tail.walk_lit 10 [[],[0],[],[2],[1,3,0,2],[],[5],[],[7],[6,8,4,5,7,1,3,0,2],[4,9,1,3,0,2,6,8,5,7],[10,9,4,1,3,0,2,6,8,5,7],[11,0,1,2,3,4,5,6,7,8,9,10]] (fun w2 => Below W.heap.size W w2) (fun w1 w2 => Below w1.heap.size w1 w2) (by kernel_rfl) (by kernel_rfl) (by kernel_rfl) (bdrew) ?_
  simp only [List.take_succ_cons, List.take_zero, List.drop_succ_cons, List.drop_zero]
  repeat (first | (refine Og.step_pure (fun _ => Below.refl _ _) ?_; apply Exists.intro; refine And.intro ?_ ?_; focus (intro vs w2 hC hk; have hm := HC w2 hC; revert hk; simp only [Og.KS, Og.K0, Og.Is, List.getD_cons_zero, List.getD_cons_succ, List.getD_nil, List.contains_cons, List.contains_nil, Nat.reduceAdd, Nat.reduceBEq, Bool.or_false, Bool.false_or, Bool.or_true, Bool.true_or, Bool.false_eq_true, false_implies, true_implies, true_and, and_true, forall_const]; intros; go_simp; rfl)) | (refine Og.step_one ?_; apply Exists.intro; refine And.intro ?_ ?_; focus (intro vs w2 hC hk; have hm := HC w2 hC; revert hk; simp only [Og.KS, Og.K0, Og.Is, List.getD_cons_zero, List.getD_cons_succ, List.getD_nil, List.contains_cons, List.contains_nil, Nat.reduceAdd, Nat.reduceBEq, Bool.or_false, Bool.false_or, Bool.or_true, Bool.true_or, Bool.false_eq_true, false_implies, true_implies, true_and, and_true, forall_const]; intros; go_simp; with_reducible refine (cmpI _ _ _).mono ?_; rintro e w3 ⟨rfl, hb⟩; exact Og.RetV.mk ⟨bthen hC hb, hb, rfl⟩)))
  intro vs w2 hC hk
  have hm := HC w2 hC
  simp only [Og.KS, Og.K0, Og.Is, List.getD_cons_zero, List.getD_cons_succ, List.getD_nil, List.contains_cons, List.contains_nil, Nat.reduceAdd, Nat.reduceBEq, Bool.or_false, Bool.false_or, Bool.or_true, Bool.true_or, Bool.false_eq_true, false_implies, true_implies, true_and, and_true, forall_const] at hk
  simp only [hk, Act.put, List.setIfInBounds_toArray, List.set_cons_zero, List.set_cons_succ]
  clear hk
  have B2 := Lib.hid (bthen' hB hB.size hC)
  clear hC hm HC hB
  go_wp2_with fail
  refine (or_heap _ _ w2.heap.size _ (heap_at rfl)).mono ?_
  rintro e w3 ⟨rfl, hb⟩
  have B3 := Lib.hid (bthen' (B2.out.alloc B2.out.size _) (by have := B2.out.size; simp; omega) hb)
  clear hb
  go_wp2_with fail
  go_ret
  exact ⟨rfl, B3.out⟩

set_option maxRecDepth 100000 in
set_option maxHeartbeats 4000000 in
theorem cmpN_ok (p q : Pn) (w : World) : Calls Try.prog 41 #[.agg #[.int .u32 p.p.a, .int .i64 p.p.l, .int .i64 p.n, .int .i64 p.m], .agg #[.int .u32 q.p.a, .int .i64 q.p.l, .int .i64 q.n, .int .i64 q.m]] w fun e w' => e = .returned (.int .i64 (cmpN p q)) ∧ Below w.heap.size w w' := by
  go_enter Try.func41, Try.ntmps41
  go_wp2_with fail
  obtain ⟨W, hW⟩ : ∃ W, (w.alloc (Obj.cells #[.int .u32 p.p.a, .int .i64 p.p.l, .int .i64 p.n, .int .i64 p.m] 49)).alloc (Obj.cells #[.int .u32 q.p.a, .int .i64 q.p.l, .int .i64 q.n, .int .i64 q.m] 49) = W := ⟨_, rfl⟩
  have hB : Below w.heap.size w W := by rw [← hW]; exact ((Below.refl _ _).alloc (Nat.le_refl _) _).alloc (by simp) _
  have h0 : W.cell? ⟨w.heap.size, 0, none⟩ = some (.int .u32 p.p.a) ∧ W.cell? ⟨w.heap.size, 1, none⟩ = some (.int .i64 p.p.l) ∧ W.cell? ⟨w.heap.size, 2, none⟩ = some (.int .i64 p.n) ∧ W.cell? ⟨w.heap.size, 3, none⟩ = some (.int .i64 p.m) ∧ W.cell? ⟨w.heap.size + 1, 0, none⟩ = some (.int .u32 q.p.a) ∧ W.cell? ⟨w.heap.size + 1, 1, none⟩ = some (.int .i64 q.p.l) ∧ W.cell? ⟨w.heap.size + 1, 2, none⟩ = some (.int .i64 q.n) ∧ W.cell? ⟨w.heap.size + 1, 3, none⟩ = some (.int .i64 q.m) := by rw [← hW]; simp
  have HC : ∀ w2, Below W.heap.size W w2 → w2.cell? ⟨w.heap.size, 0, none⟩ = some (.int .u32 p.p.a) ∧ w2.cell? ⟨w.heap.size, 1, none⟩ = some (.int .i64 p.p.l) ∧ w2.cell? ⟨w.heap.size, 2, none⟩ = some (.int .i64 p.n) ∧ w2.cell? ⟨w.heap.size, 3, none⟩ = some (.int .i64 p.m) ∧ w2.cell? ⟨w.heap.size + 1, 0, none⟩ = some (.int .u32 q.p.a) ∧ w2.cell? ⟨w.heap.size + 1, 1, none⟩ = some (.int .i64 q.p.l) ∧ w2.cell? ⟨w.heap.size + 1, 2, none⟩ = some (.int .i64 q.n) ∧ w2.cell? ⟨w.heap.size + 1, 3, none⟩ = some (.int .i64 q.m) := fun w2 h => by
    obtain ⟨c0, c1, c2, c3, c4, c5, c6, c7⟩ := h0
    exact ⟨bcell h c0, bcell h c1, bcell h c2, bcell h c3, bcell h c4, bcell h c5, bcell h c6, bcell h c7⟩
  rw [hW]
  clear hW h0
  refine Og.Tail.walk_lit 10 [[],[0],[],[2],[1,3,0,2],[],[5],[],[7],[6,8,4,5,7,1,3,0,2],[4,9,1,3,0,2,6,8,5,7],[10,9,4,1,3,0,2,6,8,5,7],[11,0,1,2,3,4,5,6,7,8,9,10]] (fun w2 => Below W.heap.size W w2) (fun w1 w2 => Below w1.heap.size w1 w2) (by kernel_rfl) (by kernel_rfl) (by kernel_rfl) (bdrew) ?_
  simp only [List.take_succ_cons, List.take_zero, List.drop_succ_cons, List.drop_zero]
  repeat (first | (refine Og.step_pure (fun _ => Below.refl _ _) ?_; apply Exists.intro; refine And.intro ?_ ?_; focus (intro vs w2 hC hk; have hm := HC w2 hC; revert hk; simp only [Og.KS, Og.K0, Og.Is, List.getD_cons_zero, List.getD_cons_succ, List.getD_nil, List.contains_cons, List.contains_nil, Nat.reduceAdd, Nat.reduceBEq, Bool.or_false, Bool.false_or, Bool.or_true, Bool.true_or, Bool.false_eq_true, false_implies, true_implies, true_and, and_true, forall_const]; intros; go_simp; rfl)) | (refine Og.step_one ?_; apply Exists.intro; refine And.intro ?_ ?_; focus (intro vs w2 hC hk; have hm := HC w2 hC; revert hk; simp only [Og.KS, Og.K0, Og.Is, List.getD_cons_zero, List.getD_cons_succ, List.getD_nil, List.contains_cons, List.contains_nil, Nat.reduceAdd, Nat.reduceBEq, Bool.or_false, Bool.false_or, Bool.or_true, Bool.true_or, Bool.false_eq_true, false_implies, true_implies, true_and, and_true, forall_const]; intros; go_simp; with_reducible refine (cmpP_ok p.p q.p _).mono ?_; rintro e w3 ⟨rfl, hb⟩; exact Og.RetV.mk ⟨bthen hC hb, hb, rfl⟩)) | (refine Og.step_one ?_; apply Exists.intro; refine And.intro ?_ ?_; focus (intro vs w2 hC hk; have hm := HC w2 hC; revert hk; simp only [Og.KS, Og.K0, Og.Is, List.getD_cons_zero, List.getD_cons_succ, List.getD_nil, List.contains_cons, List.contains_nil, Nat.reduceAdd, Nat.reduceBEq, Bool.or_false, Bool.false_or, Bool.or_true, Bool.true_or, Bool.false_eq_true, false_implies, true_implies, true_and, and_true, forall_const]; intros; go_simp; with_reducible refine (cmpI _ _ _).mono ?_; rintro e w3 ⟨rfl, hb⟩; exact Og.RetV.mk ⟨bthen hC hb, hb, rfl⟩)))
  intro vs w2 hC hk
  have hm := HC w2 hC
  simp only [Og.KS, Og.K0, Og.Is, List.getD_cons_zero, List.getD_cons_succ, List.getD_nil, List.contains_cons, List.contains_nil, Nat.reduceAdd, Nat.reduceBEq, Bool.or_false, Bool.false_or, Bool.or_true, Bool.true_or, Bool.false_eq_true, false_implies, true_implies, true_and, and_true, forall_const] at hk
  simp only [hk, Act.put, List.setIfInBounds_toArray, List.set_cons_zero, List.set_cons_succ]
  clear hk
  have B2 := Lib.hid (bthen' hB hB.size hC)
  clear hC hm HC hB
  go_wp2_with fail
  refine (or_heap _ _ w2.heap.size _ (heap_at rfl)).mono ?_
  rintro e w3 ⟨rfl, hb⟩
  have B3 := Lib.hid (bthen' (B2.out.alloc B2.out.size _) (by have := B2.out.size; simp; omega) hb)
  clear hb
  go_wp2_with fail
  go_ret
  exact ⟨rfl, B3.out⟩

set_option maxHeartbeats 400000 in
theorem cmpD_ok (p : Nd) (n : Int) (w : World) : Calls Try.prog 99 #[.agg #[.int .i64 p.i, .bool false, .complex .f64 0 0], .int .i64 n] w fun e w' => e = .returned (.int .i64 (sg p.i n)) ∧ Below w.heap.size w w' := by
  go_enter Try.func99, Try.ntmps99
  go_wp2_with fail
  refine (cmpI _ _ _).mono ?_
  rintro e w3 ⟨rfl, hb⟩
  have B := Lib.hid (bthen' ((Below.refl w.heap.size w).alloc (Nat.le_refl _) _) (by simp) hb)
  clear hb
  go_wp2_with fail
  go_ret
  exact ⟨rfl, B.out⟩

set_option maxHeartbeats 400000 in
theorem whole_ok (w : World) : Calls Try.prog 72 #[.float .f64 0] w fun e w' => e = .returned (.bool true) ∧ Below w.heap.size w w' := by
  have e1 : (FloatKind.f64.format.order 0 13920626448202203136 == some .gt || FloatKind.f64.format.order 0 13920626448202203136 == some .eq) = true := by decide +kernel
  have e2 : (FloatKind.f64.format.order 0 4697254411347427328 == some .lt || FloatKind.f64.format.order 0 4697254411347427328 == some .eq) = true := by decide +kernel
  have hc : ∀ w, (convert 92 3 (.float .f64 0)).run Try.prog w = .ok (.int .i64 0) w := fun w => run_convert_float_int w 92 3 .f64 .i64 0 0 (by rw [Try.underlying92]; rfl) Try.underlying3 (by decide +kernel)
  have hd : ∀ w, (convert 3 92 (.int .i64 0)).run Try.prog w = .ok (.float .f64 (floatOfInt .f64 0)) w := fun w => run_convert_int_float w 3 92 .i64 .f64 0 (by rw [Try.underlying3]; rfl) Try.underlying92
  have e0 : floatOfInt .f64 0 = 0 := by decide +kernel
  rw [e0] at hd
  have e3 : (FloatKind.f64.format.order 0 0 == some .eq) = true := by decide +kernel
  go_enter Try.func72, Try.ntmps72
  go_wp2_with (first | simp only [hc] | simp only [hd])
  go_ret
  exact ⟨rfl, Below.refl _ _⟩
set_option maxHeartbeats 400000 in
theorem Ok_ok (w : World) : Calls Try.prog 35 #[.complex .f64 0 0] w fun e w' => e = .returned (.bool true) ∧ Below w.heap.size w w' := by
  go_enter Try.func35, Try.ntmps35
  go_wp2_with fail
  refine (whole_ok _).mono ?_
  rintro e w1 ⟨rfl, h1⟩
  go_wp2_with fail
  refine (whole_ok _).mono ?_
  rintro e w2 ⟨rfl, h2⟩
  have B := Lib.hid (bthen h1 h2)
  clear h1 h2
  go_wp2_with fail
  go_ret
  exact ⟨rfl, B.out⟩
set_option maxHeartbeats 400000 in
theorem plain_ok (w : World) : Calls Try.prog 60 #[.complex .f64 0 0] w fun e w' => e = .returned (.complex .f64 0 0) ∧ Below w.heap.size w w' := by
  have hadd : ∀ w, (binOp .add 92 (.float .f64 0) (.float .f64 0)).run Try.prog w = .ok (.float .f64 0) w := fun w => by kernel_rfl
  go_enter Try.func60, Try.ntmps60
  go_wp2_with (simp only [hadd])
  go_ret
  exact ⟨rfl, Below.refl _ _⟩
/-- a prefix of 24 bits, or of none -/
def pfS (p : Pf) : Prop := p = ⟨0, 0⟩ ∨ (p.l = 24 ∧ (bits .andNot .u32 p.a 4294967040 == 0) = true)
set_option maxHeartbeats 400000 in
theorem mask_ok (w : World) : Calls Try.prog 75 #[.int .i64 24] w fun e w' => e = .returned (.int .u32 4294967040) ∧ Below w.heap.size w w' := by
  go_enter Try.func75, Try.ntmps75
  go_wp2_with fail
  go_ret
  exact ⟨rfl, Below.refl _ _⟩

set_option maxRecDepth 100000 in
set_option maxHeartbeats 2000000 in
theorem pok_z (w : World) : Calls Try.prog 39 #[.agg #[.int .u32 0, .int .i64 0]] w fun e w' => e = .returned (.bool true) ∧ Below w.heap.size w w' := by
  go_enter Try.func39, Try.ntmps39
  go_wp2_with fail
  obtain ⟨W, hW⟩ : ∃ W, w.alloc (Obj.cells #[.int .u32 0, .int .i64 0] 47) = W := ⟨_, rfl⟩
  have hB : Below w.heap.size w W := by rw [← hW]; exact (Below.refl _ _).alloc (Nat.le_refl _) _
  have h0 : W.cell? ⟨w.heap.size, 0, none⟩ = some (.int .u32 0) ∧ W.cell? ⟨w.heap.size, 1, none⟩ = some (.int .i64 0) := by rw [← hW]; simp
  have HC : ∀ w2, Below W.heap.size W w2 → w2.cell? ⟨w.heap.size, 0, none⟩ = some (.int .u32 0) ∧ w2.cell? ⟨w.heap.size, 1, none⟩ = some (.int .i64 0) := fun w2 h => ⟨bcell h h0.1, bcell h h0.2⟩
  rw [hW]
  clear hW h0
  refine Og.walk_lit [[],[0],[1,0],[2,1,0],[3,2,1,0],[4,3,2,1,0],[5,3,4,2,1,0],[3,6,2,1,0,5,4],[7,3,6,2,1,0,5,4],[8,7,3,6,2,1,0,5,4],[9,8,7,3,6,2,1,0,5,4],[10,8,9,7,3,6,2,1,0,5,4],[11,8,10,9,7,3,6,2,1,0,5,4],[12,11,8,10,9,7,3,6,2,1,0,5,4],[13,12,11,8,10,9,7,3,6,2,1,0,5,4],[14,12,13,11,8,10,9,7,3,6,2,1,0,5,4],[12,15,8,11,10,9,7,3,6,2,1,0,5,4,14,13],[16,12,8,15,11,10,9,7,3,6,2,1,0,5,4,14,13],[17,16,12,8,15,11,10,9,7,3,6,2,1,0,5,4,14,13],[18,17,16,12,8,15,11,10,9,7,3,6,2,1,0,5,4,14,13],[19,17,18,16,12,8,15,11,10,9,7,3,6,2,1,0,5,4,14,13],[20,17,19,18,16,12,8,15,11,10,9,7,3,6,2,1,0,5,4,14,13],[21,20,17,19,18,16,12,8,15,11,10,9,7,3,6,2,1,0,5,4,14,13],[22,21,20,17,19,18,16,12,8,15,11,10,9,7,3,6,2,1,0,5,4,14,13],[21,20,17,19,18,16,12,8,15,11,10,9,7,3,6,2,1,0,5,4,14,13],[24,21,20,17,19,18,16,12,8,15,11,10,9,7,3,6,2,1,0,5,4,14,13],[25,21,24,20,17,19,18,16,12,8,15,11,10,9,7,3,6,2,1,0,5,4,14,13],[23,26,21,22,20,17,19,18,16,12,8,15,11,10,9,7,3,6,2,1,0,5,4,14,13,25,24],[27,21,23,26,22,20,17,19,18,16,12,8,15,11,10,9,7,3,6,2,1,0,5,4,14,13,25,24],[21,28,17,20,19,18,16,12,8,15,11,10,9,7,3,6,2,1,0,5,4,14,13,27,23,26,22,25,24],[17,29,8,16,12,15,11,10,9,7,3,6,2,1,0,5,4,14,13,21,28,20,19,18,27,23,26,22,25,24],[8,30,7,3,6,2,1,0,5,4,17,29,16,12,15,11,10,9,14,13,21,28,20,19,18,27,23,26,22,25,24],[31,26,0,1,2,3,4,5,6,7,8,9,10,11,12,13,14,15,16,17,18,19,20,21,22,23,24,25,27,28,29,30]] (fun w2 => Below W.heap.size W w2) (fun w1 w2 => Below w1.heap.size w1 w2) (by kernel_rfl) (by kernel_rfl) (bdrew) ?_
  repeat (first | (refine Og.step_pure (fun _ => Below.refl _ _) ?_; apply Exists.intro; refine And.intro ?_ ?_; focus (intro vs w2 hC hk; have hm := HC w2 hC; revert hk; simp only [Og.KS, Og.K0, Og.Is, List.getD_cons_zero, List.getD_cons_succ, List.getD_nil, List.contains_cons, List.contains_nil, Nat.reduceAdd, Nat.reduceBEq, Bool.or_false, Bool.false_or, Bool.or_true, Bool.true_or, Bool.false_eq_true, false_implies, true_implies, true_and, and_true, forall_const]; intros; go_simp; rfl)) | (refine Og.step_one ?_; apply Exists.intro; refine And.intro ?_ ?_; focus (intro vs w2 hC hk; have hm := HC w2 hC; revert hk; simp only [Og.KS, Og.K0, Og.Is, List.getD_cons_zero, List.getD_cons_succ, List.getD_nil, List.contains_cons, List.contains_nil, Nat.reduceAdd, Nat.reduceBEq, Bool.or_false, Bool.false_or, Bool.or_true, Bool.true_or, Bool.false_eq_true, false_implies, true_implies, true_and, and_true, forall_const]; intros; go_simp; with_reducible refine (mask_ok _).mono ?_; rintro e w3 ⟨rfl, hb⟩; exact Og.RetV.mk ⟨bthen hC hb, hb, rfl⟩)))
  intro vs w2 hC hk
  have hm := HC w2 hC
  simp only [Og.KS, Og.K0, Og.Is, List.getD_cons_zero, List.getD_cons_succ, List.getD_nil, List.contains_cons, List.contains_nil, Nat.reduceAdd, Nat.reduceBEq, Bool.or_false, Bool.false_or, Bool.or_true, Bool.true_or, Bool.false_eq_true, false_implies, true_implies, true_and, and_true, forall_const] at hk
  simp only [hk, Act.put, List.setIfInBounds_toArray, List.set_cons_zero, List.set_cons_succ]
  clear hk
  have B2 := Lib.hid (bthen' hB hB.size hC)
  clear hC hm HC hB
  go_wp2_with fail
  go_ret
  exact ⟨rfl, B2.out⟩

set_option maxRecDepth 100000 in
set_option maxHeartbeats 2000000 in
theorem pok_24 (a : Int) (h : (bits .andNot .u32 a 4294967040 == 0) = true) (w : World) : Calls Try.prog 39 #[.agg #[.int .u32 a, .int .i64 24]] w fun e w' => e = .returned (.bool true) ∧ Below w.heap.size w w' := by
  go_enter Try.func39, Try.ntmps39
  go_wp2_with fail
  obtain ⟨W, hW⟩ : ∃ W, w.alloc (Obj.cells #[.int .u32 a, .int .i64 24] 47) = W := ⟨_, rfl⟩
  have hB : Below w.heap.size w W := by rw [← hW]; exact (Below.refl _ _).alloc (Nat.le_refl _) _
  have h0 : W.cell? ⟨w.heap.size, 0, none⟩ = some (.int .u32 a) ∧ W.cell? ⟨w.heap.size, 1, none⟩ = some (.int .i64 24) := by rw [← hW]; simp
  have HC : ∀ w2, Below W.heap.size W w2 → w2.cell? ⟨w.heap.size, 0, none⟩ = some (.int .u32 a) ∧ w2.cell? ⟨w.heap.size, 1, none⟩ = some (.int .i64 24) := fun w2 h => ⟨bcell h h0.1, bcell h h0.2⟩
  rw [hW]
  clear hW h0
  refine Og.walk_lit [[],[0],[1,0],[2,1,0],[3,2,1,0],[4,3,2,1,0],[5,3,4,2,1,0],[3,6,2,1,0,5,4],[7,3,6,2,1,0,5,4],[8,7,3,6,2,1,0,5,4],[9,8,7,3,6,2,1,0,5,4],[10,8,9,7,3,6,2,1,0,5,4],[11,8,10,9,7,3,6,2,1,0,5,4],[12,11,8,10,9,7,3,6,2,1,0,5,4],[13,12,11,8,10,9,7,3,6,2,1,0,5,4],[14,12,13,11,8,10,9,7,3,6,2,1,0,5,4],[12,15,8,11,10,9,7,3,6,2,1,0,5,4,14,13],[16,12,8,15,11,10,9,7,3,6,2,1,0,5,4,14,13],[17,16,12,8,15,11,10,9,7,3,6,2,1,0,5,4,14,13],[18,17,16,12,8,15,11,10,9,7,3,6,2,1,0,5,4,14,13],[19,17,18,16,12,8,15,11,10,9,7,3,6,2,1,0,5,4,14,13],[20,17,19,18,16,12,8,15,11,10,9,7,3,6,2,1,0,5,4,14,13],[21,20,17,19,18,16,12,8,15,11,10,9,7,3,6,2,1,0,5,4,14,13],[22,21,20,17,19,18,16,12,8,15,11,10,9,7,3,6,2,1,0,5,4,14,13],[21,20,17,19,18,16,12,8,15,11,10,9,7,3,6,2,1,0,5,4,14,13],[24,21,20,17,19,18,16,12,8,15,11,10,9,7,3,6,2,1,0,5,4,14,13],[25,21,24,20,17,19,18,16,12,8,15,11,10,9,7,3,6,2,1,0,5,4,14,13],[23,26,21,22,20,17,19,18,16,12,8,15,11,10,9,7,3,6,2,1,0,5,4,14,13,25,24],[27,21,23,26,22,20,17,19,18,16,12,8,15,11,10,9,7,3,6,2,1,0,5,4,14,13,25,24],[21,28,17,20,19,18,16,12,8,15,11,10,9,7,3,6,2,1,0,5,4,14,13,27,23,26,22,25,24],[17,29,8,16,12,15,11,10,9,7,3,6,2,1,0,5,4,14,13,21,28,20,19,18,27,23,26,22,25,24],[8,30,7,3,6,2,1,0,5,4,17,29,16,12,15,11,10,9,14,13,21,28,20,19,18,27,23,26,22,25,24],[31,26,0,1,2,3,4,5,6,7,8,9,10,11,12,13,14,15,16,17,18,19,20,21,22,23,24,25,27,28,29,30]] (fun w2 => Below W.heap.size W w2) (fun w1 w2 => Below w1.heap.size w1 w2) (by kernel_rfl) (by kernel_rfl) (bdrew) ?_
  repeat (first | (refine Og.step_pure (fun _ => Below.refl _ _) ?_; apply Exists.intro; refine And.intro ?_ ?_; focus (intro vs w2 hC hk; have hm := HC w2 hC; revert hk; simp only [Og.KS, Og.K0, Og.Is, List.getD_cons_zero, List.getD_cons_succ, List.getD_nil, List.contains_cons, List.contains_nil, Nat.reduceAdd, Nat.reduceBEq, Bool.or_false, Bool.false_or, Bool.or_true, Bool.true_or, Bool.false_eq_true, false_implies, true_implies, true_and, and_true, forall_const]; intros; go_simp; rfl)) | (refine Og.step_one ?_; apply Exists.intro; refine And.intro ?_ ?_; focus (intro vs w2 hC hk; have hm := HC w2 hC; revert hk; simp only [Og.KS, Og.K0, Og.Is, List.getD_cons_zero, List.getD_cons_succ, List.getD_nil, List.contains_cons, List.contains_nil, Nat.reduceAdd, Nat.reduceBEq, Bool.or_false, Bool.false_or, Bool.or_true, Bool.true_or, Bool.false_eq_true, false_implies, true_implies, true_and, and_true, forall_const]; intros; go_simp; with_reducible refine (mask_ok _).mono ?_; rintro e w3 ⟨rfl, hb⟩; exact Og.RetV.mk ⟨bthen hC hb, hb, rfl⟩)))
  intro vs w2 hC hk
  have hm := HC w2 hC
  simp only [Og.KS, Og.K0, Og.Is, List.getD_cons_zero, List.getD_cons_succ, List.getD_nil, List.contains_cons, List.contains_nil, Nat.reduceAdd, Nat.reduceBEq, Bool.or_false, Bool.false_or, Bool.or_true, Bool.true_or, Bool.false_eq_true, false_implies, true_implies, true_and, and_true, forall_const] at hk
  simp only [hk, Act.put, List.setIfInBounds_toArray, List.set_cons_zero, List.set_cons_succ]
  clear hk
  have B2 := Lib.hid (bthen' hB hB.size hC)
  clear hC hm HC hB
  go_wp2_with fail
  go_ret
  exact ⟨rfl, B2.out⟩

theorem pok_ok (p : Pf) (h : pfS p) (w : World) : Calls Try.prog 39 #[.agg #[.int .u32 p.a, .int .i64 p.l]] w fun e w' => e = .returned (.bool true) ∧ Below w.heap.size w w' := by
  rcases h with rfl | ⟨h1, h2⟩
  · exact pok_z w
  · rw [h1]
    exact pok_24 p.a h2 w

end Go.Proofs.Ytpklcefiabjplaa
