/- Contracts of the small functions: limits, comparisons, places; conditions as stated. Leaves for the distances: clamp, Sum, Less, and 'is it a node's number'. Own rows of nodes, links and pins: appending, inserting, deleting one; conditions: the rows fit the memory. -/
import Derived.Test.YtjbglifmppilfaaDoorS1
import Derived.Laws.ComplexArith
import Derived.BigQuiet
namespace Go.Proofs.YtjbglifmppilfaaDoor
open Go.ChangeShapes Go.WideShapes Go.ChangeAt Go.RowKit
set_option linter.unusedVariables false
set_option linter.unusedSimpArgs false
attribute [local go_sem] Og.Opt Og.OpY

/-- lo ≤ n ≤ hi -/
def rng (lo hi n : Int) : Bool := decide (lo ≤ n) && decide (n ≤ hi)
theorem rng_of {lo hi n : Int} (h : rng lo hi n = true) : lo ≤ n ∧ n ≤ hi := by unfold rng at h; simpa using h
theorem rng_mk {lo hi n : Int} (h1 : lo ≤ n) (h2 : n ≤ hi) : rng lo hi n = true := by unfold rng; simp [h1, h2]
def sg (a b : Int) : Int := if a < b then -1 else if b < a then 1 else 0
def orz (a b : Int) : Int := if a ≠ 0 then a else b

theorem in_ok (n : Int) (w : World) : Calls Tryd.prog 57 #[.int .i64 n] w fun e w' => e = .returned (.bool (rng 0 127 n)) ∧ Below w.heap.size w w' := by
  have E := Lib.hid (show rng 0 127 n = (decide (0 ≤ n) && decide (n ≤ 127)) from rfl)
  cases h1 : decide ((0 : Int) ≤ n) with
  | true =>
    rw [h1, Bool.true_and] at E
    go_enter Tryd.func57, Tryd.ntmps57
    go_wp2_with fail
    go_ret
    exact ⟨by rw [E.out]; rfl, Below.refl _ _⟩
  | false =>
    rw [h1, Bool.false_and] at E
    go_enter Tryd.func57, Tryd.ntmps57
    go_wp2_with fail
    go_ret
    exact ⟨by rw [E.out]; rfl, Below.refl _ _⟩

theorem cost_ok (n : Int) (w : World) : Calls Tryd.prog 68 #[.int .i64 n] w fun e w' => e = .returned (.bool (rng 1 65535 n)) ∧ Below w.heap.size w w' := by
  have E := Lib.hid (show rng 1 65535 n = (decide (1 ≤ n) && decide (n ≤ 65535)) from rfl)
  cases h1 : decide ((1 : Int) ≤ n) with
  | true =>
    rw [h1, Bool.true_and] at E
    go_enter Tryd.func68, Tryd.ntmps68
    go_wp2_with fail
    go_ret
    exact ⟨by rw [E.out]; rfl, Below.refl _ _⟩
  | false =>
    rw [h1, Bool.false_and] at E
    go_enter Tryd.func68, Tryd.ntmps68
    go_wp2_with fail
    go_ret
    exact ⟨by rw [E.out]; rfl, Below.refl _ _⟩

theorem delay_ok (n : Int) (w : World) : Calls Tryd.prog 69 #[.int .i64 n] w fun e w' => e = .returned (.bool (rng 0 65535 n)) ∧ Below w.heap.size w w' := by
  have E := Lib.hid (show rng 0 65535 n = (decide (0 ≤ n) && decide (n ≤ 65535)) from rfl)
  cases h1 : decide ((0 : Int) ≤ n) with
  | true =>
    rw [h1, Bool.true_and] at E
    go_enter Tryd.func69, Tryd.ntmps69
    go_wp2_with fail
    go_ret
    exact ⟨by rw [E.out]; rfl, Below.refl _ _⟩
  | false =>
    rw [h1, Bool.false_and] at E
    go_enter Tryd.func69, Tryd.ntmps69
    go_wp2_with fail
    go_ret
    exact ⟨by rw [E.out]; rfl, Below.refl _ _⟩

theorem metric_ok (n : Int) (w : World) : Calls Tryd.prog 72 #[.int .i64 n] w fun e w' => e = .returned (.bool (rng 0 65535 n)) ∧ Below w.heap.size w w' := by
  have E := Lib.hid (show rng 0 65535 n = (decide (0 ≤ n) && decide (n ≤ 65535)) from rfl)
  cases h1 : decide ((0 : Int) ≤ n) with
  | true =>
    rw [h1, Bool.true_and] at E
    go_enter Tryd.func72, Tryd.ntmps72
    go_wp2_with fail
    go_ret
    exact ⟨by rw [E.out]; rfl, Below.refl _ _⟩
  | false =>
    rw [h1, Bool.false_and] at E
    go_enter Tryd.func72, Tryd.ntmps72
    go_wp2_with fail
    go_ret
    exact ⟨by rw [E.out]; rfl, Below.refl _ _⟩

set_option maxHeartbeats 400000 in
theorem cmpU (a b : Int) (w : World) :
    Calls Tryd.prog 89 #[.int .u32 a, .int .u32 b] w fun e w' => e = .returned (.int .i64 (sg a b)) ∧ Below w.heap.size w w' := by
  have h1 : (a != a) = false := by simp
  have h2 : (b != b) = false := by simp
  rcases Int.lt_trichotomy a b with h | h | h
  · have e : sg a b = -1 := by unfold sg; rw [if_pos h]
    have E := Lib.hid e
    clear e
    go_enter Tryd.func89, Tryd.ntmps89
    go_wp2
    go_ret
    exact ⟨by rw [E.out]; rfl, Below.refl _ _⟩
  · subst h
    have e : sg a a = 0 := by unfold sg; rw [if_neg (by omega), if_neg (by omega)]
    have E := Lib.hid e
    clear e
    go_enter Tryd.func89, Tryd.ntmps89
    go_wp2
    go_ret
    exact ⟨by rw [E.out]; rfl, Below.refl _ _⟩
  · have e : sg a b = 1 := by unfold sg; rw [if_neg (by omega), if_pos h]
    have E := Lib.hid e
    clear e
    go_enter Tryd.func89, Tryd.ntmps89
    go_wp2
    go_ret
    exact ⟨by rw [E.out]; rfl, Below.refl _ _⟩

set_option maxHeartbeats 400000 in
theorem cmpI (a b : Int) (w : World) :
    Calls Tryd.prog 74 #[.int .i64 a, .int .i64 b] w fun e w' => e = .returned (.int .i64 (sg a b)) ∧ Below w.heap.size w w' := by
  have h1 : (a != a) = false := by simp
  have h2 : (b != b) = false := by simp
  rcases Int.lt_trichotomy a b with h | h | h
  · have e : sg a b = -1 := by unfold sg; rw [if_pos h]
    have E := Lib.hid e
    clear e
    go_enter Tryd.func74, Tryd.ntmps74
    go_wp2
    go_ret
    exact ⟨by rw [E.out]; rfl, Below.refl _ _⟩
  · subst h
    have e : sg a a = 0 := by unfold sg; rw [if_neg (by omega), if_neg (by omega)]
    have E := Lib.hid e
    clear e
    go_enter Tryd.func74, Tryd.ntmps74
    go_wp2
    go_ret
    exact ⟨by rw [E.out]; rfl, Below.refl _ _⟩
  · have e : sg a b = 1 := by unfold sg; rw [if_neg (by omega), if_pos h]
    have E := Lib.hid e
    clear e
    go_enter Tryd.func74, Tryd.ntmps74
    go_wp2
    go_ret
    exact ⟨by rw [E.out]; rfl, Below.refl _ _⟩

set_option maxHeartbeats 400000 in
theorem or_ok (x y : Int) (b : Nat) (w : World) (h0 : w.cell? ⟨b, 0, none⟩ = some (.int .i64 x)) (h1 : w.cell? ⟨b, 1, none⟩ = some (.int .i64 y)) :
    Calls Tryd.prog 81 #[.slice (some ⟨b, 0, none⟩) 2 2] w fun e w' => e = .returned (.int .i64 (orz x y)) ∧ Below w.heap.size w w' := by
  have hx : x ≠ 0 → orz x y = x := fun h => by unfold orz; rw [if_pos h]
  have hy : x = 0 → orz x y = y := fun h => by unfold orz; rw [if_neg (by omega)]
  have HX := Lib.hid hx
  have HY := Lib.hid hy
  clear hx hy
  go_enter Tryd.func81, Tryd.ntmps81
  go_wp2_with fail
  go_loop [5, 8] (fun u i => (i = .int .i64 0) ∨ (i = .int .i64 1 ∧ Hid (x = 0)) ∨ (i = .int .i64 2 ∧ Hid (x = 0) ∧ Hid (y = 0))) (fun _ i => 2 - (intOf i).toNat)
  case atStart => exact .inl rfl
  case round =>
    rcases hrel with rfl | ⟨rfl, hz⟩ | ⟨rfl, hz, hz'⟩
    · by_cases hx0 : x = 0
      · have X0 := Lib.hid hx0
        have hb : (x != 0) = false := by simpa using hx0
        clear hx0
        go_wp2_with fail
        go_round
        case rel => exact .inr (.inl ⟨rfl, X0⟩)
        case measure => simp [intOf]
      · have X0 := Lib.hid hx0
        have hb : (x != 0) = true := by simpa using hx0
        clear hx0
        go_wp2_with fail
        go_ret
        exact ⟨by rw [HX.out X0.out]; rfl, Below.refl _ _⟩
    · by_cases hy0 : y = 0
      · have Y0 := Lib.hid hy0
        have hb : (y != 0) = false := by simpa using hy0
        clear hy0
        go_wp2_with fail
        go_round
        case rel => exact .inr (.inr ⟨rfl, hz, Y0⟩)
        case measure => simp [intOf]
      · have Y0 := Lib.hid hy0
        have hb : (y != 0) = true := by simpa using hy0
        clear hy0
        go_wp2_with fail
        go_ret
        exact ⟨by rw [HY.out hz.out]; rfl, Below.refl _ _⟩
    · go_wp2_with fail
      go_ret
      exact ⟨by rw [HY.out hz.out, hz'.out]; rfl, Below.refl _ _⟩
theorem or_heap (x y : Int) (b : Nat) (w : World) (h : w.heap[b]? = some (.cells #[.int .i64 x, .int .i64 y] 3 (0, 0))) :
    Calls Tryd.prog 81 #[.slice (some ⟨b, 0, none⟩) 2 2] w fun e w' => e = .returned (.int .i64 (orz x y)) ∧ Below w.heap.size w w' := or_ok x y b w (by simp [World.cell?, h]) (by simp [World.cell?, h])

def cmpP (p q : Pf) : Int := orz (sg p.a q.a) (sg p.l q.l)
def cmpL (p q : Lk) : Int := orz (sg p.f q.f) (sg p.t q.t)
def cmpN (p q : Pn) : Int := orz (cmpP p.p q.p) (sg p.n q.n)

set_option maxRecDepth 100000 in
set_option maxHeartbeats 4000000 in
theorem cmpP_ok (p q : Pf) (w : World) : Calls Tryd.prog 83 #[.agg #[.int .u32 p.a, .int .i64 p.l], .agg #[.int .u32 q.a, .int .i64 q.l]] w fun e w' => e = .returned (.int .i64 (cmpP p q)) ∧ Below w.heap.size w w' := by
  go_enter Tryd.func83, Tryd.ntmps83
  go_wp2_with fail
  obtain ⟨W, hW⟩ : ∃ W, (w.alloc (Obj.cells #[.int .u32 p.a, .int .i64 p.l] 122)).alloc (Obj.cells #[.int .u32 q.a, .int .i64 q.l] 122) = W := ⟨_, rfl⟩
  have hB : Below w.heap.size w W := by rw [← hW]; exact ((Below.refl _ _).alloc (Nat.le_refl _) _).alloc (by simp) _
  have h0 : W.cell? ⟨w.heap.size, 0, none⟩ = some (.int .u32 p.a) ∧ W.cell? ⟨w.heap.size, 1, none⟩ = some (.int .i64 p.l) ∧ W.cell? ⟨w.heap.size + 1, 0, none⟩ = some (.int .u32 q.a) ∧ W.cell? ⟨w.heap.size + 1, 1, none⟩ = some (.int .i64 q.l) := by rw [← hW]; simp
  have HC : ∀ w2, Below W.heap.size W w2 → w2.cell? ⟨w.heap.size, 0, none⟩ = some (.int .u32 p.a) ∧ w2.cell? ⟨w.heap.size, 1, none⟩ = some (.int .i64 p.l) ∧ w2.cell? ⟨w.heap.size + 1, 0, none⟩ = some (.int .u32 q.a) ∧ w2.cell? ⟨w.heap.size + 1, 1, none⟩ = some (.int .i64 q.l) := fun w2 h => by
    obtain ⟨c0, c1, c2, c3⟩ := h0
    exact ⟨bcell h c0, bcell h c1, bcell h c2, bcell h c3⟩
  rw [hW]
  clear hW h0
  refine Og.Tail.walk_lit 10 [[],[0],[],[2],[1,3,0,2],[],[5],[],[7],[6,8,4,5,7,1,3,0,2],[4,9,1,3,0,2,6,8,5,7],[10,9,4,1,3,0,2,6,8,5,7],[11,0,1,2,3,4,5,6,7,8,9,10]] (fun w2 => Below W.heap.size W w2) (fun w1 w2 => Below w1.heap.size w1 w2) (by kernel_rfl) (by kernel_rfl) (by kernel_rfl) (bdrew) ?_
  simp only [List.take_succ_cons, List.take_zero, List.drop_succ_cons, List.drop_zero]
  repeat (first | (refine Og.step_pure (fun _ => Below.refl _ _) ?_; apply Exists.intro; refine And.intro ?_ ?_; focus (intro vs w2 hC hk; have hm := HC w2 hC; revert hk; simp only [Og.KS, Og.K0, Og.Is, List.getD_cons_zero, List.getD_cons_succ, List.getD_nil, List.contains_cons, List.contains_nil, Nat.reduceAdd, Nat.reduceBEq, Bool.or_false, Bool.false_or, Bool.or_true, Bool.true_or, Bool.false_eq_true, false_implies, true_implies, true_and, and_true, forall_const]; intros; go_simp; rfl)) | (refine Og.step_one ?_; apply Exists.intro; refine And.intro ?_ ?_; focus (intro vs w2 hC hk; have hm := HC w2 hC; revert hk; simp only [Og.KS, Og.K0, Og.Is, List.getD_cons_zero, List.getD_cons_succ, List.getD_nil, List.contains_cons, List.contains_nil, Nat.reduceAdd, Nat.reduceBEq, Bool.or_false, Bool.false_or, Bool.or_true, Bool.true_or, Bool.false_eq_true, false_implies, true_implies, true_and, and_true, forall_const]; intros; go_simp; with_reducible refine (cmpU _ _ _).mono ?_; rintro e w3 ⟨rfl, hb⟩; exact Og.RetV.mk ⟨bthen hC hb, hb, rfl⟩)) | (refine Og.step_one ?_; apply Exists.intro; refine And.intro ?_ ?_; focus (intro vs w2 hC hk; have hm := HC w2 hC; revert hk; simp only [Og.KS, Og.K0, Og.Is, List.getD_cons_zero, List.getD_cons_succ, List.getD_nil, List.contains_cons, List.contains_nil, Nat.reduceAdd, Nat.reduceBEq, Bool.or_false, Bool.false_or, Bool.or_true, Bool.true_or, Bool.false_eq_true, false_implies, true_implies, true_and, and_true, forall_const]; intros; go_simp; with_reducible refine (cmpI _ _ _).mono ?_; rintro e w3 ⟨rfl, hb⟩; exact Og.RetV.mk ⟨bthen hC hb, hb, rfl⟩)))
  intro vs w2 hC hk
  have hm := HC w2 hC
  simp only [Og.KS, Og.K0, Og.Is, List.getD_cons_zero, List.getD_cons_succ, List.getD_nil, List.contains_cons, List.contains_nil, Nat.reduceAdd, Nat.reduceBEq, Bool.or_false, Bool.false_or, Bool.or_true, Bool.true_or, Bool.false_eq_true, false_implies, true_implies, true_and, and_true, forall_const] at hk
  simp only [hk, Act.put, List.setIfInBounds_toArray, List.set_cons_zero, List.set_cons_succ]
  clear hk
  have B2 := Lib.hid (bthen' hB hB.size hC)
  clear hC hm HC hB
  go_wp2_with fail
  refine (or_heap _ _ w2.heap.size _ (heap_at rfl)).mono ?_
  rintro e w3 ⟨rfl, hb⟩
  have B3 := Lib.hid (bthen' (B2.out.alloc B2.out.size _) (by have := B2.out.size; simp; omega) hb)
  clear hb
  go_wp2_with fail
  go_ret
  exact ⟨rfl, B3.out⟩

set_option maxRecDepth 100000 in
set_option maxHeartbeats 4000000 in
theorem cmpL_ok (p q : Lk) (w : World) : Calls Tryd.prog 70 #[.agg #[.int .i64 p.f, .int .i64 p.t, .int .i64 p.c, .int .i64 p.d], .agg #[.int .i64 q.f, .int .i64 q.t, .int .i64 q.c, .int .i64 q.d]] w fun e w' => e = .returned (.int .i64 (cmpL p q)) ∧ Below w.heap.size w w' := by
  go_enter Tryd.func70, Tryd.ntmps70
  go_wp2_with fail
  obtain ⟨W, hW⟩ : ∃ W, (w.alloc (Obj.cells #[.int .i64 p.f, .int .i64 p.t, .int .i64 p.c, .int .i64 p.d] 45)).alloc (Obj.cells #[.int .i64 q.f, .int .i64 q.t, .int .i64 q.c, .int .i64 q.d] 45) = W := ⟨_, rfl⟩
  have hB : Below w.heap.size w W := by rw [← hW]; exact ((Below.refl _ _).alloc (Nat.le_refl _) _).alloc (by simp) _
  have h0 : W.cell? ⟨w.heap.size, 0, none⟩ = some (.int .i64 p.f) ∧ W.cell? ⟨w.heap.size, 1, none⟩ = some (.int .i64 p.t) ∧ W.cell? ⟨w.heap.size, 2, none⟩ = some (.int .i64 p.c) ∧ W.cell? ⟨w.heap.size, 3, none⟩ = some (.int .i64 p.d) ∧ W.cell? ⟨w.heap.size + 1, 0, none⟩ = some (.int .i64 q.f) ∧ W.cell? ⟨w.heap.size + 1, 1, none⟩ = some (.int .i64 q.t) ∧ W.cell? ⟨w.heap.size + 1, 2, none⟩ = some (.int .i64 q.c) ∧ W.cell? ⟨w.heap.size + 1, 3, none⟩ = some (.int .i64 q.d) := by rw [← hW]; simp
  have HC : ∀ w2, Below W.heap.size W w2 → w2.cell? ⟨w.heap.size, 0, none⟩ = some (.int .i64 p.f) ∧ w2.cell? ⟨w.heap.size, 1, none⟩ = some (.int .i64 p.t) ∧ w2.cell? ⟨w.heap.size, 2, none⟩ = some (.int .i64 p.c) ∧ w2.cell? ⟨w.heap.size, 3, none⟩ = some (.int .i64 p.d) ∧ w2.cell? ⟨w.heap.size + 1, 0, none⟩ = some (.int .i64 q.f) ∧ w2.cell? ⟨w.heap.size + 1, 1, none⟩ = some (.int .i64 q.t) ∧ w2.cell? ⟨w.heap.size + 1, 2, none⟩ = some (.int .i64 q.c) ∧ w2.cell? ⟨w.heap.size + 1, 3, none⟩ = some (.int .i64 q.d) := fun w2 h => by
    obtain ⟨c0, c1, c2, c3, c4, c5, c6, c7⟩ := h0
    exact ⟨bcell h c0, bcell h c1, bcell h c2, bcell h c3, bcell h c4, bcell h c5, bcell h c6, bcell h c7⟩
  rw [hW]
  clear hW h0
  refine Og.Tail.walk_lit 10 [[],[0],[],[2],[1,3,0,2],[],[5],[],[7],[6,8,4,5,7,1,3,0,2],[4,9,1,3,0,2,6,8,5,7],[10,9,4,1,3,0,2,6,8,5,7],[11,0,1,2,3,4,5,6,7,8,9,10]] (fun w2 => Below W.heap.size W w2) (fun w1 w2 => Below w1.heap.size w1 w2) (by kernel_rfl) (by kernel_rfl) (by kernel_rfl) (bdrew) ?_
  simp only [List.take_succ_cons, List.take_zero, List.drop_succ_cons, List.drop_zero]
  repeat (first | (refine Og.step_pure (fun _ => Below.refl _ _) ?_; apply Exists.intro; refine And.intro ?_ ?_; focus (intro vs w2 hC hk; have hm := HC w2 hC; revert hk; simp only [Og.KS, Og.K0, Og.Is, List.getD_cons_zero, List.getD_cons_succ, List.getD_nil, List.contains_cons, List.contains_nil, Nat.reduceAdd, Nat.reduceBEq, Bool.or_false, Bool.false_or, Bool.or_true, Bool.true_or, Bool.false_eq_true, false_implies, true_implies, true_and, and_true, forall_const]; intros; go_simp; rfl)) | (refine Og.step_one ?_; apply Exists.intro; refine And.intro ?_ ?_; focus (intro vs w2 hC hk; have hm := HC w2 hC; revert hk; simp only [Og.KS, Og.K0, Og.Is, List.getD_cons_zero, List.getD_cons_succ, List.getD_nil, List.contains_cons, List.contains_nil, Nat.reduceAdd, Nat.reduceBEq, Bool.or_false, Bool.false_or, Bool.or_true, Bool.true_or, Bool.false_eq_true, false_implies, true_implies, true_and, and_true, forall_const]; intros; go_simp; with_reducible refine (cmpI _ _ _).mono ?_; rintro e w3 ⟨rfl, hb⟩; exact Og.RetV.mk ⟨bthen hC hb, hb, rfl⟩)))
  intro vs w2 hC hk
  have hm := HC w2 hC
  simp only [Og.KS, Og.K0, Og.Is, List.getD_cons_zero, List.getD_cons_succ, List.getD_nil, List.contains_cons, List.contains_nil, Nat.reduceAdd, Nat.reduceBEq, Bool.or_false, Bool.false_or, Bool.or_true, Bool.true_or, Bool.false_eq_true, false_implies, true_implies, true_and, and_true, forall_const] at hk
  simp only [hk, Act.put, List.setIfInBounds_toArray, List.set_cons_zero, List.set_cons_succ]
  clear hk
  have B2 := Lib.hid (bthen' hB hB.size hC)
  clear hC hm HC hB
  go_wp2_with fail
  refine (or_heap _ _ w2.heap.size _ (heap_at rfl)).mono ?_
  rintro e w3 ⟨rfl, hb⟩
  have B3 := Lib.hid (bthen' (B2.out.alloc B2.out.size _) (by have := B2.out.size; simp; omega) hb)
  clear hb
  go_wp2_with fail
  go_ret
  exact ⟨rfl, B3.out⟩

set_option maxRecDepth 100000 in
set_option maxHeartbeats 4000000 in
theorem cmpN_ok (p q : Pn) (w : World) : Calls Tryd.prog 73 #[.agg #[.int .u32 p.p.a, .int .i64 p.p.l, .int .i64 p.n, .int .i64 p.m], .agg #[.int .u32 q.p.a, .int .i64 q.p.l, .int .i64 q.n, .int .i64 q.m]] w fun e w' => e = .returned (.int .i64 (cmpN p q)) ∧ Below w.heap.size w w' := by
  go_enter Tryd.func73, Tryd.ntmps73
  go_wp2_with fail
  obtain ⟨W, hW⟩ : ∃ W, (w.alloc (Obj.cells #[.int .u32 p.p.a, .int .i64 p.p.l, .int .i64 p.n, .int .i64 p.m] 124)).alloc (Obj.cells #[.int .u32 q.p.a, .int .i64 q.p.l, .int .i64 q.n, .int .i64 q.m] 124) = W := ⟨_, rfl⟩
  have hB : Below w.heap.size w W := by rw [← hW]; exact ((Below.refl _ _).alloc (Nat.le_refl _) _).alloc (by simp) _
  have h0 : W.cell? ⟨w.heap.size, 0, none⟩ = some (.int .u32 p.p.a) ∧ W.cell? ⟨w.heap.size, 1, none⟩ = some (.int .i64 p.p.l) ∧ W.cell? ⟨w.heap.size, 2, none⟩ = some (.int .i64 p.n) ∧ W.cell? ⟨w.heap.size, 3, none⟩ = some (.int .i64 p.m) ∧ W.cell? ⟨w.heap.size + 1, 0, none⟩ = some (.int .u32 q.p.a) ∧ W.cell? ⟨w.heap.size + 1, 1, none⟩ = some (.int .i64 q.p.l) ∧ W.cell? ⟨w.heap.size + 1, 2, none⟩ = some (.int .i64 q.n) ∧ W.cell? ⟨w.heap.size + 1, 3, none⟩ = some (.int .i64 q.m) := by rw [← hW]; simp
  have HC : ∀ w2, Below W.heap.size W w2 → w2.cell? ⟨w.heap.size, 0, none⟩ = some (.int .u32 p.p.a) ∧ w2.cell? ⟨w.heap.size, 1, none⟩ = some (.int .i64 p.p.l) ∧ w2.cell? ⟨w.heap.size, 2, none⟩ = some (.int .i64 p.n) ∧ w2.cell? ⟨w.heap.size, 3, none⟩ = some (.int .i64 p.m) ∧ w2.cell? ⟨w.heap.size + 1, 0, none⟩ = some (.int .u32 q.p.a) ∧ w2.cell? ⟨w.heap.size + 1, 1, none⟩ = some (.int .i64 q.p.l) ∧ w2.cell? ⟨w.heap.size + 1, 2, none⟩ = some (.int .i64 q.n) ∧ w2.cell? ⟨w.heap.size + 1, 3, none⟩ = some (.int .i64 q.m) := fun w2 h => by
    obtain ⟨c0, c1, c2, c3, c4, c5, c6, c7⟩ := h0
    exact ⟨bcell h c0, bcell h c1, bcell h c2, bcell h c3, bcell h c4, bcell h c5, bcell h c6, bcell h c7⟩
  rw [hW]
  clear hW h0
  refine Og.Tail.walk_lit 10 [[],[0],[],[2],[1,3,0,2],[],[5],[],[7],[6,8,4,5,7,1,3,0,2],[4,9,1,3,0,2,6,8,5,7],[10,9,4,1,3,0,2,6,8,5,7],[11,0,1,2,3,4,5,6,7,8,9,10]] (fun w2 => Below W.heap.size W w2) (fun w1 w2 => Below w1.heap.size w1 w2) (by kernel_rfl) (by kernel_rfl) (by kernel_rfl) (bdrew) ?_
  simp only [List.take_succ_cons, List.take_zero, List.drop_succ_cons, List.drop_zero]
  repeat (first | (refine Og.step_pure (fun _ => Below.refl _ _) ?_; apply Exists.intro; refine And.intro ?_ ?_; focus (intro vs w2 hC hk; have hm := HC w2 hC; revert hk; simp only [Og.KS, Og.K0, Og.Is, List.getD_cons_zero, List.getD_cons_succ, List.getD_nil, List.contains_cons, List.contains_nil, Nat.reduceAdd, Nat.reduceBEq, Bool.or_false, Bool.false_or, Bool.or_true, Bool.true_or, Bool.false_eq_true, false_implies, true_implies, true_and, and_true, forall_const]; intros; go_simp; rfl)) | (refine Og.step_one ?_; apply Exists.intro; refine And.intro ?_ ?_; focus (intro vs w2 hC hk; have hm := HC w2 hC; revert hk; simp only [Og.KS, Og.K0, Og.Is, List.getD_cons_zero, List.getD_cons_succ, List.getD_nil, List.contains_cons, List.contains_nil, Nat.reduceAdd, Nat.reduceBEq, Bool.or_false, Bool.false_or, Bool.or_true, Bool.true_or, Bool.false_eq_true, false_implies, true_implies, true_and, and_true, forall_const]; intros; go_simp; with_reducible refine (cmpP_ok p.p q.p _).mono ?_; rintro e w3 ⟨rfl, hb⟩; exact Og.RetV.mk ⟨bthen hC hb, hb, rfl⟩)) | (refine Og.step_one ?_; apply Exists.intro; refine And.intro ?_ ?_; focus (intro vs w2 hC hk; have hm := HC w2 hC; revert hk; simp only [Og.KS, Og.K0, Og.Is, List.getD_cons_zero, List.getD_cons_succ, List.getD_nil, List.contains_cons, List.contains_nil, Nat.reduceAdd, Nat.reduceBEq, Bool.or_false, Bool.false_or, Bool.or_true, Bool.true_or, Bool.false_eq_true, false_implies, true_implies, true_and, and_true, forall_const]; intros; go_simp; with_reducible refine (cmpI _ _ _).mono ?_; rintro e w3 ⟨rfl, hb⟩; exact Og.RetV.mk ⟨bthen hC hb, hb, rfl⟩)))
  intro vs w2 hC hk
  have hm := HC w2 hC
  simp only [Og.KS, Og.K0, Og.Is, List.getD_cons_zero, List.getD_cons_succ, List.getD_nil, List.contains_cons, List.contains_nil, Nat.reduceAdd, Nat.reduceBEq, Bool.or_false, Bool.false_or, Bool.or_true, Bool.true_or, Bool.false_eq_true, false_implies, true_implies, true_and, and_true, forall_const] at hk
  simp only [hk, Act.put, List.setIfInBounds_toArray, List.set_cons_zero, List.set_cons_succ]
  clear hk
  have B2 := Lib.hid (bthen' hB hB.size hC)
  clear hC hm HC hB
  go_wp2_with fail
  refine (or_heap _ _ w2.heap.size _ (heap_at rfl)).mono ?_
  rintro e w3 ⟨rfl, hb⟩
  have B3 := Lib.hid (bthen' (B2.out.alloc B2.out.size _) (by have := B2.out.size; simp; omega) hb)
  clear hb
  go_wp2_with fail
  go_ret
  exact ⟨rfl, B3.out⟩

set_option maxHeartbeats 400000 in
theorem cmpD_ok (p : Nd) (n : Int) (w : World) : Calls Tryd.prog 59 #[.agg #[.int .i64 p.i, .bool false, .complex .f64 0 0], .int .i64 n] w fun e w' => e = .returned (.int .i64 (sg p.i n)) ∧ Below w.heap.size w w' := by
  go_enter Tryd.func59, Tryd.ntmps59
  go_wp2_with fail
  refine (cmpI _ _ _).mono ?_
  rintro e w3 ⟨rfl, hb⟩
  have B := Lib.hid (bthen' ((Below.refl w.heap.size w).alloc (Nat.le_refl _) _) (by simp) hb)
  clear hb
  go_wp2_with fail
  go_ret
  exact ⟨rfl, B.out⟩

set_option maxHeartbeats 400000 in
theorem whole_ok (w : World) : Calls Tryd.prog 80 #[.float .f64 0] w fun e w' => e = .returned (.bool true) ∧ Below w.heap.size w w' := by
  have e1 : (FloatKind.f64.format.order 0 13920626448202203136 == some .gt || FloatKind.f64.format.order 0 13920626448202203136 == some .eq) = true := by decide +kernel
  have e2 : (FloatKind.f64.format.order 0 4697254411347427328 == some .lt || FloatKind.f64.format.order 0 4697254411347427328 == some .eq) = true := by decide +kernel
  have hc : ∀ w, (convert 110 3 (.float .f64 0)).run Tryd.prog w = .ok (.int .i64 0) w := fun w => run_convert_float_int w 110 3 .f64 .i64 0 0 (by rw [Tryd.underlying110]; rfl) Tryd.underlying3 (by decide +kernel)
  have hd : ∀ w, (convert 3 110 (.int .i64 0)).run Tryd.prog w = .ok (.float .f64 (floatOfInt .f64 0)) w := fun w => run_convert_int_float w 3 110 .i64 .f64 0 (by rw [Tryd.underlying3]; rfl) Tryd.underlying110
  have e0 : floatOfInt .f64 0 = 0 := by decide +kernel
  rw [e0] at hd
  have e3 : (FloatKind.f64.format.order 0 0 == some .eq) = true := by decide +kernel
  go_enter Tryd.func80, Tryd.ntmps80
  go_wp2_with (first | simp only [hc] | simp only [hd])
  go_ret
  exact ⟨rfl, Below.refl _ _⟩
set_option maxHeartbeats 400000 in
theorem Ok_ok (w : World) : Calls Tryd.prog 67 #[.complex .f64 0 0] w fun e w' => e = .returned (.bool true) ∧ Below w.heap.size w w' := by
  go_enter Tryd.func67, Tryd.ntmps67
  go_wp2_with fail
  refine (whole_ok _).mono ?_
  rintro e w1 ⟨rfl, h1⟩
  go_wp2_with fail
  refine (whole_ok _).mono ?_
  rintro e w2 ⟨rfl, h2⟩
  have B := Lib.hid (bthen h1 h2)
  clear h1 h2
  go_wp2_with fail
  go_ret
  exact ⟨rfl, B.out⟩
set_option maxHeartbeats 400000 in
theorem plain_ok (w : World) : Calls Tryd.prog 46 #[.complex .f64 0 0] w fun e w' => e = .returned (.complex .f64 0 0) ∧ Below w.heap.size w w' := by
  have hadd : ∀ w, (binOp .add 110 (.float .f64 0) (.float .f64 0)).run Tryd.prog w = .ok (.float .f64 0) w := fun w => by kernel_rfl
  go_enter Tryd.func46, Tryd.ntmps46
  go_wp2_with (simp only [hadd])
  go_ret
  exact ⟨rfl, Below.refl _ _⟩
/-- a prefix of 24 bits, or of none -/
def pfS (p : Pf) : Prop := p = ⟨0, 0⟩ ∨ (p.l = 24 ∧ (bits .andNot .u32 p.a 4294967040 == 0) = true)
set_option maxHeartbeats 400000 in
theorem mask_ok (w : World) : Calls Tryd.prog 82 #[.int .i64 24] w fun e w' => e = .returned (.int .u32 4294967040) ∧ Below w.heap.size w w' := by
  go_enter Tryd.func82, Tryd.ntmps82
  go_wp2_with fail
  go_ret
  exact ⟨rfl, Below.refl _ _⟩

set_option maxRecDepth 100000 in
set_option maxHeartbeats 2000000 in
theorem pok_z (w : World) : Calls Tryd.prog 71 #[.agg #[.int .u32 0, .int .i64 0]] w fun e w' => e = .returned (.bool true) ∧ Below w.heap.size w w' := by
  go_enter Tryd.func71, Tryd.ntmps71
  go_wp2_with fail
  obtain ⟨W, hW⟩ : ∃ W, w.alloc (Obj.cells #[.int .u32 0, .int .i64 0] 122) = W := ⟨_, rfl⟩
  have hB : Below w.heap.size w W := by rw [← hW]; exact (Below.refl _ _).alloc (Nat.le_refl _) _
  have h0 : W.cell? ⟨w.heap.size, 0, none⟩ = some (.int .u32 0) ∧ W.cell? ⟨w.heap.size, 1, none⟩ = some (.int .i64 0) := by rw [← hW]; simp
  have HC : ∀ w2, Below W.heap.size W w2 → w2.cell? ⟨w.heap.size, 0, none⟩ = some (.int .u32 0) ∧ w2.cell? ⟨w.heap.size, 1, none⟩ = some (.int .i64 0) := fun w2 h => ⟨bcell h h0.1, bcell h h0.2⟩
  rw [hW]
  clear hW h0
  refine Og.walk_lit [[],[0],[1,0],[2,1,0],[3,2,1,0],[4,3,2,1,0],[5,3,4,2,1,0],[3,6,2,1,0,5,4],[7,3,6,2,1,0,5,4],[8,7,3,6,2,1,0,5,4],[9,8,7,3,6,2,1,0,5,4],[10,8,9,7,3,6,2,1,0,5,4],[11,8,10,9,7,3,6,2,1,0,5,4],[12,11,8,10,9,7,3,6,2,1,0,5,4],[13,12,11,8,10,9,7,3,6,2,1,0,5,4],[14,12,13,11,8,10,9,7,3,6,2,1,0,5,4],[12,15,8,11,10,9,7,3,6,2,1,0,5,4,14,13],[16,12,8,15,11,10,9,7,3,6,2,1,0,5,4,14,13],[17,16,12,8,15,11,10,9,7,3,6,2,1,0,5,4,14,13],[18,17,16,12,8,15,11,10,9,7,3,6,2,1,0,5,4,14,13],[19,17,18,16,12,8,15,11,10,9,7,3,6,2,1,0,5,4,14,13],[20,17,19,18,16,12,8,15,11,10,9,7,3,6,2,1,0,5,4,14,13],[21,20,17,19,18,16,12,8,15,11,10,9,7,3,6,2,1,0,5,4,14,13],[22,21,20,17,19,18,16,12,8,15,11,10,9,7,3,6,2,1,0,5,4,14,13],[21,20,17,19,18,16,12,8,15,11,10,9,7,3,6,2,1,0,5,4,14,13],[24,21,20,17,19,18,16,12,8,15,11,10,9,7,3,6,2,1,0,5,4,14,13],[25,21,24,20,17,19,18,16,12,8,15,11,10,9,7,3,6,2,1,0,5,4,14,13],[23,26,21,22,20,17,19,18,16,12,8,15,11,10,9,7,3,6,2,1,0,5,4,14,13,25,24],[27,21,23,26,22,20,17,19,18,16,12,8,15,11,10,9,7,3,6,2,1,0,5,4,14,13,25,24],[21,28,17,20,19,18,16,12,8,15,11,10,9,7,3,6,2,1,0,5,4,14,13,27,23,26,22,25,24],[17,29,8,16,12,15,11,10,9,7,3,6,2,1,0,5,4,14,13,21,28,20,19,18,27,23,26,22,25,24],[8,30,7,3,6,2,1,0,5,4,17,29,16,12,15,11,10,9,14,13,21,28,20,19,18,27,23,26,22,25,24],[31,26,0,1,2,3,4,5,6,7,8,9,10,11,12,13,14,15,16,17,18,19,20,21,22,23,24,25,27,28,29,30]] (fun w2 => Below W.heap.size W w2) (fun w1 w2 => Below w1.heap.size w1 w2) (by kernel_rfl) (by kernel_rfl) (bdrew) ?_
  repeat (first | (refine Og.step_pure (fun _ => Below.refl _ _) ?_; apply Exists.intro; refine And.intro ?_ ?_; focus (intro vs w2 hC hk; have hm := HC w2 hC; revert hk; simp only [Og.KS, Og.K0, Og.Is, List.getD_cons_zero, List.getD_cons_succ, List.getD_nil, List.contains_cons, List.contains_nil, Nat.reduceAdd, Nat.reduceBEq, Bool.or_false, Bool.false_or, Bool.or_true, Bool.true_or, Bool.false_eq_true, false_implies, true_implies, true_and, and_true, forall_const]; intros; go_simp; rfl)) | (refine Og.step_one ?_; apply Exists.intro; refine And.intro ?_ ?_; focus (intro vs w2 hC hk; have hm := HC w2 hC; revert hk; simp only [Og.KS, Og.K0, Og.Is, List.getD_cons_zero, List.getD_cons_succ, List.getD_nil, List.contains_cons, List.contains_nil, Nat.reduceAdd, Nat.reduceBEq, Bool.or_false, Bool.false_or, Bool.or_true, Bool.true_or, Bool.false_eq_true, false_implies, true_implies, true_and, and_true, forall_const]; intros; go_simp; with_reducible refine (mask_ok _).mono ?_; rintro e w3 ⟨rfl, hb⟩; exact Og.RetV.mk ⟨bthen hC hb, hb, rfl⟩)))
  intro vs w2 hC hk
  have hm := HC w2 hC
  simp only [Og.KS, Og.K0, Og.Is, List.getD_cons_zero, List.getD_cons_succ, List.getD_nil, List.contains_cons, List.contains_nil, Nat.reduceAdd, Nat.reduceBEq, Bool.or_false, Bool.false_or, Bool.or_true, Bool.true_or, Bool.false_eq_true, false_implies, true_implies, true_and, and_true, forall_const] at hk
  simp only [hk, Act.put, List.setIfInBounds_toArray, List.set_cons_zero, List.set_cons_succ]
  clear hk
  have B2 := Lib.hid (bthen' hB hB.size hC)
  clear hC hm HC hB
  go_wp2_with fail
  go_ret
  exact ⟨rfl, B2.out⟩

set_option maxRecDepth 100000 in
set_option maxHeartbeats 2000000 in
theorem pok_24 (a : Int) (h : (bits .andNot .u32 a 4294967040 == 0) = true) (w : World) : Calls Tryd.prog 71 #[.agg #[.int .u32 a, .int .i64 24]] w fun e w' => e = .returned (.bool true) ∧ Below w.heap.size w w' := by
  go_enter Tryd.func71, Tryd.ntmps71
  go_wp2_with fail
  obtain ⟨W, hW⟩ : ∃ W, w.alloc (Obj.cells #[.int .u32 a, .int .i64 24] 122) = W := ⟨_, rfl⟩
  have hB : Below w.heap.size w W := by rw [← hW]; exact (Below.refl _ _).alloc (Nat.le_refl _) _
  have h0 : W.cell? ⟨w.heap.size, 0, none⟩ = some (.int .u32 a) ∧ W.cell? ⟨w.heap.size, 1, none⟩ = some (.int .i64 24) := by rw [← hW]; simp
  have HC : ∀ w2, Below W.heap.size W w2 → w2.cell? ⟨w.heap.size, 0, none⟩ = some (.int .u32 a) ∧ w2.cell? ⟨w.heap.size, 1, none⟩ = some (.int .i64 24) := fun w2 h => ⟨bcell h h0.1, bcell h h0.2⟩
  rw [hW]
  clear hW h0
  refine Og.walk_lit [[],[0],[1,0],[2,1,0],[3,2,1,0],[4,3,2,1,0],[5,3,4,2,1,0],[3,6,2,1,0,5,4],[7,3,6,2,1,0,5,4],[8,7,3,6,2,1,0,5,4],[9,8,7,3,6,2,1,0,5,4],[10,8,9,7,3,6,2,1,0,5,4],[11,8,10,9,7,3,6,2,1,0,5,4],[12,11,8,10,9,7,3,6,2,1,0,5,4],[13,12,11,8,10,9,7,3,6,2,1,0,5,4],[14,12,13,11,8,10,9,7,3,6,2,1,0,5,4],[12,15,8,11,10,9,7,3,6,2,1,0,5,4,14,13],[16,12,8,15,11,10,9,7,3,6,2,1,0,5,4,14,13],[17,16,12,8,15,11,10,9,7,3,6,2,1,0,5,4,14,13],[18,17,16,12,8,15,11,10,9,7,3,6,2,1,0,5,4,14,13],[19,17,18,16,12,8,15,11,10,9,7,3,6,2,1,0,5,4,14,13],[20,17,19,18,16,12,8,15,11,10,9,7,3,6,2,1,0,5,4,14,13],[21,20,17,19,18,16,12,8,15,11,10,9,7,3,6,2,1,0,5,4,14,13],[22,21,20,17,19,18,16,12,8,15,11,10,9,7,3,6,2,1,0,5,4,14,13],[21,20,17,19,18,16,12,8,15,11,10,9,7,3,6,2,1,0,5,4,14,13],[24,21,20,17,19,18,16,12,8,15,11,10,9,7,3,6,2,1,0,5,4,14,13],[25,21,24,20,17,19,18,16,12,8,15,11,10,9,7,3,6,2,1,0,5,4,14,13],[23,26,21,22,20,17,19,18,16,12,8,15,11,10,9,7,3,6,2,1,0,5,4,14,13,25,24],[27,21,23,26,22,20,17,19,18,16,12,8,15,11,10,9,7,3,6,2,1,0,5,4,14,13,25,24],[21,28,17,20,19,18,16,12,8,15,11,10,9,7,3,6,2,1,0,5,4,14,13,27,23,26,22,25,24],[17,29,8,16,12,15,11,10,9,7,3,6,2,1,0,5,4,14,13,21,28,20,19,18,27,23,26,22,25,24],[8,30,7,3,6,2,1,0,5,4,17,29,16,12,15,11,10,9,14,13,21,28,20,19,18,27,23,26,22,25,24],[31,26,0,1,2,3,4,5,6,7,8,9,10,11,12,13,14,15,16,17,18,19,20,21,22,23,24,25,27,28,29,30]] (fun w2 => Below W.heap.size W w2) (fun w1 w2 => Below w1.heap.size w1 w2) (by kernel_rfl) (by kernel_rfl) (bdrew) ?_
  repeat (first | (refine Og.step_pure (fun _ => Below.refl _ _) ?_; apply Exists.intro; refine And.intro ?_ ?_; focus (intro vs w2 hC hk; have hm := HC w2 hC; revert hk; simp only [Og.KS, Og.K0, Og.Is, List.getD_cons_zero, List.getD_cons_succ, List.getD_nil, List.contains_cons, List.contains_nil, Nat.reduceAdd, Nat.reduceBEq, Bool.or_false, Bool.false_or, Bool.or_true, Bool.true_or, Bool.false_eq_true, false_implies, true_implies, true_and, and_true, forall_const]; intros; go_simp; rfl)) | (refine Og.step_one ?_; apply Exists.intro; refine And.intro ?_ ?_; focus (intro vs w2 hC hk; have hm := HC w2 hC; revert hk; simp only [Og.KS, Og.K0, Og.Is, List.getD_cons_zero, List.getD_cons_succ, List.getD_nil, List.contains_cons, List.contains_nil, Nat.reduceAdd, Nat.reduceBEq, Bool.or_false, Bool.false_or, Bool.or_true, Bool.true_or, Bool.false_eq_true, false_implies, true_implies, true_and, and_true, forall_const]; intros; go_simp; with_reducible refine (mask_ok _).mono ?_; rintro e w3 ⟨rfl, hb⟩; exact Og.RetV.mk ⟨bthen hC hb, hb, rfl⟩)))
  intro vs w2 hC hk
  have hm := HC w2 hC
  simp only [Og.KS, Og.K0, Og.Is, List.getD_cons_zero, List.getD_cons_succ, List.getD_nil, List.contains_cons, List.contains_nil, Nat.reduceAdd, Nat.reduceBEq, Bool.or_false, Bool.false_or, Bool.or_true, Bool.true_or, Bool.false_eq_true, false_implies, true_implies, true_and, and_true, forall_const] at hk
  simp only [hk, Act.put, List.setIfInBounds_toArray, List.set_cons_zero, List.set_cons_succ]
  clear hk
  have B2 := Lib.hid (bthen' hB hB.size hC)
  clear hC hm HC hB
  go_wp2_with fail
  go_ret
  exact ⟨rfl, B2.out⟩

theorem pok_ok (p : Pf) (h : pfS p) (w : World) : Calls Tryd.prog 71 #[.agg #[.int .u32 p.a, .int .i64 p.l]] w fun e w' => e = .returned (.bool true) ∧ Below w.heap.size w w' := by
  rcases h with rfl | ⟨h1, h2⟩
  · exact pok_z w
  · rw [h1]
    exact pok_24 p.a h2 w

end Go.Proofs.YtjbglifmppilfaaDoor
namespace Go.Proofs.YtjbglifmppilfaaDoor
open Go.ChangeShapes Go.WideShapes Go.ChangeAt Go.RowKit
set_option linter.unusedVariables false
/-- a distance kept in its bounds -/
def clp (n : Int) : Int := min (max n 0) 1073741824
def dsum (a b : Int) : Int := min (clp a + clp b) 1073741824
theorem clp_ge (n : Int) : 0 ≤ clp n := by unfold clp; omega
theorem clp_le (n : Int) : clp n ≤ 1073741824 := by unfold clp; omega
theorem clp_id {n : Int} (h0 : 0 ≤ n) (h1 : n ≤ 1073741824) : clp n = n := by unfold clp; omega
set_option maxRecDepth 100000 in
theorem clamp_ok (n : Int) (w : World) : Calls Tryd.prog 60 #[.int .i64 n] w fun e w' => e = .returned (.int .i64 (clp n)) ∧ Below w.heap.size w w' := by
  go_enter Tryd.func60, Tryd.ntmps60
  go_wp2_with fail
  go_ret
  exact ⟨by first | rfl | (unfold clp; congr 2; simp only [Int.max_def, Int.min_def]; repeat' split <;> omega), Below.refl _ _⟩
set_option maxRecDepth 100000 in
theorem Sum_ok (a b : Int) (w : World) : Calls Tryd.prog 50 #[.int .i64 a, .int .i64 b] w fun e w' => e = .returned (.int .i64 (dsum a b)) ∧ Below w.heap.size w w' := by
  have ha := clp_ge a
  have ha2 := clp_le a
  have hb := clp_ge b
  have hb2 := clp_le b
  have hw : IntKind.i64.wrap (clp a + clp b) = clp a + clp b := by rw [IntKind.wrap_i64]; omega
  clear ha ha2 hb hb2
  go_enter Tryd.func50, Tryd.ntmps50
  go_wp2_with fail
  refine (clamp_ok a _).mono ?_
  rintro e w1 ⟨rfl, hb1⟩
  go_wp2_with fail
  refine (clamp_ok b _).mono ?_
  rintro e w2 ⟨rfl, hb2⟩
  have B := Lib.hid (bthen hb1 hb2)
  clear hb1 hb2
  go_wp2_with fail
  go_ret
  exact ⟨by first | rfl | (unfold dsum; congr 2; simp only [Int.min_def]; repeat' split <;> omega), B.out⟩
set_option maxRecDepth 100000 in
theorem Less_ok (a b : Int) (w : World) : Calls Tryd.prog 48 #[.int .i64 a, .int .i64 b] w fun e w' => e = .returned (.bool (decide (clp a < clp b))) ∧ Below w.heap.size w w' := by
  go_enter Tryd.func48, Tryd.ntmps48
  go_wp2_with fail
  refine (clamp_ok a _).mono ?_
  rintro e w1 ⟨rfl, hb1⟩
  go_wp2_with fail
  refine (clamp_ok b _).mono ?_
  rintro e w2 ⟨rfl, hb2⟩
  have B := Lib.hid (bthen hb1 hb2)
  clear hb1 hb2
  go_wp2_with fail
  go_ret
  exact ⟨rfl, B.out⟩
set_option maxRecDepth 100000 in
theorem hin_ok (n : Int) (w : World) : Calls Tryd.prog 75 #[.int .i64 n] w fun e w' => e = .returned (.bool (rng 0 127 n)) ∧ Below w.heap.size w w' := by
  cases t0 : decide (0 ≤ n) <;> cases t1 : decide (n ≤ 127) <;>
  · go_enter Tryd.func75, Tryd.ntmps75
    go_wp2_with fail
    go_ret
    exact ⟨by simp [rng, t0, t1], Below.refl _ _⟩
set_option maxRecDepth 100000 in
theorem bin_ok (n : Int) (w : World) : Calls Tryd.prog 55 #[.int .i64 n] w fun e w' => e = .returned (.bool (rng 0 127 n)) ∧ Below w.heap.size w w' := by
  cases t0 : decide (0 ≤ n) <;> cases t1 : decide (n ≤ 127) <;>
  · go_enter Tryd.func55, Tryd.ntmps55
    go_wp2_with fail
    go_ret
    exact ⟨by simp [rng, t0, t1], Below.refl _ _⟩
theorem dsum_eq (a b : Int) : clp (clp a + clp b) = dsum a b := by
  have := clp_ge a
  have := clp_ge b
  unfold dsum
  generalize clp a = x at *
  generalize clp b = y at *
  unfold clp
  omega
end Go.Proofs.YtjbglifmppilfaaDoor
namespace Go.Proofs.YtjbglifmppilfaaDoor
open Go.ChangeShapes Go.WideShapes Go.ChangeAt Go.RowKit
set_option linter.unusedVariables false
set_option linter.unusedSimpArgs false
attribute [local go_sem] Og.Opt Og.OpY
theorem step_append_runI {P : Program} {ops : Array Oper} {o : Oper} {a : Act} {w : World} {K : Act → World → Prop} {Q : Exit → Act → World → Prop} {E : Prop}
    (hg : o.guard = none) (d x : Operand) (dT sT : TypeId) (hop : o.op = Op.call { callee := Callee.builtin Builtin.append, args := #[d, x], argTypes := #[dT, sT] })
    (v u : Value) (hd : a.eval d = v) (hx : a.eval x = u) {v' : Value} {w' : World} (hr : (Builtin.append_ #[dT, sT] o.type #[v, u]).run P w = .ok v' w') (hK : K (a.put o.dst v') w') :
    if Region.wanted o (yielded ops a.tmps) = true then Oper.wp P o a w K Q else E := by
  have hw : Region.wanted o (yielded ops a.tmps) = true := by simp [Region.wanted, hg]
  rw [if_pos hw]
  unfold Oper.wp
  simp [execOp, hop, resolve, invoke, builtin, hd, hx, hr, Result.andThen]
  exact hK
def zNd : Nd := ⟨0⟩
/-- what an insertion in place leaves -/
theorem ins_getNd {cur : List Value} {xs : List Nd} {n k : Nat} {r : Nd} (h : cur.take (n * 3) = xs.flatMap cNd) (hn : xs.length = n) (hk : k ≤ n) (hc : (n + 1) * 3 ≤ cur.length) (cur1 cur2 : List Value)
    (h1 : cur1 = cur.take ((k + 1) * 3) ++ (xs.drop k).flatMap cNd ++ cur.drop ((k + 1) * 3 + ((xs.drop k).flatMap cNd).length)) (h2 : cur2 = cur1.take (k * 3) ++ cNd r ++ cur1.drop (k * 3 + (cNd r).length)) :
    cur1.length = cur.length ∧ cur2.length = cur.length ∧ cur2.take ((n + 1) * 3) = (xs.take k ++ r :: xs.drop k).flatMap cNd := by
  have hd : ((xs.drop k).flatMap cNd).length = (n - k) * 3 := by rw [flat_len cNd 3 cNd_len, List.length_drop, hn]
  have ht : ((xs.take k).flatMap cNd).length = k * 3 := by rw [flat_len cNd 3 cNd_len, List.length_take, hn, Nat.min_eq_left hk]
  have l1 : cur1.length = cur.length := by
    rw [h1, List.length_append, List.length_append, List.length_take, List.length_drop, hd]
    omega
  have e1 : cur1.take (k * 3) = (xs.take k).flatMap cNd := by
    rw [← flat_take cNd 3 cNd_len xs k, ← h, List.take_take, Nat.min_eq_left (by omega), h1, List.append_assoc, List.take_append_of_le_length (by rw [List.length_take]; omega), List.take_take, Nat.min_eq_left (by omega)]
  have e2 : ∃ R, cur1.drop (k * 3 + (cNd r).length) = (xs.drop k).flatMap cNd ++ R := by
    refine ⟨cur.drop ((k + 1) * 3 + ((xs.drop k).flatMap cNd).length), ?_⟩
    rw [h1, List.append_assoc, cNd_len, show k * 3 + 3 = (k + 1) * 3 by omega, List.drop_append_of_le_length (by rw [List.length_take]; omega), List.drop_of_length_le (by rw [List.length_take]; omega), List.nil_append]
  obtain ⟨R, e2⟩ := e2
  refine ⟨l1, ?_, ?_⟩
  · rw [h2, List.length_append, List.length_append, List.length_take, List.length_drop, cNd_len, l1]
    omega
  · have e3 : cur2 = ((xs.take k).flatMap cNd ++ cNd r ++ (xs.drop k).flatMap cNd) ++ R := by rw [h2, e1, e2]; simp only [List.append_assoc]
    rw [e3, List.take_left' (by simp only [List.length_append, ht, hd, cNd_len]; omega), List.flatMap_append, List.flatMap_cons, List.append_assoc]
/-- what an insertion into a new row leaves -/
theorem ins_newNd {row : List Value} {xs : List Nd} {n k : Nat} {r : Nd} (h : row.take (k * 3) = (xs.take k).flatMap cNd) (hn : xs.length = n) (hk : k ≤ n) (hc : (n + 1) * 3 ≤ row.length) (c1 c2 : List Value)
    (h1 : c1 = row.take (k * 3) ++ cNd r ++ row.drop (k * 3 + (cNd r).length)) (h2 : c2 = c1.take ((k + 1) * 3) ++ (xs.drop k).flatMap cNd ++ c1.drop ((k + 1) * 3 + ((xs.drop k).flatMap cNd).length)) :
    c1.length = row.length ∧ c2.length = row.length ∧ c2.take ((n + 1) * 3) = (xs.take k ++ r :: xs.drop k).flatMap cNd := by
  have hd : ((xs.drop k).flatMap cNd).length = (n - k) * 3 := by rw [flat_len cNd 3 cNd_len, List.length_drop, hn]
  have ht : ((xs.take k).flatMap cNd).length = k * 3 := by rw [flat_len cNd 3 cNd_len, List.length_take, hn, Nat.min_eq_left hk]
  have l1 : c1.length = row.length := by
    rw [h1, List.length_append, List.length_append, List.length_take, List.length_drop, cNd_len]
    omega
  have e1 : c1.take ((k + 1) * 3) = (xs.take k).flatMap cNd ++ cNd r := by
    rw [h1, h, List.take_left' (by rw [List.length_append, ht, cNd_len]; omega)]
  refine ⟨l1, ?_, ?_⟩
  · rw [h2, List.length_append, List.length_append, List.length_take, List.length_drop, hd, l1]
    omega
  · rw [h2, e1, List.take_left' (by simp only [List.length_append, ht, hd, cNd_len]; omega), List.flatMap_append, List.flatMap_cons, List.append_assoc]

/-- what a deletion leaves -/
theorem del_getNd {cur : List Value} {xs : List Nd} {n k : Nat} (h : cur.take ((n + 1) * 3) = xs.flatMap cNd) (hn : xs.length = n + 1) (hk : k ≤ n) (hc : (n + 1) * 3 ≤ cur.length) (c1 c2 : List Value)
    (h1 : c1 = cur.take (k * 3) ++ (xs.drop (k + 1)).flatMap cNd ++ cur.drop (k * 3 + ((xs.drop (k + 1)).flatMap cNd).length)) (h2 : c2 = c1.take (n * 3) ++ cNd zNd ++ c1.drop (n * 3 + (cNd zNd).length)) :
    c1.length = cur.length ∧ c2.length = cur.length ∧ c2.take (n * 3) = (xs.eraseIdx k).flatMap cNd := by
  have hd : ((xs.drop (k + 1)).flatMap cNd).length = (n - k) * 3 := by rw [flat_len cNd 3 cNd_len, List.length_drop, hn]; congr 1; omega
  have ht : ((xs.take k).flatMap cNd).length = k * 3 := by rw [flat_len cNd 3 cNd_len, List.length_take, hn, Nat.min_eq_left (by omega)]
  have l1 : c1.length = cur.length := by
    rw [h1, List.length_append, List.length_append, List.length_take, List.length_drop, hd]
    omega
  have e0 : cur.take (k * 3) = (xs.take k).flatMap cNd := by rw [← flat_take cNd 3 cNd_len xs k, ← h, List.take_take, Nat.min_eq_left (by omega)]
  have e1 : c1.take (n * 3) = (xs.eraseIdx k).flatMap cNd := by
    rw [h1, e0, List.take_left' (by rw [List.length_append, ht, hd]; omega), List.eraseIdx_eq_take_drop_succ, List.flatMap_append]
  refine ⟨l1, ?_, ?_⟩
  · rw [h2, List.length_append, List.length_append, List.length_take, List.length_drop, cNd_len, l1]
    omega
  · rw [h2, ← e1, List.append_assoc, List.take_left' (by rw [List.length_take]; omega)]

/-- one more -/
theorem snocNd {w : World} {B : Nat} {v : Value} {pre : List Nd} {x : Nd} (h : w.ownsRow B 53 3 v (pre.length + 1) (pre.flatMap cNd ++ cNd x)) : w.ownsRow B 53 3 v (pre ++ [x]).length ((pre ++ [x]).flatMap cNd) := by
  rw [List.length_append, List.flatMap_append, List.flatMap_cons, List.flatMap_nil, List.append_nil]
  exact h
theorem wpList_appNd {ops : Array Oper} {rest : List Oper} {o : Oper} {a : Act} {w : World} {Q : Exit → Act → World → Prop} (hgd : o.guard = none) (s x : Operand) (ho : o.op = .call { callee := .builtin .append, args := #[s, x], argTypes := #[38, 38] })
    (base g : Nat) (v : Value) (pre : List Nd) (r : Nd) (hs : a.eval s = v) (hx : a.eval x = .slice (some ⟨g, 0, none⟩) 1 1) (hown : w.ownsRow base 53 3 v pre.length (pre.flatMap cNd)) (hg : w.heap[g]? = some (.cells (cNd r).toArray 53 (0, 0))) (hl : pre.length ≤ 1172812402926) (hbase : base ≤ w.heap.size)
    (h : ∀ v' w', w'.ownsRow base 53 3 v' (pre ++ [r]).length ((pre ++ [r]).flatMap cNd) → w.grownBy w' v.ownBlock → wpList Tryd.prog ops Q rest (a.put o.dst v') w') : wpList Tryd.prog ops Q (o :: rest) a w := by
  obtain ⟨i, hi, hz, hsz, hby⟩ := info_parts info41
  exact wpList_append_own w hgd s x 38 ho base 53 i _ 3 32 Tryd.underlying38 hi hz hsz hby rfl (by omega) v pre.length (pre.flatMap cNd) hs hown ⟨g, 0, none⟩ 1 1 (cNd r) hx (by rw [cNd_len]) (news_heap hg) (cNd_one r) (by have := maxLen_ge; omega) (by omega) hbase (fun v' w' h1 h2 _ => h v' w' (snocNd h1) h2)
/-- append([]T(nil), xs...) -/
theorem run_spreadNd {w : World} (ty : TypeId) (xs : List Nd) (v : Value) (hs : Sl cNd 3 0 w v xs) (hl : xs.length ≤ 1172812402926) :
    ∃ v' w', (Builtin.append_ #[38, 38] ty #[.slice none 0 0, v]).run Tryd.prog w = .ok v' w' ∧ w'.ownsRow w.heap.size 53 3 v' xs.length (xs.flatMap cNd) ∧ w.grownBy w' none := by
  obtain ⟨i, hi, hz, hsz, hby⟩ := info_parts info41
  obtain ⟨A, c, rfl, hr, hA0, _⟩ := hs
  cases A with
  | some ad =>
    obtain ⟨v', w', h1, h2, h3, h4⟩ := run_append_own (P := Tryd.prog) w w.heap.size 38 ty 53 i _ 3 32 Tryd.underlying38 hi hz hsz hby rfl (by omega) (.slice none 0 0) 0 [] (World.ownsRow_nil _ _ _ _) ad xs.length c (xs.flatMap cNd) (flat_len _ 3 cNd_len xs) (news_rd cNd_len (by omega) hr) (flat_one cNd_one xs) (by have := maxLen_ge; omega) (by omega) (Nat.le_refl _)
    exact ⟨v', w', h1, by simpa using h2, h3⟩
  | none =>
    obtain rfl := hr.none
    obtain rfl := hA0 rfl
    exact ⟨.slice none 0 0, w, run_append_owned_none (P := Tryd.prog) w w.heap.size 38 ty 53 i 3 Tryd.underlying38 hi _ 0 [] (World.ownsRow_nil _ _ _ _), World.ownsRow_nil _ _ _ _, World.grownBy.refl _ _⟩
def zLk : Lk := ⟨0, 0, 0, 0⟩
/-- what an insertion in place leaves -/
theorem ins_getLk {cur : List Value} {xs : List Lk} {n k : Nat} {r : Lk} (h : cur.take (n * 4) = xs.flatMap cLk) (hn : xs.length = n) (hk : k ≤ n) (hc : (n + 1) * 4 ≤ cur.length) (cur1 cur2 : List Value)
    (h1 : cur1 = cur.take ((k + 1) * 4) ++ (xs.drop k).flatMap cLk ++ cur.drop ((k + 1) * 4 + ((xs.drop k).flatMap cLk).length)) (h2 : cur2 = cur1.take (k * 4) ++ cLk r ++ cur1.drop (k * 4 + (cLk r).length)) :
    cur1.length = cur.length ∧ cur2.length = cur.length ∧ cur2.take ((n + 1) * 4) = (xs.take k ++ r :: xs.drop k).flatMap cLk := by
  have hd : ((xs.drop k).flatMap cLk).length = (n - k) * 4 := by rw [flat_len cLk 4 cLk_len, List.length_drop, hn]
  have ht : ((xs.take k).flatMap cLk).length = k * 4 := by rw [flat_len cLk 4 cLk_len, List.length_take, hn, Nat.min_eq_left hk]
  have l1 : cur1.length = cur.length := by
    rw [h1, List.length_append, List.length_append, List.length_take, List.length_drop, hd]
    omega
  have e1 : cur1.take (k * 4) = (xs.take k).flatMap cLk := by
    rw [← flat_take cLk 4 cLk_len xs k, ← h, List.take_take, Nat.min_eq_left (by omega), h1, List.append_assoc, List.take_append_of_le_length (by rw [List.length_take]; omega), List.take_take, Nat.min_eq_left (by omega)]
  have e2 : ∃ R, cur1.drop (k * 4 + (cLk r).length) = (xs.drop k).flatMap cLk ++ R := by
    refine ⟨cur.drop ((k + 1) * 4 + ((xs.drop k).flatMap cLk).length), ?_⟩
    rw [h1, List.append_assoc, cLk_len, show k * 4 + 4 = (k + 1) * 4 by omega, List.drop_append_of_le_length (by rw [List.length_take]; omega), List.drop_of_length_le (by rw [List.length_take]; omega), List.nil_append]
  obtain ⟨R, e2⟩ := e2
  refine ⟨l1, ?_, ?_⟩
  · rw [h2, List.length_append, List.length_append, List.length_take, List.length_drop, cLk_len, l1]
    omega
  · have e3 : cur2 = ((xs.take k).flatMap cLk ++ cLk r ++ (xs.drop k).flatMap cLk) ++ R := by rw [h2, e1, e2]; simp only [List.append_assoc]
    rw [e3, List.take_left' (by simp only [List.length_append, ht, hd, cLk_len]; omega), List.flatMap_append, List.flatMap_cons, List.append_assoc]
/-- what an insertion into a new row leaves -/
theorem ins_newLk {row : List Value} {xs : List Lk} {n k : Nat} {r : Lk} (h : row.take (k * 4) = (xs.take k).flatMap cLk) (hn : xs.length = n) (hk : k ≤ n) (hc : (n + 1) * 4 ≤ row.length) (c1 c2 : List Value)
    (h1 : c1 = row.take (k * 4) ++ cLk r ++ row.drop (k * 4 + (cLk r).length)) (h2 : c2 = c1.take ((k + 1) * 4) ++ (xs.drop k).flatMap cLk ++ c1.drop ((k + 1) * 4 + ((xs.drop k).flatMap cLk).length)) :
    c1.length = row.length ∧ c2.length = row.length ∧ c2.take ((n + 1) * 4) = (xs.take k ++ r :: xs.drop k).flatMap cLk := by
  have hd : ((xs.drop k).flatMap cLk).length = (n - k) * 4 := by rw [flat_len cLk 4 cLk_len, List.length_drop, hn]
  have ht : ((xs.take k).flatMap cLk).length = k * 4 := by rw [flat_len cLk 4 cLk_len, List.length_take, hn, Nat.min_eq_left hk]
  have l1 : c1.length = row.length := by
    rw [h1, List.length_append, List.length_append, List.length_take, List.length_drop, cLk_len]
    omega
  have e1 : c1.take ((k + 1) * 4) = (xs.take k).flatMap cLk ++ cLk r := by
    rw [h1, h, List.take_left' (by rw [List.length_append, ht, cLk_len]; omega)]
  refine ⟨l1, ?_, ?_⟩
  · rw [h2, List.length_append, List.length_append, List.length_take, List.length_drop, hd, l1]
    omega
  · rw [h2, e1, List.take_left' (by simp only [List.length_append, ht, hd, cLk_len]; omega), List.flatMap_append, List.flatMap_cons, List.append_assoc]

/-- what a deletion leaves -/
theorem del_getLk {cur : List Value} {xs : List Lk} {n k : Nat} (h : cur.take ((n + 1) * 4) = xs.flatMap cLk) (hn : xs.length = n + 1) (hk : k ≤ n) (hc : (n + 1) * 4 ≤ cur.length) (c1 c2 : List Value)
    (h1 : c1 = cur.take (k * 4) ++ (xs.drop (k + 1)).flatMap cLk ++ cur.drop (k * 4 + ((xs.drop (k + 1)).flatMap cLk).length)) (h2 : c2 = c1.take (n * 4) ++ cLk zLk ++ c1.drop (n * 4 + (cLk zLk).length)) :
    c1.length = cur.length ∧ c2.length = cur.length ∧ c2.take (n * 4) = (xs.eraseIdx k).flatMap cLk := by
  have hd : ((xs.drop (k + 1)).flatMap cLk).length = (n - k) * 4 := by rw [flat_len cLk 4 cLk_len, List.length_drop, hn]; congr 1; omega
  have ht : ((xs.take k).flatMap cLk).length = k * 4 := by rw [flat_len cLk 4 cLk_len, List.length_take, hn, Nat.min_eq_left (by omega)]
  have l1 : c1.length = cur.length := by
    rw [h1, List.length_append, List.length_append, List.length_take, List.length_drop, hd]
    omega
  have e0 : cur.take (k * 4) = (xs.take k).flatMap cLk := by rw [← flat_take cLk 4 cLk_len xs k, ← h, List.take_take, Nat.min_eq_left (by omega)]
  have e1 : c1.take (n * 4) = (xs.eraseIdx k).flatMap cLk := by
    rw [h1, e0, List.take_left' (by rw [List.length_append, ht, hd]; omega), List.eraseIdx_eq_take_drop_succ, List.flatMap_append]
  refine ⟨l1, ?_, ?_⟩
  · rw [h2, List.length_append, List.length_append, List.length_take, List.length_drop, cLk_len, l1]
    omega
  · rw [h2, ← e1, List.append_assoc, List.take_left' (by rw [List.length_take]; omega)]

/-- one more -/
theorem snocLk {w : World} {B : Nat} {v : Value} {pre : List Lk} {x : Lk} (h : w.ownsRow B 45 4 v (pre.length + 1) (pre.flatMap cLk ++ cLk x)) : w.ownsRow B 45 4 v (pre ++ [x]).length ((pre ++ [x]).flatMap cLk) := by
  rw [List.length_append, List.flatMap_append, List.flatMap_cons, List.flatMap_nil, List.append_nil]
  exact h
theorem wpList_appLk {ops : Array Oper} {rest : List Oper} {o : Oper} {a : Act} {w : World} {Q : Exit → Act → World → Prop} (hgd : o.guard = none) (s x : Operand) (ho : o.op = .call { callee := .builtin .append, args := #[s, x], argTypes := #[39, 39] })
    (base g : Nat) (v : Value) (pre : List Lk) (r : Lk) (hs : a.eval s = v) (hx : a.eval x = .slice (some ⟨g, 0, none⟩) 1 1) (hown : w.ownsRow base 45 4 v pre.length (pre.flatMap cLk)) (hg : w.heap[g]? = some (.cells (cLk r).toArray 45 (0, 0))) (hl : pre.length ≤ 1172812402926) (hbase : base ≤ w.heap.size)
    (h : ∀ v' w', w'.ownsRow base 45 4 v' (pre ++ [r]).length ((pre ++ [r]).flatMap cLk) → w.grownBy w' v.ownBlock → wpList Tryd.prog ops Q rest (a.put o.dst v') w') : wpList Tryd.prog ops Q (o :: rest) a w := by
  obtain ⟨i, hi, hz, hsz, hby⟩ := info_parts info43
  exact wpList_append_own w hgd s x 39 ho base 45 i _ 4 32 Tryd.underlying39 hi hz hsz hby rfl (by omega) v pre.length (pre.flatMap cLk) hs hown ⟨g, 0, none⟩ 1 1 (cLk r) hx (by rw [cLk_len]) (news_heap hg) (cLk_one r) (by have := maxLen_ge; omega) (by omega) hbase (fun v' w' h1 h2 _ => h v' w' (snocLk h1) h2)
/-- append([]T(nil), xs...) -/
theorem run_spreadLk {w : World} (ty : TypeId) (xs : List Lk) (v : Value) (hs : Sl cLk 4 0 w v xs) (hl : xs.length ≤ 1172812402926) :
    ∃ v' w', (Builtin.append_ #[39, 39] ty #[.slice none 0 0, v]).run Tryd.prog w = .ok v' w' ∧ w'.ownsRow w.heap.size 45 4 v' xs.length (xs.flatMap cLk) ∧ w.grownBy w' none := by
  obtain ⟨i, hi, hz, hsz, hby⟩ := info_parts info43
  obtain ⟨A, c, rfl, hr, hA0, _⟩ := hs
  cases A with
  | some ad =>
    obtain ⟨v', w', h1, h2, h3, h4⟩ := run_append_own (P := Tryd.prog) w w.heap.size 39 ty 45 i _ 4 32 Tryd.underlying39 hi hz hsz hby rfl (by omega) (.slice none 0 0) 0 [] (World.ownsRow_nil _ _ _ _) ad xs.length c (xs.flatMap cLk) (flat_len _ 4 cLk_len xs) (news_rd cLk_len (by omega) hr) (flat_one cLk_one xs) (by have := maxLen_ge; omega) (by omega) (Nat.le_refl _)
    exact ⟨v', w', h1, by simpa using h2, h3⟩
  | none =>
    obtain rfl := hr.none
    obtain rfl := hA0 rfl
    exact ⟨.slice none 0 0, w, run_append_owned_none (P := Tryd.prog) w w.heap.size 39 ty 45 i 4 Tryd.underlying39 hi _ 0 [] (World.ownsRow_nil _ _ _ _), World.ownsRow_nil _ _ _ _, World.grownBy.refl _ _⟩
def zPn : Pn := ⟨⟨0, 0⟩, 0, 0⟩
/-- what an insertion in place leaves -/
theorem ins_getPn {cur : List Value} {xs : List Pn} {n k : Nat} {r : Pn} (h : cur.take (n * 4) = xs.flatMap cPn) (hn : xs.length = n) (hk : k ≤ n) (hc : (n + 1) * 4 ≤ cur.length) (cur1 cur2 : List Value)
    (h1 : cur1 = cur.take ((k + 1) * 4) ++ (xs.drop k).flatMap cPn ++ cur.drop ((k + 1) * 4 + ((xs.drop k).flatMap cPn).length)) (h2 : cur2 = cur1.take (k * 4) ++ cPn r ++ cur1.drop (k * 4 + (cPn r).length)) :
    cur1.length = cur.length ∧ cur2.length = cur.length ∧ cur2.take ((n + 1) * 4) = (xs.take k ++ r :: xs.drop k).flatMap cPn := by
  have hd : ((xs.drop k).flatMap cPn).length = (n - k) * 4 := by rw [flat_len cPn 4 cPn_len, List.length_drop, hn]
  have ht : ((xs.take k).flatMap cPn).length = k * 4 := by rw [flat_len cPn 4 cPn_len, List.length_take, hn, Nat.min_eq_left hk]
  have l1 : cur1.length = cur.length := by
    rw [h1, List.length_append, List.length_append, List.length_take, List.length_drop, hd]
    omega
  have e1 : cur1.take (k * 4) = (xs.take k).flatMap cPn := by
    rw [← flat_take cPn 4 cPn_len xs k, ← h, List.take_take, Nat.min_eq_left (by omega), h1, List.append_assoc, List.take_append_of_le_length (by rw [List.length_take]; omega), List.take_take, Nat.min_eq_left (by omega)]
  have e2 : ∃ R, cur1.drop (k * 4 + (cPn r).length) = (xs.drop k).flatMap cPn ++ R := by
    refine ⟨cur.drop ((k + 1) * 4 + ((xs.drop k).flatMap cPn).length), ?_⟩
    rw [h1, List.append_assoc, cPn_len, show k * 4 + 4 = (k + 1) * 4 by omega, List.drop_append_of_le_length (by rw [List.length_take]; omega), List.drop_of_length_le (by rw [List.length_take]; omega), List.nil_append]
  obtain ⟨R, e2⟩ := e2
  refine ⟨l1, ?_, ?_⟩
  · rw [h2, List.length_append, List.length_append, List.length_take, List.length_drop, cPn_len, l1]
    omega
  · have e3 : cur2 = ((xs.take k).flatMap cPn ++ cPn r ++ (xs.drop k).flatMap cPn) ++ R := by rw [h2, e1, e2]; simp only [List.append_assoc]
    rw [e3, List.take_left' (by simp only [List.length_append, ht, hd, cPn_len]; omega), List.flatMap_append, List.flatMap_cons, List.append_assoc]
/-- what an insertion into a new row leaves -/
theorem ins_newPn {row : List Value} {xs : List Pn} {n k : Nat} {r : Pn} (h : row.take (k * 4) = (xs.take k).flatMap cPn) (hn : xs.length = n) (hk : k ≤ n) (hc : (n + 1) * 4 ≤ row.length) (c1 c2 : List Value)
    (h1 : c1 = row.take (k * 4) ++ cPn r ++ row.drop (k * 4 + (cPn r).length)) (h2 : c2 = c1.take ((k + 1) * 4) ++ (xs.drop k).flatMap cPn ++ c1.drop ((k + 1) * 4 + ((xs.drop k).flatMap cPn).length)) :
    c1.length = row.length ∧ c2.length = row.length ∧ c2.take ((n + 1) * 4) = (xs.take k ++ r :: xs.drop k).flatMap cPn := by
  have hd : ((xs.drop k).flatMap cPn).length = (n - k) * 4 := by rw [flat_len cPn 4 cPn_len, List.length_drop, hn]
  have ht : ((xs.take k).flatMap cPn).length = k * 4 := by rw [flat_len cPn 4 cPn_len, List.length_take, hn, Nat.min_eq_left hk]
  have l1 : c1.length = row.length := by
    rw [h1, List.length_append, List.length_append, List.length_take, List.length_drop, cPn_len]
    omega
  have e1 : c1.take ((k + 1) * 4) = (xs.take k).flatMap cPn ++ cPn r := by
    rw [h1, h, List.take_left' (by rw [List.length_append, ht, cPn_len]; omega)]
  refine ⟨l1, ?_, ?_⟩
  · rw [h2, List.length_append, List.length_append, List.length_take, List.length_drop, hd, l1]
    omega
  · rw [h2, e1, List.take_left' (by simp only [List.length_append, ht, hd, cPn_len]; omega), List.flatMap_append, List.flatMap_cons, List.append_assoc]

/-- what a deletion leaves -/
theorem del_getPn {cur : List Value} {xs : List Pn} {n k : Nat} (h : cur.take ((n + 1) * 4) = xs.flatMap cPn) (hn : xs.length = n + 1) (hk : k ≤ n) (hc : (n + 1) * 4 ≤ cur.length) (c1 c2 : List Value)
    (h1 : c1 = cur.take (k * 4) ++ (xs.drop (k + 1)).flatMap cPn ++ cur.drop (k * 4 + ((xs.drop (k + 1)).flatMap cPn).length)) (h2 : c2 = c1.take (n * 4) ++ cPn zPn ++ c1.drop (n * 4 + (cPn zPn).length)) :
    c1.length = cur.length ∧ c2.length = cur.length ∧ c2.take (n * 4) = (xs.eraseIdx k).flatMap cPn := by
  have hd : ((xs.drop (k + 1)).flatMap cPn).length = (n - k) * 4 := by rw [flat_len cPn 4 cPn_len, List.length_drop, hn]; congr 1; omega
  have ht : ((xs.take k).flatMap cPn).length = k * 4 := by rw [flat_len cPn 4 cPn_len, List.length_take, hn, Nat.min_eq_left (by omega)]
  have l1 : c1.length = cur.length := by
    rw [h1, List.length_append, List.length_append, List.length_take, List.length_drop, hd]
    omega
  have e0 : cur.take (k * 4) = (xs.take k).flatMap cPn := by rw [← flat_take cPn 4 cPn_len xs k, ← h, List.take_take, Nat.min_eq_left (by omega)]
  have e1 : c1.take (n * 4) = (xs.eraseIdx k).flatMap cPn := by
    rw [h1, e0, List.take_left' (by rw [List.length_append, ht, hd]; omega), List.eraseIdx_eq_take_drop_succ, List.flatMap_append]
  refine ⟨l1, ?_, ?_⟩
  · rw [h2, List.length_append, List.length_append, List.length_take, List.length_drop, cPn_len, l1]
    omega
  · rw [h2, ← e1, List.append_assoc, List.take_left' (by rw [List.length_take]; omega)]

/-- one more -/
theorem snocPn {w : World} {B : Nat} {v : Value} {pre : List Pn} {x : Pn} (h : w.ownsRow B 124 4 v (pre.length + 1) (pre.flatMap cPn ++ cPn x)) : w.ownsRow B 124 4 v (pre ++ [x]).length ((pre ++ [x]).flatMap cPn) := by
  rw [List.length_append, List.flatMap_append, List.flatMap_cons, List.flatMap_nil, List.append_nil]
  exact h
theorem wpList_appPn {ops : Array Oper} {rest : List Oper} {o : Oper} {a : Act} {w : World} {Q : Exit → Act → World → Prop} (hgd : o.guard = none) (s x : Operand) (ho : o.op = .call { callee := .builtin .append, args := #[s, x], argTypes := #[40, 40] })
    (base g : Nat) (v : Value) (pre : List Pn) (r : Pn) (hs : a.eval s = v) (hx : a.eval x = .slice (some ⟨g, 0, none⟩) 1 1) (hown : w.ownsRow base 124 4 v pre.length (pre.flatMap cPn)) (hg : w.heap[g]? = some (.cells (cPn r).toArray 124 (0, 0))) (hl : pre.length ≤ 1172812402926) (hbase : base ≤ w.heap.size)
    (h : ∀ v' w', w'.ownsRow base 124 4 v' (pre ++ [r]).length ((pre ++ [r]).flatMap cPn) → w.grownBy w' v.ownBlock → wpList Tryd.prog ops Q rest (a.put o.dst v') w') : wpList Tryd.prog ops Q (o :: rest) a w := by
  obtain ⟨i, hi, hz, hsz, hby⟩ := info_parts info49
  exact wpList_append_own w hgd s x 40 ho base 124 i _ 4 32 Tryd.underlying40 hi hz hsz hby rfl (by omega) v pre.length (pre.flatMap cPn) hs hown ⟨g, 0, none⟩ 1 1 (cPn r) hx (by rw [cPn_len]) (news_heap hg) (cPn_one r) (by have := maxLen_ge; omega) (by omega) hbase (fun v' w' h1 h2 _ => h v' w' (snocPn h1) h2)
/-- append([]T(nil), xs...) -/
theorem run_spreadPn {w : World} (ty : TypeId) (xs : List Pn) (v : Value) (hs : Sl cPn 4 0 w v xs) (hl : xs.length ≤ 1172812402926) :
    ∃ v' w', (Builtin.append_ #[40, 40] ty #[.slice none 0 0, v]).run Tryd.prog w = .ok v' w' ∧ w'.ownsRow w.heap.size 124 4 v' xs.length (xs.flatMap cPn) ∧ w.grownBy w' none := by
  obtain ⟨i, hi, hz, hsz, hby⟩ := info_parts info49
  obtain ⟨A, c, rfl, hr, hA0, _⟩ := hs
  cases A with
  | some ad =>
    obtain ⟨v', w', h1, h2, h3, h4⟩ := run_append_own (P := Tryd.prog) w w.heap.size 40 ty 124 i _ 4 32 Tryd.underlying40 hi hz hsz hby rfl (by omega) (.slice none 0 0) 0 [] (World.ownsRow_nil _ _ _ _) ad xs.length c (xs.flatMap cPn) (flat_len _ 4 cPn_len xs) (news_rd cPn_len (by omega) hr) (flat_one cPn_one xs) (by have := maxLen_ge; omega) (by omega) (Nat.le_refl _)
    exact ⟨v', w', h1, by simpa using h2, h3⟩
  | none =>
    obtain rfl := hr.none
    obtain rfl := hA0 rfl
    exact ⟨.slice none 0 0, w, run_append_owned_none (P := Tryd.prog) w w.heap.size 40 ty 124 i 4 Tryd.underlying40 hi _ 0 [] (World.ownsRow_nil _ _ _ _), World.ownsRow_nil _ _ _ _, World.grownBy.refl _ _⟩

end Go.Proofs.YtjbglifmppilfaaDoor
