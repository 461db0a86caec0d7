/- Contracts of prefix.mask, Check, sound and of the reference's PrefixOk, Check, RouteOk; condition: the address is a uint32. -/
import Derived.Test.YtpnhkniegjfncaaDE
namespace Go.Proofs.Ytpnhkniegjfncaa
open Go.ChangeShapes Go.WideShapes Go.ChangeAt Go.RowKit
set_option linter.unusedVariables false
set_option linter.unusedSimpArgs false
attribute [local go_sem] Og.Opt Og.OpY
attribute [local go_sem high] eqB1 eqP1 eqR1 eqC1

def maskZ (n : Int) : Int := IntKind.u64.wrap (18446744073709551615 * 2 ^ (32 - n).toNat) % 4294967296
/-- is a prefix sound? -/
def sndP (p : Pf) : Bool := decide (0 ≤ p.l) && decide (p.l ≤ 32) && (bits .andNot .u32 p.a (maskZ p.l) == 0)
def rouB (r : Ro) : Bool := sndP r.p && decide (0 ≤ r.m) && decide (r.m < 1073741824) && !(decide (r.o0 = 0) && decide (r.o1 = 0))
def errB (b : Bool) : Int := if b then 0 else 2
/-- the numbers of a prefix fit their kinds -/
def FitP (p : Pf) : Prop := 0 ≤ p.a ∧ p.a < 4294967296
def FitR (r : Ro) : Prop := FitP r.p
def FitC (c : Ch) : Prop := FitR c.o ∧ FitR c.n

set_option maxHeartbeats 400000 in
theorem mask_ok (n : Int) (w : World) (h : 0 ≤ n) (h2 : n ≤ 32) :
    Calls Try.prog 59 #[.int .i64 n] w fun e w' => e = .returned (.int .u32 (maskZ n)) ∧ w = w' := by
  go_enter Try.func59, Try.ntmps59
  go_wp2_with fail
  go_ret
  exact ⟨rfl, rfl⟩


set_option maxHeartbeats 1000000 in
theorem check_lo (p : Pf) (w : World) (h1 : decide (p.l < 0) = true) :
    Calls Try.prog 53 #[.agg #[.int .u32 p.a, .int .i64 p.l]] w fun e w' => e = .returned (.int .i64 2) ∧ Below w.heap.size w w' := by
  go_enter Try.func53, Try.ntmps53
  go_wp2_with fail
  obtain ⟨W, hW⟩ : ∃ W, W = w.alloc (Obj.cells #[.int .u32 p.a, .int .i64 p.l] 35) := ⟨_, rfl⟩
  have HC : ∀ w2, Below W.heap.size W w2 → w2.cell? ⟨w.heap.size, 0, none⟩ = some (.int .u32 p.a) ∧ w2.cell? ⟨w.heap.size, 1, none⟩ = some (.int .i64 p.l) :=
    fun w2 h => ⟨bcell h (by rw [hW]; simp), bcell h (by rw [hW]; simp)⟩
  have hB : Below w.heap.size w W := by rw [hW]; exact (Below.refl _ _).alloc (Nat.le_refl _) _
  rw [← hW]
  clear hW
  refine Og.walk_lit [[],[0],[1,0],[2,1,0],[3,2,1,0],[4,3,2,1,0],[5,3,4,2,1,0],[3,6,2,1,0,5,4],[7,3,6,2,1,0,5,4],[8,7,3,6,2,1,0,5,4],[9,8,7,3,6,2,1,0,5,4],[8,7,3,6,2,1,0,5,4],[11,8,7,3,6,2,1,0,5,4],[12,8,11,7,3,6,2,1,0,5,4],[10,13,8,9,7,3,6,2,1,0,5,4,12,11],[14,8,10,13,9,7,3,6,2,1,0,5,4,12,11],[8,15,7,3,6,2,1,0,5,4,14,10,13,9,12,11]] (fun w2 => Below W.heap.size W w2) (fun w1 w2 => Below w1.heap.size w1 w2) (by kernel_rfl) (by kernel_rfl) (bdrew) ?_
  repeat (first | (refine Og.step_pure (fun _ => Below.refl _ _) ?_; apply Exists.intro; refine And.intro ?_ ?_; focus (intro vs w2 hC hk; have hm := HC w2 hC; revert hk; simp only [Og.KS, Og.K0, Og.Is, List.getD_cons_zero, List.getD_cons_succ, List.getD_nil, List.contains_cons, List.contains_nil, Nat.reduceAdd, Nat.reduceBEq, Bool.or_false, Bool.false_or, Bool.or_true, Bool.true_or, Bool.false_eq_true, false_implies, true_implies, true_and, and_true, forall_const]; intros; go_simp; rfl)) | (fail))
  intro vs w2 hC hk
  have hm := HC w2 hC
  simp only [Og.KS, Og.K0, Og.Is, List.getD_cons_zero, List.getD_cons_succ, List.getD_nil, List.contains_cons, List.contains_nil, Nat.reduceAdd, Nat.reduceBEq, Bool.or_false, Bool.false_or, Bool.or_true, Bool.true_or, Bool.false_eq_true, false_implies, true_implies, true_and, and_true, forall_const] at hk
  simp only [hk, Act.put, List.setIfInBounds_toArray, List.set_cons_zero, List.set_cons_succ]
  clear hk
  go_wp2_with fail
  go_ret
  exact ⟨rfl, bthen' hB hB.size hC⟩

set_option maxHeartbeats 1000000 in
theorem check_hi (p : Pf) (w : World) (h1 : decide (p.l < 0) = false) (h2 : decide (32 < p.l) = true) :
    Calls Try.prog 53 #[.agg #[.int .u32 p.a, .int .i64 p.l]] w fun e w' => e = .returned (.int .i64 2) ∧ Below w.heap.size w w' := by
  go_enter Try.func53, Try.ntmps53
  go_wp2_with fail
  obtain ⟨W, hW⟩ : ∃ W, W = w.alloc (Obj.cells #[.int .u32 p.a, .int .i64 p.l] 35) := ⟨_, rfl⟩
  have HC : ∀ w2, Below W.heap.size W w2 → w2.cell? ⟨w.heap.size, 0, none⟩ = some (.int .u32 p.a) ∧ w2.cell? ⟨w.heap.size, 1, none⟩ = some (.int .i64 p.l) :=
    fun w2 h => ⟨bcell h (by rw [hW]; simp), bcell h (by rw [hW]; simp)⟩
  have hB : Below w.heap.size w W := by rw [hW]; exact (Below.refl _ _).alloc (Nat.le_refl _) _
  rw [← hW]
  clear hW
  refine Og.walk_lit [[],[0],[1,0],[2,1,0],[3,2,1,0],[4,3,2,1,0],[5,3,4,2,1,0],[3,6,2,1,0,5,4],[7,3,6,2,1,0,5,4],[8,7,3,6,2,1,0,5,4],[9,8,7,3,6,2,1,0,5,4],[8,7,3,6,2,1,0,5,4],[11,8,7,3,6,2,1,0,5,4],[12,8,11,7,3,6,2,1,0,5,4],[10,13,8,9,7,3,6,2,1,0,5,4,12,11],[14,8,10,13,9,7,3,6,2,1,0,5,4,12,11],[8,15,7,3,6,2,1,0,5,4,14,10,13,9,12,11]] (fun w2 => Below W.heap.size W w2) (fun w1 w2 => Below w1.heap.size w1 w2) (by kernel_rfl) (by kernel_rfl) (bdrew) ?_
  repeat (first | (refine Og.step_pure (fun _ => Below.refl _ _) ?_; apply Exists.intro; refine And.intro ?_ ?_; focus (intro vs w2 hC hk; have hm := HC w2 hC; revert hk; simp only [Og.KS, Og.K0, Og.Is, List.getD_cons_zero, List.getD_cons_succ, List.getD_nil, List.contains_cons, List.contains_nil, Nat.reduceAdd, Nat.reduceBEq, Bool.or_false, Bool.false_or, Bool.or_true, Bool.true_or, Bool.false_eq_true, false_implies, true_implies, true_and, and_true, forall_const]; intros; go_simp; rfl)) | (fail))
  intro vs w2 hC hk
  have hm := HC w2 hC
  simp only [Og.KS, Og.K0, Og.Is, List.getD_cons_zero, List.getD_cons_succ, List.getD_nil, List.contains_cons, List.contains_nil, Nat.reduceAdd, Nat.reduceBEq, Bool.or_false, Bool.false_or, Bool.or_true, Bool.true_or, Bool.false_eq_true, false_implies, true_implies, true_and, and_true, forall_const] at hk
  simp only [hk, Act.put, List.setIfInBounds_toArray, List.set_cons_zero, List.set_cons_succ]
  clear hk
  go_wp2_with fail
  go_ret
  exact ⟨rfl, bthen' hB hB.size hC⟩

set_option maxHeartbeats 1000000 in
theorem check_bad (p : Pf) (w : World) (h1 : decide (p.l < 0) = false) (h2 : decide (32 < p.l) = false) (h3 : (bits .andNot .u32 p.a (maskZ p.l) != 0) = true) :
    Calls Try.prog 53 #[.agg #[.int .u32 p.a, .int .i64 p.l]] w fun e w' => e = .returned (.int .i64 2) ∧ Below w.heap.size w w' := by
  have H := Lib.hid (fun w => mask_ok p.l w (by simpa using h1) (by simpa using h2))
  go_enter Try.func53, Try.ntmps53
  go_wp2_with fail
  obtain ⟨W, hW⟩ : ∃ W, W = w.alloc (Obj.cells #[.int .u32 p.a, .int .i64 p.l] 35) := ⟨_, rfl⟩
  have HC : ∀ w2, Below W.heap.size W w2 → w2.cell? ⟨w.heap.size, 0, none⟩ = some (.int .u32 p.a) ∧ w2.cell? ⟨w.heap.size, 1, none⟩ = some (.int .i64 p.l) :=
    fun w2 h => ⟨bcell h (by rw [hW]; simp), bcell h (by rw [hW]; simp)⟩
  have hB : Below w.heap.size w W := by rw [hW]; exact (Below.refl _ _).alloc (Nat.le_refl _) _
  rw [← hW]
  clear hW
  refine Og.walk_lit [[],[0],[1,0],[2,1,0],[3,2,1,0],[4,3,2,1,0],[5,3,4,2,1,0],[3,6,2,1,0,5,4],[7,3,6,2,1,0,5,4],[8,7,3,6,2,1,0,5,4],[9,8,7,3,6,2,1,0,5,4],[8,7,3,6,2,1,0,5,4],[11,8,7,3,6,2,1,0,5,4],[12,8,11,7,3,6,2,1,0,5,4],[10,13,8,9,7,3,6,2,1,0,5,4,12,11],[14,8,10,13,9,7,3,6,2,1,0,5,4,12,11],[8,15,7,3,6,2,1,0,5,4,14,10,13,9,12,11]] (fun w2 => Below W.heap.size W w2) (fun w1 w2 => Below w1.heap.size w1 w2) (by kernel_rfl) (by kernel_rfl) (bdrew) ?_
  repeat (first | (refine Og.step_pure (fun _ => Below.refl _ _) ?_; apply Exists.intro; refine And.intro ?_ ?_; focus (intro vs w2 hC hk; have hm := HC w2 hC; revert hk; simp only [Og.KS, Og.K0, Og.Is, List.getD_cons_zero, List.getD_cons_succ, List.getD_nil, List.contains_cons, List.contains_nil, Nat.reduceAdd, Nat.reduceBEq, Bool.or_false, Bool.false_or, Bool.or_true, Bool.true_or, Bool.false_eq_true, false_implies, true_implies, true_and, and_true, forall_const]; intros; go_simp; rfl)) | (refine Og.step_pure (fun _ => Below.refl _ _) ?_; apply Exists.intro; refine And.intro ?_ ?_; focus (intro vs w2 hC hk; have hm := HC w2 hC; revert hk; simp only [Og.KS, Og.K0, Og.Is, List.getD_cons_zero, List.getD_cons_succ, List.getD_nil, List.contains_cons, List.contains_nil, Nat.reduceAdd, Nat.reduceBEq, Bool.or_false, Bool.false_or, Bool.or_true, Bool.true_or, Bool.false_eq_true, false_implies, true_implies, true_and, and_true, forall_const]; intros; go_simp; with_reducible refine (H.out _).mono ?_; rintro e w3 ⟨rfl, rfl⟩; exact Og.RetV.mk ⟨rfl, rfl⟩)))
  intro vs w2 hC hk
  have hm := HC w2 hC
  simp only [Og.KS, Og.K0, Og.Is, List.getD_cons_zero, List.getD_cons_succ, List.getD_nil, List.contains_cons, List.contains_nil, Nat.reduceAdd, Nat.reduceBEq, Bool.or_false, Bool.false_or, Bool.or_true, Bool.true_or, Bool.false_eq_true, false_implies, true_implies, true_and, and_true, forall_const] at hk
  simp only [hk, Act.put, List.setIfInBounds_toArray, List.set_cons_zero, List.set_cons_succ]
  clear hk
  go_wp2_with fail
  go_ret
  exact ⟨rfl, bthen' hB hB.size hC⟩

set_option maxHeartbeats 1000000 in
theorem check_ok0 (p : Pf) (w : World) (h1 : decide (p.l < 0) = false) (h2 : decide (32 < p.l) = false) (h3 : (bits .andNot .u32 p.a (maskZ p.l) != 0) = false) :
    Calls Try.prog 53 #[.agg #[.int .u32 p.a, .int .i64 p.l]] w fun e w' => e = .returned (.int .i64 0) ∧ Below w.heap.size w w' := by
  have H := Lib.hid (fun w => mask_ok p.l w (by simpa using h1) (by simpa using h2))
  go_enter Try.func53, Try.ntmps53
  go_wp2_with fail
  obtain ⟨W, hW⟩ : ∃ W, W = w.alloc (Obj.cells #[.int .u32 p.a, .int .i64 p.l] 35) := ⟨_, rfl⟩
  have HC : ∀ w2, Below W.heap.size W w2 → w2.cell? ⟨w.heap.size, 0, none⟩ = some (.int .u32 p.a) ∧ w2.cell? ⟨w.heap.size, 1, none⟩ = some (.int .i64 p.l) :=
    fun w2 h => ⟨bcell h (by rw [hW]; simp), bcell h (by rw [hW]; simp)⟩
  have hB : Below w.heap.size w W := by rw [hW]; exact (Below.refl _ _).alloc (Nat.le_refl _) _
  rw [← hW]
  clear hW
  refine Og.walk_lit [[],[0],[1,0],[2,1,0],[3,2,1,0],[4,3,2,1,0],[5,3,4,2,1,0],[3,6,2,1,0,5,4],[7,3,6,2,1,0,5,4],[8,7,3,6,2,1,0,5,4],[9,8,7,3,6,2,1,0,5,4],[8,7,3,6,2,1,0,5,4],[11,8,7,3,6,2,1,0,5,4],[12,8,11,7,3,6,2,1,0,5,4],[10,13,8,9,7,3,6,2,1,0,5,4,12,11],[14,8,10,13,9,7,3,6,2,1,0,5,4,12,11],[8,15,7,3,6,2,1,0,5,4,14,10,13,9,12,11]] (fun w2 => Below W.heap.size W w2) (fun w1 w2 => Below w1.heap.size w1 w2) (by kernel_rfl) (by kernel_rfl) (bdrew) ?_
  repeat (first | (refine Og.step_pure (fun _ => Below.refl _ _) ?_; apply Exists.intro; refine And.intro ?_ ?_; focus (intro vs w2 hC hk; have hm := HC w2 hC; revert hk; simp only [Og.KS, Og.K0, Og.Is, List.getD_cons_zero, List.getD_cons_succ, List.getD_nil, List.contains_cons, List.contains_nil, Nat.reduceAdd, Nat.reduceBEq, Bool.or_false, Bool.false_or, Bool.or_true, Bool.true_or, Bool.false_eq_true, false_implies, true_implies, true_and, and_true, forall_const]; intros; go_simp; rfl)) | (refine Og.step_pure (fun _ => Below.refl _ _) ?_; apply Exists.intro; refine And.intro ?_ ?_; focus (intro vs w2 hC hk; have hm := HC w2 hC; revert hk; simp only [Og.KS, Og.K0, Og.Is, List.getD_cons_zero, List.getD_cons_succ, List.getD_nil, List.contains_cons, List.contains_nil, Nat.reduceAdd, Nat.reduceBEq, Bool.or_false, Bool.false_or, Bool.or_true, Bool.true_or, Bool.false_eq_true, false_implies, true_implies, true_and, and_true, forall_const]; intros; go_simp; with_reducible refine (H.out _).mono ?_; rintro e w3 ⟨rfl, rfl⟩; exact Og.RetV.mk ⟨rfl, rfl⟩)))
  intro vs w2 hC hk
  have hm := HC w2 hC
  simp only [Og.KS, Og.K0, Og.Is, List.getD_cons_zero, List.getD_cons_succ, List.getD_nil, List.contains_cons, List.contains_nil, Nat.reduceAdd, Nat.reduceBEq, Bool.or_false, Bool.false_or, Bool.or_true, Bool.true_or, Bool.false_eq_true, false_implies, true_implies, true_and, and_true, forall_const] at hk
  simp only [hk, Act.put, List.setIfInBounds_toArray, List.set_cons_zero, List.set_cons_succ]
  clear hk
  go_wp2_with fail
  go_ret
  exact ⟨rfl, bthen' hB hB.size hC⟩

theorem check_ok (p : Pf) (w : World) :
    Calls Try.prog 53 #[.agg #[.int .u32 p.a, .int .i64 p.l]] w fun e w' => e = .returned (.int .i64 (errB (sndP p))) ∧ Below w.heap.size w w' := by
  by_cases h1 : p.l < 0
  · have e : errB (sndP p) = 2 := by unfold errB sndP; simp; omega
    rw [e]; exact check_lo p w (by simpa using h1)
  · by_cases h2 : 32 < p.l
    · have e : errB (sndP p) = 2 := by unfold errB sndP; simp; omega
      rw [e]; exact check_hi p w (by simpa using h1) (by simpa using h2)
    · by_cases h3 : bits .andNot .u32 p.a (maskZ p.l) = 0
      · have e : errB (sndP p) = 0 := by unfold errB sndP; simp [h3]; omega
        rw [e]; exact check_ok0 p w (by simpa using h1) (by simpa using h2) (by simpa using h3)
      · have e : errB (sndP p) = 2 := by unfold errB sndP; simp [h3]
        rw [e]; exact check_bad p w (by simpa using h1) (by simpa using h2) (by simpa using h3)

set_option maxHeartbeats 1000000 in
theorem sound_ok0 (r : Ro) (w : World) (h0 : sndP r.p = false) :
    Calls Try.prog 46 #[.agg #[.int .u32 r.p.a, .int .i64 r.p.l, .int .i64 r.m, .int .u64 r.o0, .int .u64 r.o1, .int .u64 r.h0, .int .u64 r.h1]] w fun e w' => e = .returned (.bool false) ∧ Below w.heap.size w w' := by
  have H : Hid (∀ w, Calls Try.prog 53 #[.agg #[.int .u32 r.p.a, .int .i64 r.p.l]] w fun e w' => e = .returned (.int .i64 2) ∧ Below w.heap.size w w') := Lib.hid (fun w => by have := check_ok r.p w; rwa [h0] at this)
  go_enter Try.func46, Try.ntmps46
  go_wp2_with fail
  obtain ⟨W, hW⟩ : ∃ W, W = w.alloc (Obj.cells #[.int .u32 r.p.a, .int .i64 r.p.l, .int .i64 r.m, .int .u64 r.o0, .int .u64 r.o1, .int .u64 r.h0, .int .u64 r.h1] 40) := ⟨_, rfl⟩
  have HC : ∀ w2, Below W.heap.size W w2 → w2.cell? ⟨w.heap.size, 0, none⟩ = some (.int .u32 r.p.a) ∧ w2.cell? ⟨w.heap.size, 1, none⟩ = some (.int .i64 r.p.l) ∧ w2.cell? ⟨w.heap.size, 2, none⟩ = some (.int .i64 r.m) ∧ w2.cell? ⟨w.heap.size, 3, none⟩ = some (.int .u64 r.o0) ∧ w2.cell? ⟨w.heap.size, 4, none⟩ = some (.int .u64 r.o1) :=
    fun w2 h => ⟨bcell h (by rw [hW]; simp), bcell h (by rw [hW]; simp), bcell h (by rw [hW]; simp), bcell h (by rw [hW]; simp), bcell h (by rw [hW]; simp)⟩
  have hB : Below w.heap.size w W := by rw [hW]; exact (Below.refl _ _).alloc (Nat.le_refl _) _
  rw [← hW]
  clear hW
  refine (H.out W).mono ?_
  rintro e w3 ⟨rfl, hb⟩
  have hm := HC w3 hb
  go_wp2_with fail
  go_ret
  exact ⟨rfl, bthen' hB hB.size hb⟩

set_option maxHeartbeats 1000000 in
theorem sound_ok1 (r : Ro) (w : World) (h0 : sndP r.p = true) (h1 : decide (0 ≤ r.m) = false) :
    Calls Try.prog 46 #[.agg #[.int .u32 r.p.a, .int .i64 r.p.l, .int .i64 r.m, .int .u64 r.o0, .int .u64 r.o1, .int .u64 r.h0, .int .u64 r.h1]] w fun e w' => e = .returned (.bool false) ∧ Below w.heap.size w w' := by
  have H : Hid (∀ w, Calls Try.prog 53 #[.agg #[.int .u32 r.p.a, .int .i64 r.p.l]] w fun e w' => e = .returned (.int .i64 0) ∧ Below w.heap.size w w') := Lib.hid (fun w => by have := check_ok r.p w; rwa [h0] at this)
  go_enter Try.func46, Try.ntmps46
  go_wp2_with fail
  obtain ⟨W, hW⟩ : ∃ W, W = w.alloc (Obj.cells #[.int .u32 r.p.a, .int .i64 r.p.l, .int .i64 r.m, .int .u64 r.o0, .int .u64 r.o1, .int .u64 r.h0, .int .u64 r.h1] 40) := ⟨_, rfl⟩
  have HC : ∀ w2, Below W.heap.size W w2 → w2.cell? ⟨w.heap.size, 0, none⟩ = some (.int .u32 r.p.a) ∧ w2.cell? ⟨w.heap.size, 1, none⟩ = some (.int .i64 r.p.l) ∧ w2.cell? ⟨w.heap.size, 2, none⟩ = some (.int .i64 r.m) ∧ w2.cell? ⟨w.heap.size, 3, none⟩ = some (.int .u64 r.o0) ∧ w2.cell? ⟨w.heap.size, 4, none⟩ = some (.int .u64 r.o1) :=
    fun w2 h => ⟨bcell h (by rw [hW]; simp), bcell h (by rw [hW]; simp), bcell h (by rw [hW]; simp), bcell h (by rw [hW]; simp), bcell h (by rw [hW]; simp)⟩
  have hB : Below w.heap.size w W := by rw [hW]; exact (Below.refl _ _).alloc (Nat.le_refl _) _
  rw [← hW]
  clear hW
  refine (H.out W).mono ?_
  rintro e w3 ⟨rfl, hb⟩
  have hm := HC w3 hb
  go_wp2_with fail
  go_ret
  exact ⟨rfl, bthen' hB hB.size hb⟩

set_option maxHeartbeats 1000000 in
theorem sound_ok2 (r : Ro) (w : World) (h0 : sndP r.p = true) (h1 : decide (0 ≤ r.m) = true) (h2 : decide (r.m < 1073741824) = false) :
    Calls Try.prog 46 #[.agg #[.int .u32 r.p.a, .int .i64 r.p.l, .int .i64 r.m, .int .u64 r.o0, .int .u64 r.o1, .int .u64 r.h0, .int .u64 r.h1]] w fun e w' => e = .returned (.bool false) ∧ Below w.heap.size w w' := by
  have H : Hid (∀ w, Calls Try.prog 53 #[.agg #[.int .u32 r.p.a, .int .i64 r.p.l]] w fun e w' => e = .returned (.int .i64 0) ∧ Below w.heap.size w w') := Lib.hid (fun w => by have := check_ok r.p w; rwa [h0] at this)
  go_enter Try.func46, Try.ntmps46
  go_wp2_with fail
  obtain ⟨W, hW⟩ : ∃ W, W = w.alloc (Obj.cells #[.int .u32 r.p.a, .int .i64 r.p.l, .int .i64 r.m, .int .u64 r.o0, .int .u64 r.o1, .int .u64 r.h0, .int .u64 r.h1] 40) := ⟨_, rfl⟩
  have HC : ∀ w2, Below W.heap.size W w2 → w2.cell? ⟨w.heap.size, 0, none⟩ = some (.int .u32 r.p.a) ∧ w2.cell? ⟨w.heap.size, 1, none⟩ = some (.int .i64 r.p.l) ∧ w2.cell? ⟨w.heap.size, 2, none⟩ = some (.int .i64 r.m) ∧ w2.cell? ⟨w.heap.size, 3, none⟩ = some (.int .u64 r.o0) ∧ w2.cell? ⟨w.heap.size, 4, none⟩ = some (.int .u64 r.o1) :=
    fun w2 h => ⟨bcell h (by rw [hW]; simp), bcell h (by rw [hW]; simp), bcell h (by rw [hW]; simp), bcell h (by rw [hW]; simp), bcell h (by rw [hW]; simp)⟩
  have hB : Below w.heap.size w W := by rw [hW]; exact (Below.refl _ _).alloc (Nat.le_refl _) _
  rw [← hW]
  clear hW
  refine (H.out W).mono ?_
  rintro e w3 ⟨rfl, hb⟩
  have hm := HC w3 hb
  go_wp2_with fail
  go_ret
  exact ⟨rfl, bthen' hB hB.size hb⟩

set_option maxHeartbeats 1000000 in
theorem sound_ok3 (r : Ro) (w : World) (h0 : sndP r.p = true) (h1 : decide (0 ≤ r.m) = true) (h2 : decide (r.m < 1073741824) = true) (h3 : (!eqBb r.o0 r.o1 0 0) = false) :
    Calls Try.prog 46 #[.agg #[.int .u32 r.p.a, .int .i64 r.p.l, .int .i64 r.m, .int .u64 r.o0, .int .u64 r.o1, .int .u64 r.h0, .int .u64 r.h1]] w fun e w' => e = .returned (.bool false) ∧ Below w.heap.size w w' := by
  have H : Hid (∀ w, Calls Try.prog 53 #[.agg #[.int .u32 r.p.a, .int .i64 r.p.l]] w fun e w' => e = .returned (.int .i64 0) ∧ Below w.heap.size w w') := Lib.hid (fun w => by have := check_ok r.p w; rwa [h0] at this)
  go_enter Try.func46, Try.ntmps46
  go_wp2_with fail
  obtain ⟨W, hW⟩ : ∃ W, W = w.alloc (Obj.cells #[.int .u32 r.p.a, .int .i64 r.p.l, .int .i64 r.m, .int .u64 r.o0, .int .u64 r.o1, .int .u64 r.h0, .int .u64 r.h1] 40) := ⟨_, rfl⟩
  have HC : ∀ w2, Below W.heap.size W w2 → w2.cell? ⟨w.heap.size, 0, none⟩ = some (.int .u32 r.p.a) ∧ w2.cell? ⟨w.heap.size, 1, none⟩ = some (.int .i64 r.p.l) ∧ w2.cell? ⟨w.heap.size, 2, none⟩ = some (.int .i64 r.m) ∧ w2.cell? ⟨w.heap.size, 3, none⟩ = some (.int .u64 r.o0) ∧ w2.cell? ⟨w.heap.size, 4, none⟩ = some (.int .u64 r.o1) :=
    fun w2 h => ⟨bcell h (by rw [hW]; simp), bcell h (by rw [hW]; simp), bcell h (by rw [hW]; simp), bcell h (by rw [hW]; simp), bcell h (by rw [hW]; simp)⟩
  have hB : Below w.heap.size w W := by rw [hW]; exact (Below.refl _ _).alloc (Nat.le_refl _) _
  rw [← hW]
  clear hW
  refine (H.out W).mono ?_
  rintro e w3 ⟨rfl, hb⟩
  have hm := HC w3 hb
  go_wp2_with fail
  go_ret
  exact ⟨rfl, bthen' hB hB.size hb⟩

set_option maxHeartbeats 1000000 in
theorem sound_ok4 (r : Ro) (w : World) (h0 : sndP r.p = true) (h1 : decide (0 ≤ r.m) = true) (h2 : decide (r.m < 1073741824) = true) (h3 : (!eqBb r.o0 r.o1 0 0) = true) :
    Calls Try.prog 46 #[.agg #[.int .u32 r.p.a, .int .i64 r.p.l, .int .i64 r.m, .int .u64 r.o0, .int .u64 r.o1, .int .u64 r.h0, .int .u64 r.h1]] w fun e w' => e = .returned (.bool true) ∧ Below w.heap.size w w' := by
  have H : Hid (∀ w, Calls Try.prog 53 #[.agg #[.int .u32 r.p.a, .int .i64 r.p.l]] w fun e w' => e = .returned (.int .i64 0) ∧ Below w.heap.size w w') := Lib.hid (fun w => by have := check_ok r.p w; rwa [h0] at this)
  go_enter Try.func46, Try.ntmps46
  go_wp2_with fail
  obtain ⟨W, hW⟩ : ∃ W, W = w.alloc (Obj.cells #[.int .u32 r.p.a, .int .i64 r.p.l, .int .i64 r.m, .int .u64 r.o0, .int .u64 r.o1, .int .u64 r.h0, .int .u64 r.h1] 40) := ⟨_, rfl⟩
  have HC : ∀ w2, Below W.heap.size W w2 → w2.cell? ⟨w.heap.size, 0, none⟩ = some (.int .u32 r.p.a) ∧ w2.cell? ⟨w.heap.size, 1, none⟩ = some (.int .i64 r.p.l) ∧ w2.cell? ⟨w.heap.size, 2, none⟩ = some (.int .i64 r.m) ∧ w2.cell? ⟨w.heap.size, 3, none⟩ = some (.int .u64 r.o0) ∧ w2.cell? ⟨w.heap.size, 4, none⟩ = some (.int .u64 r.o1) :=
    fun w2 h => ⟨bcell h (by rw [hW]; simp), bcell h (by rw [hW]; simp), bcell h (by rw [hW]; simp), bcell h (by rw [hW]; simp), bcell h (by rw [hW]; simp)⟩
  have hB : Below w.heap.size w W := by rw [hW]; exact (Below.refl _ _).alloc (Nat.le_refl _) _
  rw [← hW]
  clear hW
  refine (H.out W).mono ?_
  rintro e w3 ⟨rfl, hb⟩
  have hm := HC w3 hb
  go_wp2_with fail
  go_ret
  exact ⟨rfl, bthen' hB hB.size hb⟩

theorem sound_ok (r : Ro) (w : World) :
    Calls Try.prog 46 #[.agg #[.int .u32 r.p.a, .int .i64 r.p.l, .int .i64 r.m, .int .u64 r.o0, .int .u64 r.o1, .int .u64 r.h0, .int .u64 r.h1]] w fun e w' => e = .returned (.bool (rouB r)) ∧ Below w.heap.size w w' := by
  have e3 : (!eqBb r.o0 r.o1 0 0) = !(decide (r.o0 = 0) && decide (r.o1 = 0)) := by unfold eqBb; rw [Bool.decide_and]
  unfold rouB
  rw [← e3]
  cases h0 : sndP r.p with
  | false => exact sound_ok0 r w h0
  | true =>
    cases h1 : decide (0 ≤ r.m) with
    | false => exact sound_ok1 r w h0 h1
    | true =>
      cases h2 : decide (r.m < 1073741824) with
      | false => exact sound_ok2 r w h0 h1 h2
      | true =>
        cases h3 : (!eqBb r.o0 r.o1 0 0) with
        | false => exact sound_ok3 r w h0 h1 h2 h3
        | true => exact sound_ok4 r w h0 h1 h2 h3

end Go.Proofs.Ytpnhkniegjfncaa
