/- Contracts of cmp.Compare, cmp.Or and the order of prefixes; no condition. -/
import Derived.Test.YtpnhkniegjfncaaD0
namespace Go.Proofs.Ytpnhkniegjfncaa
open Go.ChangeShapes Go.WideShapes Go.ChangeAt Go.RowKit
set_option linter.unusedVariables false
set_option linter.unusedSimpArgs false
attribute [local go_sem] Og.Opt Og.OpY

set_option maxHeartbeats 400000 in
theorem cmpU (a b : Int) (w : World) :
    Calls Try.prog 55 #[.int .u32 a, .int .u32 b] w fun e w' => e = .returned (.int .i64 (sg a b)) ∧ w = w' := by
  have h1 : (a != a) = false := by simp
  have h2 : (b != b) = false := by simp
  rcases Int.lt_trichotomy a b with h | h | h
  · have e : sg a b = -1 := by unfold sg; rw [if_pos h]
    have E := Lib.hid e
    clear e
    go_enter Try.func55, Try.ntmps55
    go_wp2
    go_ret
    exact ⟨by rw [E.out]; rfl, rfl⟩
  · subst h
    have e : sg a a = 0 := by unfold sg; rw [if_neg (by omega), if_neg (by omega)]
    have E := Lib.hid e
    clear e
    go_enter Try.func55, Try.ntmps55
    go_wp2
    go_ret
    exact ⟨by rw [E.out]; rfl, rfl⟩
  · have e : sg a b = 1 := by unfold sg; rw [if_neg (by omega), if_pos h]
    have E := Lib.hid e
    clear e
    go_enter Try.func55, Try.ntmps55
    go_wp2
    go_ret
    exact ⟨by rw [E.out]; rfl, rfl⟩

set_option maxHeartbeats 400000 in
theorem cmpI (a b : Int) (w : World) :
    Calls Try.prog 56 #[.int .i64 a, .int .i64 b] w fun e w' => e = .returned (.int .i64 (sg a b)) ∧ w = w' := by
  have h1 : (a != a) = false := by simp
  have h2 : (b != b) = false := by simp
  rcases Int.lt_trichotomy a b with h | h | h
  · have e : sg a b = -1 := by unfold sg; rw [if_pos h]
    have E := Lib.hid e
    clear e
    go_enter Try.func56, Try.ntmps56
    go_wp2
    go_ret
    exact ⟨by rw [E.out]; rfl, rfl⟩
  · subst h
    have e : sg a a = 0 := by unfold sg; rw [if_neg (by omega), if_neg (by omega)]
    have E := Lib.hid e
    clear e
    go_enter Try.func56, Try.ntmps56
    go_wp2
    go_ret
    exact ⟨by rw [E.out]; rfl, rfl⟩
  · have e : sg a b = 1 := by unfold sg; rw [if_neg (by omega), if_pos h]
    have E := Lib.hid e
    clear e
    go_enter Try.func56, Try.ntmps56
    go_wp2
    go_ret
    exact ⟨by rw [E.out]; rfl, rfl⟩

set_option maxHeartbeats 400000 in
theorem or_ok (x y : Int) (b : Nat) (w : World) (h0 : w.cell? ⟨b, 0, none⟩ = some (.int .i64 x)) (h1 : w.cell? ⟨b, 1, none⟩ = some (.int .i64 y)) :
    Calls Try.prog 54 #[.slice (some ⟨b, 0, none⟩) 2 2] w fun e w' => e = .returned (.int .i64 (orz x y)) ∧ w = w' := by
  have hx : x ≠ 0 → orz x y = x := fun h => by unfold orz; rw [if_pos h]
  have hy : x = 0 → orz x y = y := fun h => by unfold orz; rw [if_neg (by omega)]
  have HX := Lib.hid hx
  have HY := Lib.hid hy
  clear hx hy
  go_enter Try.func54, Try.ntmps54
  go_wp2_with fail
  go_loop [5, 8] (fun u i => (i = .int .i64 0) ∨ (i = .int .i64 1 ∧ Hid (x = 0)) ∨ (i = .int .i64 2 ∧ Hid (x = 0) ∧ Hid (y = 0))) (fun _ i => 2 - (intOf i).toNat)
  case atStart => exact .inl rfl
  case round =>
    rcases hrel with rfl | ⟨rfl, hz⟩ | ⟨rfl, hz, hz'⟩
    · by_cases hx0 : x = 0
      · have X0 := Lib.hid hx0
        have hb : (x != 0) = false := by simpa using hx0
        clear hx0
        go_wp2_with fail
        go_round
        case rel => exact .inr (.inl ⟨rfl, X0⟩)
        case measure => simp [intOf]
      · have X0 := Lib.hid hx0
        have hb : (x != 0) = true := by simpa using hx0
        clear hx0
        go_wp2_with fail
        go_ret
        exact ⟨by rw [HX.out X0.out]; rfl, rfl⟩
    · by_cases hy0 : y = 0
      · have Y0 := Lib.hid hy0
        have hb : (y != 0) = false := by simpa using hy0
        clear hy0
        go_wp2_with fail
        go_round
        case rel => exact .inr (.inr ⟨rfl, hz, Y0⟩)
        case measure => simp [intOf]
      · have Y0 := Lib.hid hy0
        have hb : (y != 0) = true := by simpa using hy0
        clear hy0
        go_wp2_with fail
        go_ret
        exact ⟨by rw [HY.out hz.out]; rfl, rfl⟩
    · go_wp2_with fail
      go_ret
      exact ⟨by rw [HY.out hz.out, hz'.out]; rfl, rfl⟩

set_option maxHeartbeats 1000000 in
theorem compare_ok (p q : Pf) (w : World) :
    Calls Try.prog 47 #[.agg #[.int .u32 p.a, .int .i64 p.l], .agg #[.int .u32 q.a, .int .i64 q.l]] w fun e w' => e = .returned (.int .i64 (cmpP p q)) ∧ Below w.heap.size w w' := by
  have H1 := Lib.hid (cmpU p.a q.a)
  have H2 := Lib.hid (cmpI p.l q.l)
  have H3 := Lib.hid (or_ok (sg p.a q.a) (sg p.l q.l))
  go_enter Try.func47, Try.ntmps47
  go_wp2_with fail
  obtain ⟨W, hW⟩ : ∃ W, W = (w.alloc (Obj.cells #[.int .u32 p.a, .int .i64 p.l] 35)).alloc (Obj.cells #[.int .u32 q.a, .int .i64 q.l] 35) := ⟨_, rfl⟩
  have HC : ∀ w2, Below W.heap.size W w2 → w2.cell? ⟨w.heap.size, 0, none⟩ = some (.int .u32 p.a) ∧ w2.cell? ⟨w.heap.size, 1, none⟩ = some (.int .i64 p.l) ∧ w2.cell? ⟨w.heap.size + 1, 0, none⟩ = some (.int .u32 q.a) ∧ w2.cell? ⟨w.heap.size + 1, 1, none⟩ = some (.int .i64 q.l) :=
    fun w2 h => ⟨bcell h (by rw [hW]; simp), bcell h (by rw [hW]; simp), bcell h (by rw [hW]; simp), bcell h (by rw [hW]; simp)⟩
  have hB : Below w.heap.size w W := by rw [hW]; exact ((Below.refl _ _).alloc (Nat.le_refl _) _).alloc (by simp) _
  rw [← hW]
  clear hW
  refine Og.walk_lit [[],[0],[],[2],[1,3,0,2],[],[5],[],[7],[6,8,4,5,7,1,3,0,2],[4,9,1,3,0,2,6,8,5,7],[10,9,4,1,3,0,2,6,8,5,7],[11,0,1,2,3,4,5,6,7,8,9,10]] (fun w2 => Below W.heap.size W w2) (fun w1 w2 => Below w1.heap.size w1 w2) (by kernel_rfl) (by kernel_rfl) (bdrew) ?_
  iterate 4 (refine Og.step_pure (fun _ => Below.refl _ _) ?_; apply Exists.intro; refine And.intro ?_ ?_; focus (intro vs w2 hC hk; have hm := HC w2 hC; revert hk; simp only [Og.KS, Og.K0, Og.Is, List.getD_cons_zero, List.getD_cons_succ, List.getD_nil, List.contains_cons, List.contains_nil, Nat.reduceAdd, Nat.reduceBEq, Bool.or_false, Bool.false_or, Bool.or_true, Bool.true_or, Bool.false_eq_true, false_implies, true_implies, true_and, and_true, forall_const]; intros; go_simp; rfl))
  (refine Og.step_pure (fun _ => Below.refl _ _) ?_; apply Exists.intro; refine And.intro ?_ ?_; focus (intro vs w2 hC hk; have hm := HC w2 hC; revert hk; simp only [Og.KS, Og.K0, Og.Is, List.getD_cons_zero, List.getD_cons_succ, List.getD_nil, List.contains_cons, List.contains_nil, Nat.reduceAdd, Nat.reduceBEq, Bool.or_false, Bool.false_or, Bool.or_true, Bool.true_or, Bool.false_eq_true, false_implies, true_implies, true_and, and_true, forall_const]; intros; go_simp; with_reducible refine (H1.out _).mono ?_; rintro e w3 ⟨rfl, rfl⟩; exact Og.RetV.mk ⟨rfl, rfl⟩))
  iterate 4 (refine Og.step_pure (fun _ => Below.refl _ _) ?_; apply Exists.intro; refine And.intro ?_ ?_; focus (intro vs w2 hC hk; have hm := HC w2 hC; revert hk; simp only [Og.KS, Og.K0, Og.Is, List.getD_cons_zero, List.getD_cons_succ, List.getD_nil, List.contains_cons, List.contains_nil, Nat.reduceAdd, Nat.reduceBEq, Bool.or_false, Bool.false_or, Bool.or_true, Bool.true_or, Bool.false_eq_true, false_implies, true_implies, true_and, and_true, forall_const]; intros; go_simp; rfl))
  (refine Og.step_pure (fun _ => Below.refl _ _) ?_; apply Exists.intro; refine And.intro ?_ ?_; focus (intro vs w2 hC hk; have hm := HC w2 hC; revert hk; simp only [Og.KS, Og.K0, Og.Is, List.getD_cons_zero, List.getD_cons_succ, List.getD_nil, List.contains_cons, List.contains_nil, Nat.reduceAdd, Nat.reduceBEq, Bool.or_false, Bool.false_or, Bool.or_true, Bool.true_or, Bool.false_eq_true, false_implies, true_implies, true_and, and_true, forall_const]; intros; go_simp; with_reducible refine (H2.out _).mono ?_; rintro e w3 ⟨rfl, rfl⟩; exact Og.RetV.mk ⟨rfl, rfl⟩))
  refine Og.step_any (fun v w2 => ∃ c, v = .slice (some ⟨c, 0, none⟩) 2 2 ∧ w2.cell? ⟨c, 0, none⟩ = some (.int .i64 (sg p.a q.a)) ∧ w2.cell? ⟨c, 1, none⟩ = some (.int .i64 (sg p.l q.l))) ?_ ?_ ?_
  · rintro v w1 w2 hb ⟨c, rfl, h0, h1⟩
    exact ⟨c, rfl, bcell hb h0, bcell hb h1⟩
  · intro vs w2 hC hk
    revert hk
    simp only [Og.KS, Og.K0, Og.Is, List.getD_cons_zero, List.getD_cons_succ, List.getD_nil, List.contains_cons, List.contains_nil, Nat.reduceAdd, Nat.reduceBEq, Bool.or_false, Bool.false_or, Bool.or_true, Bool.true_or, Bool.false_eq_true, false_implies, true_implies, true_and, and_true, forall_const]
    intros
    go_simp
    exact ⟨bthen hC ((Below.refl _ _).alloc (Nat.le_refl _) _), (Below.refl _ _).alloc (Nat.le_refl _) _⟩
  refine Og.step_one ?_
  apply Exists.intro
  refine And.intro ?_ ?_
  · intro vs w2 hC hk
    simp only [Og.KS, Og.K0, Og.Is, List.getD_cons_zero, List.getD_cons_succ, List.getD_nil, List.contains_cons, List.contains_nil, Nat.reduceAdd, Nat.reduceBEq, Bool.or_false, Bool.false_or, Bool.or_true, Bool.true_or, Bool.false_eq_true, false_implies, true_implies, true_and, and_true, forall_const] at hk
    obtain ⟨⟨c, hv, h0, h1⟩, hk'⟩ := hk
    clear hk'
    go_simp
    refine (H3.out c w2 h0 h1).mono ?_
    rintro e w3 ⟨rfl, rfl⟩
    exact Og.RetV.mk ⟨hC, Below.refl _ _, rfl⟩
  (refine Og.step_pure (fun _ => Below.refl _ _) ?_; apply Exists.intro; refine And.intro ?_ ?_; focus (intro vs w2 hC hk; have hm := HC w2 hC; revert hk; simp only [Og.KS, Og.K0, Og.Is, List.getD_cons_zero, List.getD_cons_succ, List.getD_nil, List.contains_cons, List.contains_nil, Nat.reduceAdd, Nat.reduceBEq, Bool.or_false, Bool.false_or, Bool.or_true, Bool.true_or, Bool.false_eq_true, false_implies, true_implies, true_and, and_true, forall_const]; intros; go_simp; rfl))
  intro vs w2 hC hk
  have hm := HC w2 hC
  simp only [Og.KS, Og.K0, Og.Is, List.getD_cons_zero, List.getD_cons_succ, List.getD_nil, List.contains_cons, List.contains_nil, Nat.reduceAdd, Nat.reduceBEq, Bool.or_false, Bool.false_or, Bool.or_true, Bool.true_or, Bool.false_eq_true, false_implies, true_implies, true_and, and_true, forall_const] at hk
  simp only [hk, Act.put, List.setIfInBounds_toArray, List.set_cons_zero, List.set_cons_succ]
  clear hk
  trace_state
  go_wp2_with fail
  go_ret
  exact ⟨rfl, bthen' hB hB.size hC⟩

set_option maxHeartbeats 400000 in
theorem before_ok (p q : Pf) (w : World) :
    Calls Try.prog 26 #[.agg #[.int .u32 p.a, .int .i64 p.l], .agg #[.int .u32 q.a, .int .i64 q.l]] w fun e w' => e = .returned (.bool (befP p q)) ∧ Below w.heap.size w w' := by
  have H := Lib.hid (compare_ok p q)
  have E := Lib.hid (cmpP_neg p q)
  go_enter Try.func26, Try.ntmps26
  go_wp2_with fail
  refine (H.out _).mono ?_
  rintro e w' ⟨rfl, hb⟩
  go_wp2_with fail
  go_ret
  exact ⟨by rw [← E.out]; rfl, bthen' (by repeat (first | exact Below.refl _ _ | refine Below.alloc ?_ (by first | exact Nat.le_refl _ | (simp; done) | (simp; omega)) _)) (by first | (simp; done) | (simp; omega)) hb⟩

end Go.Proofs.Ytpnhkniegjfncaa
