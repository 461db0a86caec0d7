/- The reference's soundness of tables is the program's; conditions: the addresses are uint32, at most 2^50 routes. -/
import Derived.Test.YtpnhkniegjfncaaD4
namespace Go.Proofs.Ytpnhkniegjfncaa
open Go.ChangeShapes Go.WideShapes Go.ChangeAt Go.RowKit
set_option linter.unusedVariables false
set_option linter.unusedSimpArgs false
attribute [local go_sem] Og.Opt Og.OpY
attribute [local go_sem high] eqB1 eqP1 eqR1 eqC1

set_option maxHeartbeats 400000 in
theorem rbefore_ok (p q : Pf) (w : World) :
    Calls Try.prog 31 #[.agg #[.int .u32 p.a, .int .i64 p.l], .agg #[.int .u32 q.a, .int .i64 q.l]] w fun e w' => e = .returned (.bool (befP p q)) ∧ Below w.heap.size w w' := by
  have H := Lib.hid (ahead_ok p q)
  go_enter Try.func31, Try.ntmps31
  go_wp2_with fail
  refine (H.out _).mono ?_
  rintro e w' ⟨rfl, hb⟩
  go_wp2_with fail
  go_ret
  exact ⟨rfl, bthen' (by repeat (first | exact Below.refl _ _ | refine Below.alloc ?_ (by first | exact Nat.le_refl _ | (simp; done) | (simp; omega)) _)) (by first | (simp; done) | (simp; omega)) hb⟩

set_option maxRecDepth 100000 in
set_option maxHeartbeats 4000000 in
theorem rSound_ok (xs : List Ro) (A : Option Addr) (c : Nat) (w : World) (hr : RdR w A xs) (hl : xs.length ≤ 1125899906842624) (hf : ∀ (i : Nat) r, xs[i]? = some r → FitR r) :
    Calls Try.prog 14 #[.slice A xs.length c] w fun e w' => e = .returned (.int .i64 (errT (sndT xs))) ∧ Below w.heap.size w w' := by
  obtain ⟨n, hn⟩ : ∃ n, n = xs.length := ⟨_, rfl⟩
  rw [← hn] at hl
  have HN := Lib.hid hn
  have HR := Lib.hid hr
  have HF := Lib.hid hf
  rw [← hn]
  clear hn hr hf
  go_enter Try.func14, Try.ntmps14
  go_wp2_with fail
  go_loopw [3] (fun i wr => ∃ k : Nat, k ≤ n ∧ i = .int .i64 k ∧ Hid (∀ j, j < k → okI xs j = true) ∧ Hid (Below w.heap.size w wr)) (fun i _ => n - (intOf i).toNat)
  case atStart => exact ⟨0, Nat.zero_le _, rfl, Lib.hid (fun j hj => by omega), Lib.hid (Below.refl _ _)⟩
  case round =>
    obtain ⟨k, hk, rfl, hall, hbw⟩ := hrel
    by_cases hlt : k < n
    · obtain ⟨r, hx⟩ : ∃ r, xs[k]? = some r := ⟨_, List.getElem?_eq_getElem (by rw [← HN.out]; exact hlt)⟩
      obtain ⟨b, o, rfl, ha⟩ := (HR.out.below hbw.out) k r hx
      have HX := Lib.hid hx
      have hFr := HF.out k r hx
      have HFr := Lib.hid hFr
      obtain ⟨c0, c1, c2, c3, c4, c5, c6⟩ := ha
      have hwk : IntKind.i64.wrap (k : Int) = k := wrapk (by omega)
      have hk0 : (0 : Int) ≤ (k : Int) := by omega
      have hkn : (k : Int) < (n : Int) := by omega
      clear hx hFr
      cases h1 : rouB r with
      | false =>
        have H1 : Hid (∀ w, Calls Try.prog 30 #[.agg #[.int .u32 r.p.a, .int .i64 r.p.l, .int .i64 r.m, .int .u64 r.o0, .int .u64 r.o1, .int .u64 r.h0, .int .u64 r.h1]] w fun e w' => e = .returned (.bool false) ∧ Below w.heap.size w w') := Lib.hid (fun w => by have := rou_ok r w HFr.out; rwa [h1] at this)
        have e : errT (sndT xs) = 1 := by
          rw [sndT_false (i := k) (by rw [← HN.out]; exact hlt) (by unfold okI; rw [HX.out]; simp [h1])]; rfl
        have E := Lib.hid e
        clear e h1
        have HC : ∀ w2, Below wr.heap.size wr w2 → w2.cell? ⟨b, o + k * 7, none⟩ = some (.int .u32 r.p.a) ∧ w2.cell? ⟨b, o + k * 7 + 1, none⟩ = some (.int .i64 r.p.l) ∧ w2.cell? ⟨b, o + k * 7 + 2, none⟩ = some (.int .i64 r.m) ∧ w2.cell? ⟨b, o + k * 7 + 3, none⟩ = some (.int .u64 r.o0) ∧ w2.cell? ⟨b, o + k * 7 + 4, none⟩ = some (.int .u64 r.o1) ∧ w2.cell? ⟨b, o + k * 7 + 5, none⟩ = some (.int .u64 r.h0) ∧ w2.cell? ⟨b, o + k * 7 + 6, none⟩ = some (.int .u64 r.h1) :=
          fun w2 h => ⟨bcell h c0, bcell h c1, bcell h c2, bcell h c3, bcell h c4, bcell h c5, bcell h c6⟩
        clear c0 c1 c2 c3 c4 c5 c6
        go_wp2_with fail
        refine Og.walk_lit [[],[],[0,1],[2,0,1],[3,2,0,1],[4,3,2,0,1],[5,4,3,2,0,1],[6,5,4,3,2,0,1],[7,6,5,4,3,2,0,1],[8,6,7,5,4,3,2,0,1],[9,8,6,7,5,4,3,2,0,1],[9,8,6,7,5,4,3,2,0,1],[11,9,8,6,7,5,4,3,2,0,1],[10,12,9,8,6,7,5,4,3,2,0,1,11],[13,9,10,12,8,6,7,5,4,3,2,0,1,11],[14,9,13,10,12,8,6,7,5,4,3,2,0,1,11],[9,8,6,7,5,4,3,2,0,1],[9,8,6,7,5,4,3,2,0,1],[16,17,9,8,6,7,5,4,3,2,0,1],[18,9,16,17,8,6,7,5,4,3,2,0,1],[19,9,18,16,17,8,6,7,5,4,3,2,0,1],[15,20,9,14,13,10,12,8,6,7,5,4,3,2,0,1,11,19,18,16,17],[21,9,15,20,14,13,10,12,8,6,7,5,4,3,2,0,1,11,19,18,16,17],[9,22,6,8,7,5,4,3,2,0,1,21,15,20,14,13,10,12,11,19,18,16,17],[6,23,5,4,3,2,0,1,9,22,8,7,21,15,20,14,13,10,12,11,19,18,16,17]] (fun w2 => Below wr.heap.size wr w2) (fun w1 w2 => Below w1.heap.size w1 w2) (by kernel_rfl) (by kernel_rfl) (bdrew) ?_
        repeat (first | (refine Og.step_pure (fun _ => Below.refl _ _) ?_; apply Exists.intro; refine And.intro ?_ ?_; focus (intro vs w2 hC hk; have hm := HC w2 hC; revert hk; simp only [Og.KS, Og.K0, Og.Is, List.getD_cons_zero, List.getD_cons_succ, List.getD_nil, List.contains_cons, List.contains_nil, Nat.reduceAdd, Nat.reduceBEq, Bool.or_false, Bool.false_or, Bool.or_true, Bool.true_or, Bool.false_eq_true, false_implies, true_implies, true_and, and_true, forall_const]; intros; go_simp; rfl)) | (refine Og.step_one ?_; apply Exists.intro; refine And.intro ?_ ?_; focus (intro vs w2 hC hk; have hm := HC w2 hC; revert hk; simp only [Og.KS, Og.K0, Og.Is, List.getD_cons_zero, List.getD_cons_succ, List.getD_nil, List.contains_cons, List.contains_nil, Nat.reduceAdd, Nat.reduceBEq, Bool.or_false, Bool.false_or, Bool.or_true, Bool.true_or, Bool.false_eq_true, false_implies, true_implies, true_and, and_true, forall_const]; intros; go_simp; with_reducible refine (H1.out _).mono ?_; rintro e w3 ⟨rfl, hb⟩; exact Og.RetV.mk ⟨bthen hC hb, hb, rfl⟩)))
        intro vs w2 hC hk
        have hm := HC w2 hC
        simp only [Og.KS, Og.K0, Og.Is, List.getD_cons_zero, List.getD_cons_succ, List.getD_nil, List.contains_cons, List.contains_nil, Nat.reduceAdd, Nat.reduceBEq, Bool.or_false, Bool.false_or, Bool.or_true, Bool.true_or, Bool.false_eq_true, false_implies, true_implies, true_and, and_true, forall_const] at hk
        simp only [hk, Act.put, List.setIfInBounds_toArray, List.set_cons_zero, List.set_cons_succ]
        clear hk
        have HB2 := Lib.hid (bthen' hbw.out hbw.out.size hC)
        clear hC hm HC hbw
        go_wp2_with fail
        go_ret
        exact ⟨by rw [E.out]; rfl, HB2.out⟩
      | true =>
        have H1 : Hid (∀ w, Calls Try.prog 30 #[.agg #[.int .u32 r.p.a, .int .i64 r.p.l, .int .i64 r.m, .int .u64 r.o0, .int .u64 r.o1, .int .u64 r.h0, .int .u64 r.h1]] w fun e w' => e = .returned (.bool true) ∧ Below w.heap.size w w') := Lib.hid (fun w => by have := rou_ok r w HFr.out; rwa [h1] at this)
        rcases k with _ | k
        · have N : Hid (Hid (∀ j, j < 0 + 1 → okI xs j = true)) := Lib.hid (Lib.hid (fun j hj => by
            obtain rfl : j = 0 := by omega
            unfold okI; rw [HX.out]; simp [h1]))
          clear h1 hwk hk0
          simp only [Nat.zero_mul, Nat.add_zero] at c0 c1 c2 c3 c4 c5 c6
          have HC : ∀ w2, Below wr.heap.size wr w2 → w2.cell? ⟨b, o, none⟩ = some (.int .u32 r.p.a) ∧ w2.cell? ⟨b, o + 1, none⟩ = some (.int .i64 r.p.l) ∧ w2.cell? ⟨b, o + 2, none⟩ = some (.int .i64 r.m) ∧ w2.cell? ⟨b, o + 3, none⟩ = some (.int .u64 r.o0) ∧ w2.cell? ⟨b, o + 4, none⟩ = some (.int .u64 r.o1) ∧ w2.cell? ⟨b, o + 5, none⟩ = some (.int .u64 r.h0) ∧ w2.cell? ⟨b, o + 6, none⟩ = some (.int .u64 r.h1) :=
            fun w2 h => ⟨bcell h c0, bcell h c1, bcell h c2, bcell h c3, bcell h c4, bcell h c5, bcell h c6⟩
          clear c0 c1 c2 c3 c4 c5 c6
          go_wp2_with fail
          refine Og.walk_lit [[],[],[0,1],[2,0,1],[3,2,0,1],[4,3,2,0,1],[5,4,3,2,0,1],[6,5,4,3,2,0,1],[7,6,5,4,3,2,0,1],[8,6,7,5,4,3,2,0,1],[9,8,6,7,5,4,3,2,0,1],[9,8,6,7,5,4,3,2,0,1],[11,9,8,6,7,5,4,3,2,0,1],[10,12,9,8,6,7,5,4,3,2,0,1,11],[13,9,10,12,8,6,7,5,4,3,2,0,1,11],[14,9,13,10,12,8,6,7,5,4,3,2,0,1,11],[9,8,6,7,5,4,3,2,0,1],[9,8,6,7,5,4,3,2,0,1],[16,17,9,8,6,7,5,4,3,2,0,1],[18,9,16,17,8,6,7,5,4,3,2,0,1],[19,9,18,16,17,8,6,7,5,4,3,2,0,1],[15,20,9,14,13,10,12,8,6,7,5,4,3,2,0,1,11,19,18,16,17],[21,9,15,20,14,13,10,12,8,6,7,5,4,3,2,0,1,11,19,18,16,17],[9,22,6,8,7,5,4,3,2,0,1,21,15,20,14,13,10,12,11,19,18,16,17],[6,23,5,4,3,2,0,1,9,22,8,7,21,15,20,14,13,10,12,11,19,18,16,17]] (fun w2 => Below wr.heap.size wr w2) (fun w1 w2 => Below w1.heap.size w1 w2) (by kernel_rfl) (by kernel_rfl) (bdrew) ?_
          repeat (first | (refine Og.step_pure (fun _ => Below.refl _ _) ?_; apply Exists.intro; refine And.intro ?_ ?_; focus (intro vs w2 hC hk; have hm := HC w2 hC; revert hk; simp only [Og.KS, Og.K0, Og.Is, List.getD_cons_zero, List.getD_cons_succ, List.getD_nil, List.contains_cons, List.contains_nil, Nat.reduceAdd, Nat.reduceBEq, Bool.or_false, Bool.false_or, Bool.or_true, Bool.true_or, Bool.false_eq_true, false_implies, true_implies, true_and, and_true, forall_const]; intros; go_simp; rfl)) | (refine Og.step_one ?_; apply Exists.intro; refine And.intro ?_ ?_; focus (intro vs w2 hC hk; have hm := HC w2 hC; revert hk; simp only [Og.KS, Og.K0, Og.Is, List.getD_cons_zero, List.getD_cons_succ, List.getD_nil, List.contains_cons, List.contains_nil, Nat.reduceAdd, Nat.reduceBEq, Bool.or_false, Bool.false_or, Bool.or_true, Bool.true_or, Bool.false_eq_true, false_implies, true_implies, true_and, and_true, forall_const]; intros; go_simp; with_reducible refine (H1.out _).mono ?_; rintro e w3 ⟨rfl, hb⟩; exact Og.RetV.mk ⟨bthen hC hb, hb, rfl⟩)))
          intro vs w2 hC hk
          have hm := HC w2 hC
          simp only [Og.KS, Og.K0, Og.Is, List.getD_cons_zero, List.getD_cons_succ, List.getD_nil, List.contains_cons, List.contains_nil, Nat.reduceAdd, Nat.reduceBEq, Bool.or_false, Bool.false_or, Bool.or_true, Bool.true_or, Bool.false_eq_true, false_implies, true_implies, true_and, and_true, forall_const] at hk
          simp only [hk, Act.put, List.setIfInBounds_toArray, List.set_cons_zero, List.set_cons_succ]
          clear hk
          have HB2 := Lib.hid (bthen' hbw.out hbw.out.size hC)
          clear hC hm HC hbw
          go_wp2_with fail
          go_roundw
          case rel => exact ⟨0 + 1, by omega, by go_num, N.out, HB2⟩
          case measure => simp [intOf]; omega
        · obtain ⟨r', hx'⟩ : ∃ r', xs[k]? = some r' := ⟨_, List.getElem?_eq_getElem (by rw [← HN.out]; omega)⟩
          obtain ⟨b', o', hA', ha'⟩ := (HR.out.below hbw.out) k r' hx'
          injection hA' with hA'
          injection hA' with hb' ho' _
          subst hb' ho'
          obtain ⟨d0, d1, d2, d3, d4, d5, d6⟩ := ha'
          have HX' := Lib.hid hx'
          clear hx' hwk hk0 hkn
          have hwk : IntKind.i64.wrap (k : Int) = k := wrapk (by omega)
          have hk0 : (0 : Int) ≤ (k : Int) := by omega
          have hk1 : (0 : Int) ≤ (k : Int) + 1 := by omega
          have hkn : (k : Int) < (n : Int) := by omega
          have hkn1 : (k : Int) + 1 < (n : Int) := by omega
          cases h2 : befP r'.p r.p with
          | false =>
            have H2 : Hid (∀ w, Calls Try.prog 31 #[.agg #[.int .u32 r'.p.a, .int .i64 r'.p.l], .agg #[.int .u32 r.p.a, .int .i64 r.p.l]] w fun e w' => e = .returned (.bool false) ∧ Below w.heap.size w w') := Lib.hid (fun w => by have := rbefore_ok r'.p r.p w; rwa [h2] at this)
            have e : errT (sndT xs) = 1 := by
              rw [sndT_false (i := k + 1) (by rw [← HN.out]; exact hlt) (by unfold okI; rw [HX.out]; simp [h1, HX'.out, h2])]; rfl
            have E := Lib.hid e
            clear e h1 h2
            have HC : ∀ w2, Below wr.heap.size wr w2 → w2.cell? ⟨b, o + (k + 1) * 7, none⟩ = some (.int .u32 r.p.a) ∧ w2.cell? ⟨b, o + (k + 1) * 7 + 1, none⟩ = some (.int .i64 r.p.l) ∧ w2.cell? ⟨b, o + (k + 1) * 7 + 2, none⟩ = some (.int .i64 r.m) ∧ w2.cell? ⟨b, o + (k + 1) * 7 + 3, none⟩ = some (.int .u64 r.o0) ∧ w2.cell? ⟨b, o + (k + 1) * 7 + 4, none⟩ = some (.int .u64 r.o1) ∧ w2.cell? ⟨b, o + (k + 1) * 7 + 5, none⟩ = some (.int .u64 r.h0) ∧ w2.cell? ⟨b, o + (k + 1) * 7 + 6, none⟩ = some (.int .u64 r.h1) ∧ w2.cell? ⟨b, o + k * 7, none⟩ = some (.int .u32 r'.p.a) ∧ w2.cell? ⟨b, o + k * 7 + 1, none⟩ = some (.int .i64 r'.p.l) :=
              fun w2 h => ⟨bcell h c0, bcell h c1, bcell h c2, bcell h c3, bcell h c4, bcell h c5, bcell h c6, bcell h d0, bcell h d1⟩
            clear c0 c1 c2 c3 c4 c5 c6
            go_wp2_with fail
            refine Og.walk_lit [[],[],[0,1],[2,0,1],[3,2,0,1],[4,3,2,0,1],[5,4,3,2,0,1],[6,5,4,3,2,0,1],[7,6,5,4,3,2,0,1],[8,6,7,5,4,3,2,0,1],[9,8,6,7,5,4,3,2,0,1],[9,8,6,7,5,4,3,2,0,1],[11,9,8,6,7,5,4,3,2,0,1],[10,12,9,8,6,7,5,4,3,2,0,1,11],[13,9,10,12,8,6,7,5,4,3,2,0,1,11],[14,9,13,10,12,8,6,7,5,4,3,2,0,1,11],[9,8,6,7,5,4,3,2,0,1],[9,8,6,7,5,4,3,2,0,1],[16,17,9,8,6,7,5,4,3,2,0,1],[18,9,16,17,8,6,7,5,4,3,2,0,1],[19,9,18,16,17,8,6,7,5,4,3,2,0,1],[15,20,9,14,13,10,12,8,6,7,5,4,3,2,0,1,11,19,18,16,17],[21,9,15,20,14,13,10,12,8,6,7,5,4,3,2,0,1,11,19,18,16,17],[9,22,6,8,7,5,4,3,2,0,1,21,15,20,14,13,10,12,11,19,18,16,17],[6,23,5,4,3,2,0,1,9,22,8,7,21,15,20,14,13,10,12,11,19,18,16,17]] (fun w2 => Below wr.heap.size wr w2) (fun w1 w2 => Below w1.heap.size w1 w2) (by kernel_rfl) (by kernel_rfl) (bdrew) ?_
            repeat (first | (refine Og.step_pure (fun _ => Below.refl _ _) ?_; apply Exists.intro; refine And.intro ?_ ?_; focus (intro vs w2 hC hk; have hm := HC w2 hC; revert hk; simp only [Og.KS, Og.K0, Og.Is, List.getD_cons_zero, List.getD_cons_succ, List.getD_nil, List.contains_cons, List.contains_nil, Nat.reduceAdd, Nat.reduceBEq, Bool.or_false, Bool.false_or, Bool.or_true, Bool.true_or, Bool.false_eq_true, false_implies, true_implies, true_and, and_true, forall_const]; intros; go_simp; rfl)) | (refine Og.step_one ?_; apply Exists.intro; refine And.intro ?_ ?_; focus (intro vs w2 hC hk; have hm := HC w2 hC; revert hk; simp only [Og.KS, Og.K0, Og.Is, List.getD_cons_zero, List.getD_cons_succ, List.getD_nil, List.contains_cons, List.contains_nil, Nat.reduceAdd, Nat.reduceBEq, Bool.or_false, Bool.false_or, Bool.or_true, Bool.true_or, Bool.false_eq_true, false_implies, true_implies, true_and, and_true, forall_const]; intros; go_simp; with_reducible refine (H1.out _).mono ?_; rintro e w3 ⟨rfl, hb⟩; exact Og.RetV.mk ⟨bthen hC hb, hb, rfl⟩)) | (refine Og.step_one ?_; apply Exists.intro; refine And.intro ?_ ?_; focus (intro vs w2 hC hk; have hm := HC w2 hC; revert hk; simp only [Og.KS, Og.K0, Og.Is, List.getD_cons_zero, List.getD_cons_succ, List.getD_nil, List.contains_cons, List.contains_nil, Nat.reduceAdd, Nat.reduceBEq, Bool.or_false, Bool.false_or, Bool.or_true, Bool.true_or, Bool.false_eq_true, false_implies, true_implies, true_and, and_true, forall_const]; intros; go_simp; with_reducible refine (H2.out _).mono ?_; rintro e w3 ⟨rfl, hb⟩; exact Og.RetV.mk ⟨bthen hC hb, hb, rfl⟩)))
            intro vs w2 hC hk
            have hm := HC w2 hC
            simp only [Og.KS, Og.K0, Og.Is, List.getD_cons_zero, List.getD_cons_succ, List.getD_nil, List.contains_cons, List.contains_nil, Nat.reduceAdd, Nat.reduceBEq, Bool.or_false, Bool.false_or, Bool.or_true, Bool.true_or, Bool.false_eq_true, false_implies, true_implies, true_and, and_true, forall_const] at hk
            simp only [hk, Act.put, List.setIfInBounds_toArray, List.set_cons_zero, List.set_cons_succ]
            clear hk
            have HB2 := Lib.hid (bthen' hbw.out hbw.out.size hC)
            clear hC hm HC hbw
            go_wp2_with fail
            go_ret
            exact ⟨by rw [E.out]; rfl, HB2.out⟩
          | true =>
            have H2 : Hid (∀ w, Calls Try.prog 31 #[.agg #[.int .u32 r'.p.a, .int .i64 r'.p.l], .agg #[.int .u32 r.p.a, .int .i64 r.p.l]] w fun e w' => e = .returned (.bool true) ∧ Below w.heap.size w w') := Lib.hid (fun w => by have := rbefore_ok r'.p r.p w; rwa [h2] at this)
            have N : Hid (Hid (∀ j, j < k + 1 + 1 → okI xs j = true)) := Lib.hid (Lib.hid (fun j hj => by
              by_cases hjk : j = k + 1
              · subst hjk; unfold okI; rw [HX.out]; simp [h1, HX'.out, h2]
              · exact hall.out j (by omega)))
            clear h1 h2
            have HC : ∀ w2, Below wr.heap.size wr w2 → w2.cell? ⟨b, o + (k + 1) * 7, none⟩ = some (.int .u32 r.p.a) ∧ w2.cell? ⟨b, o + (k + 1) * 7 + 1, none⟩ = some (.int .i64 r.p.l) ∧ w2.cell? ⟨b, o + (k + 1) * 7 + 2, none⟩ = some (.int .i64 r.m) ∧ w2.cell? ⟨b, o + (k + 1) * 7 + 3, none⟩ = some (.int .u64 r.o0) ∧ w2.cell? ⟨b, o + (k + 1) * 7 + 4, none⟩ = some (.int .u64 r.o1) ∧ w2.cell? ⟨b, o + (k + 1) * 7 + 5, none⟩ = some (.int .u64 r.h0) ∧ w2.cell? ⟨b, o + (k + 1) * 7 + 6, none⟩ = some (.int .u64 r.h1) ∧ w2.cell? ⟨b, o + k * 7, none⟩ = some (.int .u32 r'.p.a) ∧ w2.cell? ⟨b, o + k * 7 + 1, none⟩ = some (.int .i64 r'.p.l) :=
              fun w2 h => ⟨bcell h c0, bcell h c1, bcell h c2, bcell h c3, bcell h c4, bcell h c5, bcell h c6, bcell h d0, bcell h d1⟩
            clear c0 c1 c2 c3 c4 c5 c6
            go_wp2_with fail
            refine Og.walk_lit [[],[],[0,1],[2,0,1],[3,2,0,1],[4,3,2,0,1],[5,4,3,2,0,1],[6,5,4,3,2,0,1],[7,6,5,4,3,2,0,1],[8,6,7,5,4,3,2,0,1],[9,8,6,7,5,4,3,2,0,1],[9,8,6,7,5,4,3,2,0,1],[11,9,8,6,7,5,4,3,2,0,1],[10,12,9,8,6,7,5,4,3,2,0,1,11],[13,9,10,12,8,6,7,5,4,3,2,0,1,11],[14,9,13,10,12,8,6,7,5,4,3,2,0,1,11],[9,8,6,7,5,4,3,2,0,1],[9,8,6,7,5,4,3,2,0,1],[16,17,9,8,6,7,5,4,3,2,0,1],[18,9,16,17,8,6,7,5,4,3,2,0,1],[19,9,18,16,17,8,6,7,5,4,3,2,0,1],[15,20,9,14,13,10,12,8,6,7,5,4,3,2,0,1,11,19,18,16,17],[21,9,15,20,14,13,10,12,8,6,7,5,4,3,2,0,1,11,19,18,16,17],[9,22,6,8,7,5,4,3,2,0,1,21,15,20,14,13,10,12,11,19,18,16,17],[6,23,5,4,3,2,0,1,9,22,8,7,21,15,20,14,13,10,12,11,19,18,16,17]] (fun w2 => Below wr.heap.size wr w2) (fun w1 w2 => Below w1.heap.size w1 w2) (by kernel_rfl) (by kernel_rfl) (bdrew) ?_
            repeat (first | (refine Og.step_pure (fun _ => Below.refl _ _) ?_; apply Exists.intro; refine And.intro ?_ ?_; focus (intro vs w2 hC hk; have hm := HC w2 hC; revert hk; simp only [Og.KS, Og.K0, Og.Is, List.getD_cons_zero, List.getD_cons_succ, List.getD_nil, List.contains_cons, List.contains_nil, Nat.reduceAdd, Nat.reduceBEq, Bool.or_false, Bool.false_or, Bool.or_true, Bool.true_or, Bool.false_eq_true, false_implies, true_implies, true_and, and_true, forall_const]; intros; go_simp; rfl)) | (refine Og.step_one ?_; apply Exists.intro; refine And.intro ?_ ?_; focus (intro vs w2 hC hk; have hm := HC w2 hC; revert hk; simp only [Og.KS, Og.K0, Og.Is, List.getD_cons_zero, List.getD_cons_succ, List.getD_nil, List.contains_cons, List.contains_nil, Nat.reduceAdd, Nat.reduceBEq, Bool.or_false, Bool.false_or, Bool.or_true, Bool.true_or, Bool.false_eq_true, false_implies, true_implies, true_and, and_true, forall_const]; intros; go_simp; with_reducible refine (H1.out _).mono ?_; rintro e w3 ⟨rfl, hb⟩; exact Og.RetV.mk ⟨bthen hC hb, hb, rfl⟩)) | (refine Og.step_one ?_; apply Exists.intro; refine And.intro ?_ ?_; focus (intro vs w2 hC hk; have hm := HC w2 hC; revert hk; simp only [Og.KS, Og.K0, Og.Is, List.getD_cons_zero, List.getD_cons_succ, List.getD_nil, List.contains_cons, List.contains_nil, Nat.reduceAdd, Nat.reduceBEq, Bool.or_false, Bool.false_or, Bool.or_true, Bool.true_or, Bool.false_eq_true, false_implies, true_implies, true_and, and_true, forall_const]; intros; go_simp; with_reducible refine (H2.out _).mono ?_; rintro e w3 ⟨rfl, hb⟩; exact Og.RetV.mk ⟨bthen hC hb, hb, rfl⟩)))
            intro vs w2 hC hk
            have hm := HC w2 hC
            simp only [Og.KS, Og.K0, Og.Is, List.getD_cons_zero, List.getD_cons_succ, List.getD_nil, List.contains_cons, List.contains_nil, Nat.reduceAdd, Nat.reduceBEq, Bool.or_false, Bool.false_or, Bool.or_true, Bool.true_or, Bool.false_eq_true, false_implies, true_implies, true_and, and_true, forall_const] at hk
            simp only [hk, Act.put, List.setIfInBounds_toArray, List.set_cons_zero, List.set_cons_succ]
            clear hk
            have HB2 := Lib.hid (bthen' hbw.out hbw.out.size hC)
            clear hC hm HC hbw
            go_wp2_with fail
            go_roundw
            case rel => exact ⟨k + 1 + 1, by omega, by go_num, N.out, HB2⟩
            case measure => simp [intOf]; omega
    · have hkn : k = n := by omega
      subst hkn
      have e : errT (sndT xs) = 0 := by rw [sndT_true (fun i hi => hall.out i (by rw [HN.out]; exact hi))]; rfl
      have E := Lib.hid e
      clear e
      go_wp2_with fail
      go_ret
      exact ⟨by rw [E.out]; rfl, hbw.out⟩

end Go.Proofs.Ytpnhkniegjfncaa
