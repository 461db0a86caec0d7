/- slices.BinarySearchFunc over routes with delta.Apply's comparison. -/
import Derived.Test.YtpnhkniegjfncaaD35
namespace Go.Proofs.Ytpnhkniegjfncaa
open Go.ChangeShapes Go.WideShapes Go.ChangeAt Go.RowKit
set_option linter.unusedVariables false
set_option linter.unusedSimpArgs false
attribute [local go_sem] Og.Opt Og.OpY

/-- k routes of the list are before p, and these are the first ones -/
def Cut (xs : List Ro) (p : Pf) (k : Nat) : Prop := k ≤ xs.length ∧ (∀ i r, xs[i]? = some r → i < k → befP r.p p = true) ∧ (∀ i r, xs[i]? = some r → k ≤ i → befP r.p p = false)
def hitP (xs : List Ro) (p : Pf) (k : Nat) : Bool := match xs[k]? with | some r => cmpA r.p p == 0 | none => false
theorem srt_at {xs : List Ro} (hs : Srt (xs.map Ro.p)) {i j : Nat} {r s : Ro} (hi : xs[i]? = some r) (hj : xs[j]? = some s) (h : i < j) : befP r.p s.p = true := by
  obtain ⟨a1, rfl⟩ := List.getElem?_eq_some_iff.1 hi
  obtain ⟨a2, rfl⟩ := List.getElem?_eq_some_iff.1 hj
  have := List.pairwise_iff_getElem.1 hs i j (by simpa using a1) (by simpa using a2) h
  simpa using this
theorem bef_upto {xs : List Ro} {p : Pf} {m : Nat} {r : Ro} (hs : Srt (xs.map Ro.p)) (hx : xs[m]? = some r) (h : befP r.p p = true) : ∀ i s, xs[i]? = some s → i < m + 1 → befP s.p p = true := by
  intro i s hi hlt
  rcases Nat.lt_or_ge i m with h1 | h1
  · exact bef_trans (srt_at hs hi hx h1) h
  · obtain rfl : i = m := by omega
    rw [hx] at hi; cases hi; exact h
theorem bef_from {xs : List Ro} {p : Pf} {m : Nat} {r : Ro} (hs : Srt (xs.map Ro.p)) (hx : xs[m]? = some r) (h : befP r.p p = false) : ∀ i s, xs[i]? = some s → m ≤ i → befP s.p p = false := by
  intro i s hi hlt
  rcases Nat.lt_or_ge m i with h1 | h1
  · cases hb : befP s.p p with
    | false => rfl
    | true => rw [bef_trans (srt_at hs hx hi h1) hb] at h; cases h
  · obtain rfl : i = m := by omega
    rw [hx] at hi; cases hi; exact h
set_option maxHeartbeats 4000000 in
theorem search_ok (xs : List Ro) (p : Pf) (A : Option Addr) (c : Nat) (w : World) (hr : RdR w A xs) (hl : xs.length ≤ 1125899906842624) (hs : Srt (xs.map Ro.p)) :
    Calls Try.prog 39 #[.slice A xs.length c, .agg #[.int .u32 p.a, .int .i64 p.l], .func (.func 40) #[] #[]] w fun e w' => (∃ k : Nat, e = .returned (.tuple #[.int .i64 (k : Int), .bool (hitP xs p k)]) ∧ Cut xs p k) ∧ Below w.heap.size w w' := by
  obtain ⟨n, hn⟩ : ∃ n, n = xs.length := ⟨_, rfl⟩
  rw [← hn] at hl
  have HN := Lib.hid hn
  have HR := Lib.hid hr
  have HS := Lib.hid hs
  rw [← hn]
  clear hn hr hs
  go_enter Try.func39, Try.ntmps39
  go_wp2_with fail
  obtain ⟨W, hW⟩ : ∃ W, w.alloc (Obj.cells #[.int .u32 p.a, .int .i64 p.l] 35) = W := ⟨_, rfl⟩
  have hB : Below w.heap.size w W := by rw [← hW]; exact (Below.refl _ _).alloc (Nat.le_refl _) _
  have d0 : W.cell? ⟨w.heap.size, 0, none⟩ = some (.int .u32 p.a) := by rw [← hW]; simp
  have d1 : W.cell? ⟨w.heap.size, 1, none⟩ = some (.int .i64 p.l) := by rw [← hW]; simp
  rw [hW]
  clear hW
  have DD := Lib.hid (And.intro d0 d1)
  have BW := Lib.hid hB
  clear d0 d1 hB
  go_loopw [9, 10] (fun lo hi wr => ∃ a b : Nat, a ≤ b ∧ b ≤ n ∧ lo = .int .i64 (a : Int) ∧ hi = .int .i64 (b : Int) ∧ Hid (∀ i r, xs[i]? = some r → i < a → befP r.p p = true) ∧ Hid (∀ i r, xs[i]? = some r → b ≤ i → befP r.p p = false) ∧ Hid (Below W.heap.size W wr)) (fun lo hi _ => (intOf hi).toNat - (intOf lo).toNat)
  case atStart => exact ⟨0, n, Nat.zero_le _, Nat.le_refl _, rfl, rfl, Lib.hid (fun i r _ h => by omega), Lib.hid (fun i r h hi => by have := (List.getElem?_eq_some_iff.1 h).1; have := HN.out; omega), Lib.hid (Below.refl _ _)⟩
  case round =>
    obtain ⟨a, b, hab, hbn, rfl, rfl, hlo, hhi, hbw⟩ := hrel
    by_cases hlt : a < b
    · have hwa : IntKind.i64.wrap (a : Int) = a := wrapk (by omega)
      have hwb : IntKind.i64.wrap (b : Int) = b := wrapk (by omega)
      have ha0 : (0 : Int) ≤ (a : Int) := by omega
      have hb0 : (b : Int) ≤ 1125899906842624 := by omega
      have habi : (a : Int) < (b : Int) := by omega
      go_wp2_with fail
      obtain ⟨m, hm⟩ : ∃ m : Nat, m = (a + b) / 2 := ⟨_, rfl⟩
      have hmi : ((a : Int) + (b : Int)) / 2 = (m : Int) := by omega
      have ham : a ≤ m := by omega
      have hmb : m < b := by omega
      obtain ⟨r, hx⟩ : ∃ r, xs[m]? = some r := ⟨_, List.getElem?_eq_getElem (by rw [← HN.out]; omega)⟩
      rw [hmi]
      obtain ⟨bk, o, rfl, ha⟩ := (HR.out.below (bthen' BW.out BW.out.size hbw.out)) m r hx
      have HX := Lib.hid hx
      obtain ⟨c0, c1, c2, c3, c4, c5, c6⟩ := ha
      have dd0 := bcell hbw.out DD.out.1
      have dd1 := bcell hbw.out DD.out.2
      have hwm : IntKind.i64.wrap (m : Int) = m := wrapk (by omega)
      have hm0 : (0 : Int) ≤ (m : Int) := by omega
      have hmn : (m : Int) < (n : Int) := by omega
      clear hx hmi hm ha0 hb0 habi
      have HC : ∀ w2, Below wr.heap.size wr w2 → w2.cell? ⟨bk, o + m * 7, none⟩ = some (.int .u32 r.p.a) ∧ w2.cell? ⟨bk, o + m * 7 + 1, none⟩ = some (.int .i64 r.p.l) ∧ w2.cell? ⟨bk, o + m * 7 + 2, none⟩ = some (.int .i64 r.m) ∧ w2.cell? ⟨bk, o + m * 7 + 3, none⟩ = some (.int .u64 r.o0) ∧ w2.cell? ⟨bk, o + m * 7 + 4, none⟩ = some (.int .u64 r.o1) ∧ w2.cell? ⟨bk, o + m * 7 + 5, none⟩ = some (.int .u64 r.h0) ∧ w2.cell? ⟨bk, o + m * 7 + 6, none⟩ = some (.int .u64 r.h1) ∧ w2.cell? ⟨w.heap.size, 0, none⟩ = some (.int .u32 p.a) ∧ w2.cell? ⟨w.heap.size, 1, none⟩ = some (.int .i64 p.l) :=
        fun w2 h => ⟨bcell h c0, bcell h c1, bcell h c2, bcell h c3, bcell h c4, bcell h c5, bcell h c6, bcell h dd0, bcell h dd1⟩
      clear c0 c1 c2 c3 c4 c5 c6 dd0 dd1
      cases h1 : befP r.p p with
      | true =>
        have H40 : Hid (∀ w, Calls Try.prog 40 #[.agg #[.int .u32 r.p.a, .int .i64 r.p.l, .int .i64 r.m, .int .u64 r.o0, .int .u64 r.o1, .int .u64 r.h0, .int .u64 r.h1], .agg #[.int .u32 p.a, .int .i64 p.l]] w fun e w' => e = .returned (.int .i64 (-1)) ∧ Below w.heap.size w w') := Lib.hid (fun w => by have := cmp40_ok r p w; rw [cmpA, h1] at this; exact this)
        have HBF := Lib.hid h1
        clear h1
        refine Og.walk_lit [[],[],[],[1,2],[3,1,2],[],[0,4,5,3,1,2],[6,0,4,5,3,1,2]] (fun w2 => Below wr.heap.size wr w2) (fun w1 w2 => Below w1.heap.size w1 w2) (by kernel_rfl) (by kernel_rfl) ((Below.refl _ _).drew) ?_
        repeat (first | (refine Og.step_pure (fun _ => Below.refl _ _) ?_; apply Exists.intro; refine And.intro ?_ ?_; focus (intro vs w2 hC hk; have hm := HC w2 hC; revert hk; simp only [Og.KS, Og.K0, Og.Is, List.getD_cons_zero, List.getD_cons_succ, List.getD_nil, List.contains_cons, List.contains_nil, Nat.reduceAdd, Nat.reduceBEq, Bool.or_false, Bool.false_or, Bool.or_true, Bool.true_or, Bool.false_eq_true, false_implies, true_implies, true_and, and_true, forall_const]; intros; go_simp; rfl)) | (refine Og.step_one ?_; apply Exists.intro; refine And.intro ?_ ?_; focus (intro vs w2 hC hk; have hm := HC w2 hC; revert hk; simp only [Og.KS, Og.K0, Og.Is, List.getD_cons_zero, List.getD_cons_succ, List.getD_nil, List.contains_cons, List.contains_nil, Nat.reduceAdd, Nat.reduceBEq, Bool.or_false, Bool.false_or, Bool.or_true, Bool.true_or, Bool.false_eq_true, false_implies, true_implies, true_and, and_true, forall_const]; intros; go_simp; with_reducible refine (H40.out _).mono ?_; rintro e w3 ⟨rfl, hb⟩; exact Og.RetV.mk ⟨bthen hC hb, hb, rfl⟩)))
        intro vs w2 hC hk
        have hm := HC w2 hC
        simp only [Og.KS, Og.K0, Og.Is, List.getD_cons_zero, List.getD_cons_succ, List.getD_nil, List.contains_cons, List.contains_nil, Nat.reduceAdd, Nat.reduceBEq, Bool.or_false, Bool.false_or, Bool.or_true, Bool.true_or, Bool.false_eq_true, false_implies, true_implies, true_and, and_true, forall_const] at hk
        simp only [hk, Act.put, List.setIfInBounds_toArray, List.set_cons_zero, List.set_cons_succ]
        clear hk
        have HB2 := Lib.hid (bthen' hbw.out hbw.out.size hC)
        clear hC hm HC
        go_wp2_with fail
        go_roundw
        case rel => exact ⟨m + 1, b, by omega, by omega, by go_num, rfl, Lib.hid (bef_upto HS.out HX.out HBF.out), hhi, HB2⟩
        case measure => simp [intOf]; omega
      | false =>
        obtain ⟨cv, hcv⟩ : ∃ z, z = cmpA r.p p := ⟨_, rfl⟩
        have tc : decide (cv < 0) = false := by rw [hcv, cmpA, h1]; cases befP p r.p <;> rfl
        have H40 : Hid (∀ w, Calls Try.prog 40 #[.agg #[.int .u32 r.p.a, .int .i64 r.p.l, .int .i64 r.m, .int .u64 r.o0, .int .u64 r.o1, .int .u64 r.h0, .int .u64 r.h1], .agg #[.int .u32 p.a, .int .i64 p.l]] w fun e w' => e = .returned (.int .i64 cv) ∧ Below w.heap.size w w') := Lib.hid (fun w => by rw [hcv]; exact cmp40_ok r p w)
        have HBF := Lib.hid h1
        clear h1 hcv
        refine Og.walk_lit [[],[],[],[1,2],[3,1,2],[],[0,4,5,3,1,2],[6,0,4,5,3,1,2]] (fun w2 => Below wr.heap.size wr w2) (fun w1 w2 => Below w1.heap.size w1 w2) (by kernel_rfl) (by kernel_rfl) ((Below.refl _ _).drew) ?_
        repeat (first | (refine Og.step_pure (fun _ => Below.refl _ _) ?_; apply Exists.intro; refine And.intro ?_ ?_; focus (intro vs w2 hC hk; have hm := HC w2 hC; revert hk; simp only [Og.KS, Og.K0, Og.Is, List.getD_cons_zero, List.getD_cons_succ, List.getD_nil, List.contains_cons, List.contains_nil, Nat.reduceAdd, Nat.reduceBEq, Bool.or_false, Bool.false_or, Bool.or_true, Bool.true_or, Bool.false_eq_true, false_implies, true_implies, true_and, and_true, forall_const]; intros; go_simp; rfl)) | (refine Og.step_one ?_; apply Exists.intro; refine And.intro ?_ ?_; focus (intro vs w2 hC hk; have hm := HC w2 hC; revert hk; simp only [Og.KS, Og.K0, Og.Is, List.getD_cons_zero, List.getD_cons_succ, List.getD_nil, List.contains_cons, List.contains_nil, Nat.reduceAdd, Nat.reduceBEq, Bool.or_false, Bool.false_or, Bool.or_true, Bool.true_or, Bool.false_eq_true, false_implies, true_implies, true_and, and_true, forall_const]; intros; go_simp; with_reducible refine (H40.out _).mono ?_; rintro e w3 ⟨rfl, hb⟩; exact Og.RetV.mk ⟨bthen hC hb, hb, rfl⟩)))
        intro vs w2 hC hk
        have hm := HC w2 hC
        simp only [Og.KS, Og.K0, Og.Is, List.getD_cons_zero, List.getD_cons_succ, List.getD_nil, List.contains_cons, List.contains_nil, Nat.reduceAdd, Nat.reduceBEq, Bool.or_false, Bool.false_or, Bool.or_true, Bool.true_or, Bool.false_eq_true, false_implies, true_implies, true_and, and_true, forall_const] at hk
        simp only [hk, Act.put, List.setIfInBounds_toArray, List.set_cons_zero, List.set_cons_succ]
        clear hk
        have HB2 := Lib.hid (bthen' hbw.out hbw.out.size hC)
        clear hC hm HC
        go_wp2_with fail
        go_roundw
        case rel => exact ⟨a, m, by omega, by omega, rfl, by go_num, hlo, Lib.hid (bef_from HS.out HX.out HBF.out), HB2⟩
        case measure => simp [intOf]; omega
    · obtain rfl : b = a := by omega
      clear hab hlt
      have dd0 := bcell hbw.out DD.out.1
      have dd1 := bcell hbw.out DD.out.2
      have hwb : IntKind.i64.wrap (b : Int) = b := wrapk (by omega)
      have hb0 : (0 : Int) ≤ (b : Int) := by omega
      have HCUT : Hid (Cut xs p b) := Lib.hid ⟨by rw [← HN.out]; exact hbn, hlo.out, hhi.out⟩
      go_wp2_with fail
      by_cases hbn2 : b < n
      · obtain ⟨r, hx⟩ : ∃ r, xs[b]? = some r := ⟨_, List.getElem?_eq_getElem (by rw [← HN.out]; omega)⟩
        have hbi : (b : Int) < (n : Int) := by omega
        have tn : decide ((b : Int) < (n : Int)) = true := decide_eq_true hbi
        obtain ⟨bk, o, rfl, ha⟩ := (HR.out.below (bthen' BW.out BW.out.size hbw.out)) b r hx
        have HX := Lib.hid hx
        obtain ⟨c0, c1, c2, c3, c4, c5, c6⟩ := ha
        have HC : ∀ w2, Below wr.heap.size wr w2 → w2.cell? ⟨bk, o + b * 7, none⟩ = some (.int .u32 r.p.a) ∧ w2.cell? ⟨bk, o + b * 7 + 1, none⟩ = some (.int .i64 r.p.l) ∧ w2.cell? ⟨bk, o + b * 7 + 2, none⟩ = some (.int .i64 r.m) ∧ w2.cell? ⟨bk, o + b * 7 + 3, none⟩ = some (.int .u64 r.o0) ∧ w2.cell? ⟨bk, o + b * 7 + 4, none⟩ = some (.int .u64 r.o1) ∧ w2.cell? ⟨bk, o + b * 7 + 5, none⟩ = some (.int .u64 r.h0) ∧ w2.cell? ⟨bk, o + b * 7 + 6, none⟩ = some (.int .u64 r.h1) ∧ w2.cell? ⟨w.heap.size, 0, none⟩ = some (.int .u32 p.a) ∧ w2.cell? ⟨w.heap.size, 1, none⟩ = some (.int .i64 p.l) :=
          fun w2 h => ⟨bcell h c0, bcell h c1, bcell h c2, bcell h c3, bcell h c4, bcell h c5, bcell h c6, bcell h dd0, bcell h dd1⟩
        clear c0 c1 c2 c3 c4 c5 c6 dd0 dd1 hx
        obtain ⟨cv, hcv⟩ : ∃ z, z = cmpA r.p p := ⟨_, rfl⟩
        have H40 : Hid (∀ w, Calls Try.prog 40 #[.agg #[.int .u32 r.p.a, .int .i64 r.p.l, .int .i64 r.m, .int .u64 r.o0, .int .u64 r.o1, .int .u64 r.h0, .int .u64 r.h1], .agg #[.int .u32 p.a, .int .i64 p.l]] w fun e w' => e = .returned (.int .i64 cv) ∧ Below w.heap.size w w') := Lib.hid (fun w => by rw [hcv]; exact cmp40_ok r p w)
        have HHIT : Hid (hitP xs p b = (cv == 0)) := Lib.hid (by unfold hitP; rw [HX.out, hcv])
        clear hcv
        refine Og.walk_lit [[],[],[],[1,2],[3,1,2],[4,3,1,2],[4,3,1,2],[4,3,1,2],[6,7,4,3,1,2],[8,4,6,7,3,1,2],[4,3,1,2],[5,9,10,4,3,1,2,8,6,7],[11,4,5,9,10,3,1,2,8,6,7],[4,12,3,1,2,11,5,9,10,8,6,7],[0,11,5,9,10,4,3,1,2,8,6,7],[13,14,0,1,2,3,4,5,6,7,8,9,10,11,12]] (fun w2 => Below wr.heap.size wr w2) (fun w1 w2 => Below w1.heap.size w1 w2) (by kernel_rfl) (by kernel_rfl) ((Below.refl _ _).drew) ?_
        repeat (first | (refine Og.step_pure (fun _ => Below.refl _ _) ?_; apply Exists.intro; refine And.intro ?_ ?_; focus (intro vs w2 hC hk; have hm := HC w2 hC; revert hk; simp only [Og.KS, Og.K0, Og.Is, List.getD_cons_zero, List.getD_cons_succ, List.getD_nil, List.contains_cons, List.contains_nil, Nat.reduceAdd, Nat.reduceBEq, Bool.or_false, Bool.false_or, Bool.or_true, Bool.true_or, Bool.false_eq_true, false_implies, true_implies, true_and, and_true, forall_const]; intros; go_simp; rfl)) | (refine Og.step_one ?_; apply Exists.intro; refine And.intro ?_ ?_; focus (intro vs w2 hC hk; have hm := HC w2 hC; revert hk; simp only [Og.KS, Og.K0, Og.Is, List.getD_cons_zero, List.getD_cons_succ, List.getD_nil, List.contains_cons, List.contains_nil, Nat.reduceAdd, Nat.reduceBEq, Bool.or_false, Bool.false_or, Bool.or_true, Bool.true_or, Bool.false_eq_true, false_implies, true_implies, true_and, and_true, forall_const]; intros; go_simp; with_reducible refine (H40.out _).mono ?_; rintro e w3 ⟨rfl, hb⟩; exact Og.RetV.mk ⟨bthen hC hb, hb, rfl⟩)))
        intro vs w2 hC hk
        have hm := HC w2 hC
        simp only [Og.KS, Og.K0, Og.Is, List.getD_cons_zero, List.getD_cons_succ, List.getD_nil, List.contains_cons, List.contains_nil, Nat.reduceAdd, Nat.reduceBEq, Bool.or_false, Bool.false_or, Bool.or_true, Bool.true_or, Bool.false_eq_true, false_implies, true_implies, true_and, and_true, forall_const] at hk
        simp only [hk, Act.put, List.setIfInBounds_toArray, List.set_cons_zero, List.set_cons_succ]
        clear hk
        have HB2 := Lib.hid (bthen' (bthen' BW.out BW.out.size hbw.out) (by have := BW.out.size; have := hbw.out.size; omega) hC)
        clear hC hm HC
        go_wp2_with fail
        go_ret2
        exact ⟨⟨b, by rw [HHIT.out]; rfl, HCUT.out⟩, HB2.out⟩
      · obtain rfl : b = n := by omega
        have HHIT : Hid (hitP xs p b = false) := Lib.hid (by unfold hitP; rw [List.getElem?_eq_none (by rw [← HN.out]; exact Nat.le_refl _)])
        have tn : decide ((b : Int) < (b : Int)) = false := by simp
        clear hbn2 hbn
        have HC : ∀ w2, Below wr.heap.size wr w2 → True := fun _ _ => trivial
        have H40 : Hid (∀ w, Calls Try.prog 40 #[] w fun e w' => e = .returned (.int .i64 0) ∧ Below w.heap.size w w') ∨ True := .inr trivial
        refine Og.walk_lit [[],[],[],[1,2],[3,1,2],[4,3,1,2],[4,3,1,2],[4,3,1,2],[6,7,4,3,1,2],[8,4,6,7,3,1,2],[4,3,1,2],[5,9,10,4,3,1,2,8,6,7],[11,4,5,9,10,3,1,2,8,6,7],[4,12,3,1,2,11,5,9,10,8,6,7],[0,11,5,9,10,4,3,1,2,8,6,7],[13,14,0,1,2,3,4,5,6,7,8,9,10,11,12]] (fun w2 => Below wr.heap.size wr w2) (fun w1 w2 => Below w1.heap.size w1 w2) (by kernel_rfl) (by kernel_rfl) ((Below.refl _ _).drew) ?_
        repeat (first | (refine Og.step_pure (fun _ => Below.refl _ _) ?_; apply Exists.intro; refine And.intro ?_ ?_; focus (intro vs w2 hC hk; have hm := HC w2 hC; revert hk; simp only [Og.KS, Og.K0, Og.Is, List.getD_cons_zero, List.getD_cons_succ, List.getD_nil, List.contains_cons, List.contains_nil, Nat.reduceAdd, Nat.reduceBEq, Bool.or_false, Bool.false_or, Bool.or_true, Bool.true_or, Bool.false_eq_true, false_implies, true_implies, true_and, and_true, forall_const]; intros; go_simp; rfl)))
        intro vs w2 hC hk
        have hm := HC w2 hC
        simp only [Og.KS, Og.K0, Og.Is, List.getD_cons_zero, List.getD_cons_succ, List.getD_nil, List.contains_cons, List.contains_nil, Nat.reduceAdd, Nat.reduceBEq, Bool.or_false, Bool.false_or, Bool.or_true, Bool.true_or, Bool.false_eq_true, false_implies, true_implies, true_and, and_true, forall_const] at hk
        simp only [hk, Act.put, List.setIfInBounds_toArray, List.set_cons_zero, List.set_cons_succ]
        clear hk
        have HB2 := Lib.hid (bthen' (bthen' BW.out BW.out.size hbw.out) (by have := BW.out.size; have := hbw.out.size; omega) hC)
        clear hC hm HC
        go_wp2_with fail
        go_ret2
        exact ⟨⟨b, by rw [HHIT.out]; rfl, HCUT.out⟩, HB2.out⟩
end Go.Proofs.Ytpnhkniegjfncaa
