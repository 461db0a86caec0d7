/- causewaylaw16.same and causewayref12.Same: are two lists equal; conditions: at most 2^50 elements. -/
import Derived.Test.YtpnhkniegjfncaaD7
namespace Go.Proofs.Ytpnhkniegjfncaa
open Go.ChangeShapes Go.WideShapes Go.ChangeAt Go.RowKit
set_option linter.unusedVariables false
set_option linter.unusedSimpArgs false
attribute [local go_sem] Og.Opt Og.OpY
attribute [local go_sem high] eqB1 eqP1 eqR1 eqC1

set_option maxRecDepth 100000 in
set_option maxHeartbeats 4000000 in
theorem same_ok (xs ys : List Ch) (A A' : Option Addr) (c c' : Nat) (w : World) (hr : RdC w A xs) (hr' : RdC w A' ys) (hl : xs.length ≤ 1125899906842624) (hl' : ys.length ≤ 1125899906842624) :
    Calls Try.prog 16 #[.slice A xs.length c, .slice A' ys.length c'] w fun e w' => e = .returned (.bool (decide (xs = ys))) ∧ Below w.heap.size w w' := by
  obtain ⟨n, hn⟩ : ∃ n, n = xs.length := ⟨_, rfl⟩
  obtain ⟨n', hn'⟩ : ∃ n, n = ys.length := ⟨_, rfl⟩
  rw [← hn] at hl
  rw [← hn'] at hl'
  have HN := Lib.hid hn
  have HN' := Lib.hid hn'
  have HR := Lib.hid hr
  have HR' := Lib.hid hr'
  rw [← hn, ← hn']
  clear hn hr hn' hr'
  by_cases hnn : n = n'
  · subst hnn
    have tl : ((n : Int) != (n : Int)) = false := by simp
    go_enter Try.func16, Try.ntmps16
    go_wp2_with fail
    go_loopw [5] (fun i wr => ∃ k : Nat, k ≤ n ∧ i = .int .i64 k ∧ Hid (∀ j, j < k → xs[j]? = ys[j]?) ∧ Hid (Below w.heap.size w wr)) (fun i _ => n - (intOf i).toNat)
    case atStart => exact ⟨0, Nat.zero_le _, rfl, Lib.hid (fun j hj => by omega), Lib.hid (Below.refl _ _)⟩
    case round =>
      obtain ⟨k, hk, rfl, hall, hbw⟩ := hrel
      by_cases hlt : k < n
      · obtain ⟨r, hx⟩ : ∃ r, xs[k]? = some r := ⟨_, List.getElem?_eq_getElem (by rw [← HN.out]; exact hlt)⟩
        obtain ⟨s, hy⟩ : ∃ r, ys[k]? = some r := ⟨_, List.getElem?_eq_getElem (by rw [← HN'.out]; exact hlt)⟩
        obtain ⟨b, o, rfl, ha⟩ := (HR.out.below hbw.out) k r hx
        obtain ⟨b', o', rfl, ha'⟩ := (HR'.out.below hbw.out) k s hy
        have HX := Lib.hid hx
        have HY := Lib.hid hy
        clear hx hy
        obtain ⟨c0, c1, c2, c3, c4, c5, c6, c7, c8, c9, c10, c11, c12, c13, c14⟩ := ha
        obtain ⟨d0, d1, d2, d3, d4, d5, d6, d7, d8, d9, d10, d11, d12, d13, d14⟩ := ha'
        have hwk : IntKind.i64.wrap (k : Int) = k := wrapk (by omega)
        have hk0 : (0 : Int) ≤ (k : Int) := by omega
        have hkn : (k : Int) < (n : Int) := by omega
        have HC : ∀ w2, Below wr.heap.size wr w2 → (w2.cell? ⟨b, o + k * 15, none⟩ = some (.int .i64 r.k) ∧ w2.cell? ⟨b, o + k * 15 + 1, none⟩ = some (.int .u32 r.o.p.a) ∧ w2.cell? ⟨b, o + k * 15 + 2, none⟩ = some (.int .i64 r.o.p.l) ∧ w2.cell? ⟨b, o + k * 15 + 3, none⟩ = some (.int .i64 r.o.m) ∧ w2.cell? ⟨b, o + k * 15 + 4, none⟩ = some (.int .u64 r.o.o0) ∧ w2.cell? ⟨b, o + k * 15 + 5, none⟩ = some (.int .u64 r.o.o1) ∧ w2.cell? ⟨b, o + k * 15 + 6, none⟩ = some (.int .u64 r.o.h0) ∧ w2.cell? ⟨b, o + k * 15 + 7, none⟩ = some (.int .u64 r.o.h1) ∧ w2.cell? ⟨b, o + k * 15 + 8, none⟩ = some (.int .u32 r.n.p.a) ∧ w2.cell? ⟨b, o + k * 15 + 9, none⟩ = some (.int .i64 r.n.p.l) ∧ w2.cell? ⟨b, o + k * 15 + 10, none⟩ = some (.int .i64 r.n.m) ∧ w2.cell? ⟨b, o + k * 15 + 11, none⟩ = some (.int .u64 r.n.o0) ∧ w2.cell? ⟨b, o + k * 15 + 12, none⟩ = some (.int .u64 r.n.o1) ∧ w2.cell? ⟨b, o + k * 15 + 13, none⟩ = some (.int .u64 r.n.h0) ∧ w2.cell? ⟨b, o + k * 15 + 14, none⟩ = some (.int .u64 r.n.h1)) ∧ (w2.cell? ⟨b', o' + k * 15, none⟩ = some (.int .i64 s.k) ∧ w2.cell? ⟨b', o' + k * 15 + 1, none⟩ = some (.int .u32 s.o.p.a) ∧ w2.cell? ⟨b', o' + k * 15 + 2, none⟩ = some (.int .i64 s.o.p.l) ∧ w2.cell? ⟨b', o' + k * 15 + 3, none⟩ = some (.int .i64 s.o.m) ∧ w2.cell? ⟨b', o' + k * 15 + 4, none⟩ = some (.int .u64 s.o.o0) ∧ w2.cell? ⟨b', o' + k * 15 + 5, none⟩ = some (.int .u64 s.o.o1) ∧ w2.cell? ⟨b', o' + k * 15 + 6, none⟩ = some (.int .u64 s.o.h0) ∧ w2.cell? ⟨b', o' + k * 15 + 7, none⟩ = some (.int .u64 s.o.h1) ∧ w2.cell? ⟨b', o' + k * 15 + 8, none⟩ = some (.int .u32 s.n.p.a) ∧ w2.cell? ⟨b', o' + k * 15 + 9, none⟩ = some (.int .i64 s.n.p.l) ∧ w2.cell? ⟨b', o' + k * 15 + 10, none⟩ = some (.int .i64 s.n.m) ∧ w2.cell? ⟨b', o' + k * 15 + 11, none⟩ = some (.int .u64 s.n.o0) ∧ w2.cell? ⟨b', o' + k * 15 + 12, none⟩ = some (.int .u64 s.n.o1) ∧ w2.cell? ⟨b', o' + k * 15 + 13, none⟩ = some (.int .u64 s.n.h0) ∧ w2.cell? ⟨b', o' + k * 15 + 14, none⟩ = some (.int .u64 s.n.h1)) :=
          fun w2 h => ⟨⟨bcell h c0, bcell h c1, bcell h c2, bcell h c3, bcell h c4, bcell h c5, bcell h c6, bcell h c7, bcell h c8, bcell h c9, bcell h c10, bcell h c11, bcell h c12, bcell h c13, bcell h c14⟩, ⟨bcell h d0, bcell h d1, bcell h d2, bcell h d3, bcell h d4, bcell h d5, bcell h d6, bcell h d7, bcell h d8, bcell h d9, bcell h d10, bcell h d11, bcell h d12, bcell h d13, bcell h d14⟩⟩
        clear c0 c1 c2 c3 c4 c5 c6 c7 c8 c9 c10 c11 c12 c13 c14 d0 d1 d2 d3 d4 d5 d6 d7 d8 d9 d10 d11 d12 d13 d14
        by_cases heq : r = s
        · have te : eqCb r.k r.o.p.a r.o.p.l r.o.m r.o.o0 r.o.o1 r.o.h0 r.o.h1 r.n.p.a r.n.p.l r.n.m r.n.o0 r.n.o1 r.n.h0 r.n.h1 s.k s.o.p.a s.o.p.l s.o.m s.o.o0 s.o.o1 s.o.h0 s.o.h1 s.n.p.a s.n.p.l s.n.m s.n.o0 s.n.o1 s.n.h0 s.n.h1 = true := by rw [eqCb_of]; simpa using heq
          have N : Hid (Hid (∀ j, j < k + 1 → xs[j]? = ys[j]?)) := Lib.hid (Lib.hid (fun j hj => by
            by_cases hjk : j = k
            · rw [hjk, HX.out, HY.out, heq]
            · exact hall.out j (by omega)))
          clear heq
          go_wp2_with fail
          refine Og.walk_lit [[],[],[0,1],[2,0,1],[],[],[4,5],[6,4,5],[3,7,2,0,1,6,4,5]] (fun w2 => Below wr.heap.size wr w2) (fun w1 w2 => Below w1.heap.size w1 w2) (by kernel_rfl) (by kernel_rfl) (bdrew) ?_
          repeat (first | (refine Og.step_pure (fun _ => Below.refl _ _) ?_; apply Exists.intro; refine And.intro ?_ ?_; focus (intro vs w2 hC hk; have hm := HC w2 hC; revert hk; simp only [Og.KS, Og.K0, Og.Is, List.getD_cons_zero, List.getD_cons_succ, List.getD_nil, List.contains_cons, List.contains_nil, Nat.reduceAdd, Nat.reduceBEq, Bool.or_false, Bool.false_or, Bool.or_true, Bool.true_or, Bool.false_eq_true, false_implies, true_implies, true_and, and_true, forall_const]; intros; go_simp; rfl)))
          intro vs w2 hC hk
          have hm := HC w2 hC
          simp only [Og.KS, Og.K0, Og.Is, List.getD_cons_zero, List.getD_cons_succ, List.getD_nil, List.contains_cons, List.contains_nil, Nat.reduceAdd, Nat.reduceBEq, Bool.or_false, Bool.false_or, Bool.or_true, Bool.true_or, Bool.false_eq_true, false_implies, true_implies, true_and, and_true, forall_const] at hk
          simp only [hk, Act.put, List.setIfInBounds_toArray, List.set_cons_zero, List.set_cons_succ]
          clear hk
          have HB2 := Lib.hid (bthen' hbw.out hbw.out.size hC)
          clear hC hm HC hbw
          go_wp2_with fail
          go_roundw
          case rel => exact ⟨k + 1, by omega, by go_num, N.out, HB2⟩
          case measure => simp [intOf]; omega
        · have te : eqCb r.k r.o.p.a r.o.p.l r.o.m r.o.o0 r.o.o1 r.o.h0 r.o.h1 r.n.p.a r.n.p.l r.n.m r.n.o0 r.n.o1 r.n.h0 r.n.h1 s.k s.o.p.a s.o.p.l s.o.m s.o.o0 s.o.o1 s.o.h0 s.o.h1 s.n.p.a s.n.p.l s.n.m s.n.o0 s.n.o1 s.n.h0 s.n.h1 = false := by rw [eqCb_of]; simpa using heq
          have e : decide (xs = ys) = false := by
            refine decide_eq_false fun h => heq ?_
            have := HX.out
            rw [h, HY.out] at this
            exact (Option.some.inj this).symm
          have E := Lib.hid e
          clear e heq
          go_wp2_with fail
          refine Og.walk_lit [[],[],[0,1],[2,0,1],[],[],[4,5],[6,4,5],[3,7,2,0,1,6,4,5]] (fun w2 => Below wr.heap.size wr w2) (fun w1 w2 => Below w1.heap.size w1 w2) (by kernel_rfl) (by kernel_rfl) (bdrew) ?_
          repeat (first | (refine Og.step_pure (fun _ => Below.refl _ _) ?_; apply Exists.intro; refine And.intro ?_ ?_; focus (intro vs w2 hC hk; have hm := HC w2 hC; revert hk; simp only [Og.KS, Og.K0, Og.Is, List.getD_cons_zero, List.getD_cons_succ, List.getD_nil, List.contains_cons, List.contains_nil, Nat.reduceAdd, Nat.reduceBEq, Bool.or_false, Bool.false_or, Bool.or_true, Bool.true_or, Bool.false_eq_true, false_implies, true_implies, true_and, and_true, forall_const]; intros; go_simp; rfl)))
          intro vs w2 hC hk
          have hm := HC w2 hC
          simp only [Og.KS, Og.K0, Og.Is, List.getD_cons_zero, List.getD_cons_succ, List.getD_nil, List.contains_cons, List.contains_nil, Nat.reduceAdd, Nat.reduceBEq, Bool.or_false, Bool.false_or, Bool.or_true, Bool.true_or, Bool.false_eq_true, false_implies, true_implies, true_and, and_true, forall_const] at hk
          simp only [hk, Act.put, List.setIfInBounds_toArray, List.set_cons_zero, List.set_cons_succ]
          clear hk
          have HB2 := Lib.hid (bthen' hbw.out hbw.out.size hC)
          clear hC hm HC hbw
          go_wp2_with fail
          go_ret
          exact ⟨by rw [E.out]; rfl, HB2.out⟩
      · have hkn : k = n := by omega
        subst hkn
        have e : decide (xs = ys) = true := decide_eq_true (List.ext_getElem? fun j => by
          by_cases hj : j < k
          · exact hall.out j hj
          · rw [List.getElem?_eq_none_iff.2 (by rw [← HN.out]; omega), List.getElem?_eq_none_iff.2 (by rw [← HN'.out]; omega)])
        have E := Lib.hid e
        clear e
        go_wp2_with fail
        go_ret
        exact ⟨by rw [E.out]; rfl, hbw.out⟩
  · have tl : ((n : Int) != (n' : Int)) = true := by simp; omega
    have e : decide (xs = ys) = false := decide_eq_false fun h => hnn (by rw [HN.out, HN'.out, h])
    have E := Lib.hid e
    clear e hnn
    go_enter Try.func16, Try.ntmps16
    go_wp2_with fail
    go_ret
    exact ⟨by rw [E.out]; rfl, Below.refl _ _⟩

set_option maxRecDepth 100000 in
set_option maxHeartbeats 4000000 in
theorem Same_ok (xs ys : List Ro) (A A' : Option Addr) (c c' : Nat) (w : World) (hr : RdR w A xs) (hr' : RdR w A' ys) (hl : xs.length ≤ 1125899906842624) (hl' : ys.length ≤ 1125899906842624) :
    Calls Try.prog 12 #[.slice A xs.length c, .slice A' ys.length c'] w fun e w' => e = .returned (.bool (decide (xs = ys))) ∧ Below w.heap.size w w' := by
  obtain ⟨n, hn⟩ : ∃ n, n = xs.length := ⟨_, rfl⟩
  obtain ⟨n', hn'⟩ : ∃ n, n = ys.length := ⟨_, rfl⟩
  rw [← hn] at hl
  rw [← hn'] at hl'
  have HN := Lib.hid hn
  have HN' := Lib.hid hn'
  have HR := Lib.hid hr
  have HR' := Lib.hid hr'
  rw [← hn, ← hn']
  clear hn hr hn' hr'
  by_cases hnn : n = n'
  · subst hnn
    have tl : ((n : Int) != (n : Int)) = false := by simp
    go_enter Try.func12, Try.ntmps12
    go_wp2_with fail
    go_loopw [5] (fun i wr => ∃ k : Nat, k ≤ n ∧ i = .int .i64 k ∧ Hid (∀ j, j < k → xs[j]? = ys[j]?) ∧ Hid (Below w.heap.size w wr)) (fun i _ => n - (intOf i).toNat)
    case atStart => exact ⟨0, Nat.zero_le _, rfl, Lib.hid (fun j hj => by omega), Lib.hid (Below.refl _ _)⟩
    case round =>
      obtain ⟨k, hk, rfl, hall, hbw⟩ := hrel
      by_cases hlt : k < n
      · obtain ⟨r, hx⟩ : ∃ r, xs[k]? = some r := ⟨_, List.getElem?_eq_getElem (by rw [← HN.out]; exact hlt)⟩
        obtain ⟨s, hy⟩ : ∃ r, ys[k]? = some r := ⟨_, List.getElem?_eq_getElem (by rw [← HN'.out]; exact hlt)⟩
        obtain ⟨b, o, rfl, ha⟩ := (HR.out.below hbw.out) k r hx
        obtain ⟨b', o', rfl, ha'⟩ := (HR'.out.below hbw.out) k s hy
        have HX := Lib.hid hx
        have HY := Lib.hid hy
        clear hx hy
        obtain ⟨c0, c1, c2, c3, c4, c5, c6⟩ := ha
        obtain ⟨d0, d1, d2, d3, d4, d5, d6⟩ := ha'
        have hwk : IntKind.i64.wrap (k : Int) = k := wrapk (by omega)
        have hk0 : (0 : Int) ≤ (k : Int) := by omega
        have hkn : (k : Int) < (n : Int) := by omega
        have HC : ∀ w2, Below wr.heap.size wr w2 → (w2.cell? ⟨b, o + k * 7, none⟩ = some (.int .u32 r.p.a) ∧ w2.cell? ⟨b, o + k * 7 + 1, none⟩ = some (.int .i64 r.p.l) ∧ w2.cell? ⟨b, o + k * 7 + 2, none⟩ = some (.int .i64 r.m) ∧ w2.cell? ⟨b, o + k * 7 + 3, none⟩ = some (.int .u64 r.o0) ∧ w2.cell? ⟨b, o + k * 7 + 4, none⟩ = some (.int .u64 r.o1) ∧ w2.cell? ⟨b, o + k * 7 + 5, none⟩ = some (.int .u64 r.h0) ∧ w2.cell? ⟨b, o + k * 7 + 6, none⟩ = some (.int .u64 r.h1)) ∧ (w2.cell? ⟨b', o' + k * 7, none⟩ = some (.int .u32 s.p.a) ∧ w2.cell? ⟨b', o' + k * 7 + 1, none⟩ = some (.int .i64 s.p.l) ∧ w2.cell? ⟨b', o' + k * 7 + 2, none⟩ = some (.int .i64 s.m) ∧ w2.cell? ⟨b', o' + k * 7 + 3, none⟩ = some (.int .u64 s.o0) ∧ w2.cell? ⟨b', o' + k * 7 + 4, none⟩ = some (.int .u64 s.o1) ∧ w2.cell? ⟨b', o' + k * 7 + 5, none⟩ = some (.int .u64 s.h0) ∧ w2.cell? ⟨b', o' + k * 7 + 6, none⟩ = some (.int .u64 s.h1)) :=
          fun w2 h => ⟨⟨bcell h c0, bcell h c1, bcell h c2, bcell h c3, bcell h c4, bcell h c5, bcell h c6⟩, ⟨bcell h d0, bcell h d1, bcell h d2, bcell h d3, bcell h d4, bcell h d5, bcell h d6⟩⟩
        clear c0 c1 c2 c3 c4 c5 c6 d0 d1 d2 d3 d4 d5 d6
        by_cases heq : r = s
        · have te : eqRb r.p.a r.p.l r.m r.o0 r.o1 r.h0 r.h1 s.p.a s.p.l s.m s.o0 s.o1 s.h0 s.h1 = true := by rw [eqRb_of]; simpa using heq
          have N : Hid (Hid (∀ j, j < k + 1 → xs[j]? = ys[j]?)) := Lib.hid (Lib.hid (fun j hj => by
            by_cases hjk : j = k
            · rw [hjk, HX.out, HY.out, heq]
            · exact hall.out j (by omega)))
          clear heq
          go_wp2_with fail
          refine Og.walk_lit [[],[],[0,1],[2,0,1],[],[],[4,5],[6,4,5],[3,7,2,0,1,6,4,5]] (fun w2 => Below wr.heap.size wr w2) (fun w1 w2 => Below w1.heap.size w1 w2) (by kernel_rfl) (by kernel_rfl) (bdrew) ?_
          repeat (first | (refine Og.step_pure (fun _ => Below.refl _ _) ?_; apply Exists.intro; refine And.intro ?_ ?_; focus (intro vs w2 hC hk; have hm := HC w2 hC; revert hk; simp only [Og.KS, Og.K0, Og.Is, List.getD_cons_zero, List.getD_cons_succ, List.getD_nil, List.contains_cons, List.contains_nil, Nat.reduceAdd, Nat.reduceBEq, Bool.or_false, Bool.false_or, Bool.or_true, Bool.true_or, Bool.false_eq_true, false_implies, true_implies, true_and, and_true, forall_const]; intros; go_simp; rfl)))
          intro vs w2 hC hk
          have hm := HC w2 hC
          simp only [Og.KS, Og.K0, Og.Is, List.getD_cons_zero, List.getD_cons_succ, List.getD_nil, List.contains_cons, List.contains_nil, Nat.reduceAdd, Nat.reduceBEq, Bool.or_false, Bool.false_or, Bool.or_true, Bool.true_or, Bool.false_eq_true, false_implies, true_implies, true_and, and_true, forall_const] at hk
          simp only [hk, Act.put, List.setIfInBounds_toArray, List.set_cons_zero, List.set_cons_succ]
          clear hk
          have HB2 := Lib.hid (bthen' hbw.out hbw.out.size hC)
          clear hC hm HC hbw
          go_wp2_with fail
          go_roundw
          case rel => exact ⟨k + 1, by omega, by go_num, N.out, HB2⟩
          case measure => simp [intOf]; omega
        · have te : eqRb r.p.a r.p.l r.m r.o0 r.o1 r.h0 r.h1 s.p.a s.p.l s.m s.o0 s.o1 s.h0 s.h1 = false := by rw [eqRb_of]; simpa using heq
          have e : decide (xs = ys) = false := by
            refine decide_eq_false fun h => heq ?_
            have := HX.out
            rw [h, HY.out] at this
            exact (Option.some.inj this).symm
          have E := Lib.hid e
          clear e heq
          go_wp2_with fail
          refine Og.walk_lit [[],[],[0,1],[2,0,1],[],[],[4,5],[6,4,5],[3,7,2,0,1,6,4,5]] (fun w2 => Below wr.heap.size wr w2) (fun w1 w2 => Below w1.heap.size w1 w2) (by kernel_rfl) (by kernel_rfl) (bdrew) ?_
          repeat (first | (refine Og.step_pure (fun _ => Below.refl _ _) ?_; apply Exists.intro; refine And.intro ?_ ?_; focus (intro vs w2 hC hk; have hm := HC w2 hC; revert hk; simp only [Og.KS, Og.K0, Og.Is, List.getD_cons_zero, List.getD_cons_succ, List.getD_nil, List.contains_cons, List.contains_nil, Nat.reduceAdd, Nat.reduceBEq, Bool.or_false, Bool.false_or, Bool.or_true, Bool.true_or, Bool.false_eq_true, false_implies, true_implies, true_and, and_true, forall_const]; intros; go_simp; rfl)))
          intro vs w2 hC hk
          have hm := HC w2 hC
          simp only [Og.KS, Og.K0, Og.Is, List.getD_cons_zero, List.getD_cons_succ, List.getD_nil, List.contains_cons, List.contains_nil, Nat.reduceAdd, Nat.reduceBEq, Bool.or_false, Bool.false_or, Bool.or_true, Bool.true_or, Bool.false_eq_true, false_implies, true_implies, true_and, and_true, forall_const] at hk
          simp only [hk, Act.put, List.setIfInBounds_toArray, List.set_cons_zero, List.set_cons_succ]
          clear hk
          have HB2 := Lib.hid (bthen' hbw.out hbw.out.size hC)
          clear hC hm HC hbw
          go_wp2_with fail
          go_ret
          exact ⟨by rw [E.out]; rfl, HB2.out⟩
      · have hkn : k = n := by omega
        subst hkn
        have e : decide (xs = ys) = true := decide_eq_true (List.ext_getElem? fun j => by
          by_cases hj : j < k
          · exact hall.out j hj
          · rw [List.getElem?_eq_none_iff.2 (by rw [← HN.out]; omega), List.getElem?_eq_none_iff.2 (by rw [← HN'.out]; omega)])
        have E := Lib.hid e
        clear e
        go_wp2_with fail
        go_ret
        exact ⟨by rw [E.out]; rfl, hbw.out⟩
  · have tl : ((n : Int) != (n' : Int)) = true := by simp; omega
    have e : decide (xs = ys) = false := decide_eq_false fun h => hnn (by rw [HN.out, HN'.out, h])
    have E := Lib.hid e
    clear e hnn
    go_enter Try.func12, Try.ntmps12
    go_wp2_with fail
    go_ret
    exact ⟨by rw [E.out]; rfl, Below.refl _ _⟩

end Go.Proofs.Ytpnhkniegjfncaa
