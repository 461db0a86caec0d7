/- The reference's Apply: it answers as delta.Apply; conditions: the table and the list fit the memory. -/
import Derived.Test.YtpnhkniegjfncaaD42
import Derived.Test.YtpnhkniegjfncaaOg3
namespace Go.Proofs.Ytpnhkniegjfncaa
open Go.ChangeShapes Go.WideShapes Go.ChangeAt Go.RowKit
set_option linter.unusedVariables false
set_option linter.unusedSimpArgs false
attribute [local go_sem] Og.Opt Og.OpY
attribute [local go_sem high] eqB1 eqP1 eqR1 eqC1

theorem atC_plC (x : Ch) : atC (plC x) = atC x := by
  unfold atC plC
  by_cases h1 : x.k = 1
  · simp [h1]
  · by_cases h2 : x.k = 2
    · simp [h2]
    · simp [h1, h2]
theorem plC_k (x : Ch) : (plC x).k = x.k := by
  unfold plC
  split
  · rfl
  · split <;> rfl
theorem optB_loadRA {ops : Array Oper} {o : Oper} {a : Act} {w : World} {R : Value → World → Prop} {b off : Nat} {x : Ro} {t : Operand} (hw : Region.wanted o (yielded ops a.tmps) = true) (ho : o.op = .load 40 t) (ha : a.eval t = .pointer (some ⟨b, off, none⟩)) (h : AtR w b off x) (hR : R (.agg #[.int .u32 x.p.a, .int .i64 x.p.l, .int .i64 x.m, .int .u64 x.o0, .int .u64 x.o1, .int .u64 x.h0, .int .u64 x.h1]) w) : Og.OptB Try.prog ops o a w R := by
  refine ⟨opt_of_wanted hw ?_⟩
  unfold Og.OpY execOp
  simp only [ho, ha, Instr.loadAt, Instr.sureAddr, Sem.run_bind, Sem.run_pure, Result.andThen_ok, run_loadRA h]
  exact hR
theorem AtR_heap {w : World} {g : Nat} {r : Ro} (h : w.heap[g]? = some (.cells (rcV r).toArray 40 (0, 0))) : AtR w g 0 r := AtR_of fun k u hu => by
  have := news_heap h k u (by simpa using hu)
  rwa [Addr.add_lit] at this
theorem stepR_5 {t : List Ro} {x z : Ch} {f : Ro} (h1 : x.k = 1) (hf : f = fnd t (atC x)) (hz : z = plC x) (hne : ¬ f = z.o) : stepR t x = .error 5 := by
  subst hf hz; unfold stepR; simp [h1, hne]
theorem stepR_8 {t : List Ro} {x z : Ch} {f : Ro} (h1 : ¬ x.k = 1) (hf : f = fnd t (atC x)) (hz : z = plC x) (hne : ¬ f = z.o) : stepR t x = .error 8 := by
  subst hf hz; unfold stepR; simp [h1, hne]
theorem stepR_go {t : List Ro} {x z : Ch} {f : Ro} (hf : f = fnd t (atC x)) (hz : z = plC x) (he : f = z.o) : stepR t x = .ok (putL z.n (atC x) (decide (z.n = zR)) t) := by
  subst hf hz; unfold stepR; simp [he]

set_option maxRecDepth 100000 in
set_option maxHeartbeats 16000000 in
theorem rApply_ok (t0 : List Ro) (xs : List Ch) (A A' : Option Addr) (c c' : Nat) (w : World) (hr : RdR w A t0) (hr' : RdC w A' xs) (hA0 : A = none → c = 0) (hl : t0.length ≤ 2513169434843) (hl' : xs.length ≤ 1172812402926) (hf : ∀ (i : Nat) r, t0[i]? = some r → FitR r) (hf' : ∀ (i : Nat) r, xs[i]? = some r → FitC r) :
    Calls Try.prog 21 #[.slice A t0.length c, .slice A' xs.length c'] w fun e w' => ApplyR t0 xs w.heap.size e w' ∧ Below w.heap.size w w' := by
  have S0 := Lib.hid (rSound_ok t0 A c w hr (by omega) hf)
  have HRT := Lib.hid hr
  have HF := Lib.hid hf'
  have HTT := Lib.hid (fun h => Tab.of (t := t0) h hf)
  obtain ⟨nx, hnx⟩ : ∃ n, n = xs.length := ⟨_, rfl⟩
  have HR' := Lib.hid hr'
  rw [← hnx] at hl' ⊢
  have HN := Lib.hid hnx
  have HLT := Lib.hid hl
  have HA0 := Lib.hid hA0
  obtain ⟨nt, hnt⟩ : ∃ n, n = t0.length := ⟨_, rfl⟩
  rw [← hnt] at S0 ⊢
  have HNT := Lib.hid hnt
  clear hnx hr hr' hf hf' hl hnt hA0
  go_enter Try.func21, Try.ntmps21
  go_wp2_with fail
  refine Calls.mono S0.out ?_
  rintro e w1 ⟨rfl, hb1⟩
  cases hs : sndT t0 with
  | false =>
    have E := Lib.hid (show applyV t0 xs = ([], 0, 1) by unfold applyV; rw [hs]; rfl)
    have B1 := Lib.hid hb1
    clear hb1 hs
    simp only [errT_f]
    go_wp2_with fail
    go_ret3
    exact ⟨ApplyR.err E.out, B1.out⟩
  | true =>
    have HS := Lib.hid hs
    have HT0 := Lib.hid (HTT.out hs)
    have B1 := Lib.hid hb1
    have HR1 := Lib.hid (HRT.out.below hb1)
    clear hb1 hs S0 HTT HRT
    simp only [errT_t]
    go_wp2_with (at_builtin; refine wpList_spreadR rfl (.tmp 14) (.tmp 15) 22 rfl Try.underlying22 info40 w.heap.size (.slice (some ⟨w1.heap.size, 0, none⟩) 0 0) rfl (fresh_row w1 40 7 w.heap.size B1.out.size) (by simp) (by have := B1.out.size; simp; omega) t0 HLT.out A c (by rw [← HNT.out]; rfl) (HR1.out.below ((Below.refl _ _).alloc (Nat.le_refl _) _)) HA0.out ?_; intro v0 w2 hown0 hv0 hgrow0; have HO := Lib.hid hown0; have BB := Lib.hid ((B1.out.alloc B1.out.size _).grown hgrow0 (by have := B1.out.size; simp; omega) (fun j hj => by have := B1.out.size; simp [Value.ownBlock] at hj; omega)); clear hown0 hv0 hgrow0)
    obtain ⟨w0, rfl⟩ : ∃ w0 : World, w0 = w2 := ⟨_, rfl⟩
    go_loopw [7, 8] (fun tb i wr => ∃ (k : Nat) (t : List Ro), k ≤ nx ∧ i = .int .i64 k ∧ Hid (runA xs t0 k = .ok t) ∧ Hid (Tab t) ∧ Hid (wr.ownsRow w.heap.size 40 7 tb t.length (t.flatMap rcV)) ∧ Hid (Below w.heap.size w wr)) (fun _ i _ => nx - (intOf i).toNat)
    case atStart => exact ⟨0, t0, Nat.zero_le _, rfl, Lib.hid rfl, HT0, HO, BB⟩
    case round =>
      clear HO BB HT0 HR1 B1
      obtain ⟨k, t, hk, rfl, hrun, htab, hown, hbw⟩ := hrel
      by_cases hlt : k < nx
      · obtain ⟨x, hx⟩ : ∃ r, xs[k]? = some r := ⟨_, List.getElem?_eq_getElem (by rw [← HN.out]; exact hlt)⟩
        obtain ⟨b, o, rfl, ha⟩ := (HR'.out.below hbw.out) k x hx
        have HX := Lib.hid hx
        have HFr := Lib.hid (HF.out k x hx)
        obtain ⟨Ab, cb, hv, hrd, _⟩ := SlR_of_row hown.out rfl
        subst hv
        have HRD := Lib.hid hrd
        have htl : t.length ≤ 141733920768 := htab.out.len
        obtain ⟨nl, hnl⟩ : ∃ n, n = t.length := ⟨_, rfl⟩
        rw [← hnl] at hown htl
        rw [← hnl]
        have HNL := Lib.hid hnl
        have hwk : IntKind.i64.wrap (k : Int) = k := wrapk (by omega)
        have hk0 : (0 : Int) ≤ (k : Int) := by omega
        have hkn : (k : Int) < (nx : Int) := by omega
        clear hx hrd hnl
        rcases k with _ | k
        · simp only [Nat.zero_mul, Nat.add_zero] at ha
          clear hwk hk0
          cases hg : goodC x with
          | true =>
            have H1 : Hid (∀ w, Calls Try.prog 43 #[vC x] w fun e w' => e = .returned (.bool true) ∧ Below w.heap.size w w') := Lib.hid (fun w => by have := rgood_ok x w HFr.out; rwa [hg] at this)
            have HOK := Lib.hid (show okC xs 0 = true by rw [okC_0 HX.out, hg])
            have HAX := Lib.hid ha
            have HCX : Hid (∀ w2, Below wr.heap.size wr w2 → AtC w2 b (o) x) := Lib.hid (fun w2 h => ha.below h)
            clear hg ha
            go_wp2_with fail
            refine Og.walk_lit [[],[],[0,1],[2,0,1],[3,2,0,1],[4,3,2,0,1],[5,4,3,2,0,1],[6,5,4,3,2,0,1],[7,6,5,4,3,2,0,1],[8,6,7,5,4,3,2,0,1],[9,8,6,7,5,4,3,2,0,1],[9,8,6,7,5,4,3,2,0,1],[11,9,8,6,7,5,4,3,2,0,1],[10,12,9,8,6,7,5,4,3,2,0,1,11],[13,9,10,12,8,6,7,5,4,3,2,0,1,11],[14,9,13,10,12,8,6,7,5,4,3,2,0,1,11],[9,8,6,7,5,4,3,2,0,1],[9,8,6,7,5,4,3,2,0,1],[16,17,9,8,6,7,5,4,3,2,0,1],[18,9,16,17,8,6,7,5,4,3,2,0,1],[19,15,9,18,16,17,8,6,7,5,4,3,2,0,1,14,13,10,12,11],[15,20,9,14,13,10,12,8,6,7,5,4,3,2,0,1,11,19,18,16,17],[21,9,15,20,14,13,10,12,8,6,7,5,4,3,2,0,1,11,19,18,16,17],[9,22,6,8,7,5,4,3,2,0,1,21,15,20,14,13,10,12,11,19,18,16,17],[6,23,5,4,3,2,0,1,9,22,8,7,21,15,20,14,13,10,12,11,19,18,16,17]] (fun w2 => Below wr.heap.size wr w2) (fun w1 w2 => Below w1.heap.size w1 w2) (by kernel_rfl) (by kernel_rfl) (bdrew) ?_
            refine Og.step_pure (fun _ => Below.refl _ _) ?_; apply Exists.intro; refine And.intro ?_ ?_; focus (intro vs w2 hC hk; revert hk; simp only [Og.KS, Og.K0, Og.Is, List.getD_cons_zero, List.getD_cons_succ, List.getD_nil, List.contains_cons, List.contains_nil, Nat.reduceAdd, Nat.reduceBEq, Bool.or_false, Bool.false_or, Bool.or_true, Bool.true_or, Bool.false_eq_true, false_implies, true_implies, true_and, and_true, forall_const]; intros; go_simp; rfl)
            refine Og.step_pure (fun _ => Below.refl _ _) ?_; apply Exists.intro; refine And.intro ?_ ?_; focus (intro vs w2 hC hk; revert hk; simp only [Og.KS, Og.K0, Og.Is, List.getD_cons_zero, List.getD_cons_succ, List.getD_nil, List.contains_cons, List.contains_nil, Nat.reduceAdd, Nat.reduceBEq, Bool.or_false, Bool.false_or, Bool.or_true, Bool.true_or, Bool.false_eq_true, false_implies, true_implies, true_and, and_true, forall_const]; intros; go_simp; rfl)
            refine Og.step_pure (fun _ => Below.refl _ _) ?_; apply Exists.intro; refine And.intro ?_ ?_; focus (intro vs w2 hC hk; revert hk; simp only [Og.KS, Og.K0, Og.Is, List.getD_cons_zero, List.getD_cons_succ, List.getD_nil, List.contains_cons, List.contains_nil, Nat.reduceAdd, Nat.reduceBEq, Bool.or_false, Bool.false_or, Bool.or_true, Bool.true_or, Bool.false_eq_true, false_implies, true_implies, true_and, and_true, forall_const]; intros; go_simp; rfl)
            refine Og.step_pureB (fun _ => Below.refl _ _) ⟨vC x, ?_, ?_⟩; focus (intro vs w2 hC hk; simp only [Og.KS, Og.K0, Og.Is, List.getD_cons_zero, List.getD_cons_succ, List.getD_nil, List.contains_cons, List.contains_nil, Nat.reduceAdd, Nat.reduceBEq, Bool.or_false, Bool.false_or, Bool.or_true, Bool.true_or, Bool.false_eq_true, false_implies, true_implies, true_and, and_true, forall_const] at hk; refine optB_loadC ?_ rfl ?_ (HCX.out w2 hC) ⟨rfl, rfl⟩ <;> go_simp)
            refine Og.step_one ?_; apply Exists.intro; refine And.intro ?_ ?_; focus (intro vs w2 hC hk; revert hk; simp only [Og.KS, Og.K0, Og.Is, List.getD_cons_zero, List.getD_cons_succ, List.getD_nil, List.contains_cons, List.contains_nil, Nat.reduceAdd, Nat.reduceBEq, Bool.or_false, Bool.false_or, Bool.or_true, Bool.true_or, Bool.false_eq_true, false_implies, true_implies, true_and, and_true, forall_const]; intros; go_simp; with_reducible refine (H1.out _).mono ?_; rintro e w3 ⟨rfl, hb⟩; exact Og.RetV.mk ⟨bthen hC hb, hb, rfl⟩)
            refine Og.step_pure (fun _ => Below.refl _ _) ?_; apply Exists.intro; refine And.intro ?_ ?_; focus (intro vs w2 hC hk; revert hk; simp only [Og.KS, Og.K0, Og.Is, List.getD_cons_zero, List.getD_cons_succ, List.getD_nil, List.contains_cons, List.contains_nil, Nat.reduceAdd, Nat.reduceBEq, Bool.or_false, Bool.false_or, Bool.or_true, Bool.true_or, Bool.false_eq_true, false_implies, true_implies, true_and, and_true, forall_const]; intros; go_simp; rfl)
            refine Og.step_pure (fun _ => Below.refl _ _) ?_; apply Exists.intro; refine And.intro ?_ ?_; focus (intro vs w2 hC hk; revert hk; simp only [Og.KS, Og.K0, Og.Is, List.getD_cons_zero, List.getD_cons_succ, List.getD_nil, List.contains_cons, List.contains_nil, Nat.reduceAdd, Nat.reduceBEq, Bool.or_false, Bool.false_or, Bool.or_true, Bool.true_or, Bool.false_eq_true, false_implies, true_implies, true_and, and_true, forall_const]; intros; go_simp; rfl)
            refine Og.step_pure (fun _ => Below.refl _ _) ?_; apply Exists.intro; refine And.intro ?_ ?_; focus (intro vs w2 hC hk; revert hk; simp only [Og.KS, Og.K0, Og.Is, List.getD_cons_zero, List.getD_cons_succ, List.getD_nil, List.contains_cons, List.contains_nil, Nat.reduceAdd, Nat.reduceBEq, Bool.or_false, Bool.false_or, Bool.or_true, Bool.true_or, Bool.false_eq_true, false_implies, true_implies, true_and, and_true, forall_const]; intros; go_simp; rfl)
            refine Og.step_pure (fun _ => Below.refl _ _) ?_; apply Exists.intro; refine And.intro ?_ ?_; focus (intro vs w2 hC hk; revert hk; simp only [Og.KS, Og.K0, Og.Is, List.getD_cons_zero, List.getD_cons_succ, List.getD_nil, List.contains_cons, List.contains_nil, Nat.reduceAdd, Nat.reduceBEq, Bool.or_false, Bool.false_or, Bool.or_true, Bool.true_or, Bool.false_eq_true, false_implies, true_implies, true_and, and_true, forall_const]; intros; go_simp; rfl)
            refine Og.step_pure (fun _ => Below.refl _ _) ?_; apply Exists.intro; refine And.intro ?_ ?_; focus (intro vs w2 hC hk; revert hk; simp only [Og.KS, Og.K0, Og.Is, List.getD_cons_zero, List.getD_cons_succ, List.getD_nil, List.contains_cons, List.contains_nil, Nat.reduceAdd, Nat.reduceBEq, Bool.or_false, Bool.false_or, Bool.or_true, Bool.true_or, Bool.false_eq_true, false_implies, true_implies, true_and, and_true, forall_const]; intros; go_simp; rfl)
            refine Og.step_pure (fun _ => Below.refl _ _) ?_; apply Exists.intro; refine And.intro ?_ ?_; focus (intro vs w2 hC hk; revert hk; simp only [Og.KS, Og.K0, Og.Is, List.getD_cons_zero, List.getD_cons_succ, List.getD_nil, List.contains_cons, List.contains_nil, Nat.reduceAdd, Nat.reduceBEq, Bool.or_false, Bool.false_or, Bool.or_true, Bool.true_or, Bool.false_eq_true, false_implies, true_implies, true_and, and_true, forall_const]; intros; go_simp; rfl)
            refine Og.step_pure (fun _ => Below.refl _ _) ?_; apply Exists.intro; refine And.intro ?_ ?_; focus (intro vs w2 hC hk; revert hk; simp only [Og.KS, Og.K0, Og.Is, List.getD_cons_zero, List.getD_cons_succ, List.getD_nil, List.contains_cons, List.contains_nil, Nat.reduceAdd, Nat.reduceBEq, Bool.or_false, Bool.false_or, Bool.or_true, Bool.true_or, Bool.false_eq_true, false_implies, true_implies, true_and, and_true, forall_const]; intros; go_simp; rfl)
            refine Og.step_pure (fun _ => Below.refl _ _) ?_; apply Exists.intro; refine And.intro ?_ ?_; focus (intro vs w2 hC hk; revert hk; simp only [Og.KS, Og.K0, Og.Is, List.getD_cons_zero, List.getD_cons_succ, List.getD_nil, List.contains_cons, List.contains_nil, Nat.reduceAdd, Nat.reduceBEq, Bool.or_false, Bool.false_or, Bool.or_true, Bool.true_or, Bool.false_eq_true, false_implies, true_implies, true_and, and_true, forall_const]; intros; go_simp; rfl)
            refine Og.step_pure (fun _ => Below.refl _ _) ?_; apply Exists.intro; refine And.intro ?_ ?_; focus (intro vs w2 hC hk; revert hk; simp only [Og.KS, Og.K0, Og.Is, List.getD_cons_zero, List.getD_cons_succ, List.getD_nil, List.contains_cons, List.contains_nil, Nat.reduceAdd, Nat.reduceBEq, Bool.or_false, Bool.false_or, Bool.or_true, Bool.true_or, Bool.false_eq_true, false_implies, true_implies, true_and, and_true, forall_const]; intros; go_simp; rfl)
            refine Og.step_pure (fun _ => Below.refl _ _) ?_; apply Exists.intro; refine And.intro ?_ ?_; focus (intro vs w2 hC hk; revert hk; simp only [Og.KS, Og.K0, Og.Is, List.getD_cons_zero, List.getD_cons_succ, List.getD_nil, List.contains_cons, List.contains_nil, Nat.reduceAdd, Nat.reduceBEq, Bool.or_false, Bool.false_or, Bool.or_true, Bool.true_or, Bool.false_eq_true, false_implies, true_implies, true_and, and_true, forall_const]; intros; go_simp; rfl)
            refine Og.step_pure (fun _ => Below.refl _ _) ?_; apply Exists.intro; refine And.intro ?_ ?_; focus (intro vs w2 hC hk; revert hk; simp only [Og.KS, Og.K0, Og.Is, List.getD_cons_zero, List.getD_cons_succ, List.getD_nil, List.contains_cons, List.contains_nil, Nat.reduceAdd, Nat.reduceBEq, Bool.or_false, Bool.false_or, Bool.or_true, Bool.true_or, Bool.false_eq_true, false_implies, true_implies, true_and, and_true, forall_const]; intros; go_simp; rfl)
            refine Og.step_pure (fun _ => Below.refl _ _) ?_; apply Exists.intro; refine And.intro ?_ ?_; focus (intro vs w2 hC hk; revert hk; simp only [Og.KS, Og.K0, Og.Is, List.getD_cons_zero, List.getD_cons_succ, List.getD_nil, List.contains_cons, List.contains_nil, Nat.reduceAdd, Nat.reduceBEq, Bool.or_false, Bool.false_or, Bool.or_true, Bool.true_or, Bool.false_eq_true, false_implies, true_implies, true_and, and_true, forall_const]; intros; go_simp; rfl)
            refine Og.step_pure (fun _ => Below.refl _ _) ?_; apply Exists.intro; refine And.intro ?_ ?_; focus (intro vs w2 hC hk; revert hk; simp only [Og.KS, Og.K0, Og.Is, List.getD_cons_zero, List.getD_cons_succ, List.getD_nil, List.contains_cons, List.contains_nil, Nat.reduceAdd, Nat.reduceBEq, Bool.or_false, Bool.false_or, Bool.or_true, Bool.true_or, Bool.false_eq_true, false_implies, true_implies, true_and, and_true, forall_const]; intros; go_simp; rfl)
            refine Og.step_pure (fun _ => Below.refl _ _) ?_; apply Exists.intro; refine And.intro ?_ ?_; focus (intro vs w2 hC hk; revert hk; simp only [Og.KS, Og.K0, Og.Is, List.getD_cons_zero, List.getD_cons_succ, List.getD_nil, List.contains_cons, List.contains_nil, Nat.reduceAdd, Nat.reduceBEq, Bool.or_false, Bool.false_or, Bool.or_true, Bool.true_or, Bool.false_eq_true, false_implies, true_implies, true_and, and_true, forall_const]; intros; go_simp; rfl)
            refine Og.step_pure (fun _ => Below.refl _ _) ?_; apply Exists.intro; refine And.intro ?_ ?_; focus (intro vs w2 hC hk; revert hk; simp only [Og.KS, Og.K0, Og.Is, List.getD_cons_zero, List.getD_cons_succ, List.getD_nil, List.contains_cons, List.contains_nil, Nat.reduceAdd, Nat.reduceBEq, Bool.or_false, Bool.false_or, Bool.or_true, Bool.true_or, Bool.false_eq_true, false_implies, true_implies, true_and, and_true, forall_const]; intros; go_simp; rfl)
            refine Og.step_pure (fun _ => Below.refl _ _) ?_; apply Exists.intro; refine And.intro ?_ ?_; focus (intro vs w2 hC hk; revert hk; simp only [Og.KS, Og.K0, Og.Is, List.getD_cons_zero, List.getD_cons_succ, List.getD_nil, List.contains_cons, List.contains_nil, Nat.reduceAdd, Nat.reduceBEq, Bool.or_false, Bool.false_or, Bool.or_true, Bool.true_or, Bool.false_eq_true, false_implies, true_implies, true_and, and_true, forall_const]; intros; go_simp; rfl)
            refine Og.step_pure (fun _ => Below.refl _ _) ?_; apply Exists.intro; refine And.intro ?_ ?_; focus (intro vs w2 hC hk; revert hk; simp only [Og.KS, Og.K0, Og.Is, List.getD_cons_zero, List.getD_cons_succ, List.getD_nil, List.contains_cons, List.contains_nil, Nat.reduceAdd, Nat.reduceBEq, Bool.or_false, Bool.false_or, Bool.or_true, Bool.true_or, Bool.false_eq_true, false_implies, true_implies, true_and, and_true, forall_const]; intros; go_simp; rfl)
            refine Og.step_pure (fun _ => Below.refl _ _) ?_; apply Exists.intro; refine And.intro ?_ ?_; focus (intro vs w2 hC hk; revert hk; simp only [Og.KS, Og.K0, Og.Is, List.getD_cons_zero, List.getD_cons_succ, List.getD_nil, List.contains_cons, List.contains_nil, Nat.reduceAdd, Nat.reduceBEq, Bool.or_false, Bool.false_or, Bool.or_true, Bool.true_or, Bool.false_eq_true, false_implies, true_implies, true_and, and_true, forall_const]; intros; go_simp; rfl)
            refine Og.step_pure (fun _ => Below.refl _ _) ?_; apply Exists.intro; refine And.intro ?_ ?_; focus (intro vs w2 hC hk; revert hk; simp only [Og.KS, Og.K0, Og.Is, List.getD_cons_zero, List.getD_cons_succ, List.getD_nil, List.contains_cons, List.contains_nil, Nat.reduceAdd, Nat.reduceBEq, Bool.or_false, Bool.false_or, Bool.or_true, Bool.true_or, Bool.false_eq_true, false_implies, true_implies, true_and, and_true, forall_const]; intros; go_simp; rfl)
            refine Og.step_pure (fun _ => Below.refl _ _) ?_; apply Exists.intro; refine And.intro ?_ ?_; focus (intro vs w2 hC hk; revert hk; simp only [Og.KS, Og.K0, Og.Is, List.getD_cons_zero, List.getD_cons_succ, List.getD_nil, List.contains_cons, List.contains_nil, Nat.reduceAdd, Nat.reduceBEq, Bool.or_false, Bool.false_or, Bool.or_true, Bool.true_or, Bool.false_eq_true, false_implies, true_implies, true_and, and_true, forall_const]; intros; go_simp; rfl)
            intro vs w2 hC hk
            simp only [Og.KS, Og.K0, Og.Is, List.getD_cons_zero, List.getD_cons_succ, List.getD_nil, List.contains_cons, List.contains_nil, Nat.reduceAdd, Nat.reduceBEq, Bool.or_false, Bool.false_or, Bool.or_true, Bool.true_or, Bool.false_eq_true, false_implies, true_implies, true_and, and_true, forall_const] at hk
            simp only [hk, Act.put, List.setIfInBounds_toArray, List.set_cons_zero, List.set_cons_succ]
            clear hk
            clear HCX H1
            have B2 := Lib.hid (bthen' hbw.out hbw.out.size hC)
            have HO2 := Lib.hid (own_below hown.out hC)
            have HRD2 := Lib.hid (HRD.out.below hC)
            have HAX2 := Lib.hid (HAX.out.below hC)
            have HG := Lib.hid (okC_good HX.out HOK.out)
            clear hC hbw hown HRD HAX
            obtain ⟨z, hz⟩ : ∃ z, z = plC x := ⟨_, rfl⟩
            have HZE := Lib.hid hz
            have H44 : Hid (∀ w, Calls Try.prog 44 #[vC x] w fun e w' => e = .returned (vC z) ∧ Below w.heap.size w w') := Lib.hid (fun w => by rw [hz]; exact rplain_ok x w)
            have H37 : Hid (∀ w, Calls Try.prog 37 #[vC z] w fun e w' => e = .returned (.agg #[.int .u32 (atC x).a, .int .i64 (atC x).l]) ∧ Below w.heap.size w w') := Lib.hid (fun w => by have := rAt_ok (plC x) w; rw [atC_plC] at this; rw [hz]; exact this)
            have HZK := Lib.hid (show z.k = x.k by rw [hz]; exact plC_k x)
            obtain ⟨f, hf⟩ : ∃ f, f = fnd t (atC x) := ⟨_, rfl⟩
            have HFE := Lib.hid hf
            have H29 : Hid (∀ w, RdR w Ab t → Calls Try.prog 29 #[.slice Ab nl cb, .agg #[.int .u32 (atC x).a, .int .i64 (atC x).l]] w fun e w' => e = .returned (.agg #[.int .u32 f.p.a, .int .i64 f.p.l, .int .i64 f.m, .int .u64 f.o0, .int .u64 f.o1, .int .u64 f.h0, .int .u64 f.h1]) ∧ Below w.heap.size w w') := Lib.hid (fun w h => by have := find_ok t (atC x) Ab cb w h (by rw [← HNL.out]; omega); rw [← HNL.out, ← hf] at this; exact this)
            clear hz hf
            go_wp2_with (refine wpList_loadC rfl (.tmp 51) rfl rfl HAX2.out ?_)
            refine Calls.mono (H44.out w2) ?_
            rintro e w3 ⟨rfl, hb3⟩
            have B3 := Lib.hid (bthen' B2.out B2.out.size hb3)
            have HO3 := Lib.hid (own_below HO2.out hb3)
            have HRD3 := Lib.hid (HRD2.out.below hb3)
            clear hb3 B2 HO2 HRD2 HAX2 H44
            go_wp2_with (first | (refine wpList_storeC (x := z) rfl (.tmp 9) (.tmp 53) rfl rfl w3.heap.size rfl rfl _ (heap_at rfl) rfl ?_; intro w4 hz4 hb4 ho4 hs4; have HZ4 := Lib.hid (AtC_cells hz4); have b4 := below_storeA hb4; have B4 := Lib.hid (bthen' B3.out B3.out.size b4); have HO4 := Lib.hid (own_below HO3.out b4); have HRD4 := Lib.hid (HRD3.out.below b4); clear hz4 hb4 ho4 hs4 b4 B3 HO3 HRD3) | (refine wpList_loadC rfl (.tmp 9) rfl rfl HZ4.out ?_))
            obtain ⟨gz, hgz⟩ : ∃ gz, gz = w3.heap.size := ⟨_, rfl⟩
            rw [← hgz] at HZ4
            rw [← hgz]
            clear hgz
            refine Calls.mono (H37.out w4) ?_
            rintro e w5 ⟨rfl, hb5⟩
            have HZ5 := Lib.hid (HZ4.out.below hb5)
            have B5 := Lib.hid (bthen' B4.out B4.out.size hb5)
            have HO5 := Lib.hid (own_below HO4.out hb5)
            have HRD5 := Lib.hid (HRD4.out.below hb5)
            clear hb5 HZ4 B4 HO4 HRD4
            go_wp2_with fail
            refine Calls.mono (H29.out w5 HRD5.out) ?_
            rintro e w6 ⟨rfl, hb6⟩
            have HZ6 := Lib.hid (HZ5.out.below hb6)
            have B6 := Lib.hid (bthen' B5.out B5.out.size hb6)
            have HO6 := Lib.hid (own_below HO5.out hb6)
            have HRD6 := Lib.hid (HRD5.out.below hb6)
            clear hb6 HZ5 B5 HO5 HRD5 H29
            by_cases hfo : f = z.o
            · have te : eqRb f.p.a f.p.l f.m f.o0 f.o1 f.h0 f.h1 z.o.p.a z.o.p.l z.o.m z.o.o0 z.o.o1 z.o.h0 z.o.h1 = true := (eqRb_of f z.o).trans (decide_eq_true hfo)
              have SR := Lib.hid ((stepR_eq htab.out HG.out).symm.trans (stepR_go HFE.out HZE.out hfo))
              have PT := Lib.hid (fun (w : World) (h : RdR w Ab t) => put_ok t (atC x) z.n Ab cb w h (by rw [← HNL.out]; omega))
              rw [← HNL.out] at PT
              clear hfo
              cases hzk : (z.k == 1) with
              | true =>
                go_wp2_with (refine wpList_store_new rfl 40 (.tmp 10) (.tmp 57) rfl rfl w6.heap.size #[.int .u32 f.p.a, .int .i64 f.p.l, .int .i64 f.m, .int .u64 f.o0, .int .u64 f.o1, .int .u64 f.h0, .int .u64 f.h1] rfl rfl 40 _ (heap_at rfl) info40s rfl (by simp [Value.oneCell']) ?_; intro w7 hz7 hb7 ho7 hs7; have HF7 := Lib.hid (AtR_heap (r := f) hz7); have b7 := below_storeA hb7; have B7 := Lib.hid (bthen' B6.out B6.out.size b7); have HO7 := Lib.hid (own_below HO6.out b7); have HRD7 := Lib.hid (HRD6.out.below b7); have HZ7 := Lib.hid (HZ6.out.below b7); obtain ⟨q0, q1, q2, q3, q4, q5, q6⟩ := HF7.out; have y := HZ7.out.old; have y0 := HZ7.out.1; obtain ⟨y1, y2, y3, y4, y5, y6, y7⟩ := (show w7.cell? ⟨gz, 1, none⟩ = some (.int .u32 z.o.p.a) ∧ w7.cell? ⟨gz, 2, none⟩ = some (.int .i64 z.o.p.l) ∧ w7.cell? ⟨gz, 3, none⟩ = some (.int .i64 z.o.m) ∧ w7.cell? ⟨gz, 4, none⟩ = some (.int .u64 z.o.o0) ∧ w7.cell? ⟨gz, 5, none⟩ = some (.int .u64 z.o.o1) ∧ w7.cell? ⟨gz, 6, none⟩ = some (.int .u64 z.o.h0) ∧ w7.cell? ⟨gz, 7, none⟩ = some (.int .u64 z.o.h1) from ⟨y.1, y.2.1, y.2.2.1, y.2.2.2.1, y.2.2.2.2.1, y.2.2.2.2.2.1, y.2.2.2.2.2.2⟩); clear y hz7 hb7 ho7 hs7 b7 B6 HO6 HRD6 HZ6)
                have HZ8 : Hid (∀ w2, Below w7.heap.size w7 w2 → AtC w2 gz 0 z) := Lib.hid (fun w2 h => HZ7.out.below h)
                have HN8 : Hid (∀ w2, Below w7.heap.size w7 w2 → AtR w2 gz (0 + 8) z.n) := Lib.hid (fun w2 h => (HZ7.out.below h).new)
                clear q0 q1 q2 q3 q4 q5 q6 y0 y1 y2 y3 y4 y5 y6 y7 HF7 te
                refine Og.Tail.walk_lit 5 [[],[],[1],[],[3],[0,2,4,1,3],[5,0,1,2,3,4]] (fun w2 => Below w7.heap.size w7 w2) (fun w1 w2 => Below w1.heap.size w1 w2) (by kernel_rfl) (by kernel_rfl) (by kernel_rfl) bdrew ?_
                simp only [List.take_succ_cons, List.take_zero, List.drop_succ_cons, List.drop_zero]
                refine Og.step_pure (fun _ => Below.refl _ _) ?_; apply Exists.intro; refine And.intro ?_ ?_; focus (intro vs w2 hC hk; revert hk; simp only [Og.KS, Og.K0, Og.Is, List.getD_cons_zero, List.getD_cons_succ, List.getD_nil, List.contains_cons, List.contains_nil, Nat.reduceAdd, Nat.reduceBEq, Bool.or_false, Bool.false_or, Bool.or_true, Bool.true_or, Bool.false_eq_true, false_implies, true_implies, true_and, and_true, forall_const]; intros; go_simp; rfl)
                refine Og.step_pureB (fun _ => Below.refl _ _) ⟨vC z, ?_, ?_⟩; focus (intro vs w2 hC hk; simp only [Og.KS, Og.K0, Og.Is, List.getD_cons_zero, List.getD_cons_succ, List.getD_nil, List.contains_cons, List.contains_nil, Nat.reduceAdd, Nat.reduceBEq, Bool.or_false, Bool.false_or, Bool.or_true, Bool.true_or, Bool.false_eq_true, false_implies, true_implies, true_and, and_true, forall_const] at hk; refine optB_loadC ?_ rfl ?_ (HZ8.out w2 hC) ⟨rfl, rfl⟩ <;> go_simp)
                refine Og.step_one ?_; apply Exists.intro; refine And.intro ?_ ?_; focus (intro vs w2 hC hk; revert hk; simp only [Og.KS, Og.K0, Og.Is, List.getD_cons_zero, List.getD_cons_succ, List.getD_nil, List.contains_cons, List.contains_nil, Nat.reduceAdd, Nat.reduceBEq, Bool.or_false, Bool.false_or, Bool.or_true, Bool.true_or, Bool.false_eq_true, false_implies, true_implies, true_and, and_true, forall_const]; intros; go_simp; with_reducible refine (H37.out _).mono ?_; rintro e w3 ⟨rfl, hb⟩; exact Og.RetV.mk ⟨bthen hC hb, hb, rfl⟩)
                refine Og.step_pure (fun _ => Below.refl _ _) ?_; apply Exists.intro; refine And.intro ?_ ?_; focus (intro vs w2 hC hk; revert hk; simp only [Og.KS, Og.K0, Og.Is, List.getD_cons_zero, List.getD_cons_succ, List.getD_nil, List.contains_cons, List.contains_nil, Nat.reduceAdd, Nat.reduceBEq, Bool.or_false, Bool.false_or, Bool.or_true, Bool.true_or, Bool.false_eq_true, false_implies, true_implies, true_and, and_true, forall_const]; intros; go_simp; rfl)
                refine Og.step_pureB (fun _ => Below.refl _ _) ⟨.agg #[.int .u32 z.n.p.a, .int .i64 z.n.p.l, .int .i64 z.n.m, .int .u64 z.n.o0, .int .u64 z.n.o1, .int .u64 z.n.h0, .int .u64 z.n.h1], ?_, ?_⟩; focus (intro vs w2 hC hk; simp only [Og.KS, Og.K0, Og.Is, List.getD_cons_zero, List.getD_cons_succ, List.getD_nil, List.contains_cons, List.contains_nil, Nat.reduceAdd, Nat.reduceBEq, Bool.or_false, Bool.false_or, Bool.or_true, Bool.true_or, Bool.false_eq_true, false_implies, true_implies, true_and, and_true, forall_const] at hk; refine optB_loadRA ?_ rfl ?_ (HN8.out w2 hC) ⟨rfl, rfl⟩ <;> go_simp)
                intro vs w2 hC hk
                simp only [Og.KS, Og.K0, Og.Is, List.getD_cons_zero, List.getD_cons_succ, List.getD_nil, List.contains_cons, List.contains_nil, Nat.reduceAdd, Nat.reduceBEq, Bool.or_false, Bool.false_or, Bool.or_true, Bool.true_or, Bool.false_eq_true, false_implies, true_implies, true_and, and_true, forall_const] at hk
                simp only [hk, Act.put, List.setIfInBounds_toArray, List.set_cons_zero, List.set_cons_succ]
                clear hk
                have B8 := Lib.hid (bthen' B7.out B7.out.size hC)
                have HO8 := Lib.hid (own_below HO7.out hC)
                have HRD8 := Lib.hid (HRD7.out.below hC)
                clear hC B7 HO7 HRD7 HZ8 HN8 HZ7
                go_wp2_with fail
                refine Calls.mono (PT.out w2 HRD8.out) ?_
                rintro e w9 ⟨⟨v9, rfl, hown9⟩, hb9⟩
                have B9 := Lib.hid (bthen' B8.out B8.out.size hb9)
                have HO9 := Lib.hid (own_lower hown9 B8.out.size)
                clear hown9 hb9 B8 HO8 HRD8 PT
                go_wp2_with fail
                go_roundw
                case rel => exact ⟨0 + 1, putL z.n (atC x) (decide (z.n = zR)) t, by omega, by go_num, Lib.hid (runA_go hrun.out HX.out HOK.out SR.out), Lib.hid (stepA_tab htab.out HG.out HFr.out SR.out), HO9, B9⟩
                case measure => simp [intOf]; omega
              | false =>
                go_wp2_with (refine wpList_store_new rfl 40 (.tmp 10) (.tmp 57) rfl rfl w6.heap.size #[.int .u32 f.p.a, .int .i64 f.p.l, .int .i64 f.m, .int .u64 f.o0, .int .u64 f.o1, .int .u64 f.h0, .int .u64 f.h1] rfl rfl 40 _ (heap_at rfl) info40s rfl (by simp [Value.oneCell']) ?_; intro w7 hz7 hb7 ho7 hs7; have HF7 := Lib.hid (AtR_heap (r := f) hz7); have b7 := below_storeA hb7; have B7 := Lib.hid (bthen' B6.out B6.out.size b7); have HO7 := Lib.hid (own_below HO6.out b7); have HRD7 := Lib.hid (HRD6.out.below b7); have HZ7 := Lib.hid (HZ6.out.below b7); obtain ⟨q0, q1, q2, q3, q4, q5, q6⟩ := HF7.out; have y := HZ7.out.old; have y0 := HZ7.out.1; obtain ⟨y1, y2, y3, y4, y5, y6, y7⟩ := (show w7.cell? ⟨gz, 1, none⟩ = some (.int .u32 z.o.p.a) ∧ w7.cell? ⟨gz, 2, none⟩ = some (.int .i64 z.o.p.l) ∧ w7.cell? ⟨gz, 3, none⟩ = some (.int .i64 z.o.m) ∧ w7.cell? ⟨gz, 4, none⟩ = some (.int .u64 z.o.o0) ∧ w7.cell? ⟨gz, 5, none⟩ = some (.int .u64 z.o.o1) ∧ w7.cell? ⟨gz, 6, none⟩ = some (.int .u64 z.o.h0) ∧ w7.cell? ⟨gz, 7, none⟩ = some (.int .u64 z.o.h1) from ⟨y.1, y.2.1, y.2.2.1, y.2.2.2.1, y.2.2.2.2.1, y.2.2.2.2.2.1, y.2.2.2.2.2.2⟩); clear y hz7 hb7 ho7 hs7 b7 B6 HO6 HRD6 HZ6)
                have HZ8 : Hid (∀ w2, Below w7.heap.size w7 w2 → AtC w2 gz 0 z) := Lib.hid (fun w2 h => HZ7.out.below h)
                have HN8 : Hid (∀ w2, Below w7.heap.size w7 w2 → AtR w2 gz (0 + 8) z.n) := Lib.hid (fun w2 h => (HZ7.out.below h).new)
                clear q0 q1 q2 q3 q4 q5 q6 y0 y1 y2 y3 y4 y5 y6 y7 HF7 te
                refine Og.Tail.walk_lit 5 [[],[],[1],[],[3],[0,2,4,1,3],[5,0,1,2,3,4]] (fun w2 => Below w7.heap.size w7 w2) (fun w1 w2 => Below w1.heap.size w1 w2) (by kernel_rfl) (by kernel_rfl) (by kernel_rfl) bdrew ?_
                simp only [List.take_succ_cons, List.take_zero, List.drop_succ_cons, List.drop_zero]
                refine Og.step_pure (fun _ => Below.refl _ _) ?_; apply Exists.intro; refine And.intro ?_ ?_; focus (intro vs w2 hC hk; revert hk; simp only [Og.KS, Og.K0, Og.Is, List.getD_cons_zero, List.getD_cons_succ, List.getD_nil, List.contains_cons, List.contains_nil, Nat.reduceAdd, Nat.reduceBEq, Bool.or_false, Bool.false_or, Bool.or_true, Bool.true_or, Bool.false_eq_true, false_implies, true_implies, true_and, and_true, forall_const]; intros; go_simp; rfl)
                refine Og.step_pureB (fun _ => Below.refl _ _) ⟨vC z, ?_, ?_⟩; focus (intro vs w2 hC hk; simp only [Og.KS, Og.K0, Og.Is, List.getD_cons_zero, List.getD_cons_succ, List.getD_nil, List.contains_cons, List.contains_nil, Nat.reduceAdd, Nat.reduceBEq, Bool.or_false, Bool.false_or, Bool.or_true, Bool.true_or, Bool.false_eq_true, false_implies, true_implies, true_and, and_true, forall_const] at hk; refine optB_loadC ?_ rfl ?_ (HZ8.out w2 hC) ⟨rfl, rfl⟩ <;> go_simp)
                refine Og.step_one ?_; apply Exists.intro; refine And.intro ?_ ?_; focus (intro vs w2 hC hk; revert hk; simp only [Og.KS, Og.K0, Og.Is, List.getD_cons_zero, List.getD_cons_succ, List.getD_nil, List.contains_cons, List.contains_nil, Nat.reduceAdd, Nat.reduceBEq, Bool.or_false, Bool.false_or, Bool.or_true, Bool.true_or, Bool.false_eq_true, false_implies, true_implies, true_and, and_true, forall_const]; intros; go_simp; with_reducible refine (H37.out _).mono ?_; rintro e w3 ⟨rfl, hb⟩; exact Og.RetV.mk ⟨bthen hC hb, hb, rfl⟩)
                refine Og.step_pure (fun _ => Below.refl _ _) ?_; apply Exists.intro; refine And.intro ?_ ?_; focus (intro vs w2 hC hk; revert hk; simp only [Og.KS, Og.K0, Og.Is, List.getD_cons_zero, List.getD_cons_succ, List.getD_nil, List.contains_cons, List.contains_nil, Nat.reduceAdd, Nat.reduceBEq, Bool.or_false, Bool.false_or, Bool.or_true, Bool.true_or, Bool.false_eq_true, false_implies, true_implies, true_and, and_true, forall_const]; intros; go_simp; rfl)
                refine Og.step_pureB (fun _ => Below.refl _ _) ⟨.agg #[.int .u32 z.n.p.a, .int .i64 z.n.p.l, .int .i64 z.n.m, .int .u64 z.n.o0, .int .u64 z.n.o1, .int .u64 z.n.h0, .int .u64 z.n.h1], ?_, ?_⟩; focus (intro vs w2 hC hk; simp only [Og.KS, Og.K0, Og.Is, List.getD_cons_zero, List.getD_cons_succ, List.getD_nil, List.contains_cons, List.contains_nil, Nat.reduceAdd, Nat.reduceBEq, Bool.or_false, Bool.false_or, Bool.or_true, Bool.true_or, Bool.false_eq_true, false_implies, true_implies, true_and, and_true, forall_const] at hk; refine optB_loadRA ?_ rfl ?_ (HN8.out w2 hC) ⟨rfl, rfl⟩ <;> go_simp)
                intro vs w2 hC hk
                simp only [Og.KS, Og.K0, Og.Is, List.getD_cons_zero, List.getD_cons_succ, List.getD_nil, List.contains_cons, List.contains_nil, Nat.reduceAdd, Nat.reduceBEq, Bool.or_false, Bool.false_or, Bool.or_true, Bool.true_or, Bool.false_eq_true, false_implies, true_implies, true_and, and_true, forall_const] at hk
                simp only [hk, Act.put, List.setIfInBounds_toArray, List.set_cons_zero, List.set_cons_succ]
                clear hk
                have B8 := Lib.hid (bthen' B7.out B7.out.size hC)
                have HO8 := Lib.hid (own_below HO7.out hC)
                have HRD8 := Lib.hid (HRD7.out.below hC)
                clear hC B7 HO7 HRD7 HZ8 HN8 HZ7
                go_wp2_with fail
                refine Calls.mono (PT.out w2 HRD8.out) ?_
                rintro e w9 ⟨⟨v9, rfl, hown9⟩, hb9⟩
                have B9 := Lib.hid (bthen' B8.out B8.out.size hb9)
                have HO9 := Lib.hid (own_lower hown9 B8.out.size)
                clear hown9 hb9 B8 HO8 HRD8 PT
                go_wp2_with fail
                go_roundw
                case rel => exact ⟨0 + 1, putL z.n (atC x) (decide (z.n = zR)) t, by omega, by go_num, Lib.hid (runA_go hrun.out HX.out HOK.out SR.out), Lib.hid (stepA_tab htab.out HG.out HFr.out SR.out), HO9, B9⟩
                case measure => simp [intOf]; omega
            · have te : eqRb f.p.a f.p.l f.m f.o0 f.o1 f.h0 f.h1 z.o.p.a z.o.p.l z.o.m z.o.o0 z.o.o1 z.o.h0 z.o.h1 = false := (eqRb_of f z.o).trans (decide_eq_false hfo)
              by_cases h1 : x.k = 1
              · have hzk : (z.k == 1) = true := by rw [HZK.out]; simpa using h1
                have E := Lib.hid (runA_no hrun.out HX.out HOK.out ((stepR_eq htab.out HG.out).symm.trans (stepR_5 h1 HFE.out HZE.out hfo)) HS.out)
                clear h1 hfo
                go_wp2_with (refine wpList_store_new rfl 40 (.tmp 10) (.tmp 57) rfl rfl w6.heap.size #[.int .u32 f.p.a, .int .i64 f.p.l, .int .i64 f.m, .int .u64 f.o0, .int .u64 f.o1, .int .u64 f.h0, .int .u64 f.h1] rfl rfl 40 _ (heap_at rfl) info40s rfl (by simp [Value.oneCell']) ?_; intro w7 hz7 hb7 ho7 hs7; have HF7 := Lib.hid (AtR_heap (r := f) hz7); have b7 := below_storeA hb7; have B7 := Lib.hid (bthen' B6.out B6.out.size b7); have HO7 := Lib.hid (own_below HO6.out b7); have HRD7 := Lib.hid (HRD6.out.below b7); have HZ7 := Lib.hid (HZ6.out.below b7); obtain ⟨q0, q1, q2, q3, q4, q5, q6⟩ := HF7.out; have y := HZ7.out.old; have y0 := HZ7.out.1; obtain ⟨y1, y2, y3, y4, y5, y6, y7⟩ := (show w7.cell? ⟨gz, 1, none⟩ = some (.int .u32 z.o.p.a) ∧ w7.cell? ⟨gz, 2, none⟩ = some (.int .i64 z.o.p.l) ∧ w7.cell? ⟨gz, 3, none⟩ = some (.int .i64 z.o.m) ∧ w7.cell? ⟨gz, 4, none⟩ = some (.int .u64 z.o.o0) ∧ w7.cell? ⟨gz, 5, none⟩ = some (.int .u64 z.o.o1) ∧ w7.cell? ⟨gz, 6, none⟩ = some (.int .u64 z.o.h0) ∧ w7.cell? ⟨gz, 7, none⟩ = some (.int .u64 z.o.h1) from ⟨y.1, y.2.1, y.2.2.1, y.2.2.2.1, y.2.2.2.2.1, y.2.2.2.2.2.1, y.2.2.2.2.2.2⟩); clear y hz7 hb7 ho7 hs7 b7 B6 HO6 HRD6 HZ6)
                go_ret3
                exact ⟨ApplyR.err E.out, B7.out⟩
              · have hzk : (z.k == 1) = false := by rw [HZK.out]; simpa using h1
                have E := Lib.hid (runA_no hrun.out HX.out HOK.out ((stepR_eq htab.out HG.out).symm.trans (stepR_8 h1 HFE.out HZE.out hfo)) HS.out)
                clear h1 hfo
                go_wp2_with (refine wpList_store_new rfl 40 (.tmp 10) (.tmp 57) rfl rfl w6.heap.size #[.int .u32 f.p.a, .int .i64 f.p.l, .int .i64 f.m, .int .u64 f.o0, .int .u64 f.o1, .int .u64 f.h0, .int .u64 f.h1] rfl rfl 40 _ (heap_at rfl) info40s rfl (by simp [Value.oneCell']) ?_; intro w7 hz7 hb7 ho7 hs7; have HF7 := Lib.hid (AtR_heap (r := f) hz7); have b7 := below_storeA hb7; have B7 := Lib.hid (bthen' B6.out B6.out.size b7); have HO7 := Lib.hid (own_below HO6.out b7); have HRD7 := Lib.hid (HRD6.out.below b7); have HZ7 := Lib.hid (HZ6.out.below b7); obtain ⟨q0, q1, q2, q3, q4, q5, q6⟩ := HF7.out; have y := HZ7.out.old; have y0 := HZ7.out.1; obtain ⟨y1, y2, y3, y4, y5, y6, y7⟩ := (show w7.cell? ⟨gz, 1, none⟩ = some (.int .u32 z.o.p.a) ∧ w7.cell? ⟨gz, 2, none⟩ = some (.int .i64 z.o.p.l) ∧ w7.cell? ⟨gz, 3, none⟩ = some (.int .i64 z.o.m) ∧ w7.cell? ⟨gz, 4, none⟩ = some (.int .u64 z.o.o0) ∧ w7.cell? ⟨gz, 5, none⟩ = some (.int .u64 z.o.o1) ∧ w7.cell? ⟨gz, 6, none⟩ = some (.int .u64 z.o.h0) ∧ w7.cell? ⟨gz, 7, none⟩ = some (.int .u64 z.o.h1) from ⟨y.1, y.2.1, y.2.2.1, y.2.2.2.1, y.2.2.2.2.1, y.2.2.2.2.2.1, y.2.2.2.2.2.2⟩); clear y hz7 hb7 ho7 hs7 b7 B6 HO6 HRD6 HZ6)
                go_ret3
                exact ⟨ApplyR.err E.out, B7.out⟩
          | false =>
            have H1 : Hid (∀ w, Calls Try.prog 43 #[vC x] w fun e w' => e = .returned (.bool false) ∧ Below w.heap.size w w') := Lib.hid (fun w => by have := rgood_ok x w HFr.out; rwa [hg] at this)
            have E := Lib.hid (runA_bad hrun.out (by rw [← HN.out]; exact hlt) (show okC xs 0 = false by rw [okC_0 HX.out, hg]) HS.out)
            have HCX : Hid (∀ w2, Below wr.heap.size wr w2 → AtC w2 b (o) x) := Lib.hid (fun w2 h => ha.below h)
            clear hg ha
            go_wp2_with fail
            refine Og.walk_lit [[],[],[0,1],[2,0,1],[3,2,0,1],[4,3,2,0,1],[5,4,3,2,0,1],[6,5,4,3,2,0,1],[7,6,5,4,3,2,0,1],[8,6,7,5,4,3,2,0,1],[9,8,6,7,5,4,3,2,0,1],[9,8,6,7,5,4,3,2,0,1],[11,9,8,6,7,5,4,3,2,0,1],[10,12,9,8,6,7,5,4,3,2,0,1,11],[13,9,10,12,8,6,7,5,4,3,2,0,1,11],[14,9,13,10,12,8,6,7,5,4,3,2,0,1,11],[9,8,6,7,5,4,3,2,0,1],[9,8,6,7,5,4,3,2,0,1],[16,17,9,8,6,7,5,4,3,2,0,1],[18,9,16,17,8,6,7,5,4,3,2,0,1],[19,15,9,18,16,17,8,6,7,5,4,3,2,0,1,14,13,10,12,11],[15,20,9,14,13,10,12,8,6,7,5,4,3,2,0,1,11,19,18,16,17],[21,9,15,20,14,13,10,12,8,6,7,5,4,3,2,0,1,11,19,18,16,17],[9,22,6,8,7,5,4,3,2,0,1,21,15,20,14,13,10,12,11,19,18,16,17],[6,23,5,4,3,2,0,1,9,22,8,7,21,15,20,14,13,10,12,11,19,18,16,17]] (fun w2 => Below wr.heap.size wr w2) (fun w1 w2 => Below w1.heap.size w1 w2) (by kernel_rfl) (by kernel_rfl) (bdrew) ?_
            refine Og.step_pure (fun _ => Below.refl _ _) ?_; apply Exists.intro; refine And.intro ?_ ?_; focus (intro vs w2 hC hk; revert hk; simp only [Og.KS, Og.K0, Og.Is, List.getD_cons_zero, List.getD_cons_succ, List.getD_nil, List.contains_cons, List.contains_nil, Nat.reduceAdd, Nat.reduceBEq, Bool.or_false, Bool.false_or, Bool.or_true, Bool.true_or, Bool.false_eq_true, false_implies, true_implies, true_and, and_true, forall_const]; intros; go_simp; rfl)
            refine Og.step_pure (fun _ => Below.refl _ _) ?_; apply Exists.intro; refine And.intro ?_ ?_; focus (intro vs w2 hC hk; revert hk; simp only [Og.KS, Og.K0, Og.Is, List.getD_cons_zero, List.getD_cons_succ, List.getD_nil, List.contains_cons, List.contains_nil, Nat.reduceAdd, Nat.reduceBEq, Bool.or_false, Bool.false_or, Bool.or_true, Bool.true_or, Bool.false_eq_true, false_implies, true_implies, true_and, and_true, forall_const]; intros; go_simp; rfl)
            refine Og.step_pure (fun _ => Below.refl _ _) ?_; apply Exists.intro; refine And.intro ?_ ?_; focus (intro vs w2 hC hk; revert hk; simp only [Og.KS, Og.K0, Og.Is, List.getD_cons_zero, List.getD_cons_succ, List.getD_nil, List.contains_cons, List.contains_nil, Nat.reduceAdd, Nat.reduceBEq, Bool.or_false, Bool.false_or, Bool.or_true, Bool.true_or, Bool.false_eq_true, false_implies, true_implies, true_and, and_true, forall_const]; intros; go_simp; rfl)
            refine Og.step_pureB (fun _ => Below.refl _ _) ⟨vC x, ?_, ?_⟩; focus (intro vs w2 hC hk; simp only [Og.KS, Og.K0, Og.Is, List.getD_cons_zero, List.getD_cons_succ, List.getD_nil, List.contains_cons, List.contains_nil, Nat.reduceAdd, Nat.reduceBEq, Bool.or_false, Bool.false_or, Bool.or_true, Bool.true_or, Bool.false_eq_true, false_implies, true_implies, true_and, and_true, forall_const] at hk; refine optB_loadC ?_ rfl ?_ (HCX.out w2 hC) ⟨rfl, rfl⟩ <;> go_simp)
            refine Og.step_one ?_; apply Exists.intro; refine And.intro ?_ ?_; focus (intro vs w2 hC hk; revert hk; simp only [Og.KS, Og.K0, Og.Is, List.getD_cons_zero, List.getD_cons_succ, List.getD_nil, List.contains_cons, List.contains_nil, Nat.reduceAdd, Nat.reduceBEq, Bool.or_false, Bool.false_or, Bool.or_true, Bool.true_or, Bool.false_eq_true, false_implies, true_implies, true_and, and_true, forall_const]; intros; go_simp; with_reducible refine (H1.out _).mono ?_; rintro e w3 ⟨rfl, hb⟩; exact Og.RetV.mk ⟨bthen hC hb, hb, rfl⟩)
            refine Og.step_pure (fun _ => Below.refl _ _) ?_; apply Exists.intro; refine And.intro ?_ ?_; focus (intro vs w2 hC hk; revert hk; simp only [Og.KS, Og.K0, Og.Is, List.getD_cons_zero, List.getD_cons_succ, List.getD_nil, List.contains_cons, List.contains_nil, Nat.reduceAdd, Nat.reduceBEq, Bool.or_false, Bool.false_or, Bool.or_true, Bool.true_or, Bool.false_eq_true, false_implies, true_implies, true_and, and_true, forall_const]; intros; go_simp; rfl)
            refine Og.step_pure (fun _ => Below.refl _ _) ?_; apply Exists.intro; refine And.intro ?_ ?_; focus (intro vs w2 hC hk; revert hk; simp only [Og.KS, Og.K0, Og.Is, List.getD_cons_zero, List.getD_cons_succ, List.getD_nil, List.contains_cons, List.contains_nil, Nat.reduceAdd, Nat.reduceBEq, Bool.or_false, Bool.false_or, Bool.or_true, Bool.true_or, Bool.false_eq_true, false_implies, true_implies, true_and, and_true, forall_const]; intros; go_simp; rfl)
            refine Og.step_pure (fun _ => Below.refl _ _) ?_; apply Exists.intro; refine And.intro ?_ ?_; focus (intro vs w2 hC hk; revert hk; simp only [Og.KS, Og.K0, Og.Is, List.getD_cons_zero, List.getD_cons_succ, List.getD_nil, List.contains_cons, List.contains_nil, Nat.reduceAdd, Nat.reduceBEq, Bool.or_false, Bool.false_or, Bool.or_true, Bool.true_or, Bool.false_eq_true, false_implies, true_implies, true_and, and_true, forall_const]; intros; go_simp; rfl)
            refine Og.step_pure (fun _ => Below.refl _ _) ?_; apply Exists.intro; refine And.intro ?_ ?_; focus (intro vs w2 hC hk; revert hk; simp only [Og.KS, Og.K0, Og.Is, List.getD_cons_zero, List.getD_cons_succ, List.getD_nil, List.contains_cons, List.contains_nil, Nat.reduceAdd, Nat.reduceBEq, Bool.or_false, Bool.false_or, Bool.or_true, Bool.true_or, Bool.false_eq_true, false_implies, true_implies, true_and, and_true, forall_const]; intros; go_simp; rfl)
            refine Og.step_pure (fun _ => Below.refl _ _) ?_; apply Exists.intro; refine And.intro ?_ ?_; focus (intro vs w2 hC hk; revert hk; simp only [Og.KS, Og.K0, Og.Is, List.getD_cons_zero, List.getD_cons_succ, List.getD_nil, List.contains_cons, List.contains_nil, Nat.reduceAdd, Nat.reduceBEq, Bool.or_false, Bool.false_or, Bool.or_true, Bool.true_or, Bool.false_eq_true, false_implies, true_implies, true_and, and_true, forall_const]; intros; go_simp; rfl)
            refine Og.step_pure (fun _ => Below.refl _ _) ?_; apply Exists.intro; refine And.intro ?_ ?_; focus (intro vs w2 hC hk; revert hk; simp only [Og.KS, Og.K0, Og.Is, List.getD_cons_zero, List.getD_cons_succ, List.getD_nil, List.contains_cons, List.contains_nil, Nat.reduceAdd, Nat.reduceBEq, Bool.or_false, Bool.false_or, Bool.or_true, Bool.true_or, Bool.false_eq_true, false_implies, true_implies, true_and, and_true, forall_const]; intros; go_simp; rfl)
            refine Og.step_pure (fun _ => Below.refl _ _) ?_; apply Exists.intro; refine And.intro ?_ ?_; focus (intro vs w2 hC hk; revert hk; simp only [Og.KS, Og.K0, Og.Is, List.getD_cons_zero, List.getD_cons_succ, List.getD_nil, List.contains_cons, List.contains_nil, Nat.reduceAdd, Nat.reduceBEq, Bool.or_false, Bool.false_or, Bool.or_true, Bool.true_or, Bool.false_eq_true, false_implies, true_implies, true_and, and_true, forall_const]; intros; go_simp; rfl)
            refine Og.step_pure (fun _ => Below.refl _ _) ?_; apply Exists.intro; refine And.intro ?_ ?_; focus (intro vs w2 hC hk; revert hk; simp only [Og.KS, Og.K0, Og.Is, List.getD_cons_zero, List.getD_cons_succ, List.getD_nil, List.contains_cons, List.contains_nil, Nat.reduceAdd, Nat.reduceBEq, Bool.or_false, Bool.false_or, Bool.or_true, Bool.true_or, Bool.false_eq_true, false_implies, true_implies, true_and, and_true, forall_const]; intros; go_simp; rfl)
            refine Og.step_pure (fun _ => Below.refl _ _) ?_; apply Exists.intro; refine And.intro ?_ ?_; focus (intro vs w2 hC hk; revert hk; simp only [Og.KS, Og.K0, Og.Is, List.getD_cons_zero, List.getD_cons_succ, List.getD_nil, List.contains_cons, List.contains_nil, Nat.reduceAdd, Nat.reduceBEq, Bool.or_false, Bool.false_or, Bool.or_true, Bool.true_or, Bool.false_eq_true, false_implies, true_implies, true_and, and_true, forall_const]; intros; go_simp; rfl)
            refine Og.step_pure (fun _ => Below.refl _ _) ?_; apply Exists.intro; refine And.intro ?_ ?_; focus (intro vs w2 hC hk; revert hk; simp only [Og.KS, Og.K0, Og.Is, List.getD_cons_zero, List.getD_cons_succ, List.getD_nil, List.contains_cons, List.contains_nil, Nat.reduceAdd, Nat.reduceBEq, Bool.or_false, Bool.false_or, Bool.or_true, Bool.true_or, Bool.false_eq_true, false_implies, true_implies, true_and, and_true, forall_const]; intros; go_simp; rfl)
            refine Og.step_pure (fun _ => Below.refl _ _) ?_; apply Exists.intro; refine And.intro ?_ ?_; focus (intro vs w2 hC hk; revert hk; simp only [Og.KS, Og.K0, Og.Is, List.getD_cons_zero, List.getD_cons_succ, List.getD_nil, List.contains_cons, List.contains_nil, Nat.reduceAdd, Nat.reduceBEq, Bool.or_false, Bool.false_or, Bool.or_true, Bool.true_or, Bool.false_eq_true, false_implies, true_implies, true_and, and_true, forall_const]; intros; go_simp; rfl)
            refine Og.step_pure (fun _ => Below.refl _ _) ?_; apply Exists.intro; refine And.intro ?_ ?_; focus (intro vs w2 hC hk; revert hk; simp only [Og.KS, Og.K0, Og.Is, List.getD_cons_zero, List.getD_cons_succ, List.getD_nil, List.contains_cons, List.contains_nil, Nat.reduceAdd, Nat.reduceBEq, Bool.or_false, Bool.false_or, Bool.or_true, Bool.true_or, Bool.false_eq_true, false_implies, true_implies, true_and, and_true, forall_const]; intros; go_simp; rfl)
            refine Og.step_pure (fun _ => Below.refl _ _) ?_; apply Exists.intro; refine And.intro ?_ ?_; focus (intro vs w2 hC hk; revert hk; simp only [Og.KS, Og.K0, Og.Is, List.getD_cons_zero, List.getD_cons_succ, List.getD_nil, List.contains_cons, List.contains_nil, Nat.reduceAdd, Nat.reduceBEq, Bool.or_false, Bool.false_or, Bool.or_true, Bool.true_or, Bool.false_eq_true, false_implies, true_implies, true_and, and_true, forall_const]; intros; go_simp; rfl)
            refine Og.step_pure (fun _ => Below.refl _ _) ?_; apply Exists.intro; refine And.intro ?_ ?_; focus (intro vs w2 hC hk; revert hk; simp only [Og.KS, Og.K0, Og.Is, List.getD_cons_zero, List.getD_cons_succ, List.getD_nil, List.contains_cons, List.contains_nil, Nat.reduceAdd, Nat.reduceBEq, Bool.or_false, Bool.false_or, Bool.or_true, Bool.true_or, Bool.false_eq_true, false_implies, true_implies, true_and, and_true, forall_const]; intros; go_simp; rfl)
            refine Og.step_pure (fun _ => Below.refl _ _) ?_; apply Exists.intro; refine And.intro ?_ ?_; focus (intro vs w2 hC hk; revert hk; simp only [Og.KS, Og.K0, Og.Is, List.getD_cons_zero, List.getD_cons_succ, List.getD_nil, List.contains_cons, List.contains_nil, Nat.reduceAdd, Nat.reduceBEq, Bool.or_false, Bool.false_or, Bool.or_true, Bool.true_or, Bool.false_eq_true, false_implies, true_implies, true_and, and_true, forall_const]; intros; go_simp; rfl)
            refine Og.step_pure (fun _ => Below.refl _ _) ?_; apply Exists.intro; refine And.intro ?_ ?_; focus (intro vs w2 hC hk; revert hk; simp only [Og.KS, Og.K0, Og.Is, List.getD_cons_zero, List.getD_cons_succ, List.getD_nil, List.contains_cons, List.contains_nil, Nat.reduceAdd, Nat.reduceBEq, Bool.or_false, Bool.false_or, Bool.or_true, Bool.true_or, Bool.false_eq_true, false_implies, true_implies, true_and, and_true, forall_const]; intros; go_simp; rfl)
            refine Og.step_pure (fun _ => Below.refl _ _) ?_; apply Exists.intro; refine And.intro ?_ ?_; focus (intro vs w2 hC hk; revert hk; simp only [Og.KS, Og.K0, Og.Is, List.getD_cons_zero, List.getD_cons_succ, List.getD_nil, List.contains_cons, List.contains_nil, Nat.reduceAdd, Nat.reduceBEq, Bool.or_false, Bool.false_or, Bool.or_true, Bool.true_or, Bool.false_eq_true, false_implies, true_implies, true_and, and_true, forall_const]; intros; go_simp; rfl)
            refine Og.step_pure (fun _ => Below.refl _ _) ?_; apply Exists.intro; refine And.intro ?_ ?_; focus (intro vs w2 hC hk; revert hk; simp only [Og.KS, Og.K0, Og.Is, List.getD_cons_zero, List.getD_cons_succ, List.getD_nil, List.contains_cons, List.contains_nil, Nat.reduceAdd, Nat.reduceBEq, Bool.or_false, Bool.false_or, Bool.or_true, Bool.true_or, Bool.false_eq_true, false_implies, true_implies, true_and, and_true, forall_const]; intros; go_simp; rfl)
            refine Og.step_pure (fun _ => Below.refl _ _) ?_; apply Exists.intro; refine And.intro ?_ ?_; focus (intro vs w2 hC hk; revert hk; simp only [Og.KS, Og.K0, Og.Is, List.getD_cons_zero, List.getD_cons_succ, List.getD_nil, List.contains_cons, List.contains_nil, Nat.reduceAdd, Nat.reduceBEq, Bool.or_false, Bool.false_or, Bool.or_true, Bool.true_or, Bool.false_eq_true, false_implies, true_implies, true_and, and_true, forall_const]; intros; go_simp; rfl)
            refine Og.step_pure (fun _ => Below.refl _ _) ?_; apply Exists.intro; refine And.intro ?_ ?_; focus (intro vs w2 hC hk; revert hk; simp only [Og.KS, Og.K0, Og.Is, List.getD_cons_zero, List.getD_cons_succ, List.getD_nil, List.contains_cons, List.contains_nil, Nat.reduceAdd, Nat.reduceBEq, Bool.or_false, Bool.false_or, Bool.or_true, Bool.true_or, Bool.false_eq_true, false_implies, true_implies, true_and, and_true, forall_const]; intros; go_simp; rfl)
            intro vs w2 hC hk
            simp only [Og.KS, Og.K0, Og.Is, List.getD_cons_zero, List.getD_cons_succ, List.getD_nil, List.contains_cons, List.contains_nil, Nat.reduceAdd, Nat.reduceBEq, Bool.or_false, Bool.false_or, Bool.or_true, Bool.true_or, Bool.false_eq_true, false_implies, true_implies, true_and, and_true, forall_const] at hk
            simp only [hk, Act.put, List.setIfInBounds_toArray, List.set_cons_zero, List.set_cons_succ]
            clear hk
            have HB2 := Lib.hid (bthen' hbw.out hbw.out.size hC)
            clear hC hbw
            go_wp2_with fail
            go_ret3
            exact ⟨ApplyR.err E.out, HB2.out⟩
        · obtain ⟨y, hy⟩ : ∃ r, xs[k]? = some r := ⟨_, List.getElem?_eq_getElem (by rw [← HN.out]; omega)⟩
          obtain ⟨b', o', hA', ha'⟩ := (HR'.out.below hbw.out) k y hy
          injection hA' with hA'
          injection hA' with hb' ho' _
          subst hb' ho'
          have HY := Lib.hid hy
          clear hy hwk hk0 hkn
          have hwk : IntKind.i64.wrap (k : Int) = k := wrapk (by omega)
          have hk0 : (0 : Int) ≤ (k : Int) := by omega
          have hk1 : (0 : Int) ≤ (k : Int) + 1 := by omega
          have hkn : (k : Int) < (nx : Int) := by omega
          have hkn1 : (k : Int) + 1 < (nx : Int) := by omega
          cases hg : goodC x with
          | false =>
            have H1 : Hid (∀ w, Calls Try.prog 43 #[vC x] w fun e w' => e = .returned (.bool false) ∧ Below w.heap.size w w') := Lib.hid (fun w => by have := rgood_ok x w HFr.out; rwa [hg] at this)
            have E := Lib.hid (runA_bad hrun.out (by rw [← HN.out]; exact hlt) (show okC xs (k + 1) = false by rw [okC_s HX.out HY.out, hg]; rfl) HS.out)
            have HCX : Hid (∀ w2, Below wr.heap.size wr w2 → AtC w2 b (o + (k + 1) * 15) x) := Lib.hid (fun w2 h => ha.below h)
            have HCY : Hid (∀ w2, Below wr.heap.size wr w2 → AtC w2 b (o + k * 15) y) := Lib.hid (fun w2 h => ha'.below h)
            clear hg ha ha'
            go_wp2_with fail
            refine Og.walk_lit [[],[],[0,1],[2,0,1],[3,2,0,1],[4,3,2,0,1],[5,4,3,2,0,1],[6,5,4,3,2,0,1],[7,6,5,4,3,2,0,1],[8,6,7,5,4,3,2,0,1],[9,8,6,7,5,4,3,2,0,1],[9,8,6,7,5,4,3,2,0,1],[11,9,8,6,7,5,4,3,2,0,1],[10,12,9,8,6,7,5,4,3,2,0,1,11],[13,9,10,12,8,6,7,5,4,3,2,0,1,11],[14,9,13,10,12,8,6,7,5,4,3,2,0,1,11],[9,8,6,7,5,4,3,2,0,1],[9,8,6,7,5,4,3,2,0,1],[16,17,9,8,6,7,5,4,3,2,0,1],[18,9,16,17,8,6,7,5,4,3,2,0,1],[19,15,9,18,16,17,8,6,7,5,4,3,2,0,1,14,13,10,12,11],[15,20,9,14,13,10,12,8,6,7,5,4,3,2,0,1,11,19,18,16,17],[21,9,15,20,14,13,10,12,8,6,7,5,4,3,2,0,1,11,19,18,16,17],[9,22,6,8,7,5,4,3,2,0,1,21,15,20,14,13,10,12,11,19,18,16,17],[6,23,5,4,3,2,0,1,9,22,8,7,21,15,20,14,13,10,12,11,19,18,16,17]] (fun w2 => Below wr.heap.size wr w2) (fun w1 w2 => Below w1.heap.size w1 w2) (by kernel_rfl) (by kernel_rfl) (bdrew) ?_
            refine Og.step_pure (fun _ => Below.refl _ _) ?_; apply Exists.intro; refine And.intro ?_ ?_; focus (intro vs w2 hC hk; revert hk; simp only [Og.KS, Og.K0, Og.Is, List.getD_cons_zero, List.getD_cons_succ, List.getD_nil, List.contains_cons, List.contains_nil, Nat.reduceAdd, Nat.reduceBEq, Bool.or_false, Bool.false_or, Bool.or_true, Bool.true_or, Bool.false_eq_true, false_implies, true_implies, true_and, and_true, forall_const]; intros; go_simp; rfl)
            refine Og.step_pure (fun _ => Below.refl _ _) ?_; apply Exists.intro; refine And.intro ?_ ?_; focus (intro vs w2 hC hk; revert hk; simp only [Og.KS, Og.K0, Og.Is, List.getD_cons_zero, List.getD_cons_succ, List.getD_nil, List.contains_cons, List.contains_nil, Nat.reduceAdd, Nat.reduceBEq, Bool.or_false, Bool.false_or, Bool.or_true, Bool.true_or, Bool.false_eq_true, false_implies, true_implies, true_and, and_true, forall_const]; intros; go_simp; rfl)
            refine Og.step_pure (fun _ => Below.refl _ _) ?_; apply Exists.intro; refine And.intro ?_ ?_; focus (intro vs w2 hC hk; revert hk; simp only [Og.KS, Og.K0, Og.Is, List.getD_cons_zero, List.getD_cons_succ, List.getD_nil, List.contains_cons, List.contains_nil, Nat.reduceAdd, Nat.reduceBEq, Bool.or_false, Bool.false_or, Bool.or_true, Bool.true_or, Bool.false_eq_true, false_implies, true_implies, true_and, and_true, forall_const]; intros; go_simp; rfl)
            refine Og.step_pureB (fun _ => Below.refl _ _) ⟨vC x, ?_, ?_⟩; focus (intro vs w2 hC hk; simp only [Og.KS, Og.K0, Og.Is, List.getD_cons_zero, List.getD_cons_succ, List.getD_nil, List.contains_cons, List.contains_nil, Nat.reduceAdd, Nat.reduceBEq, Bool.or_false, Bool.false_or, Bool.or_true, Bool.true_or, Bool.false_eq_true, false_implies, true_implies, true_and, and_true, forall_const] at hk; refine optB_loadC ?_ rfl ?_ (HCX.out w2 hC) ⟨rfl, rfl⟩ <;> go_simp)
            refine Og.step_one ?_; apply Exists.intro; refine And.intro ?_ ?_; focus (intro vs w2 hC hk; revert hk; simp only [Og.KS, Og.K0, Og.Is, List.getD_cons_zero, List.getD_cons_succ, List.getD_nil, List.contains_cons, List.contains_nil, Nat.reduceAdd, Nat.reduceBEq, Bool.or_false, Bool.false_or, Bool.or_true, Bool.true_or, Bool.false_eq_true, false_implies, true_implies, true_and, and_true, forall_const]; intros; go_simp; with_reducible refine (H1.out _).mono ?_; rintro e w3 ⟨rfl, hb⟩; exact Og.RetV.mk ⟨bthen hC hb, hb, rfl⟩)
            refine Og.step_pure (fun _ => Below.refl _ _) ?_; apply Exists.intro; refine And.intro ?_ ?_; focus (intro vs w2 hC hk; revert hk; simp only [Og.KS, Og.K0, Og.Is, List.getD_cons_zero, List.getD_cons_succ, List.getD_nil, List.contains_cons, List.contains_nil, Nat.reduceAdd, Nat.reduceBEq, Bool.or_false, Bool.false_or, Bool.or_true, Bool.true_or, Bool.false_eq_true, false_implies, true_implies, true_and, and_true, forall_const]; intros; go_simp; rfl)
            refine Og.step_pure (fun _ => Below.refl _ _) ?_; apply Exists.intro; refine And.intro ?_ ?_; focus (intro vs w2 hC hk; revert hk; simp only [Og.KS, Og.K0, Og.Is, List.getD_cons_zero, List.getD_cons_succ, List.getD_nil, List.contains_cons, List.contains_nil, Nat.reduceAdd, Nat.reduceBEq, Bool.or_false, Bool.false_or, Bool.or_true, Bool.true_or, Bool.false_eq_true, false_implies, true_implies, true_and, and_true, forall_const]; intros; go_simp; rfl)
            refine Og.step_pure (fun _ => Below.refl _ _) ?_; apply Exists.intro; refine And.intro ?_ ?_; focus (intro vs w2 hC hk; revert hk; simp only [Og.KS, Og.K0, Og.Is, List.getD_cons_zero, List.getD_cons_succ, List.getD_nil, List.contains_cons, List.contains_nil, Nat.reduceAdd, Nat.reduceBEq, Bool.or_false, Bool.false_or, Bool.or_true, Bool.true_or, Bool.false_eq_true, false_implies, true_implies, true_and, and_true, forall_const]; intros; go_simp; rfl)
            refine Og.step_pure (fun _ => Below.refl _ _) ?_; apply Exists.intro; refine And.intro ?_ ?_; focus (intro vs w2 hC hk; revert hk; simp only [Og.KS, Og.K0, Og.Is, List.getD_cons_zero, List.getD_cons_succ, List.getD_nil, List.contains_cons, List.contains_nil, Nat.reduceAdd, Nat.reduceBEq, Bool.or_false, Bool.false_or, Bool.or_true, Bool.true_or, Bool.false_eq_true, false_implies, true_implies, true_and, and_true, forall_const]; intros; go_simp; rfl)
            refine Og.step_pure (fun _ => Below.refl _ _) ?_; apply Exists.intro; refine And.intro ?_ ?_; focus (intro vs w2 hC hk; revert hk; simp only [Og.KS, Og.K0, Og.Is, List.getD_cons_zero, List.getD_cons_succ, List.getD_nil, List.contains_cons, List.contains_nil, Nat.reduceAdd, Nat.reduceBEq, Bool.or_false, Bool.false_or, Bool.or_true, Bool.true_or, Bool.false_eq_true, false_implies, true_implies, true_and, and_true, forall_const]; intros; go_simp; rfl)
            refine Og.step_pure (fun _ => Below.refl _ _) ?_; apply Exists.intro; refine And.intro ?_ ?_; focus (intro vs w2 hC hk; revert hk; simp only [Og.KS, Og.K0, Og.Is, List.getD_cons_zero, List.getD_cons_succ, List.getD_nil, List.contains_cons, List.contains_nil, Nat.reduceAdd, Nat.reduceBEq, Bool.or_false, Bool.false_or, Bool.or_true, Bool.true_or, Bool.false_eq_true, false_implies, true_implies, true_and, and_true, forall_const]; intros; go_simp; rfl)
            refine Og.step_pure (fun _ => Below.refl _ _) ?_; apply Exists.intro; refine And.intro ?_ ?_; focus (intro vs w2 hC hk; revert hk; simp only [Og.KS, Og.K0, Og.Is, List.getD_cons_zero, List.getD_cons_succ, List.getD_nil, List.contains_cons, List.contains_nil, Nat.reduceAdd, Nat.reduceBEq, Bool.or_false, Bool.false_or, Bool.or_true, Bool.true_or, Bool.false_eq_true, false_implies, true_implies, true_and, and_true, forall_const]; intros; go_simp; rfl)
            refine Og.step_pure (fun _ => Below.refl _ _) ?_; apply Exists.intro; refine And.intro ?_ ?_; focus (intro vs w2 hC hk; revert hk; simp only [Og.KS, Og.K0, Og.Is, List.getD_cons_zero, List.getD_cons_succ, List.getD_nil, List.contains_cons, List.contains_nil, Nat.reduceAdd, Nat.reduceBEq, Bool.or_false, Bool.false_or, Bool.or_true, Bool.true_or, Bool.false_eq_true, false_implies, true_implies, true_and, and_true, forall_const]; intros; go_simp; rfl)
            refine Og.step_pure (fun _ => Below.refl _ _) ?_; apply Exists.intro; refine And.intro ?_ ?_; focus (intro vs w2 hC hk; revert hk; simp only [Og.KS, Og.K0, Og.Is, List.getD_cons_zero, List.getD_cons_succ, List.getD_nil, List.contains_cons, List.contains_nil, Nat.reduceAdd, Nat.reduceBEq, Bool.or_false, Bool.false_or, Bool.or_true, Bool.true_or, Bool.false_eq_true, false_implies, true_implies, true_and, and_true, forall_const]; intros; go_simp; rfl)
            refine Og.step_pure (fun _ => Below.refl _ _) ?_; apply Exists.intro; refine And.intro ?_ ?_; focus (intro vs w2 hC hk; revert hk; simp only [Og.KS, Og.K0, Og.Is, List.getD_cons_zero, List.getD_cons_succ, List.getD_nil, List.contains_cons, List.contains_nil, Nat.reduceAdd, Nat.reduceBEq, Bool.or_false, Bool.false_or, Bool.or_true, Bool.true_or, Bool.false_eq_true, false_implies, true_implies, true_and, and_true, forall_const]; intros; go_simp; rfl)
            refine Og.step_pure (fun _ => Below.refl _ _) ?_; apply Exists.intro; refine And.intro ?_ ?_; focus (intro vs w2 hC hk; revert hk; simp only [Og.KS, Og.K0, Og.Is, List.getD_cons_zero, List.getD_cons_succ, List.getD_nil, List.contains_cons, List.contains_nil, Nat.reduceAdd, Nat.reduceBEq, Bool.or_false, Bool.false_or, Bool.or_true, Bool.true_or, Bool.false_eq_true, false_implies, true_implies, true_and, and_true, forall_const]; intros; go_simp; rfl)
            refine Og.step_pure (fun _ => Below.refl _ _) ?_; apply Exists.intro; refine And.intro ?_ ?_; focus (intro vs w2 hC hk; revert hk; simp only [Og.KS, Og.K0, Og.Is, List.getD_cons_zero, List.getD_cons_succ, List.getD_nil, List.contains_cons, List.contains_nil, Nat.reduceAdd, Nat.reduceBEq, Bool.or_false, Bool.false_or, Bool.or_true, Bool.true_or, Bool.false_eq_true, false_implies, true_implies, true_and, and_true, forall_const]; intros; go_simp; rfl)
            refine Og.step_pure (fun _ => Below.refl _ _) ?_; apply Exists.intro; refine And.intro ?_ ?_; focus (intro vs w2 hC hk; revert hk; simp only [Og.KS, Og.K0, Og.Is, List.getD_cons_zero, List.getD_cons_succ, List.getD_nil, List.contains_cons, List.contains_nil, Nat.reduceAdd, Nat.reduceBEq, Bool.or_false, Bool.false_or, Bool.or_true, Bool.true_or, Bool.false_eq_true, false_implies, true_implies, true_and, and_true, forall_const]; intros; go_simp; rfl)
            refine Og.step_pure (fun _ => Below.refl _ _) ?_; apply Exists.intro; refine And.intro ?_ ?_; focus (intro vs w2 hC hk; revert hk; simp only [Og.KS, Og.K0, Og.Is, List.getD_cons_zero, List.getD_cons_succ, List.getD_nil, List.contains_cons, List.contains_nil, Nat.reduceAdd, Nat.reduceBEq, Bool.or_false, Bool.false_or, Bool.or_true, Bool.true_or, Bool.false_eq_true, false_implies, true_implies, true_and, and_true, forall_const]; intros; go_simp; rfl)
            refine Og.step_pure (fun _ => Below.refl _ _) ?_; apply Exists.intro; refine And.intro ?_ ?_; focus (intro vs w2 hC hk; revert hk; simp only [Og.KS, Og.K0, Og.Is, List.getD_cons_zero, List.getD_cons_succ, List.getD_nil, List.contains_cons, List.contains_nil, Nat.reduceAdd, Nat.reduceBEq, Bool.or_false, Bool.false_or, Bool.or_true, Bool.true_or, Bool.false_eq_true, false_implies, true_implies, true_and, and_true, forall_const]; intros; go_simp; rfl)
            refine Og.step_pure (fun _ => Below.refl _ _) ?_; apply Exists.intro; refine And.intro ?_ ?_; focus (intro vs w2 hC hk; revert hk; simp only [Og.KS, Og.K0, Og.Is, List.getD_cons_zero, List.getD_cons_succ, List.getD_nil, List.contains_cons, List.contains_nil, Nat.reduceAdd, Nat.reduceBEq, Bool.or_false, Bool.false_or, Bool.or_true, Bool.true_or, Bool.false_eq_true, false_implies, true_implies, true_and, and_true, forall_const]; intros; go_simp; rfl)
            refine Og.step_pure (fun _ => Below.refl _ _) ?_; apply Exists.intro; refine And.intro ?_ ?_; focus (intro vs w2 hC hk; revert hk; simp only [Og.KS, Og.K0, Og.Is, List.getD_cons_zero, List.getD_cons_succ, List.getD_nil, List.contains_cons, List.contains_nil, Nat.reduceAdd, Nat.reduceBEq, Bool.or_false, Bool.false_or, Bool.or_true, Bool.true_or, Bool.false_eq_true, false_implies, true_implies, true_and, and_true, forall_const]; intros; go_simp; rfl)
            refine Og.step_pure (fun _ => Below.refl _ _) ?_; apply Exists.intro; refine And.intro ?_ ?_; focus (intro vs w2 hC hk; revert hk; simp only [Og.KS, Og.K0, Og.Is, List.getD_cons_zero, List.getD_cons_succ, List.getD_nil, List.contains_cons, List.contains_nil, Nat.reduceAdd, Nat.reduceBEq, Bool.or_false, Bool.false_or, Bool.or_true, Bool.true_or, Bool.false_eq_true, false_implies, true_implies, true_and, and_true, forall_const]; intros; go_simp; rfl)
            refine Og.step_pure (fun _ => Below.refl _ _) ?_; apply Exists.intro; refine And.intro ?_ ?_; focus (intro vs w2 hC hk; revert hk; simp only [Og.KS, Og.K0, Og.Is, List.getD_cons_zero, List.getD_cons_succ, List.getD_nil, List.contains_cons, List.contains_nil, Nat.reduceAdd, Nat.reduceBEq, Bool.or_false, Bool.false_or, Bool.or_true, Bool.true_or, Bool.false_eq_true, false_implies, true_implies, true_and, and_true, forall_const]; intros; go_simp; rfl)
            refine Og.step_pure (fun _ => Below.refl _ _) ?_; apply Exists.intro; refine And.intro ?_ ?_; focus (intro vs w2 hC hk; revert hk; simp only [Og.KS, Og.K0, Og.Is, List.getD_cons_zero, List.getD_cons_succ, List.getD_nil, List.contains_cons, List.contains_nil, Nat.reduceAdd, Nat.reduceBEq, Bool.or_false, Bool.false_or, Bool.or_true, Bool.true_or, Bool.false_eq_true, false_implies, true_implies, true_and, and_true, forall_const]; intros; go_simp; rfl)
            intro vs w2 hC hk
            simp only [Og.KS, Og.K0, Og.Is, List.getD_cons_zero, List.getD_cons_succ, List.getD_nil, List.contains_cons, List.contains_nil, Nat.reduceAdd, Nat.reduceBEq, Bool.or_false, Bool.false_or, Bool.or_true, Bool.true_or, Bool.false_eq_true, false_implies, true_implies, true_and, and_true, forall_const] at hk
            simp only [hk, Act.put, List.setIfInBounds_toArray, List.set_cons_zero, List.set_cons_succ]
            clear hk
            have HB2 := Lib.hid (bthen' hbw.out hbw.out.size hC)
            clear hC hbw
            go_wp2_with fail
            go_ret3
            exact ⟨ApplyR.err E.out, HB2.out⟩
          | true =>
            cases hb : befP (atC y) (atC x) with
            | true =>
              have H1 : Hid (∀ w, Calls Try.prog 43 #[vC x] w fun e w' => e = .returned (.bool true) ∧ Below w.heap.size w w') := Lib.hid (fun w => by have := rgood_ok x w HFr.out; rwa [hg] at this)
              have H2 : Hid (∀ w, Calls Try.prog 37 #[vC y] w fun e w' => e = .returned (.agg #[.int .u32 (atC y).a, .int .i64 (atC y).l]) ∧ Below w.heap.size w w') := Lib.hid (fun w => rAt_ok y w)
              have H3 : Hid (∀ w, Calls Try.prog 37 #[vC x] w fun e w' => e = .returned (.agg #[.int .u32 (atC x).a, .int .i64 (atC x).l]) ∧ Below w.heap.size w w') := Lib.hid (fun w => rAt_ok x w)
              have H4 : Hid (∀ w, Calls Try.prog 31 #[.agg #[.int .u32 (atC y).a, .int .i64 (atC y).l], .agg #[.int .u32 (atC x).a, .int .i64 (atC x).l]] w fun e w' => e = .returned (.bool true) ∧ Below w.heap.size w w') := Lib.hid (fun w => by have := rbefore_ok (atC y) (atC x) w; rwa [hb] at this)
              have HOK := Lib.hid (show okC xs (k + 1) = true by rw [okC_s HX.out HY.out, hg]; rw [hb]; rfl)
              have HAX := Lib.hid ha
              have HCX : Hid (∀ w2, Below wr.heap.size wr w2 → AtC w2 b (o + (k + 1) * 15) x) := Lib.hid (fun w2 h => ha.below h)
              have HCY : Hid (∀ w2, Below wr.heap.size wr w2 → AtC w2 b (o + k * 15) y) := Lib.hid (fun w2 h => ha'.below h)
              clear hg hb ha ha'
              go_wp2_with fail
              refine Og.walk_lit [[],[],[0,1],[2,0,1],[3,2,0,1],[4,3,2,0,1],[5,4,3,2,0,1],[6,5,4,3,2,0,1],[7,6,5,4,3,2,0,1],[8,6,7,5,4,3,2,0,1],[9,8,6,7,5,4,3,2,0,1],[9,8,6,7,5,4,3,2,0,1],[11,9,8,6,7,5,4,3,2,0,1],[10,12,9,8,6,7,5,4,3,2,0,1,11],[13,9,10,12,8,6,7,5,4,3,2,0,1,11],[14,9,13,10,12,8,6,7,5,4,3,2,0,1,11],[9,8,6,7,5,4,3,2,0,1],[9,8,6,7,5,4,3,2,0,1],[16,17,9,8,6,7,5,4,3,2,0,1],[18,9,16,17,8,6,7,5,4,3,2,0,1],[19,15,9,18,16,17,8,6,7,5,4,3,2,0,1,14,13,10,12,11],[15,20,9,14,13,10,12,8,6,7,5,4,3,2,0,1,11,19,18,16,17],[21,9,15,20,14,13,10,12,8,6,7,5,4,3,2,0,1,11,19,18,16,17],[9,22,6,8,7,5,4,3,2,0,1,21,15,20,14,13,10,12,11,19,18,16,17],[6,23,5,4,3,2,0,1,9,22,8,7,21,15,20,14,13,10,12,11,19,18,16,17]] (fun w2 => Below wr.heap.size wr w2) (fun w1 w2 => Below w1.heap.size w1 w2) (by kernel_rfl) (by kernel_rfl) (bdrew) ?_
              refine Og.step_pure (fun _ => Below.refl _ _) ?_; apply Exists.intro; refine And.intro ?_ ?_; focus (intro vs w2 hC hk; revert hk; simp only [Og.KS, Og.K0, Og.Is, List.getD_cons_zero, List.getD_cons_succ, List.getD_nil, List.contains_cons, List.contains_nil, Nat.reduceAdd, Nat.reduceBEq, Bool.or_false, Bool.false_or, Bool.or_true, Bool.true_or, Bool.false_eq_true, false_implies, true_implies, true_and, and_true, forall_const]; intros; go_simp; rfl)
              refine Og.step_pure (fun _ => Below.refl _ _) ?_; apply Exists.intro; refine And.intro ?_ ?_; focus (intro vs w2 hC hk; revert hk; simp only [Og.KS, Og.K0, Og.Is, List.getD_cons_zero, List.getD_cons_succ, List.getD_nil, List.contains_cons, List.contains_nil, Nat.reduceAdd, Nat.reduceBEq, Bool.or_false, Bool.false_or, Bool.or_true, Bool.true_or, Bool.false_eq_true, false_implies, true_implies, true_and, and_true, forall_const]; intros; go_simp; rfl)
              refine Og.step_pure (fun _ => Below.refl _ _) ?_; apply Exists.intro; refine And.intro ?_ ?_; focus (intro vs w2 hC hk; revert hk; simp only [Og.KS, Og.K0, Og.Is, List.getD_cons_zero, List.getD_cons_succ, List.getD_nil, List.contains_cons, List.contains_nil, Nat.reduceAdd, Nat.reduceBEq, Bool.or_false, Bool.false_or, Bool.or_true, Bool.true_or, Bool.false_eq_true, false_implies, true_implies, true_and, and_true, forall_const]; intros; go_simp; rfl)
              refine Og.step_pureB (fun _ => Below.refl _ _) ⟨vC x, ?_, ?_⟩; focus (intro vs w2 hC hk; simp only [Og.KS, Og.K0, Og.Is, List.getD_cons_zero, List.getD_cons_succ, List.getD_nil, List.contains_cons, List.contains_nil, Nat.reduceAdd, Nat.reduceBEq, Bool.or_false, Bool.false_or, Bool.or_true, Bool.true_or, Bool.false_eq_true, false_implies, true_implies, true_and, and_true, forall_const] at hk; refine optB_loadC ?_ rfl ?_ (HCX.out w2 hC) ⟨rfl, rfl⟩ <;> go_simp)
              refine Og.step_one ?_; apply Exists.intro; refine And.intro ?_ ?_; focus (intro vs w2 hC hk; revert hk; simp only [Og.KS, Og.K0, Og.Is, List.getD_cons_zero, List.getD_cons_succ, List.getD_nil, List.contains_cons, List.contains_nil, Nat.reduceAdd, Nat.reduceBEq, Bool.or_false, Bool.false_or, Bool.or_true, Bool.true_or, Bool.false_eq_true, false_implies, true_implies, true_and, and_true, forall_const]; intros; go_simp; with_reducible refine (H1.out _).mono ?_; rintro e w3 ⟨rfl, hb⟩; exact Og.RetV.mk ⟨bthen hC hb, hb, rfl⟩)
              refine Og.step_pure (fun _ => Below.refl _ _) ?_; apply Exists.intro; refine And.intro ?_ ?_; focus (intro vs w2 hC hk; revert hk; simp only [Og.KS, Og.K0, Og.Is, List.getD_cons_zero, List.getD_cons_succ, List.getD_nil, List.contains_cons, List.contains_nil, Nat.reduceAdd, Nat.reduceBEq, Bool.or_false, Bool.false_or, Bool.or_true, Bool.true_or, Bool.false_eq_true, false_implies, true_implies, true_and, and_true, forall_const]; intros; go_simp; rfl)
              refine Og.step_pure (fun _ => Below.refl _ _) ?_; apply Exists.intro; refine And.intro ?_ ?_; focus (intro vs w2 hC hk; revert hk; simp only [Og.KS, Og.K0, Og.Is, List.getD_cons_zero, List.getD_cons_succ, List.getD_nil, List.contains_cons, List.contains_nil, Nat.reduceAdd, Nat.reduceBEq, Bool.or_false, Bool.false_or, Bool.or_true, Bool.true_or, Bool.false_eq_true, false_implies, true_implies, true_and, and_true, forall_const]; intros; go_simp; rfl)
              refine Og.step_pure (fun _ => Below.refl _ _) ?_; apply Exists.intro; refine And.intro ?_ ?_; focus (intro vs w2 hC hk; revert hk; simp only [Og.KS, Og.K0, Og.Is, List.getD_cons_zero, List.getD_cons_succ, List.getD_nil, List.contains_cons, List.contains_nil, Nat.reduceAdd, Nat.reduceBEq, Bool.or_false, Bool.false_or, Bool.or_true, Bool.true_or, Bool.false_eq_true, false_implies, true_implies, true_and, and_true, forall_const]; intros; go_simp; rfl)
              refine Og.step_pure (fun _ => Below.refl _ _) ?_; apply Exists.intro; refine And.intro ?_ ?_; focus (intro vs w2 hC hk; revert hk; simp only [Og.KS, Og.K0, Og.Is, List.getD_cons_zero, List.getD_cons_succ, List.getD_nil, List.contains_cons, List.contains_nil, Nat.reduceAdd, Nat.reduceBEq, Bool.or_false, Bool.false_or, Bool.or_true, Bool.true_or, Bool.false_eq_true, false_implies, true_implies, true_and, and_true, forall_const]; intros; go_simp; rfl)
              refine Og.step_pure (fun _ => Below.refl _ _) ?_; apply Exists.intro; refine And.intro ?_ ?_; focus (intro vs w2 hC hk; revert hk; simp only [Og.KS, Og.K0, Og.Is, List.getD_cons_zero, List.getD_cons_succ, List.getD_nil, List.contains_cons, List.contains_nil, Nat.reduceAdd, Nat.reduceBEq, Bool.or_false, Bool.false_or, Bool.or_true, Bool.true_or, Bool.false_eq_true, false_implies, true_implies, true_and, and_true, forall_const]; intros; go_simp; rfl)
              refine Og.step_pure (fun _ => Below.refl _ _) ?_; apply Exists.intro; refine And.intro ?_ ?_; focus (intro vs w2 hC hk; revert hk; simp only [Og.KS, Og.K0, Og.Is, List.getD_cons_zero, List.getD_cons_succ, List.getD_nil, List.contains_cons, List.contains_nil, Nat.reduceAdd, Nat.reduceBEq, Bool.or_false, Bool.false_or, Bool.or_true, Bool.true_or, Bool.false_eq_true, false_implies, true_implies, true_and, and_true, forall_const]; intros; go_simp; rfl)
              refine Og.step_pure (fun _ => Below.refl _ _) ?_; apply Exists.intro; refine And.intro ?_ ?_; focus (intro vs w2 hC hk; revert hk; simp only [Og.KS, Og.K0, Og.Is, List.getD_cons_zero, List.getD_cons_succ, List.getD_nil, List.contains_cons, List.contains_nil, Nat.reduceAdd, Nat.reduceBEq, Bool.or_false, Bool.false_or, Bool.or_true, Bool.true_or, Bool.false_eq_true, false_implies, true_implies, true_and, and_true, forall_const]; intros; go_simp; rfl)
              refine Og.step_pure (fun _ => Below.refl _ _) ?_; apply Exists.intro; refine And.intro ?_ ?_; focus (intro vs w2 hC hk; revert hk; simp only [Og.KS, Og.K0, Og.Is, List.getD_cons_zero, List.getD_cons_succ, List.getD_nil, List.contains_cons, List.contains_nil, Nat.reduceAdd, Nat.reduceBEq, Bool.or_false, Bool.false_or, Bool.or_true, Bool.true_or, Bool.false_eq_true, false_implies, true_implies, true_and, and_true, forall_const]; intros; go_simp; rfl)
              refine Og.step_pure (fun _ => Below.refl _ _) ?_; apply Exists.intro; refine And.intro ?_ ?_; focus (intro vs w2 hC hk; revert hk; simp only [Og.KS, Og.K0, Og.Is, List.getD_cons_zero, List.getD_cons_succ, List.getD_nil, List.contains_cons, List.contains_nil, Nat.reduceAdd, Nat.reduceBEq, Bool.or_false, Bool.false_or, Bool.or_true, Bool.true_or, Bool.false_eq_true, false_implies, true_implies, true_and, and_true, forall_const]; intros; go_simp; rfl)
              refine Og.step_pureB (fun _ => Below.refl _ _) ⟨vC y, ?_, ?_⟩; focus (intro vs w2 hC hk; simp only [Og.KS, Og.K0, Og.Is, List.getD_cons_zero, List.getD_cons_succ, List.getD_nil, List.contains_cons, List.contains_nil, Nat.reduceAdd, Nat.reduceBEq, Bool.or_false, Bool.false_or, Bool.or_true, Bool.true_or, Bool.false_eq_true, false_implies, true_implies, true_and, and_true, forall_const] at hk; refine optB_loadC ?_ rfl ?_ (HCY.out w2 hC) ⟨rfl, rfl⟩ <;> go_simp)
              refine Og.step_one ?_; apply Exists.intro; refine And.intro ?_ ?_; focus (intro vs w2 hC hk; revert hk; simp only [Og.KS, Og.K0, Og.Is, List.getD_cons_zero, List.getD_cons_succ, List.getD_nil, List.contains_cons, List.contains_nil, Nat.reduceAdd, Nat.reduceBEq, Bool.or_false, Bool.false_or, Bool.or_true, Bool.true_or, Bool.false_eq_true, false_implies, true_implies, true_and, and_true, forall_const]; intros; go_simp; with_reducible refine (H2.out _).mono ?_; rintro e w3 ⟨rfl, hb⟩; exact Og.RetV.mk ⟨bthen hC hb, hb, rfl⟩)
              refine Og.step_pure (fun _ => Below.refl _ _) ?_; apply Exists.intro; refine And.intro ?_ ?_; focus (intro vs w2 hC hk; revert hk; simp only [Og.KS, Og.K0, Og.Is, List.getD_cons_zero, List.getD_cons_succ, List.getD_nil, List.contains_cons, List.contains_nil, Nat.reduceAdd, Nat.reduceBEq, Bool.or_false, Bool.false_or, Bool.or_true, Bool.true_or, Bool.false_eq_true, false_implies, true_implies, true_and, and_true, forall_const]; intros; go_simp; rfl)
              refine Og.step_pure (fun _ => Below.refl _ _) ?_; apply Exists.intro; refine And.intro ?_ ?_; focus (intro vs w2 hC hk; revert hk; simp only [Og.KS, Og.K0, Og.Is, List.getD_cons_zero, List.getD_cons_succ, List.getD_nil, List.contains_cons, List.contains_nil, Nat.reduceAdd, Nat.reduceBEq, Bool.or_false, Bool.false_or, Bool.or_true, Bool.true_or, Bool.false_eq_true, false_implies, true_implies, true_and, and_true, forall_const]; intros; go_simp; rfl)
              refine Og.step_pure (fun _ => Below.refl _ _) ?_; apply Exists.intro; refine And.intro ?_ ?_; focus (intro vs w2 hC hk; revert hk; simp only [Og.KS, Og.K0, Og.Is, List.getD_cons_zero, List.getD_cons_succ, List.getD_nil, List.contains_cons, List.contains_nil, Nat.reduceAdd, Nat.reduceBEq, Bool.or_false, Bool.false_or, Bool.or_true, Bool.true_or, Bool.false_eq_true, false_implies, true_implies, true_and, and_true, forall_const]; intros; go_simp; rfl)
              refine Og.step_pureB (fun _ => Below.refl _ _) ⟨vC x, ?_, ?_⟩; focus (intro vs w2 hC hk; simp only [Og.KS, Og.K0, Og.Is, List.getD_cons_zero, List.getD_cons_succ, List.getD_nil, List.contains_cons, List.contains_nil, Nat.reduceAdd, Nat.reduceBEq, Bool.or_false, Bool.false_or, Bool.or_true, Bool.true_or, Bool.false_eq_true, false_implies, true_implies, true_and, and_true, forall_const] at hk; refine optB_loadC ?_ rfl ?_ (HCX.out w2 hC) ⟨rfl, rfl⟩ <;> go_simp)
              refine Og.step_one ?_; apply Exists.intro; refine And.intro ?_ ?_; focus (intro vs w2 hC hk; revert hk; simp only [Og.KS, Og.K0, Og.Is, List.getD_cons_zero, List.getD_cons_succ, List.getD_nil, List.contains_cons, List.contains_nil, Nat.reduceAdd, Nat.reduceBEq, Bool.or_false, Bool.false_or, Bool.or_true, Bool.true_or, Bool.false_eq_true, false_implies, true_implies, true_and, and_true, forall_const]; intros; go_simp; with_reducible refine (H3.out _).mono ?_; rintro e w3 ⟨rfl, hb⟩; exact Og.RetV.mk ⟨bthen hC hb, hb, rfl⟩)
              refine Og.step_one ?_; apply Exists.intro; refine And.intro ?_ ?_; focus (intro vs w2 hC hk; revert hk; simp only [Og.KS, Og.K0, Og.Is, List.getD_cons_zero, List.getD_cons_succ, List.getD_nil, List.contains_cons, List.contains_nil, Nat.reduceAdd, Nat.reduceBEq, Bool.or_false, Bool.false_or, Bool.or_true, Bool.true_or, Bool.false_eq_true, false_implies, true_implies, true_and, and_true, forall_const]; intros; go_simp; with_reducible refine (H4.out _).mono ?_; rintro e w3 ⟨rfl, hb⟩; exact Og.RetV.mk ⟨bthen hC hb, hb, rfl⟩)
              refine Og.step_pure (fun _ => Below.refl _ _) ?_; apply Exists.intro; refine And.intro ?_ ?_; focus (intro vs w2 hC hk; revert hk; simp only [Og.KS, Og.K0, Og.Is, List.getD_cons_zero, List.getD_cons_succ, List.getD_nil, List.contains_cons, List.contains_nil, Nat.reduceAdd, Nat.reduceBEq, Bool.or_false, Bool.false_or, Bool.or_true, Bool.true_or, Bool.false_eq_true, false_implies, true_implies, true_and, and_true, forall_const]; intros; go_simp; rfl)
              refine Og.step_pure (fun _ => Below.refl _ _) ?_; apply Exists.intro; refine And.intro ?_ ?_; focus (intro vs w2 hC hk; revert hk; simp only [Og.KS, Og.K0, Og.Is, List.getD_cons_zero, List.getD_cons_succ, List.getD_nil, List.contains_cons, List.contains_nil, Nat.reduceAdd, Nat.reduceBEq, Bool.or_false, Bool.false_or, Bool.or_true, Bool.true_or, Bool.false_eq_true, false_implies, true_implies, true_and, and_true, forall_const]; intros; go_simp; rfl)
              refine Og.step_pure (fun _ => Below.refl _ _) ?_; apply Exists.intro; refine And.intro ?_ ?_; focus (intro vs w2 hC hk; revert hk; simp only [Og.KS, Og.K0, Og.Is, List.getD_cons_zero, List.getD_cons_succ, List.getD_nil, List.contains_cons, List.contains_nil, Nat.reduceAdd, Nat.reduceBEq, Bool.or_false, Bool.false_or, Bool.or_true, Bool.true_or, Bool.false_eq_true, false_implies, true_implies, true_and, and_true, forall_const]; intros; go_simp; rfl)
              intro vs w2 hC hk
              simp only [Og.KS, Og.K0, Og.Is, List.getD_cons_zero, List.getD_cons_succ, List.getD_nil, List.contains_cons, List.contains_nil, Nat.reduceAdd, Nat.reduceBEq, Bool.or_false, Bool.false_or, Bool.or_true, Bool.true_or, Bool.false_eq_true, false_implies, true_implies, true_and, and_true, forall_const] at hk
              simp only [hk, Act.put, List.setIfInBounds_toArray, List.set_cons_zero, List.set_cons_succ]
              clear hk
              clear HCX HCY H1 H2 H3 H4
              have B2 := Lib.hid (bthen' hbw.out hbw.out.size hC)
              have HO2 := Lib.hid (own_below hown.out hC)
              have HRD2 := Lib.hid (HRD.out.below hC)
              have HAX2 := Lib.hid (HAX.out.below hC)
              have HG := Lib.hid (okC_good HX.out HOK.out)
              clear hC hbw hown HRD HAX
              obtain ⟨z, hz⟩ : ∃ z, z = plC x := ⟨_, rfl⟩
              have HZE := Lib.hid hz
              have H44 : Hid (∀ w, Calls Try.prog 44 #[vC x] w fun e w' => e = .returned (vC z) ∧ Below w.heap.size w w') := Lib.hid (fun w => by rw [hz]; exact rplain_ok x w)
              have H37 : Hid (∀ w, Calls Try.prog 37 #[vC z] w fun e w' => e = .returned (.agg #[.int .u32 (atC x).a, .int .i64 (atC x).l]) ∧ Below w.heap.size w w') := Lib.hid (fun w => by have := rAt_ok (plC x) w; rw [atC_plC] at this; rw [hz]; exact this)
              have HZK := Lib.hid (show z.k = x.k by rw [hz]; exact plC_k x)
              obtain ⟨f, hf⟩ : ∃ f, f = fnd t (atC x) := ⟨_, rfl⟩
              have HFE := Lib.hid hf
              have H29 : Hid (∀ w, RdR w Ab t → Calls Try.prog 29 #[.slice Ab nl cb, .agg #[.int .u32 (atC x).a, .int .i64 (atC x).l]] w fun e w' => e = .returned (.agg #[.int .u32 f.p.a, .int .i64 f.p.l, .int .i64 f.m, .int .u64 f.o0, .int .u64 f.o1, .int .u64 f.h0, .int .u64 f.h1]) ∧ Below w.heap.size w w') := Lib.hid (fun w h => by have := find_ok t (atC x) Ab cb w h (by rw [← HNL.out]; omega); rw [← HNL.out, ← hf] at this; exact this)
              clear hz hf
              go_wp2_with (refine wpList_loadC rfl (.tmp 51) rfl rfl HAX2.out ?_)
              refine Calls.mono (H44.out w2) ?_
              rintro e w3 ⟨rfl, hb3⟩
              have B3 := Lib.hid (bthen' B2.out B2.out.size hb3)
              have HO3 := Lib.hid (own_below HO2.out hb3)
              have HRD3 := Lib.hid (HRD2.out.below hb3)
              clear hb3 B2 HO2 HRD2 HAX2 H44
              go_wp2_with (first | (refine wpList_storeC (x := z) rfl (.tmp 9) (.tmp 53) rfl rfl w3.heap.size rfl rfl _ (heap_at rfl) rfl ?_; intro w4 hz4 hb4 ho4 hs4; have HZ4 := Lib.hid (AtC_cells hz4); have b4 := below_storeA hb4; have B4 := Lib.hid (bthen' B3.out B3.out.size b4); have HO4 := Lib.hid (own_below HO3.out b4); have HRD4 := Lib.hid (HRD3.out.below b4); clear hz4 hb4 ho4 hs4 b4 B3 HO3 HRD3) | (refine wpList_loadC rfl (.tmp 9) rfl rfl HZ4.out ?_))
              obtain ⟨gz, hgz⟩ : ∃ gz, gz = w3.heap.size := ⟨_, rfl⟩
              rw [← hgz] at HZ4
              rw [← hgz]
              clear hgz
              refine Calls.mono (H37.out w4) ?_
              rintro e w5 ⟨rfl, hb5⟩
              have HZ5 := Lib.hid (HZ4.out.below hb5)
              have B5 := Lib.hid (bthen' B4.out B4.out.size hb5)
              have HO5 := Lib.hid (own_below HO4.out hb5)
              have HRD5 := Lib.hid (HRD4.out.below hb5)
              clear hb5 HZ4 B4 HO4 HRD4
              go_wp2_with fail
              refine Calls.mono (H29.out w5 HRD5.out) ?_
              rintro e w6 ⟨rfl, hb6⟩
              have HZ6 := Lib.hid (HZ5.out.below hb6)
              have B6 := Lib.hid (bthen' B5.out B5.out.size hb6)
              have HO6 := Lib.hid (own_below HO5.out hb6)
              have HRD6 := Lib.hid (HRD5.out.below hb6)
              clear hb6 HZ5 B5 HO5 HRD5 H29
              by_cases hfo : f = z.o
              · have te : eqRb f.p.a f.p.l f.m f.o0 f.o1 f.h0 f.h1 z.o.p.a z.o.p.l z.o.m z.o.o0 z.o.o1 z.o.h0 z.o.h1 = true := (eqRb_of f z.o).trans (decide_eq_true hfo)
                have SR := Lib.hid ((stepR_eq htab.out HG.out).symm.trans (stepR_go HFE.out HZE.out hfo))
                have PT := Lib.hid (fun (w : World) (h : RdR w Ab t) => put_ok t (atC x) z.n Ab cb w h (by rw [← HNL.out]; omega))
                rw [← HNL.out] at PT
                clear hfo
                cases hzk : (z.k == 1) with
                | true =>
                  go_wp2_with (refine wpList_store_new rfl 40 (.tmp 10) (.tmp 57) rfl rfl w6.heap.size #[.int .u32 f.p.a, .int .i64 f.p.l, .int .i64 f.m, .int .u64 f.o0, .int .u64 f.o1, .int .u64 f.h0, .int .u64 f.h1] rfl rfl 40 _ (heap_at rfl) info40s rfl (by simp [Value.oneCell']) ?_; intro w7 hz7 hb7 ho7 hs7; have HF7 := Lib.hid (AtR_heap (r := f) hz7); have b7 := below_storeA hb7; have B7 := Lib.hid (bthen' B6.out B6.out.size b7); have HO7 := Lib.hid (own_below HO6.out b7); have HRD7 := Lib.hid (HRD6.out.below b7); have HZ7 := Lib.hid (HZ6.out.below b7); obtain ⟨q0, q1, q2, q3, q4, q5, q6⟩ := HF7.out; have y := HZ7.out.old; have y0 := HZ7.out.1; obtain ⟨y1, y2, y3, y4, y5, y6, y7⟩ := (show w7.cell? ⟨gz, 1, none⟩ = some (.int .u32 z.o.p.a) ∧ w7.cell? ⟨gz, 2, none⟩ = some (.int .i64 z.o.p.l) ∧ w7.cell? ⟨gz, 3, none⟩ = some (.int .i64 z.o.m) ∧ w7.cell? ⟨gz, 4, none⟩ = some (.int .u64 z.o.o0) ∧ w7.cell? ⟨gz, 5, none⟩ = some (.int .u64 z.o.o1) ∧ w7.cell? ⟨gz, 6, none⟩ = some (.int .u64 z.o.h0) ∧ w7.cell? ⟨gz, 7, none⟩ = some (.int .u64 z.o.h1) from ⟨y.1, y.2.1, y.2.2.1, y.2.2.2.1, y.2.2.2.2.1, y.2.2.2.2.2.1, y.2.2.2.2.2.2⟩); clear y hz7 hb7 ho7 hs7 b7 B6 HO6 HRD6 HZ6)
                  have HZ8 : Hid (∀ w2, Below w7.heap.size w7 w2 → AtC w2 gz 0 z) := Lib.hid (fun w2 h => HZ7.out.below h)
                  have HN8 : Hid (∀ w2, Below w7.heap.size w7 w2 → AtR w2 gz (0 + 8) z.n) := Lib.hid (fun w2 h => (HZ7.out.below h).new)
                  clear q0 q1 q2 q3 q4 q5 q6 y0 y1 y2 y3 y4 y5 y6 y7 HF7 te
                  refine Og.Tail.walk_lit 5 [[],[],[1],[],[3],[0,2,4,1,3],[5,0,1,2,3,4]] (fun w2 => Below w7.heap.size w7 w2) (fun w1 w2 => Below w1.heap.size w1 w2) (by kernel_rfl) (by kernel_rfl) (by kernel_rfl) bdrew ?_
                  simp only [List.take_succ_cons, List.take_zero, List.drop_succ_cons, List.drop_zero]
                  refine Og.step_pure (fun _ => Below.refl _ _) ?_; apply Exists.intro; refine And.intro ?_ ?_; focus (intro vs w2 hC hk; revert hk; simp only [Og.KS, Og.K0, Og.Is, List.getD_cons_zero, List.getD_cons_succ, List.getD_nil, List.contains_cons, List.contains_nil, Nat.reduceAdd, Nat.reduceBEq, Bool.or_false, Bool.false_or, Bool.or_true, Bool.true_or, Bool.false_eq_true, false_implies, true_implies, true_and, and_true, forall_const]; intros; go_simp; rfl)
                  refine Og.step_pureB (fun _ => Below.refl _ _) ⟨vC z, ?_, ?_⟩; focus (intro vs w2 hC hk; simp only [Og.KS, Og.K0, Og.Is, List.getD_cons_zero, List.getD_cons_succ, List.getD_nil, List.contains_cons, List.contains_nil, Nat.reduceAdd, Nat.reduceBEq, Bool.or_false, Bool.false_or, Bool.or_true, Bool.true_or, Bool.false_eq_true, false_implies, true_implies, true_and, and_true, forall_const] at hk; refine optB_loadC ?_ rfl ?_ (HZ8.out w2 hC) ⟨rfl, rfl⟩ <;> go_simp)
                  refine Og.step_one ?_; apply Exists.intro; refine And.intro ?_ ?_; focus (intro vs w2 hC hk; revert hk; simp only [Og.KS, Og.K0, Og.Is, List.getD_cons_zero, List.getD_cons_succ, List.getD_nil, List.contains_cons, List.contains_nil, Nat.reduceAdd, Nat.reduceBEq, Bool.or_false, Bool.false_or, Bool.or_true, Bool.true_or, Bool.false_eq_true, false_implies, true_implies, true_and, and_true, forall_const]; intros; go_simp; with_reducible refine (H37.out _).mono ?_; rintro e w3 ⟨rfl, hb⟩; exact Og.RetV.mk ⟨bthen hC hb, hb, rfl⟩)
                  refine Og.step_pure (fun _ => Below.refl _ _) ?_; apply Exists.intro; refine And.intro ?_ ?_; focus (intro vs w2 hC hk; revert hk; simp only [Og.KS, Og.K0, Og.Is, List.getD_cons_zero, List.getD_cons_succ, List.getD_nil, List.contains_cons, List.contains_nil, Nat.reduceAdd, Nat.reduceBEq, Bool.or_false, Bool.false_or, Bool.or_true, Bool.true_or, Bool.false_eq_true, false_implies, true_implies, true_and, and_true, forall_const]; intros; go_simp; rfl)
                  refine Og.step_pureB (fun _ => Below.refl _ _) ⟨.agg #[.int .u32 z.n.p.a, .int .i64 z.n.p.l, .int .i64 z.n.m, .int .u64 z.n.o0, .int .u64 z.n.o1, .int .u64 z.n.h0, .int .u64 z.n.h1], ?_, ?_⟩; focus (intro vs w2 hC hk; simp only [Og.KS, Og.K0, Og.Is, List.getD_cons_zero, List.getD_cons_succ, List.getD_nil, List.contains_cons, List.contains_nil, Nat.reduceAdd, Nat.reduceBEq, Bool.or_false, Bool.false_or, Bool.or_true, Bool.true_or, Bool.false_eq_true, false_implies, true_implies, true_and, and_true, forall_const] at hk; refine optB_loadRA ?_ rfl ?_ (HN8.out w2 hC) ⟨rfl, rfl⟩ <;> go_simp)
                  intro vs w2 hC hk
                  simp only [Og.KS, Og.K0, Og.Is, List.getD_cons_zero, List.getD_cons_succ, List.getD_nil, List.contains_cons, List.contains_nil, Nat.reduceAdd, Nat.reduceBEq, Bool.or_false, Bool.false_or, Bool.or_true, Bool.true_or, Bool.false_eq_true, false_implies, true_implies, true_and, and_true, forall_const] at hk
                  simp only [hk, Act.put, List.setIfInBounds_toArray, List.set_cons_zero, List.set_cons_succ]
                  clear hk
                  have B8 := Lib.hid (bthen' B7.out B7.out.size hC)
                  have HO8 := Lib.hid (own_below HO7.out hC)
                  have HRD8 := Lib.hid (HRD7.out.below hC)
                  clear hC B7 HO7 HRD7 HZ8 HN8 HZ7
                  go_wp2_with fail
                  refine Calls.mono (PT.out w2 HRD8.out) ?_
                  rintro e w9 ⟨⟨v9, rfl, hown9⟩, hb9⟩
                  have B9 := Lib.hid (bthen' B8.out B8.out.size hb9)
                  have HO9 := Lib.hid (own_lower hown9 B8.out.size)
                  clear hown9 hb9 B8 HO8 HRD8 PT
                  go_wp2_with fail
                  go_roundw
                  case rel => exact ⟨(k + 1) + 1, putL z.n (atC x) (decide (z.n = zR)) t, by omega, by go_num, Lib.hid (runA_go hrun.out HX.out HOK.out SR.out), Lib.hid (stepA_tab htab.out HG.out HFr.out SR.out), HO9, B9⟩
                  case measure => simp [intOf]; omega
                | false =>
                  go_wp2_with (refine wpList_store_new rfl 40 (.tmp 10) (.tmp 57) rfl rfl w6.heap.size #[.int .u32 f.p.a, .int .i64 f.p.l, .int .i64 f.m, .int .u64 f.o0, .int .u64 f.o1, .int .u64 f.h0, .int .u64 f.h1] rfl rfl 40 _ (heap_at rfl) info40s rfl (by simp [Value.oneCell']) ?_; intro w7 hz7 hb7 ho7 hs7; have HF7 := Lib.hid (AtR_heap (r := f) hz7); have b7 := below_storeA hb7; have B7 := Lib.hid (bthen' B6.out B6.out.size b7); have HO7 := Lib.hid (own_below HO6.out b7); have HRD7 := Lib.hid (HRD6.out.below b7); have HZ7 := Lib.hid (HZ6.out.below b7); obtain ⟨q0, q1, q2, q3, q4, q5, q6⟩ := HF7.out; have y := HZ7.out.old; have y0 := HZ7.out.1; obtain ⟨y1, y2, y3, y4, y5, y6, y7⟩ := (show w7.cell? ⟨gz, 1, none⟩ = some (.int .u32 z.o.p.a) ∧ w7.cell? ⟨gz, 2, none⟩ = some (.int .i64 z.o.p.l) ∧ w7.cell? ⟨gz, 3, none⟩ = some (.int .i64 z.o.m) ∧ w7.cell? ⟨gz, 4, none⟩ = some (.int .u64 z.o.o0) ∧ w7.cell? ⟨gz, 5, none⟩ = some (.int .u64 z.o.o1) ∧ w7.cell? ⟨gz, 6, none⟩ = some (.int .u64 z.o.h0) ∧ w7.cell? ⟨gz, 7, none⟩ = some (.int .u64 z.o.h1) from ⟨y.1, y.2.1, y.2.2.1, y.2.2.2.1, y.2.2.2.2.1, y.2.2.2.2.2.1, y.2.2.2.2.2.2⟩); clear y hz7 hb7 ho7 hs7 b7 B6 HO6 HRD6 HZ6)
                  have HZ8 : Hid (∀ w2, Below w7.heap.size w7 w2 → AtC w2 gz 0 z) := Lib.hid (fun w2 h => HZ7.out.below h)
                  have HN8 : Hid (∀ w2, Below w7.heap.size w7 w2 → AtR w2 gz (0 + 8) z.n) := Lib.hid (fun w2 h => (HZ7.out.below h).new)
                  clear q0 q1 q2 q3 q4 q5 q6 y0 y1 y2 y3 y4 y5 y6 y7 HF7 te
                  refine Og.Tail.walk_lit 5 [[],[],[1],[],[3],[0,2,4,1,3],[5,0,1,2,3,4]] (fun w2 => Below w7.heap.size w7 w2) (fun w1 w2 => Below w1.heap.size w1 w2) (by kernel_rfl) (by kernel_rfl) (by kernel_rfl) bdrew ?_
                  simp only [List.take_succ_cons, List.take_zero, List.drop_succ_cons, List.drop_zero]
                  refine Og.step_pure (fun _ => Below.refl _ _) ?_; apply Exists.intro; refine And.intro ?_ ?_; focus (intro vs w2 hC hk; revert hk; simp only [Og.KS, Og.K0, Og.Is, List.getD_cons_zero, List.getD_cons_succ, List.getD_nil, List.contains_cons, List.contains_nil, Nat.reduceAdd, Nat.reduceBEq, Bool.or_false, Bool.false_or, Bool.or_true, Bool.true_or, Bool.false_eq_true, false_implies, true_implies, true_and, and_true, forall_const]; intros; go_simp; rfl)
                  refine Og.step_pureB (fun _ => Below.refl _ _) ⟨vC z, ?_, ?_⟩; focus (intro vs w2 hC hk; simp only [Og.KS, Og.K0, Og.Is, List.getD_cons_zero, List.getD_cons_succ, List.getD_nil, List.contains_cons, List.contains_nil, Nat.reduceAdd, Nat.reduceBEq, Bool.or_false, Bool.false_or, Bool.or_true, Bool.true_or, Bool.false_eq_true, false_implies, true_implies, true_and, and_true, forall_const] at hk; refine optB_loadC ?_ rfl ?_ (HZ8.out w2 hC) ⟨rfl, rfl⟩ <;> go_simp)
                  refine Og.step_one ?_; apply Exists.intro; refine And.intro ?_ ?_; focus (intro vs w2 hC hk; revert hk; simp only [Og.KS, Og.K0, Og.Is, List.getD_cons_zero, List.getD_cons_succ, List.getD_nil, List.contains_cons, List.contains_nil, Nat.reduceAdd, Nat.reduceBEq, Bool.or_false, Bool.false_or, Bool.or_true, Bool.true_or, Bool.false_eq_true, false_implies, true_implies, true_and, and_true, forall_const]; intros; go_simp; with_reducible refine (H37.out _).mono ?_; rintro e w3 ⟨rfl, hb⟩; exact Og.RetV.mk ⟨bthen hC hb, hb, rfl⟩)
                  refine Og.step_pure (fun _ => Below.refl _ _) ?_; apply Exists.intro; refine And.intro ?_ ?_; focus (intro vs w2 hC hk; revert hk; simp only [Og.KS, Og.K0, Og.Is, List.getD_cons_zero, List.getD_cons_succ, List.getD_nil, List.contains_cons, List.contains_nil, Nat.reduceAdd, Nat.reduceBEq, Bool.or_false, Bool.false_or, Bool.or_true, Bool.true_or, Bool.false_eq_true, false_implies, true_implies, true_and, and_true, forall_const]; intros; go_simp; rfl)
                  refine Og.step_pureB (fun _ => Below.refl _ _) ⟨.agg #[.int .u32 z.n.p.a, .int .i64 z.n.p.l, .int .i64 z.n.m, .int .u64 z.n.o0, .int .u64 z.n.o1, .int .u64 z.n.h0, .int .u64 z.n.h1], ?_, ?_⟩; focus (intro vs w2 hC hk; simp only [Og.KS, Og.K0, Og.Is, List.getD_cons_zero, List.getD_cons_succ, List.getD_nil, List.contains_cons, List.contains_nil, Nat.reduceAdd, Nat.reduceBEq, Bool.or_false, Bool.false_or, Bool.or_true, Bool.true_or, Bool.false_eq_true, false_implies, true_implies, true_and, and_true, forall_const] at hk; refine optB_loadRA ?_ rfl ?_ (HN8.out w2 hC) ⟨rfl, rfl⟩ <;> go_simp)
                  intro vs w2 hC hk
                  simp only [Og.KS, Og.K0, Og.Is, List.getD_cons_zero, List.getD_cons_succ, List.getD_nil, List.contains_cons, List.contains_nil, Nat.reduceAdd, Nat.reduceBEq, Bool.or_false, Bool.false_or, Bool.or_true, Bool.true_or, Bool.false_eq_true, false_implies, true_implies, true_and, and_true, forall_const] at hk
                  simp only [hk, Act.put, List.setIfInBounds_toArray, List.set_cons_zero, List.set_cons_succ]
                  clear hk
                  have B8 := Lib.hid (bthen' B7.out B7.out.size hC)
                  have HO8 := Lib.hid (own_below HO7.out hC)
                  have HRD8 := Lib.hid (HRD7.out.below hC)
                  clear hC B7 HO7 HRD7 HZ8 HN8 HZ7
                  go_wp2_with fail
                  refine Calls.mono (PT.out w2 HRD8.out) ?_
                  rintro e w9 ⟨⟨v9, rfl, hown9⟩, hb9⟩
                  have B9 := Lib.hid (bthen' B8.out B8.out.size hb9)
                  have HO9 := Lib.hid (own_lower hown9 B8.out.size)
                  clear hown9 hb9 B8 HO8 HRD8 PT
                  go_wp2_with fail
                  go_roundw
                  case rel => exact ⟨(k + 1) + 1, putL z.n (atC x) (decide (z.n = zR)) t, by omega, by go_num, Lib.hid (runA_go hrun.out HX.out HOK.out SR.out), Lib.hid (stepA_tab htab.out HG.out HFr.out SR.out), HO9, B9⟩
                  case measure => simp [intOf]; omega
              · have te : eqRb f.p.a f.p.l f.m f.o0 f.o1 f.h0 f.h1 z.o.p.a z.o.p.l z.o.m z.o.o0 z.o.o1 z.o.h0 z.o.h1 = false := (eqRb_of f z.o).trans (decide_eq_false hfo)
                by_cases h1 : x.k = 1
                · have hzk : (z.k == 1) = true := by rw [HZK.out]; simpa using h1
                  have E := Lib.hid (runA_no hrun.out HX.out HOK.out ((stepR_eq htab.out HG.out).symm.trans (stepR_5 h1 HFE.out HZE.out hfo)) HS.out)
                  clear h1 hfo
                  go_wp2_with (refine wpList_store_new rfl 40 (.tmp 10) (.tmp 57) rfl rfl w6.heap.size #[.int .u32 f.p.a, .int .i64 f.p.l, .int .i64 f.m, .int .u64 f.o0, .int .u64 f.o1, .int .u64 f.h0, .int .u64 f.h1] rfl rfl 40 _ (heap_at rfl) info40s rfl (by simp [Value.oneCell']) ?_; intro w7 hz7 hb7 ho7 hs7; have HF7 := Lib.hid (AtR_heap (r := f) hz7); have b7 := below_storeA hb7; have B7 := Lib.hid (bthen' B6.out B6.out.size b7); have HO7 := Lib.hid (own_below HO6.out b7); have HRD7 := Lib.hid (HRD6.out.below b7); have HZ7 := Lib.hid (HZ6.out.below b7); obtain ⟨q0, q1, q2, q3, q4, q5, q6⟩ := HF7.out; have y := HZ7.out.old; have y0 := HZ7.out.1; obtain ⟨y1, y2, y3, y4, y5, y6, y7⟩ := (show w7.cell? ⟨gz, 1, none⟩ = some (.int .u32 z.o.p.a) ∧ w7.cell? ⟨gz, 2, none⟩ = some (.int .i64 z.o.p.l) ∧ w7.cell? ⟨gz, 3, none⟩ = some (.int .i64 z.o.m) ∧ w7.cell? ⟨gz, 4, none⟩ = some (.int .u64 z.o.o0) ∧ w7.cell? ⟨gz, 5, none⟩ = some (.int .u64 z.o.o1) ∧ w7.cell? ⟨gz, 6, none⟩ = some (.int .u64 z.o.h0) ∧ w7.cell? ⟨gz, 7, none⟩ = some (.int .u64 z.o.h1) from ⟨y.1, y.2.1, y.2.2.1, y.2.2.2.1, y.2.2.2.2.1, y.2.2.2.2.2.1, y.2.2.2.2.2.2⟩); clear y hz7 hb7 ho7 hs7 b7 B6 HO6 HRD6 HZ6)
                  go_ret3
                  exact ⟨ApplyR.err E.out, B7.out⟩
                · have hzk : (z.k == 1) = false := by rw [HZK.out]; simpa using h1
                  have E := Lib.hid (runA_no hrun.out HX.out HOK.out ((stepR_eq htab.out HG.out).symm.trans (stepR_8 h1 HFE.out HZE.out hfo)) HS.out)
                  clear h1 hfo
                  go_wp2_with (refine wpList_store_new rfl 40 (.tmp 10) (.tmp 57) rfl rfl w6.heap.size #[.int .u32 f.p.a, .int .i64 f.p.l, .int .i64 f.m, .int .u64 f.o0, .int .u64 f.o1, .int .u64 f.h0, .int .u64 f.h1] rfl rfl 40 _ (heap_at rfl) info40s rfl (by simp [Value.oneCell']) ?_; intro w7 hz7 hb7 ho7 hs7; have HF7 := Lib.hid (AtR_heap (r := f) hz7); have b7 := below_storeA hb7; have B7 := Lib.hid (bthen' B6.out B6.out.size b7); have HO7 := Lib.hid (own_below HO6.out b7); have HRD7 := Lib.hid (HRD6.out.below b7); have HZ7 := Lib.hid (HZ6.out.below b7); obtain ⟨q0, q1, q2, q3, q4, q5, q6⟩ := HF7.out; have y := HZ7.out.old; have y0 := HZ7.out.1; obtain ⟨y1, y2, y3, y4, y5, y6, y7⟩ := (show w7.cell? ⟨gz, 1, none⟩ = some (.int .u32 z.o.p.a) ∧ w7.cell? ⟨gz, 2, none⟩ = some (.int .i64 z.o.p.l) ∧ w7.cell? ⟨gz, 3, none⟩ = some (.int .i64 z.o.m) ∧ w7.cell? ⟨gz, 4, none⟩ = some (.int .u64 z.o.o0) ∧ w7.cell? ⟨gz, 5, none⟩ = some (.int .u64 z.o.o1) ∧ w7.cell? ⟨gz, 6, none⟩ = some (.int .u64 z.o.h0) ∧ w7.cell? ⟨gz, 7, none⟩ = some (.int .u64 z.o.h1) from ⟨y.1, y.2.1, y.2.2.1, y.2.2.2.1, y.2.2.2.2.1, y.2.2.2.2.2.1, y.2.2.2.2.2.2⟩); clear y hz7 hb7 ho7 hs7 b7 B6 HO6 HRD6 HZ6)
                  go_ret3
                  exact ⟨ApplyR.err E.out, B7.out⟩
            | false =>
              have H1 : Hid (∀ w, Calls Try.prog 43 #[vC x] w fun e w' => e = .returned (.bool true) ∧ Below w.heap.size w w') := Lib.hid (fun w => by have := rgood_ok x w HFr.out; rwa [hg] at this)
              have H2 : Hid (∀ w, Calls Try.prog 37 #[vC y] w fun e w' => e = .returned (.agg #[.int .u32 (atC y).a, .int .i64 (atC y).l]) ∧ Below w.heap.size w w') := Lib.hid (fun w => rAt_ok y w)
              have H3 : Hid (∀ w, Calls Try.prog 37 #[vC x] w fun e w' => e = .returned (.agg #[.int .u32 (atC x).a, .int .i64 (atC x).l]) ∧ Below w.heap.size w w') := Lib.hid (fun w => rAt_ok x w)
              have H4 : Hid (∀ w, Calls Try.prog 31 #[.agg #[.int .u32 (atC y).a, .int .i64 (atC y).l], .agg #[.int .u32 (atC x).a, .int .i64 (atC x).l]] w fun e w' => e = .returned (.bool false) ∧ Below w.heap.size w w') := Lib.hid (fun w => by have := rbefore_ok (atC y) (atC x) w; rwa [hb] at this)
              have E := Lib.hid (runA_bad hrun.out (by rw [← HN.out]; exact hlt) (show okC xs (k + 1) = false by rw [okC_s HX.out HY.out, hg]; rw [hb]; rfl) HS.out)
              have HCX : Hid (∀ w2, Below wr.heap.size wr w2 → AtC w2 b (o + (k + 1) * 15) x) := Lib.hid (fun w2 h => ha.below h)
              have HCY : Hid (∀ w2, Below wr.heap.size wr w2 → AtC w2 b (o + k * 15) y) := Lib.hid (fun w2 h => ha'.below h)
              clear hg hb ha ha'
              go_wp2_with fail
              refine Og.walk_lit [[],[],[0,1],[2,0,1],[3,2,0,1],[4,3,2,0,1],[5,4,3,2,0,1],[6,5,4,3,2,0,1],[7,6,5,4,3,2,0,1],[8,6,7,5,4,3,2,0,1],[9,8,6,7,5,4,3,2,0,1],[9,8,6,7,5,4,3,2,0,1],[11,9,8,6,7,5,4,3,2,0,1],[10,12,9,8,6,7,5,4,3,2,0,1,11],[13,9,10,12,8,6,7,5,4,3,2,0,1,11],[14,9,13,10,12,8,6,7,5,4,3,2,0,1,11],[9,8,6,7,5,4,3,2,0,1],[9,8,6,7,5,4,3,2,0,1],[16,17,9,8,6,7,5,4,3,2,0,1],[18,9,16,17,8,6,7,5,4,3,2,0,1],[19,15,9,18,16,17,8,6,7,5,4,3,2,0,1,14,13,10,12,11],[15,20,9,14,13,10,12,8,6,7,5,4,3,2,0,1,11,19,18,16,17],[21,9,15,20,14,13,10,12,8,6,7,5,4,3,2,0,1,11,19,18,16,17],[9,22,6,8,7,5,4,3,2,0,1,21,15,20,14,13,10,12,11,19,18,16,17],[6,23,5,4,3,2,0,1,9,22,8,7,21,15,20,14,13,10,12,11,19,18,16,17]] (fun w2 => Below wr.heap.size wr w2) (fun w1 w2 => Below w1.heap.size w1 w2) (by kernel_rfl) (by kernel_rfl) (bdrew) ?_
              refine Og.step_pure (fun _ => Below.refl _ _) ?_; apply Exists.intro; refine And.intro ?_ ?_; focus (intro vs w2 hC hk; revert hk; simp only [Og.KS, Og.K0, Og.Is, List.getD_cons_zero, List.getD_cons_succ, List.getD_nil, List.contains_cons, List.contains_nil, Nat.reduceAdd, Nat.reduceBEq, Bool.or_false, Bool.false_or, Bool.or_true, Bool.true_or, Bool.false_eq_true, false_implies, true_implies, true_and, and_true, forall_const]; intros; go_simp; rfl)
              refine Og.step_pure (fun _ => Below.refl _ _) ?_; apply Exists.intro; refine And.intro ?_ ?_; focus (intro vs w2 hC hk; revert hk; simp only [Og.KS, Og.K0, Og.Is, List.getD_cons_zero, List.getD_cons_succ, List.getD_nil, List.contains_cons, List.contains_nil, Nat.reduceAdd, Nat.reduceBEq, Bool.or_false, Bool.false_or, Bool.or_true, Bool.true_or, Bool.false_eq_true, false_implies, true_implies, true_and, and_true, forall_const]; intros; go_simp; rfl)
              refine Og.step_pure (fun _ => Below.refl _ _) ?_; apply Exists.intro; refine And.intro ?_ ?_; focus (intro vs w2 hC hk; revert hk; simp only [Og.KS, Og.K0, Og.Is, List.getD_cons_zero, List.getD_cons_succ, List.getD_nil, List.contains_cons, List.contains_nil, Nat.reduceAdd, Nat.reduceBEq, Bool.or_false, Bool.false_or, Bool.or_true, Bool.true_or, Bool.false_eq_true, false_implies, true_implies, true_and, and_true, forall_const]; intros; go_simp; rfl)
              refine Og.step_pureB (fun _ => Below.refl _ _) ⟨vC x, ?_, ?_⟩; focus (intro vs w2 hC hk; simp only [Og.KS, Og.K0, Og.Is, List.getD_cons_zero, List.getD_cons_succ, List.getD_nil, List.contains_cons, List.contains_nil, Nat.reduceAdd, Nat.reduceBEq, Bool.or_false, Bool.false_or, Bool.or_true, Bool.true_or, Bool.false_eq_true, false_implies, true_implies, true_and, and_true, forall_const] at hk; refine optB_loadC ?_ rfl ?_ (HCX.out w2 hC) ⟨rfl, rfl⟩ <;> go_simp)
              refine Og.step_one ?_; apply Exists.intro; refine And.intro ?_ ?_; focus (intro vs w2 hC hk; revert hk; simp only [Og.KS, Og.K0, Og.Is, List.getD_cons_zero, List.getD_cons_succ, List.getD_nil, List.contains_cons, List.contains_nil, Nat.reduceAdd, Nat.reduceBEq, Bool.or_false, Bool.false_or, Bool.or_true, Bool.true_or, Bool.false_eq_true, false_implies, true_implies, true_and, and_true, forall_const]; intros; go_simp; with_reducible refine (H1.out _).mono ?_; rintro e w3 ⟨rfl, hb⟩; exact Og.RetV.mk ⟨bthen hC hb, hb, rfl⟩)
              refine Og.step_pure (fun _ => Below.refl _ _) ?_; apply Exists.intro; refine And.intro ?_ ?_; focus (intro vs w2 hC hk; revert hk; simp only [Og.KS, Og.K0, Og.Is, List.getD_cons_zero, List.getD_cons_succ, List.getD_nil, List.contains_cons, List.contains_nil, Nat.reduceAdd, Nat.reduceBEq, Bool.or_false, Bool.false_or, Bool.or_true, Bool.true_or, Bool.false_eq_true, false_implies, true_implies, true_and, and_true, forall_const]; intros; go_simp; rfl)
              refine Og.step_pure (fun _ => Below.refl _ _) ?_; apply Exists.intro; refine And.intro ?_ ?_; focus (intro vs w2 hC hk; revert hk; simp only [Og.KS, Og.K0, Og.Is, List.getD_cons_zero, List.getD_cons_succ, List.getD_nil, List.contains_cons, List.contains_nil, Nat.reduceAdd, Nat.reduceBEq, Bool.or_false, Bool.false_or, Bool.or_true, Bool.true_or, Bool.false_eq_true, false_implies, true_implies, true_and, and_true, forall_const]; intros; go_simp; rfl)
              refine Og.step_pure (fun _ => Below.refl _ _) ?_; apply Exists.intro; refine And.intro ?_ ?_; focus (intro vs w2 hC hk; revert hk; simp only [Og.KS, Og.K0, Og.Is, List.getD_cons_zero, List.getD_cons_succ, List.getD_nil, List.contains_cons, List.contains_nil, Nat.reduceAdd, Nat.reduceBEq, Bool.or_false, Bool.false_or, Bool.or_true, Bool.true_or, Bool.false_eq_true, false_implies, true_implies, true_and, and_true, forall_const]; intros; go_simp; rfl)
              refine Og.step_pure (fun _ => Below.refl _ _) ?_; apply Exists.intro; refine And.intro ?_ ?_; focus (intro vs w2 hC hk; revert hk; simp only [Og.KS, Og.K0, Og.Is, List.getD_cons_zero, List.getD_cons_succ, List.getD_nil, List.contains_cons, List.contains_nil, Nat.reduceAdd, Nat.reduceBEq, Bool.or_false, Bool.false_or, Bool.or_true, Bool.true_or, Bool.false_eq_true, false_implies, true_implies, true_and, and_true, forall_const]; intros; go_simp; rfl)
              refine Og.step_pure (fun _ => Below.refl _ _) ?_; apply Exists.intro; refine And.intro ?_ ?_; focus (intro vs w2 hC hk; revert hk; simp only [Og.KS, Og.K0, Og.Is, List.getD_cons_zero, List.getD_cons_succ, List.getD_nil, List.contains_cons, List.contains_nil, Nat.reduceAdd, Nat.reduceBEq, Bool.or_false, Bool.false_or, Bool.or_true, Bool.true_or, Bool.false_eq_true, false_implies, true_implies, true_and, and_true, forall_const]; intros; go_simp; rfl)
              refine Og.step_pure (fun _ => Below.refl _ _) ?_; apply Exists.intro; refine And.intro ?_ ?_; focus (intro vs w2 hC hk; revert hk; simp only [Og.KS, Og.K0, Og.Is, List.getD_cons_zero, List.getD_cons_succ, List.getD_nil, List.contains_cons, List.contains_nil, Nat.reduceAdd, Nat.reduceBEq, Bool.or_false, Bool.false_or, Bool.or_true, Bool.true_or, Bool.false_eq_true, false_implies, true_implies, true_and, and_true, forall_const]; intros; go_simp; rfl)
              refine Og.step_pure (fun _ => Below.refl _ _) ?_; apply Exists.intro; refine And.intro ?_ ?_; focus (intro vs w2 hC hk; revert hk; simp only [Og.KS, Og.K0, Og.Is, List.getD_cons_zero, List.getD_cons_succ, List.getD_nil, List.contains_cons, List.contains_nil, Nat.reduceAdd, Nat.reduceBEq, Bool.or_false, Bool.false_or, Bool.or_true, Bool.true_or, Bool.false_eq_true, false_implies, true_implies, true_and, and_true, forall_const]; intros; go_simp; rfl)
              refine Og.step_pure (fun _ => Below.refl _ _) ?_; apply Exists.intro; refine And.intro ?_ ?_; focus (intro vs w2 hC hk; revert hk; simp only [Og.KS, Og.K0, Og.Is, List.getD_cons_zero, List.getD_cons_succ, List.getD_nil, List.contains_cons, List.contains_nil, Nat.reduceAdd, Nat.reduceBEq, Bool.or_false, Bool.false_or, Bool.or_true, Bool.true_or, Bool.false_eq_true, false_implies, true_implies, true_and, and_true, forall_const]; intros; go_simp; rfl)
              refine Og.step_pure (fun _ => Below.refl _ _) ?_; apply Exists.intro; refine And.intro ?_ ?_; focus (intro vs w2 hC hk; revert hk; simp only [Og.KS, Og.K0, Og.Is, List.getD_cons_zero, List.getD_cons_succ, List.getD_nil, List.contains_cons, List.contains_nil, Nat.reduceAdd, Nat.reduceBEq, Bool.or_false, Bool.false_or, Bool.or_true, Bool.true_or, Bool.false_eq_true, false_implies, true_implies, true_and, and_true, forall_const]; intros; go_simp; rfl)
              refine Og.step_pureB (fun _ => Below.refl _ _) ⟨vC y, ?_, ?_⟩; focus (intro vs w2 hC hk; simp only [Og.KS, Og.K0, Og.Is, List.getD_cons_zero, List.getD_cons_succ, List.getD_nil, List.contains_cons, List.contains_nil, Nat.reduceAdd, Nat.reduceBEq, Bool.or_false, Bool.false_or, Bool.or_true, Bool.true_or, Bool.false_eq_true, false_implies, true_implies, true_and, and_true, forall_const] at hk; refine optB_loadC ?_ rfl ?_ (HCY.out w2 hC) ⟨rfl, rfl⟩ <;> go_simp)
              refine Og.step_one ?_; apply Exists.intro; refine And.intro ?_ ?_; focus (intro vs w2 hC hk; revert hk; simp only [Og.KS, Og.K0, Og.Is, List.getD_cons_zero, List.getD_cons_succ, List.getD_nil, List.contains_cons, List.contains_nil, Nat.reduceAdd, Nat.reduceBEq, Bool.or_false, Bool.false_or, Bool.or_true, Bool.true_or, Bool.false_eq_true, false_implies, true_implies, true_and, and_true, forall_const]; intros; go_simp; with_reducible refine (H2.out _).mono ?_; rintro e w3 ⟨rfl, hb⟩; exact Og.RetV.mk ⟨bthen hC hb, hb, rfl⟩)
              refine Og.step_pure (fun _ => Below.refl _ _) ?_; apply Exists.intro; refine And.intro ?_ ?_; focus (intro vs w2 hC hk; revert hk; simp only [Og.KS, Og.K0, Og.Is, List.getD_cons_zero, List.getD_cons_succ, List.getD_nil, List.contains_cons, List.contains_nil, Nat.reduceAdd, Nat.reduceBEq, Bool.or_false, Bool.false_or, Bool.or_true, Bool.true_or, Bool.false_eq_true, false_implies, true_implies, true_and, and_true, forall_const]; intros; go_simp; rfl)
              refine Og.step_pure (fun _ => Below.refl _ _) ?_; apply Exists.intro; refine And.intro ?_ ?_; focus (intro vs w2 hC hk; revert hk; simp only [Og.KS, Og.K0, Og.Is, List.getD_cons_zero, List.getD_cons_succ, List.getD_nil, List.contains_cons, List.contains_nil, Nat.reduceAdd, Nat.reduceBEq, Bool.or_false, Bool.false_or, Bool.or_true, Bool.true_or, Bool.false_eq_true, false_implies, true_implies, true_and, and_true, forall_const]; intros; go_simp; rfl)
              refine Og.step_pure (fun _ => Below.refl _ _) ?_; apply Exists.intro; refine And.intro ?_ ?_; focus (intro vs w2 hC hk; revert hk; simp only [Og.KS, Og.K0, Og.Is, List.getD_cons_zero, List.getD_cons_succ, List.getD_nil, List.contains_cons, List.contains_nil, Nat.reduceAdd, Nat.reduceBEq, Bool.or_false, Bool.false_or, Bool.or_true, Bool.true_or, Bool.false_eq_true, false_implies, true_implies, true_and, and_true, forall_const]; intros; go_simp; rfl)
              refine Og.step_pureB (fun _ => Below.refl _ _) ⟨vC x, ?_, ?_⟩; focus (intro vs w2 hC hk; simp only [Og.KS, Og.K0, Og.Is, List.getD_cons_zero, List.getD_cons_succ, List.getD_nil, List.contains_cons, List.contains_nil, Nat.reduceAdd, Nat.reduceBEq, Bool.or_false, Bool.false_or, Bool.or_true, Bool.true_or, Bool.false_eq_true, false_implies, true_implies, true_and, and_true, forall_const] at hk; refine optB_loadC ?_ rfl ?_ (HCX.out w2 hC) ⟨rfl, rfl⟩ <;> go_simp)
              refine Og.step_one ?_; apply Exists.intro; refine And.intro ?_ ?_; focus (intro vs w2 hC hk; revert hk; simp only [Og.KS, Og.K0, Og.Is, List.getD_cons_zero, List.getD_cons_succ, List.getD_nil, List.contains_cons, List.contains_nil, Nat.reduceAdd, Nat.reduceBEq, Bool.or_false, Bool.false_or, Bool.or_true, Bool.true_or, Bool.false_eq_true, false_implies, true_implies, true_and, and_true, forall_const]; intros; go_simp; with_reducible refine (H3.out _).mono ?_; rintro e w3 ⟨rfl, hb⟩; exact Og.RetV.mk ⟨bthen hC hb, hb, rfl⟩)
              refine Og.step_one ?_; apply Exists.intro; refine And.intro ?_ ?_; focus (intro vs w2 hC hk; revert hk; simp only [Og.KS, Og.K0, Og.Is, List.getD_cons_zero, List.getD_cons_succ, List.getD_nil, List.contains_cons, List.contains_nil, Nat.reduceAdd, Nat.reduceBEq, Bool.or_false, Bool.false_or, Bool.or_true, Bool.true_or, Bool.false_eq_true, false_implies, true_implies, true_and, and_true, forall_const]; intros; go_simp; with_reducible refine (H4.out _).mono ?_; rintro e w3 ⟨rfl, hb⟩; exact Og.RetV.mk ⟨bthen hC hb, hb, rfl⟩)
              refine Og.step_pure (fun _ => Below.refl _ _) ?_; apply Exists.intro; refine And.intro ?_ ?_; focus (intro vs w2 hC hk; revert hk; simp only [Og.KS, Og.K0, Og.Is, List.getD_cons_zero, List.getD_cons_succ, List.getD_nil, List.contains_cons, List.contains_nil, Nat.reduceAdd, Nat.reduceBEq, Bool.or_false, Bool.false_or, Bool.or_true, Bool.true_or, Bool.false_eq_true, false_implies, true_implies, true_and, and_true, forall_const]; intros; go_simp; rfl)
              refine Og.step_pure (fun _ => Below.refl _ _) ?_; apply Exists.intro; refine And.intro ?_ ?_; focus (intro vs w2 hC hk; revert hk; simp only [Og.KS, Og.K0, Og.Is, List.getD_cons_zero, List.getD_cons_succ, List.getD_nil, List.contains_cons, List.contains_nil, Nat.reduceAdd, Nat.reduceBEq, Bool.or_false, Bool.false_or, Bool.or_true, Bool.true_or, Bool.false_eq_true, false_implies, true_implies, true_and, and_true, forall_const]; intros; go_simp; rfl)
              refine Og.step_pure (fun _ => Below.refl _ _) ?_; apply Exists.intro; refine And.intro ?_ ?_; focus (intro vs w2 hC hk; revert hk; simp only [Og.KS, Og.K0, Og.Is, List.getD_cons_zero, List.getD_cons_succ, List.getD_nil, List.contains_cons, List.contains_nil, Nat.reduceAdd, Nat.reduceBEq, Bool.or_false, Bool.false_or, Bool.or_true, Bool.true_or, Bool.false_eq_true, false_implies, true_implies, true_and, and_true, forall_const]; intros; go_simp; rfl)
              intro vs w2 hC hk
              simp only [Og.KS, Og.K0, Og.Is, List.getD_cons_zero, List.getD_cons_succ, List.getD_nil, List.contains_cons, List.contains_nil, Nat.reduceAdd, Nat.reduceBEq, Bool.or_false, Bool.false_or, Bool.or_true, Bool.true_or, Bool.false_eq_true, false_implies, true_implies, true_and, and_true, forall_const] at hk
              simp only [hk, Act.put, List.setIfInBounds_toArray, List.set_cons_zero, List.set_cons_succ]
              clear hk
              have HB2 := Lib.hid (bthen' hbw.out hbw.out.size hC)
              clear hC hbw
              go_wp2_with fail
              go_ret3
              exact ⟨ApplyR.err E.out, HB2.out⟩
      · have hkn : k = nx := by omega
        subst hkn
        have E := Lib.hid (show applyV t0 xs = (t, 0, 0) from runA_end (by rw [← HN.out]; exact hrun.out) HS.out)
        go_wp2_with fail
        go_ret3
        exact ⟨ApplyR.fin E.out hown.out, hbw.out⟩

end Go.Proofs.Ytpnhkniegjfncaa
