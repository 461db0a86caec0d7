/- The reference's next: the least prefix that may come; condition: the prefixes fit the memory. -/
import Derived.Test.YtpnhkniegjfncaaD22
namespace Go.Proofs.Ytpnhkniegjfncaa
open Go.ChangeShapes Go.WideShapes Go.ChangeAt Go.RowKit
set_option linter.unusedVariables false
set_option linter.unusedSimpArgs false
attribute [local go_sem] Og.Opt Og.OpY
attribute [local go_sem high] eqB1 eqP1 eqR1 eqC1

/-- the prefix p lies at b, o -/
def AtP (w : World) (b o : Nat) (p : Pf) : Prop := w.cell? ⟨b, o, none⟩ = some (.int .u32 p.a) ∧ w.cell? ⟨b, o + 1, none⟩ = some (.int .i64 p.l)
def RdP (w : World) (A : Option Addr) (xs : List Pf) : Prop := ∀ i p, xs[i]? = some p → ∃ b o, A = some ⟨b, o, none⟩ ∧ AtP w b (o + i * 2) p
theorem RdP.below {w w2 : World} {A : Option Addr} {xs : List Pf} (h : RdP w A xs) (hb : Below w.heap.size w w2) : RdP w2 A xs := fun i r hi => by
  obtain ⟨b, o, hA, h0, h1⟩ := h i r hi
  exact ⟨b, o, hA, bcell hb h0, bcell hb h1⟩
def ppV (p : Pf) : List Value := [.int .u32 p.a, .int .i64 p.l]
theorem ppV_len (p : Pf) : (ppV p).length = 2 := rfl
theorem ppV_one (p : Pf) : ∀ u ∈ ppV p, u.oneCell' = true := by
  intro u hu
  simp only [ppV, List.mem_cons, List.not_mem_nil, or_false] at hu
  rcases hu with rfl | rfl <;> rfl
theorem AtP_of {w : World} {b o : Nat} {p : Pf} (h : ∀ k u, (ppV p)[k]? = some u → w.cell? ⟨b, o + k, none⟩ = some u) : AtP w b o p := ⟨h 0 _ rfl, h 1 _ rfl⟩
/-- the slice v reads as the prefixes xs -/
def SlP (B : Nat) (w : World) (v : Value) (xs : List Pf) : Prop := ∃ A c, v = .slice A xs.length c ∧ RdP w A xs ∧ (A = none → c = 0) ∧ (∀ a, A = some a → B ≤ a.block) ∧ xs.length ≤ c
theorem SlP_of_row {w : World} {base : Nat} {v : Value} {n : Nat} {xs : List Pf} (h : w.ownsRow base 35 2 v n (xs.flatMap ppV)) (hn : xs.length = n) : SlP base w v xs := by
  rcases h.2 with ⟨rfl, h0⟩ | ⟨g, cap, cur, rfl, hb, hg, hnc, _⟩
  · subst h0
    have : xs = [] := List.eq_nil_of_length_eq_zero hn
    subst this
    exact ⟨none, 0, rfl, fun i r hr => by simp at hr, fun _ => rfl, fun a ha => (by cases ha), by simp⟩
  · refine ⟨some ⟨g, 0, none⟩, cap, by rw [hn], fun i r hr => ⟨g, 0, rfl, AtP_of fun k u hu => ?_⟩, fun hA => (by cases hA), fun a ha => (by cases ha; exact hb), by omega⟩
    have hk : k < 2 := by have := (List.getElem?_eq_some_iff.1 hu).1; rwa [ppV_len] at this
    have := h.cells (g := g) rfl (i * 2 + k) u (by
      rw [flat_get ppV 2 ppV_len (by omega), show (i * 2 + k) / 2 = i by omega, show (i * 2 + k) % 2 = k by omega, hr]
      exact hu)
    rw [Addr.add_lit] at this
    rwa [Nat.add_assoc]
theorem info35 : (Try.prog.info? 35).map (fun i => (i.zero, i.size, i.bytes)) = some (some (.agg #[.int .u32 0, .int .i64 0]), 2, 16) := by kernel_rfl

def bst (b : Option Pf) : Pf := b.getD ⟨0, 0⟩
theorem fold_snoc {first : Bool} {p : Pf} {ps : List Pf} {k : Nat} {q : Pf} (h : ps[k]? = some q) : (ps.take (k + 1)).foldl (nxt1 first p) none = nxt1 first p ((ps.take k).foldl (nxt1 first p) none) q := by
  rw [List.take_add_one, h]
  simp
set_option maxRecDepth 100000 in
set_option maxHeartbeats 8000000 in
theorem next_ok (ps : List Pf) (p : Pf) (first : Bool) (A : Option Addr) (c : Nat) (w : World) (hr : RdP w A ps) (hl : ps.length ≤ 1125899906842624) :
    Calls Try.prog 27 #[.slice A ps.length c, .agg #[.int .u32 p.a, .int .i64 p.l], .bool first] w fun e w' => e = .returned (.tuple #[.agg #[.int .u32 (bst (nxtP ps p first)).a, .int .i64 (bst (nxtP ps p first)).l], .bool (nxtP ps p first).isSome]) ∧ Below w.heap.size w w' := by
  obtain ⟨n, hn⟩ : ∃ n, n = ps.length := ⟨_, rfl⟩
  rw [← hn] at hl
  have HN := Lib.hid hn
  have HR := Lib.hid hr
  have HB := Lib.hid rbefore_ok
  rw [← hn]
  clear hn hr
  go_enter Try.func27, Try.ntmps27
  go_wp2_with fail
  go_loopw [9, 10] (fun okv i wr => ∃ (k : Nat) (best : Option Pf), k ≤ n ∧ i = .int .i64 k ∧ okv = .bool best.isSome ∧ Hid ((ps.take k).foldl (nxt1 first p) none = best) ∧ Hid (Below w.heap.size w wr) ∧ Hid (wr.heap[w.heap.size]? = some (.cells #[.int .u32 p.a, .int .i64 p.l] 35 (0, 0))) ∧ Hid (wr.heap[w.heap.size + 1]? = some (.cells #[.int .u32 0, .int .i64 0] 35 (0, 0))) ∧ Hid (wr.heap[w.heap.size + 2]? = some (.cells #[.int .u32 (bst best).a, .int .i64 (bst best).l] 35 (0, 0)))) (fun _ i _ => n - (intOf i).toNat)
  case atStart =>
    refine ⟨0, none, Nat.zero_le _, rfl, rfl, Lib.hid rfl, Lib.hid ((((Below.refl _ _).alloc (Nat.le_refl _) _).alloc (by simp) _).alloc (by simp; omega) _), Lib.hid ?_, Lib.hid ?_, Lib.hid ?_⟩
    · exact heap_keep (((Below.refl _ _).alloc (Nat.le_refl _) _).alloc (by simp) _) (heap_alloc_new w _)
    · exact heap_keep (((Below.refl _ _).alloc (Nat.le_refl _) _)) ((heap_new1 w _ _).trans (heap_alloc_new (w.alloc _) _))
    · exact heap_at (by simp)
  case round =>
    obtain ⟨k, best, hk, rfl, rfl, hfold, hbw, hp, hz, hq⟩ := hrel
    by_cases hlt : k < n
    · obtain ⟨q, hx⟩ : ∃ r, ps[k]? = some r := ⟨_, List.getElem?_eq_getElem (by rw [← HN.out]; exact hlt)⟩
      obtain ⟨b, o, rfl, ha⟩ := (HR.out.below hbw.out) k q hx
      have HF := Lib.hid (fold_snoc (first := first) (p := p) hx)
      obtain ⟨c0, c1⟩ := ha
      obtain ⟨p0, p1⟩ := cells2 hp.out
      obtain ⟨q0, q1⟩ := cells2 hq.out
      have hwk : IntKind.i64.wrap (k : Int) = k := wrapk (by omega)
      have hk0 : (0 : Int) ≤ (k : Int) := by omega
      have hkn : (k : Int) < (n : Int) := by omega
      have HC : ∀ w2, Below wr.heap.size wr w2 → w2.cell? ⟨b, o + k * 2, none⟩ = some (.int .u32 q.a) ∧ w2.cell? ⟨b, o + k * 2 + 1, none⟩ = some (.int .i64 q.l) ∧ w2.cell? ⟨w.heap.size, 0, none⟩ = some (.int .u32 p.a) ∧ w2.cell? ⟨w.heap.size, 1, none⟩ = some (.int .i64 p.l) ∧ w2.cell? ⟨w.heap.size + 2, 0, none⟩ = some (.int .u32 (bst best).a) ∧ w2.cell? ⟨w.heap.size + 2, 1, none⟩ = some (.int .i64 (bst best).l) := fun w2 h => ⟨bcell h c0, bcell h c1, bcell h p0, bcell h p1, bcell h q0, bcell h q1⟩
      clear hx c0 c1 p0 p1 q0 q1
      cases first with
      | true =>
        cases best with
        | none =>
          have HX := Lib.hid (HF.out.trans (show nxt1 true p ((ps.take k).foldl (nxt1 true p) none) q = some q by rw [hfold.out]; unfold nxt1; simp []))
          simp only [bst, Option.getD_none] at HC
          go_wp2_with fail
          refine Og.walk_lit [[],[0],[1,0],[1,0],[1,0],[3,4,1,0],[5,1,3,4,0],[2,6,1,0,5,3,4],[1,7,0,2,6,5,3,4],[8,7,1,0,2,6,5,3,4],[9,8,7,1,0,2,6,5,3,4],[10,9,8,7,1,0,2,6,5,3,4],[11,9,10,8,7,1,0,2,6,5,3,4],[12,11,9,10,8,7,1,0,2,6,5,3,4],[12,11,9,10,8,7,1,0,2,6,5,3,4],[13,14,12,11,9,10,8,7,1,0,2,6,5,3,4],[15,12,13,14,11,9,10,8,7,1,0,2,6,5,3,4],[12,11,9,10,8,7,1,0,2,6,5,3,4],[16,17,12,15,13,14,11,9,10,8,7,1,0,2,6,5,3,4],[12,18,9,11,10,8,7,1,0,2,6,5,3,4,16,17,15,13,14],[9,19,8,7,1,0,2,6,5,3,4,12,18,11,10,16,17,15,13,14]] (fun w2 => Below wr.heap.size wr w2) (fun w1 w2 => Below w1.heap.size w1 w2) (by kernel_rfl) (by kernel_rfl) (bdrew) ?_
          repeat (first | (refine Og.step_pure (fun _ => Below.refl _ _) ?_; apply Exists.intro; refine And.intro ?_ ?_; focus (intro vs w2 hC hk; have hm := HC w2 hC; revert hk; simp only [Og.KS, Og.K0, Og.Is, List.getD_cons_zero, List.getD_cons_succ, List.getD_nil, List.contains_cons, List.contains_nil, Nat.reduceAdd, Nat.reduceBEq, Bool.or_false, Bool.false_or, Bool.or_true, Bool.true_or, Bool.false_eq_true, false_implies, true_implies, true_and, and_true, forall_const]; intros; go_simp; rfl)))
          intro vs w2 hC hk
          have hm := HC w2 hC
          simp only [Og.KS, Og.K0, Og.Is, List.getD_cons_zero, List.getD_cons_succ, List.getD_nil, List.contains_cons, List.contains_nil, Nat.reduceAdd, Nat.reduceBEq, Bool.or_false, Bool.false_or, Bool.or_true, Bool.true_or, Bool.false_eq_true, false_implies, true_implies, true_and, and_true, forall_const] at hk
          simp only [hk, Act.put, List.setIfInBounds_toArray, List.set_cons_zero, List.set_cons_succ]
          clear hk
          have HB2 := Lib.hid (bthen' hbw.out hbw.out.size hC)
          have hp2 := Lib.hid (heap_keep hC hp.out)
          have hz2 := Lib.hid (heap_keep hC hz.out)
          have hq2 := Lib.hid (heap_keep hC hq.out)
          clear hC HC hbw hp hz hq
          go_wp2_with (refine wpList_store_new rfl 35 (.tmp 8) (.tmp 42) rfl rfl (w.heap.size + 2) #[.int .u32 q.a, .int .i64 q.l] rfl rfl 35 _ (hq2.out) info35s rfl (by simp [Value.oneCell']) ?_; intro w3 hz3 hb3 hk3 _; have HQ3 := Lib.hid hz3; have HB3 := Lib.hid (HB2.out.trans (hb3 w.heap.size (by omega))); have HP3 := Lib.hid ((hk3 w.heap.size (by omega)).trans hp2.out); have HZ3 := Lib.hid ((hk3 (w.heap.size + 1) (by omega)).trans hz2.out); clear hz3 hb3 hk3 hm)
          go_roundw
          case rel => exact ⟨k + 1, some q, by omega, by go_num, rfl, Lib.hid HX.out, HB3, HP3, HZ3, HQ3⟩
          case measure => simp [intOf]; omega
        | some b0 =>
          cases h2 : befP q b0 with
          | true =>
            have H2 : Hid (∀ w, Calls Try.prog 31 #[.agg #[.int .u32 q.a, .int .i64 q.l], .agg #[.int .u32 b0.a, .int .i64 b0.l]] w fun e w' => e = .returned (.bool true) ∧ Below w.heap.size w w') := Lib.hid (fun w => by have := HB.out q b0 w; rwa [h2] at this)
            have HX := Lib.hid (HF.out.trans (show nxt1 true p ((ps.take k).foldl (nxt1 true p) none) q = some q by rw [hfold.out]; unfold nxt1; simp [h2]))
            simp only [bst, Option.getD_some] at HC
            clear h2
            go_wp2_with fail
            refine Og.walk_lit [[],[0],[1,0],[1,0],[1,0],[3,4,1,0],[5,1,3,4,0],[2,6,1,0,5,3,4],[1,7,0,2,6,5,3,4],[8,7,1,0,2,6,5,3,4],[9,8,7,1,0,2,6,5,3,4],[10,9,8,7,1,0,2,6,5,3,4],[11,9,10,8,7,1,0,2,6,5,3,4],[12,11,9,10,8,7,1,0,2,6,5,3,4],[12,11,9,10,8,7,1,0,2,6,5,3,4],[13,14,12,11,9,10,8,7,1,0,2,6,5,3,4],[15,12,13,14,11,9,10,8,7,1,0,2,6,5,3,4],[12,11,9,10,8,7,1,0,2,6,5,3,4],[16,17,12,15,13,14,11,9,10,8,7,1,0,2,6,5,3,4],[12,18,9,11,10,8,7,1,0,2,6,5,3,4,16,17,15,13,14],[9,19,8,7,1,0,2,6,5,3,4,12,18,11,10,16,17,15,13,14]] (fun w2 => Below wr.heap.size wr w2) (fun w1 w2 => Below w1.heap.size w1 w2) (by kernel_rfl) (by kernel_rfl) (bdrew) ?_
            repeat (first | (refine Og.step_pure (fun _ => Below.refl _ _) ?_; apply Exists.intro; refine And.intro ?_ ?_; focus (intro vs w2 hC hk; have hm := HC w2 hC; revert hk; simp only [Og.KS, Og.K0, Og.Is, List.getD_cons_zero, List.getD_cons_succ, List.getD_nil, List.contains_cons, List.contains_nil, Nat.reduceAdd, Nat.reduceBEq, Bool.or_false, Bool.false_or, Bool.or_true, Bool.true_or, Bool.false_eq_true, false_implies, true_implies, true_and, and_true, forall_const]; intros; go_simp; rfl)) | (refine Og.step_one ?_; apply Exists.intro; refine And.intro ?_ ?_; focus (intro vs w2 hC hk; have hm := HC w2 hC; revert hk; simp only [Og.KS, Og.K0, Og.Is, List.getD_cons_zero, List.getD_cons_succ, List.getD_nil, List.contains_cons, List.contains_nil, Nat.reduceAdd, Nat.reduceBEq, Bool.or_false, Bool.false_or, Bool.or_true, Bool.true_or, Bool.false_eq_true, false_implies, true_implies, true_and, and_true, forall_const]; intros; go_simp; with_reducible refine (H2.out _).mono ?_; rintro e w3 ⟨rfl, hb⟩; exact Og.RetV.mk ⟨bthen hC hb, hb, rfl⟩)))
            intro vs w2 hC hk
            have hm := HC w2 hC
            simp only [Og.KS, Og.K0, Og.Is, List.getD_cons_zero, List.getD_cons_succ, List.getD_nil, List.contains_cons, List.contains_nil, Nat.reduceAdd, Nat.reduceBEq, Bool.or_false, Bool.false_or, Bool.or_true, Bool.true_or, Bool.false_eq_true, false_implies, true_implies, true_and, and_true, forall_const] at hk
            simp only [hk, Act.put, List.setIfInBounds_toArray, List.set_cons_zero, List.set_cons_succ]
            clear hk
            have HB2 := Lib.hid (bthen' hbw.out hbw.out.size hC)
            have hp2 := Lib.hid (heap_keep hC hp.out)
            have hz2 := Lib.hid (heap_keep hC hz.out)
            have hq2 := Lib.hid (heap_keep hC hq.out)
            clear hC HC hbw hp hz hq
            go_wp2_with (refine wpList_store_new rfl 35 (.tmp 8) (.tmp 42) rfl rfl (w.heap.size + 2) #[.int .u32 q.a, .int .i64 q.l] rfl rfl 35 _ (hq2.out) info35s rfl (by simp [Value.oneCell']) ?_; intro w3 hz3 hb3 hk3 _; have HQ3 := Lib.hid hz3; have HB3 := Lib.hid (HB2.out.trans (hb3 w.heap.size (by omega))); have HP3 := Lib.hid ((hk3 w.heap.size (by omega)).trans hp2.out); have HZ3 := Lib.hid ((hk3 (w.heap.size + 1) (by omega)).trans hz2.out); clear hz3 hb3 hk3 hm)
            go_roundw
            case rel => exact ⟨k + 1, some q, by omega, by go_num, rfl, Lib.hid HX.out, HB3, HP3, HZ3, HQ3⟩
            case measure => simp [intOf]; omega
          | false =>
            have H2 : Hid (∀ w, Calls Try.prog 31 #[.agg #[.int .u32 q.a, .int .i64 q.l], .agg #[.int .u32 b0.a, .int .i64 b0.l]] w fun e w' => e = .returned (.bool false) ∧ Below w.heap.size w w') := Lib.hid (fun w => by have := HB.out q b0 w; rwa [h2] at this)
            have HX := Lib.hid (HF.out.trans (show nxt1 true p ((ps.take k).foldl (nxt1 true p) none) q = some b0 by rw [hfold.out]; unfold nxt1; simp [h2]))
            simp only [bst, Option.getD_some] at HC
            clear h2
            go_wp2_with fail
            refine Og.walk_lit [[],[0],[1,0],[1,0],[1,0],[3,4,1,0],[5,1,3,4,0],[2,6,1,0,5,3,4],[1,7,0,2,6,5,3,4],[8,7,1,0,2,6,5,3,4],[9,8,7,1,0,2,6,5,3,4],[10,9,8,7,1,0,2,6,5,3,4],[11,9,10,8,7,1,0,2,6,5,3,4],[12,11,9,10,8,7,1,0,2,6,5,3,4],[12,11,9,10,8,7,1,0,2,6,5,3,4],[13,14,12,11,9,10,8,7,1,0,2,6,5,3,4],[15,12,13,14,11,9,10,8,7,1,0,2,6,5,3,4],[12,11,9,10,8,7,1,0,2,6,5,3,4],[16,17,12,15,13,14,11,9,10,8,7,1,0,2,6,5,3,4],[12,18,9,11,10,8,7,1,0,2,6,5,3,4,16,17,15,13,14],[9,19,8,7,1,0,2,6,5,3,4,12,18,11,10,16,17,15,13,14]] (fun w2 => Below wr.heap.size wr w2) (fun w1 w2 => Below w1.heap.size w1 w2) (by kernel_rfl) (by kernel_rfl) (bdrew) ?_
            repeat (first | (refine Og.step_pure (fun _ => Below.refl _ _) ?_; apply Exists.intro; refine And.intro ?_ ?_; focus (intro vs w2 hC hk; have hm := HC w2 hC; revert hk; simp only [Og.KS, Og.K0, Og.Is, List.getD_cons_zero, List.getD_cons_succ, List.getD_nil, List.contains_cons, List.contains_nil, Nat.reduceAdd, Nat.reduceBEq, Bool.or_false, Bool.false_or, Bool.or_true, Bool.true_or, Bool.false_eq_true, false_implies, true_implies, true_and, and_true, forall_const]; intros; go_simp; rfl)) | (refine Og.step_one ?_; apply Exists.intro; refine And.intro ?_ ?_; focus (intro vs w2 hC hk; have hm := HC w2 hC; revert hk; simp only [Og.KS, Og.K0, Og.Is, List.getD_cons_zero, List.getD_cons_succ, List.getD_nil, List.contains_cons, List.contains_nil, Nat.reduceAdd, Nat.reduceBEq, Bool.or_false, Bool.false_or, Bool.or_true, Bool.true_or, Bool.false_eq_true, false_implies, true_implies, true_and, and_true, forall_const]; intros; go_simp; with_reducible refine (H2.out _).mono ?_; rintro e w3 ⟨rfl, hb⟩; exact Og.RetV.mk ⟨bthen hC hb, hb, rfl⟩)))
            intro vs w2 hC hk
            have hm := HC w2 hC
            simp only [Og.KS, Og.K0, Og.Is, List.getD_cons_zero, List.getD_cons_succ, List.getD_nil, List.contains_cons, List.contains_nil, Nat.reduceAdd, Nat.reduceBEq, Bool.or_false, Bool.false_or, Bool.or_true, Bool.true_or, Bool.false_eq_true, false_implies, true_implies, true_and, and_true, forall_const] at hk
            simp only [hk, Act.put, List.setIfInBounds_toArray, List.set_cons_zero, List.set_cons_succ]
            clear hk
            have HB2 := Lib.hid (bthen' hbw.out hbw.out.size hC)
            have hp2 := Lib.hid (heap_keep hC hp.out)
            have hz2 := Lib.hid (heap_keep hC hz.out)
            have hq2 := Lib.hid (heap_keep hC hq.out)
            clear hC HC hbw hp hz hq
            clear hm
            go_wp2_with fail
            go_roundw
            case rel => exact ⟨k + 1, some b0, by omega, by go_num, rfl, Lib.hid HX.out, HB2, hp2, hz2, hq2⟩
            case measure => simp [intOf]; omega
      | false =>
        cases h1 : befP p q with
        | true =>
          have H1 : Hid (∀ w, Calls Try.prog 31 #[.agg #[.int .u32 p.a, .int .i64 p.l], .agg #[.int .u32 q.a, .int .i64 q.l]] w fun e w' => e = .returned (.bool true) ∧ Below w.heap.size w w') := Lib.hid (fun w => by have := HB.out p q w; rwa [h1] at this)
          cases best with
          | none =>
            have HX := Lib.hid (HF.out.trans (show nxt1 false p ((ps.take k).foldl (nxt1 false p) none) q = some q by rw [hfold.out]; unfold nxt1; simp [h1]))
            simp only [bst, Option.getD_none] at HC
            clear h1
            go_wp2_with fail
            refine Og.walk_lit [[],[0],[1,0],[1,0],[1,0],[3,4,1,0],[5,1,3,4,0],[2,6,1,0,5,3,4],[1,7,0,2,6,5,3,4],[8,7,1,0,2,6,5,3,4],[9,8,7,1,0,2,6,5,3,4],[10,9,8,7,1,0,2,6,5,3,4],[11,9,10,8,7,1,0,2,6,5,3,4],[12,11,9,10,8,7,1,0,2,6,5,3,4],[12,11,9,10,8,7,1,0,2,6,5,3,4],[13,14,12,11,9,10,8,7,1,0,2,6,5,3,4],[15,12,13,14,11,9,10,8,7,1,0,2,6,5,3,4],[12,11,9,10,8,7,1,0,2,6,5,3,4],[16,17,12,15,13,14,11,9,10,8,7,1,0,2,6,5,3,4],[12,18,9,11,10,8,7,1,0,2,6,5,3,4,16,17,15,13,14],[9,19,8,7,1,0,2,6,5,3,4,12,18,11,10,16,17,15,13,14]] (fun w2 => Below wr.heap.size wr w2) (fun w1 w2 => Below w1.heap.size w1 w2) (by kernel_rfl) (by kernel_rfl) (bdrew) ?_
            repeat (first | (refine Og.step_pure (fun _ => Below.refl _ _) ?_; apply Exists.intro; refine And.intro ?_ ?_; focus (intro vs w2 hC hk; have hm := HC w2 hC; revert hk; simp only [Og.KS, Og.K0, Og.Is, List.getD_cons_zero, List.getD_cons_succ, List.getD_nil, List.contains_cons, List.contains_nil, Nat.reduceAdd, Nat.reduceBEq, Bool.or_false, Bool.false_or, Bool.or_true, Bool.true_or, Bool.false_eq_true, false_implies, true_implies, true_and, and_true, forall_const]; intros; go_simp; rfl)) | (refine Og.step_one ?_; apply Exists.intro; refine And.intro ?_ ?_; focus (intro vs w2 hC hk; have hm := HC w2 hC; revert hk; simp only [Og.KS, Og.K0, Og.Is, List.getD_cons_zero, List.getD_cons_succ, List.getD_nil, List.contains_cons, List.contains_nil, Nat.reduceAdd, Nat.reduceBEq, Bool.or_false, Bool.false_or, Bool.or_true, Bool.true_or, Bool.false_eq_true, false_implies, true_implies, true_and, and_true, forall_const]; intros; go_simp; with_reducible refine (H1.out _).mono ?_; rintro e w3 ⟨rfl, hb⟩; exact Og.RetV.mk ⟨bthen hC hb, hb, rfl⟩)))
            intro vs w2 hC hk
            have hm := HC w2 hC
            simp only [Og.KS, Og.K0, Og.Is, List.getD_cons_zero, List.getD_cons_succ, List.getD_nil, List.contains_cons, List.contains_nil, Nat.reduceAdd, Nat.reduceBEq, Bool.or_false, Bool.false_or, Bool.or_true, Bool.true_or, Bool.false_eq_true, false_implies, true_implies, true_and, and_true, forall_const] at hk
            simp only [hk, Act.put, List.setIfInBounds_toArray, List.set_cons_zero, List.set_cons_succ]
            clear hk
            have HB2 := Lib.hid (bthen' hbw.out hbw.out.size hC)
            have hp2 := Lib.hid (heap_keep hC hp.out)
            have hz2 := Lib.hid (heap_keep hC hz.out)
            have hq2 := Lib.hid (heap_keep hC hq.out)
            clear hC HC hbw hp hz hq
            go_wp2_with (refine wpList_store_new rfl 35 (.tmp 8) (.tmp 42) rfl rfl (w.heap.size + 2) #[.int .u32 q.a, .int .i64 q.l] rfl rfl 35 _ (hq2.out) info35s rfl (by simp [Value.oneCell']) ?_; intro w3 hz3 hb3 hk3 _; have HQ3 := Lib.hid hz3; have HB3 := Lib.hid (HB2.out.trans (hb3 w.heap.size (by omega))); have HP3 := Lib.hid ((hk3 w.heap.size (by omega)).trans hp2.out); have HZ3 := Lib.hid ((hk3 (w.heap.size + 1) (by omega)).trans hz2.out); clear hz3 hb3 hk3 hm)
            go_roundw
            case rel => exact ⟨k + 1, some q, by omega, by go_num, rfl, Lib.hid HX.out, HB3, HP3, HZ3, HQ3⟩
            case measure => simp [intOf]; omega
          | some b0 =>
            cases h2 : befP q b0 with
            | true =>
              have H2 : Hid (∀ w, Calls Try.prog 31 #[.agg #[.int .u32 q.a, .int .i64 q.l], .agg #[.int .u32 b0.a, .int .i64 b0.l]] w fun e w' => e = .returned (.bool true) ∧ Below w.heap.size w w') := Lib.hid (fun w => by have := HB.out q b0 w; rwa [h2] at this)
              have HX := Lib.hid (HF.out.trans (show nxt1 false p ((ps.take k).foldl (nxt1 false p) none) q = some q by rw [hfold.out]; unfold nxt1; simp [h1, h2]))
              simp only [bst, Option.getD_some] at HC
              clear h2 h1
              go_wp2_with fail
              refine Og.walk_lit [[],[0],[1,0],[1,0],[1,0],[3,4,1,0],[5,1,3,4,0],[2,6,1,0,5,3,4],[1,7,0,2,6,5,3,4],[8,7,1,0,2,6,5,3,4],[9,8,7,1,0,2,6,5,3,4],[10,9,8,7,1,0,2,6,5,3,4],[11,9,10,8,7,1,0,2,6,5,3,4],[12,11,9,10,8,7,1,0,2,6,5,3,4],[12,11,9,10,8,7,1,0,2,6,5,3,4],[13,14,12,11,9,10,8,7,1,0,2,6,5,3,4],[15,12,13,14,11,9,10,8,7,1,0,2,6,5,3,4],[12,11,9,10,8,7,1,0,2,6,5,3,4],[16,17,12,15,13,14,11,9,10,8,7,1,0,2,6,5,3,4],[12,18,9,11,10,8,7,1,0,2,6,5,3,4,16,17,15,13,14],[9,19,8,7,1,0,2,6,5,3,4,12,18,11,10,16,17,15,13,14]] (fun w2 => Below wr.heap.size wr w2) (fun w1 w2 => Below w1.heap.size w1 w2) (by kernel_rfl) (by kernel_rfl) (bdrew) ?_
              repeat (first | (refine Og.step_pure (fun _ => Below.refl _ _) ?_; apply Exists.intro; refine And.intro ?_ ?_; focus (intro vs w2 hC hk; have hm := HC w2 hC; revert hk; simp only [Og.KS, Og.K0, Og.Is, List.getD_cons_zero, List.getD_cons_succ, List.getD_nil, List.contains_cons, List.contains_nil, Nat.reduceAdd, Nat.reduceBEq, Bool.or_false, Bool.false_or, Bool.or_true, Bool.true_or, Bool.false_eq_true, false_implies, true_implies, true_and, and_true, forall_const]; intros; go_simp; rfl)) | (refine Og.step_one ?_; apply Exists.intro; refine And.intro ?_ ?_; focus (intro vs w2 hC hk; have hm := HC w2 hC; revert hk; simp only [Og.KS, Og.K0, Og.Is, List.getD_cons_zero, List.getD_cons_succ, List.getD_nil, List.contains_cons, List.contains_nil, Nat.reduceAdd, Nat.reduceBEq, Bool.or_false, Bool.false_or, Bool.or_true, Bool.true_or, Bool.false_eq_true, false_implies, true_implies, true_and, and_true, forall_const]; intros; go_simp; with_reducible refine (H1.out _).mono ?_; rintro e w3 ⟨rfl, hb⟩; exact Og.RetV.mk ⟨bthen hC hb, hb, rfl⟩)) | (refine Og.step_one ?_; apply Exists.intro; refine And.intro ?_ ?_; focus (intro vs w2 hC hk; have hm := HC w2 hC; revert hk; simp only [Og.KS, Og.K0, Og.Is, List.getD_cons_zero, List.getD_cons_succ, List.getD_nil, List.contains_cons, List.contains_nil, Nat.reduceAdd, Nat.reduceBEq, Bool.or_false, Bool.false_or, Bool.or_true, Bool.true_or, Bool.false_eq_true, false_implies, true_implies, true_and, and_true, forall_const]; intros; go_simp; with_reducible refine (H2.out _).mono ?_; rintro e w3 ⟨rfl, hb⟩; exact Og.RetV.mk ⟨bthen hC hb, hb, rfl⟩)))
              intro vs w2 hC hk
              have hm := HC w2 hC
              simp only [Og.KS, Og.K0, Og.Is, List.getD_cons_zero, List.getD_cons_succ, List.getD_nil, List.contains_cons, List.contains_nil, Nat.reduceAdd, Nat.reduceBEq, Bool.or_false, Bool.false_or, Bool.or_true, Bool.true_or, Bool.false_eq_true, false_implies, true_implies, true_and, and_true, forall_const] at hk
              simp only [hk, Act.put, List.setIfInBounds_toArray, List.set_cons_zero, List.set_cons_succ]
              clear hk
              have HB2 := Lib.hid (bthen' hbw.out hbw.out.size hC)
              have hp2 := Lib.hid (heap_keep hC hp.out)
              have hz2 := Lib.hid (heap_keep hC hz.out)
              have hq2 := Lib.hid (heap_keep hC hq.out)
              clear hC HC hbw hp hz hq
              go_wp2_with (refine wpList_store_new rfl 35 (.tmp 8) (.tmp 42) rfl rfl (w.heap.size + 2) #[.int .u32 q.a, .int .i64 q.l] rfl rfl 35 _ (hq2.out) info35s rfl (by simp [Value.oneCell']) ?_; intro w3 hz3 hb3 hk3 _; have HQ3 := Lib.hid hz3; have HB3 := Lib.hid (HB2.out.trans (hb3 w.heap.size (by omega))); have HP3 := Lib.hid ((hk3 w.heap.size (by omega)).trans hp2.out); have HZ3 := Lib.hid ((hk3 (w.heap.size + 1) (by omega)).trans hz2.out); clear hz3 hb3 hk3 hm)
              go_roundw
              case rel => exact ⟨k + 1, some q, by omega, by go_num, rfl, Lib.hid HX.out, HB3, HP3, HZ3, HQ3⟩
              case measure => simp [intOf]; omega
            | false =>
              have H2 : Hid (∀ w, Calls Try.prog 31 #[.agg #[.int .u32 q.a, .int .i64 q.l], .agg #[.int .u32 b0.a, .int .i64 b0.l]] w fun e w' => e = .returned (.bool false) ∧ Below w.heap.size w w') := Lib.hid (fun w => by have := HB.out q b0 w; rwa [h2] at this)
              have HX := Lib.hid (HF.out.trans (show nxt1 false p ((ps.take k).foldl (nxt1 false p) none) q = some b0 by rw [hfold.out]; unfold nxt1; simp [h1, h2]))
              simp only [bst, Option.getD_some] at HC
              clear h2 h1
              go_wp2_with fail
              refine Og.walk_lit [[],[0],[1,0],[1,0],[1,0],[3,4,1,0],[5,1,3,4,0],[2,6,1,0,5,3,4],[1,7,0,2,6,5,3,4],[8,7,1,0,2,6,5,3,4],[9,8,7,1,0,2,6,5,3,4],[10,9,8,7,1,0,2,6,5,3,4],[11,9,10,8,7,1,0,2,6,5,3,4],[12,11,9,10,8,7,1,0,2,6,5,3,4],[12,11,9,10,8,7,1,0,2,6,5,3,4],[13,14,12,11,9,10,8,7,1,0,2,6,5,3,4],[15,12,13,14,11,9,10,8,7,1,0,2,6,5,3,4],[12,11,9,10,8,7,1,0,2,6,5,3,4],[16,17,12,15,13,14,11,9,10,8,7,1,0,2,6,5,3,4],[12,18,9,11,10,8,7,1,0,2,6,5,3,4,16,17,15,13,14],[9,19,8,7,1,0,2,6,5,3,4,12,18,11,10,16,17,15,13,14]] (fun w2 => Below wr.heap.size wr w2) (fun w1 w2 => Below w1.heap.size w1 w2) (by kernel_rfl) (by kernel_rfl) (bdrew) ?_
              repeat (first | (refine Og.step_pure (fun _ => Below.refl _ _) ?_; apply Exists.intro; refine And.intro ?_ ?_; focus (intro vs w2 hC hk; have hm := HC w2 hC; revert hk; simp only [Og.KS, Og.K0, Og.Is, List.getD_cons_zero, List.getD_cons_succ, List.getD_nil, List.contains_cons, List.contains_nil, Nat.reduceAdd, Nat.reduceBEq, Bool.or_false, Bool.false_or, Bool.or_true, Bool.true_or, Bool.false_eq_true, false_implies, true_implies, true_and, and_true, forall_const]; intros; go_simp; rfl)) | (refine Og.step_one ?_; apply Exists.intro; refine And.intro ?_ ?_; focus (intro vs w2 hC hk; have hm := HC w2 hC; revert hk; simp only [Og.KS, Og.K0, Og.Is, List.getD_cons_zero, List.getD_cons_succ, List.getD_nil, List.contains_cons, List.contains_nil, Nat.reduceAdd, Nat.reduceBEq, Bool.or_false, Bool.false_or, Bool.or_true, Bool.true_or, Bool.false_eq_true, false_implies, true_implies, true_and, and_true, forall_const]; intros; go_simp; with_reducible refine (H1.out _).mono ?_; rintro e w3 ⟨rfl, hb⟩; exact Og.RetV.mk ⟨bthen hC hb, hb, rfl⟩)) | (refine Og.step_one ?_; apply Exists.intro; refine And.intro ?_ ?_; focus (intro vs w2 hC hk; have hm := HC w2 hC; revert hk; simp only [Og.KS, Og.K0, Og.Is, List.getD_cons_zero, List.getD_cons_succ, List.getD_nil, List.contains_cons, List.contains_nil, Nat.reduceAdd, Nat.reduceBEq, Bool.or_false, Bool.false_or, Bool.or_true, Bool.true_or, Bool.false_eq_true, false_implies, true_implies, true_and, and_true, forall_const]; intros; go_simp; with_reducible refine (H2.out _).mono ?_; rintro e w3 ⟨rfl, hb⟩; exact Og.RetV.mk ⟨bthen hC hb, hb, rfl⟩)))
              intro vs w2 hC hk
              have hm := HC w2 hC
              simp only [Og.KS, Og.K0, Og.Is, List.getD_cons_zero, List.getD_cons_succ, List.getD_nil, List.contains_cons, List.contains_nil, Nat.reduceAdd, Nat.reduceBEq, Bool.or_false, Bool.false_or, Bool.or_true, Bool.true_or, Bool.false_eq_true, false_implies, true_implies, true_and, and_true, forall_const] at hk
              simp only [hk, Act.put, List.setIfInBounds_toArray, List.set_cons_zero, List.set_cons_succ]
              clear hk
              have HB2 := Lib.hid (bthen' hbw.out hbw.out.size hC)
              have hp2 := Lib.hid (heap_keep hC hp.out)
              have hz2 := Lib.hid (heap_keep hC hz.out)
              have hq2 := Lib.hid (heap_keep hC hq.out)
              clear hC HC hbw hp hz hq
              clear hm
              go_wp2_with fail
              go_roundw
              case rel => exact ⟨k + 1, some b0, by omega, by go_num, rfl, Lib.hid HX.out, HB2, hp2, hz2, hq2⟩
              case measure => simp [intOf]; omega
        | false =>
          have H1 : Hid (∀ w, Calls Try.prog 31 #[.agg #[.int .u32 p.a, .int .i64 p.l], .agg #[.int .u32 q.a, .int .i64 q.l]] w fun e w' => e = .returned (.bool false) ∧ Below w.heap.size w w') := Lib.hid (fun w => by have := HB.out p q w; rwa [h1] at this)
          have HX := Lib.hid (HF.out.trans (show nxt1 false p ((ps.take k).foldl (nxt1 false p) none) q = best by rw [hfold.out]; unfold nxt1; simp [h1]))
          clear h1
          go_wp2_with fail
          refine Og.walk_lit [[],[0],[1,0],[1,0],[1,0],[3,4,1,0],[5,1,3,4,0],[2,6,1,0,5,3,4],[1,7,0,2,6,5,3,4],[8,7,1,0,2,6,5,3,4],[9,8,7,1,0,2,6,5,3,4],[10,9,8,7,1,0,2,6,5,3,4],[11,9,10,8,7,1,0,2,6,5,3,4],[12,11,9,10,8,7,1,0,2,6,5,3,4],[12,11,9,10,8,7,1,0,2,6,5,3,4],[13,14,12,11,9,10,8,7,1,0,2,6,5,3,4],[15,12,13,14,11,9,10,8,7,1,0,2,6,5,3,4],[12,11,9,10,8,7,1,0,2,6,5,3,4],[16,17,12,15,13,14,11,9,10,8,7,1,0,2,6,5,3,4],[12,18,9,11,10,8,7,1,0,2,6,5,3,4,16,17,15,13,14],[9,19,8,7,1,0,2,6,5,3,4,12,18,11,10,16,17,15,13,14]] (fun w2 => Below wr.heap.size wr w2) (fun w1 w2 => Below w1.heap.size w1 w2) (by kernel_rfl) (by kernel_rfl) (bdrew) ?_
          repeat (first | (refine Og.step_pure (fun _ => Below.refl _ _) ?_; apply Exists.intro; refine And.intro ?_ ?_; focus (intro vs w2 hC hk; have hm := HC w2 hC; revert hk; simp only [Og.KS, Og.K0, Og.Is, List.getD_cons_zero, List.getD_cons_succ, List.getD_nil, List.contains_cons, List.contains_nil, Nat.reduceAdd, Nat.reduceBEq, Bool.or_false, Bool.false_or, Bool.or_true, Bool.true_or, Bool.false_eq_true, false_implies, true_implies, true_and, and_true, forall_const]; intros; go_simp; rfl)) | (refine Og.step_one ?_; apply Exists.intro; refine And.intro ?_ ?_; focus (intro vs w2 hC hk; have hm := HC w2 hC; revert hk; simp only [Og.KS, Og.K0, Og.Is, List.getD_cons_zero, List.getD_cons_succ, List.getD_nil, List.contains_cons, List.contains_nil, Nat.reduceAdd, Nat.reduceBEq, Bool.or_false, Bool.false_or, Bool.or_true, Bool.true_or, Bool.false_eq_true, false_implies, true_implies, true_and, and_true, forall_const]; intros; go_simp; with_reducible refine (H1.out _).mono ?_; rintro e w3 ⟨rfl, hb⟩; exact Og.RetV.mk ⟨bthen hC hb, hb, rfl⟩)))
          intro vs w2 hC hk
          have hm := HC w2 hC
          simp only [Og.KS, Og.K0, Og.Is, List.getD_cons_zero, List.getD_cons_succ, List.getD_nil, List.contains_cons, List.contains_nil, Nat.reduceAdd, Nat.reduceBEq, Bool.or_false, Bool.false_or, Bool.or_true, Bool.true_or, Bool.false_eq_true, false_implies, true_implies, true_and, and_true, forall_const] at hk
          simp only [hk, Act.put, List.setIfInBounds_toArray, List.set_cons_zero, List.set_cons_succ]
          clear hk
          have HB2 := Lib.hid (bthen' hbw.out hbw.out.size hC)
          have hp2 := Lib.hid (heap_keep hC hp.out)
          have hz2 := Lib.hid (heap_keep hC hz.out)
          have hq2 := Lib.hid (heap_keep hC hq.out)
          clear hC HC hbw hp hz hq
          clear hm
          go_wp2_with fail
          go_roundw
          case rel => exact ⟨k + 1, best, by omega, by go_num, rfl, Lib.hid HX.out, HB2, hp2, hz2, hq2⟩
          case measure => simp [intOf]; omega
    · have hkn : k = n := by omega
      subst hkn
      have HF := Lib.hid (show ps.take k = ps by rw [HN.out, List.take_length])
      rw [HF.out] at hfold
      have HN2 : Hid (nxtP ps p first = best) := Lib.hid (by unfold nxtP; exact hfold.out)
      obtain ⟨q0, q1⟩ := cells2 hq.out
      go_wp2_with (refine wpList_store_new rfl 35 (.tmp 6) (.tmp 43) rfl rfl (w.heap.size + 1) #[.int .u32 (bst best).a, .int .i64 (bst best).l] rfl rfl 35 _ (hz.out) info35s rfl (by simp [Value.oneCell']) ?_; intro w3 hz3 hb3 _ _; obtain ⟨z0, z1⟩ := cells2 hz3; replace hb3 := hbw.out.trans (hb3 w.heap.size (by omega)); clear hz3)
      refine bodyPost_ret (v := .tuple #[.agg #[.int .u32 (bst best).a, .int .i64 (bst best).l], .bool best.isSome]) (by simp [results, Try.f27, go_sem, z0, z1]) rfl ⟨by rw [HN2.out], hb3⟩

end Go.Proofs.Ytpnhkniegjfncaa
