/- graph.clone; conditions: the lists fit the memory, the places are 0. -/
import Derived.Test.YtpklcefiabjplaaG2
import Derived.Test.YtpklcefiabjplaaG3
namespace Go.Proofs.Ytpklcefiabjplaa
open Go.ChangeShapes Go.WideShapes Go.ChangeAt Go.RowKit
set_option linter.unusedVariables false
set_option linter.unusedSimpArgs false
attribute [local go_sem] Og.Opt Og.OpY

theorem wpList_spreadNd {ops : Array Oper} {rest : List Oper} {o : Oper} {a : Act} {w : World} {Q : Exit → Act → World → Prop} (hgd : o.guard = none) (s x : Operand) (ho : o.op = .call { callee := .builtin .append, args := #[s, x], argTypes := #[29, 29] }) (xs : List Nd) (v : Value) (hs : a.eval s = .slice none 0 0) (hx : a.eval x = v) (hsl : Sl cNd 3 0 w v xs) (hl : xs.length ≤ 1172812402926)
    (h : ∀ v' w', w'.ownsRow w.heap.size 41 3 v' xs.length (xs.flatMap cNd) → w.grownBy w' none → wpList Try.prog ops Q rest (a.put o.dst v') w') : wpList Try.prog ops Q (o :: rest) a w := by
  obtain ⟨v', w', hr, h1, h2⟩ := run_spreadNd o.type xs v hsl hl
  exact Lib.wpList_append_run w hgd s x 29 29 ho _ _ hs hx v' w' hr (h v' w' h1 h2)
theorem opt_spreadNd {ops : Array Oper} {o : Oper} {a : Act} {w : World} {R : Value → World → Prop} (hw : Region.wanted o (yielded ops a.tmps) = true) (s x : Operand) (ho : o.op = .call { callee := .builtin .append, args := #[s, x], argTypes := #[29, 29] }) (xs : List Nd) (v : Value) (hs : a.eval s = .slice none 0 0) (hx : a.eval x = v) (hsl : Sl cNd 3 0 w v xs) (hl : xs.length ≤ 1172812402926)
    (h : ∀ v' w', w'.ownsRow w.heap.size 41 3 v' xs.length (xs.flatMap cNd) → Below w.heap.size w w' → R v' w') : Og.OptB Try.prog ops o a w R := by
  obtain ⟨v', w', hr, h1, h2⟩ := run_spreadNd o.type xs v hsl hl
  refine ⟨opt_of_wanted hw ?_⟩
  unfold Og.OpY
  simp [execOp, ho, resolve, invoke, builtin, hs, hx, hr, Result.andThen]
  exact h v' w' h1 ⟨h2.os, h2.tape, h2.output, h2.size, fun j hj => h2.block j hj (by simp)⟩

theorem wpList_spreadLk {ops : Array Oper} {rest : List Oper} {o : Oper} {a : Act} {w : World} {Q : Exit → Act → World → Prop} (hgd : o.guard = none) (s x : Operand) (ho : o.op = .call { callee := .builtin .append, args := #[s, x], argTypes := #[30, 30] }) (xs : List Lk) (v : Value) (hs : a.eval s = .slice none 0 0) (hx : a.eval x = v) (hsl : Sl cLk 4 0 w v xs) (hl : xs.length ≤ 1172812402926)
    (h : ∀ v' w', w'.ownsRow w.heap.size 43 4 v' xs.length (xs.flatMap cLk) → w.grownBy w' none → wpList Try.prog ops Q rest (a.put o.dst v') w') : wpList Try.prog ops Q (o :: rest) a w := by
  obtain ⟨v', w', hr, h1, h2⟩ := run_spreadLk o.type xs v hsl hl
  exact Lib.wpList_append_run w hgd s x 30 30 ho _ _ hs hx v' w' hr (h v' w' h1 h2)
theorem opt_spreadLk {ops : Array Oper} {o : Oper} {a : Act} {w : World} {R : Value → World → Prop} (hw : Region.wanted o (yielded ops a.tmps) = true) (s x : Operand) (ho : o.op = .call { callee := .builtin .append, args := #[s, x], argTypes := #[30, 30] }) (xs : List Lk) (v : Value) (hs : a.eval s = .slice none 0 0) (hx : a.eval x = v) (hsl : Sl cLk 4 0 w v xs) (hl : xs.length ≤ 1172812402926)
    (h : ∀ v' w', w'.ownsRow w.heap.size 43 4 v' xs.length (xs.flatMap cLk) → Below w.heap.size w w' → R v' w') : Og.OptB Try.prog ops o a w R := by
  obtain ⟨v', w', hr, h1, h2⟩ := run_spreadLk o.type xs v hsl hl
  refine ⟨opt_of_wanted hw ?_⟩
  unfold Og.OpY
  simp [execOp, ho, resolve, invoke, builtin, hs, hx, hr, Result.andThen]
  exact h v' w' h1 ⟨h2.os, h2.tape, h2.output, h2.size, fun j hj => h2.block j hj (by simp)⟩

theorem wpList_spreadPn {ops : Array Oper} {rest : List Oper} {o : Oper} {a : Act} {w : World} {Q : Exit → Act → World → Prop} (hgd : o.guard = none) (s x : Operand) (ho : o.op = .call { callee := .builtin .append, args := #[s, x], argTypes := #[31, 31] }) (xs : List Pn) (v : Value) (hs : a.eval s = .slice none 0 0) (hx : a.eval x = v) (hsl : Sl cPn 4 0 w v xs) (hl : xs.length ≤ 1172812402926)
    (h : ∀ v' w', w'.ownsRow w.heap.size 49 4 v' xs.length (xs.flatMap cPn) → w.grownBy w' none → wpList Try.prog ops Q rest (a.put o.dst v') w') : wpList Try.prog ops Q (o :: rest) a w := by
  obtain ⟨v', w', hr, h1, h2⟩ := run_spreadPn o.type xs v hsl hl
  exact Lib.wpList_append_run w hgd s x 31 31 ho _ _ hs hx v' w' hr (h v' w' h1 h2)
theorem opt_spreadPn {ops : Array Oper} {o : Oper} {a : Act} {w : World} {R : Value → World → Prop} (hw : Region.wanted o (yielded ops a.tmps) = true) (s x : Operand) (ho : o.op = .call { callee := .builtin .append, args := #[s, x], argTypes := #[31, 31] }) (xs : List Pn) (v : Value) (hs : a.eval s = .slice none 0 0) (hx : a.eval x = v) (hsl : Sl cPn 4 0 w v xs) (hl : xs.length ≤ 1172812402926)
    (h : ∀ v' w', w'.ownsRow w.heap.size 49 4 v' xs.length (xs.flatMap cPn) → Below w.heap.size w w' → R v' w') : Og.OptB Try.prog ops o a w R := by
  obtain ⟨v', w', hr, h1, h2⟩ := run_spreadPn o.type xs v hsl hl
  refine ⟨opt_of_wanted hw ?_⟩
  unfold Og.OpY
  simp [execOp, ho, resolve, invoke, builtin, hs, hx, hr, Result.andThen]
  exact h v' w' h1 ⟨h2.os, h2.tape, h2.output, h2.size, fun j hj => h2.block j hj (by simp)⟩

theorem setCell_self {w : World} {g i : Nat} {cur : Array Value} {t : TypeId} {v : Value} (h : w.heap[g]? = some (.cells cur t (0, 0))) (hc : w.cell? ⟨g, i, none⟩ = some v) : w.setCell ⟨g, i, none⟩ v = w := by
  rw [setCell_eq_setRow w g i cur t (0, 0) v h]
  rw [cell_of_row w g i cur t (0, 0) h] at hc
  have e : cur.setIfInBounds i v = cur := by
    obtain ⟨h1, h2⟩ := Array.getElem?_eq_some_iff.1 hc
    apply Array.ext
    · simp
    · intro j hj1 hj2
      rw [Array.getElem_setIfInBounds]
      split
      · next e => subst e; exact h2.symm
      · rfl
  rw [e, setRow_self w g cur t (0, 0) h]
theorem below_of_grown {w w' : World} (h : w.grownBy w' none) : Below w.heap.size w w' := ⟨h.os, h.tape, h.output, h.size, fun j hj => h.block j hj (by simp)⟩

set_option maxRecDepth 100000 in
set_option maxHeartbeats 8000000 in
theorem clone_ok (ns : List Nd) (ls : List Lk) (ps : List Pn) (va vb vc : Value) (w : World) (sa : Sl cNd 3 0 w va ns) (sb : Sl cLk 4 0 w vb ls) (sc : Sl cPn 4 0 w vc ps) (h1 : ns.length ≤ 128) (h2 : ls.length ≤ 2048) (h3 : ps.length ≤ 1024) :
    Calls Try.prog 32 #[.agg #[va, vb, vc]] w fun e w' => (∃ ua ub uc, e = .returned (.agg #[ua, ub, uc]) ∧ w'.ownsRow w.heap.size 41 3 ua ns.length (ns.flatMap cNd) ∧ w'.ownsRow w.heap.size 43 4 ub ls.length (ls.flatMap cLk) ∧ w'.ownsRow w.heap.size 49 4 uc ps.length (ps.flatMap cPn)) ∧ Below w.heap.size w w' := by
  have SA := Lib.hid sa
  have SB := Lib.hid sb
  have SC := Lib.hid sc
  have HL := Lib.hid (And.intro h1 (And.intro h2 h3))
  obtain ⟨n1, hn1⟩ : ∃ n, n = ns.length := ⟨_, rfl⟩
  have N1 := Lib.hid hn1
  have hl1 : n1 ≤ 128 := by rw [hn1]; exact h1
  clear sa sb sc h1 h2 h3 hn1
  go_enter Try.func32, Try.ntmps32
  go_wp2_with (at_builtin; refine wpList_spreadNd rfl (.const (.slice none 0 0)) (.tmp 6) rfl ns va rfl rfl (SA.out.below (((Below.refl _ _).alloc (Nat.le_refl _) _).alloc (by simp) _)) (by have := HL.out.1; omega) ?_; intro v1 w1 own1 gr1; obtain ⟨A1, c1, hv1, _⟩ := Sl_of_row cNd_len (by omega) own1 rfl; rw [← N1.out] at hv1; subst hv1; have O1 := Lib.hid own1; have b1 := Lib.hid (below_of_grown gr1); clear own1 gr1)
  have B1 : Hid (Below w.heap.size w w1) := Lib.hid (bthen' (((Below.refl _ _).alloc (Nat.le_refl _) (.cells #[va, vb, vc] 33)).alloc (by simp) (.cells #[.slice none 0 0, .slice none 0 0, .slice none 0 0] 33)) (by simp <;> omega) b1.out)
  have HGr : Hid (w1.heap[w.heap.size]? = some (.cells #[va, vb, vc] 33 (0, 0)) ∧ w1.heap[w.heap.size + 1]? = some (.cells #[.slice none 0 0, .slice none 0 0, .slice none 0 0] 33 (0, 0))) := Lib.hid ⟨heap_keep b1.out (heap_keep ((Below.refl _ _).alloc (Nat.le_refl _) _) (heap_at rfl)), heap_keep b1.out (heap_at (by simp))⟩
  have OW : Hid (w1.ownsRow w.heap.size 41 3 _ ns.length (ns.flatMap cNd)) := Lib.hid (own_lower O1.out (by simp <;> omega))
  rw [← N1.out] at OW
  clear O1 b1
  go_loopw [10] (fun i wr => ∃ k : Nat, k ≤ n1 ∧ i = .int .i64 k ∧ Hid (Below w1.heap.size w1 wr)) (fun i _ => n1 - (intOf i).toNat)
  case atStart => exact ⟨0, Nat.zero_le _, rfl, Lib.hid (Below.refl _ _)⟩
  case round =>
    obtain ⟨k, hk, rfl, hbw⟩ := hrel
    have OWr := Lib.hid (own_below OW.out hbw.out)
    by_cases hlt : k < n1
    · have hwk : IntKind.i64.wrap (k : Int) = k := wrapk (by omega)
      have hwk1 : IntKind.i64.wrap ((k : Int) + 1) = (k : Int) + 1 := by rw [IntKind.wrap_i64]; omega
      have hk0 : (0 : Int) ≤ (k : Int) := by omega
      have hkn : (k : Int) < (n1 : Int) := by omega
      obtain ⟨g, cap, hv, hbg, hgl⟩ := own_some OWr.out (fun e => by cases e; omega)
      cases hv
      obtain ⟨x, hx⟩ : ∃ r, ns[k]? = some r := ⟨_, List.getElem?_eq_getElem (by rw [← N1.out]; exact hlt)⟩
      obtain ⟨A0, c0, hv0, hrd, _⟩ := Sl_of_row cNd_len (by omega) OWr.out N1.out.symm
      cases hv0
      obtain ⟨b0, o0, hA0, hat⟩ := hrd k x hx
      cases hA0
      have q2 : wr.cell? ⟨g, k * 3 + 2, none⟩ = some (.complex .f64 0 0) := by have := hat 2 _ rfl; simpa using this
      obtain ⟨cur, hcur⟩ : ∃ cur, wr.heap[g]? = some (.cells cur 41 (0, 0)) := by
        rcases OWr.out.2 with ⟨h0, _⟩ | ⟨g', cap', cur, hv, _, hg, _⟩
        · cases h0
        · cases hv; exact ⟨cur, hg⟩
      have HCUR := Lib.hid hcur
      have HQ2 := Lib.hid q2
      clear hcur hx hat hrd
      go_wp2_with fail
      refine (plain_ok _).mono ?_
      rintro e w2 ⟨rfl, hb⟩
      have q3 := bcell hb HQ2.out
      have hcur := heap_keep hb HCUR.out
      have hself : w2.setCell ⟨g, k * 3 + 2, none⟩ (.complex .f64 0 0) = w2 := setCell_self hcur q3
      have hfz : w2.frozen? ⟨g, k * 3 + 2, none⟩ = false := by simp [World.frozen?, hcur]
      have hst : (store ⟨g, k * 3 + 2, none⟩ (.complex .f64 0 0)).run Try.prog w2 = .ok () w2 := by
        rw [run_store Try.prog w2 _ _ _ rfl]
        simp [q3, hfz, hself]
      have B2 := Lib.hid (bthen hbw.out hb)
      clear hb hcur q2
      go_wp2_with (simp only [hst])
      go_roundw
      case rel => exact ⟨k + 1, by omega, by go_num, by first | exact B2 | (rw [hself]; exact B2)⟩
      case measure => simp [intOf]; omega
    · have hkn : k = n1 := by omega
      subst hkn
      have BB := Lib.hid (bthen' B1.out B1.out.size hbw.out)
      have HGw : Hid (wr.heap[w.heap.size]? = some (.cells #[va, vb, vc] 33 (0, 0)) ∧ wr.heap[w.heap.size + 1]? = some (.cells #[.slice none 0 0, .slice none 0 0, .slice none 0 0] 33 (0, 0))) := Lib.hid ⟨heap_keep hbw.out HGr.out.1, heap_keep hbw.out HGr.out.2⟩
      have g1 : wr.cell? ⟨w.heap.size, 1, none⟩ = some vb := by simp [World.cell?, HGw.out.1]
      have g2 : wr.cell? ⟨w.heap.size, 2, none⟩ = some vc := by simp [World.cell?, HGw.out.1]
      have HC : ∀ w2, Below wr.heap.size wr w2 → w2.cell? ⟨w.heap.size, 1, none⟩ = some vb ∧ w2.cell? ⟨w.heap.size, 2, none⟩ = some vc := fun w2 h => ⟨bcell h g1, bcell h g2⟩
      clear g1 g2 hbw
      go_wp2_with fail
      refine Og.Tail.walk_lit 7 [[],[],[1],[2,1],[],[4],[5,3,4,2,1],[0,3,6,2,1,5,4],[7,6,0,1,2,3,4,5]] (fun w2 => Below wr.heap.size wr w2) (fun w1 w2 => Below w1.heap.size w1 w2) (by kernel_rfl) (by kernel_rfl) (by kernel_rfl) (bdrew) ?_
      simp only [List.take_succ_cons, List.take_zero, List.drop_succ_cons, List.drop_zero]
      refine Og.step_pure (fun _ => Below.refl _ _) ?_; apply Exists.intro; refine And.intro ?_ ?_; focus (intro vs w2 hC hk; have hm := HC w2 hC; revert hk; simp only [Og.KS, Og.K0, Og.Is, List.getD_cons_zero, List.getD_cons_succ, List.getD_nil, List.contains_cons, List.contains_nil, Nat.reduceAdd, Nat.reduceBEq, Bool.or_false, Bool.false_or, Bool.or_true, Bool.true_or, Bool.false_eq_true, false_implies, true_implies, true_and, and_true, forall_const]; intros; go_simp; rfl)
      refine Og.step_pure (fun _ => Below.refl _ _) ?_; apply Exists.intro; refine And.intro ?_ ?_; focus (intro vs w2 hC hk; have hm := HC w2 hC; revert hk; simp only [Og.KS, Og.K0, Og.Is, List.getD_cons_zero, List.getD_cons_succ, List.getD_nil, List.contains_cons, List.contains_nil, Nat.reduceAdd, Nat.reduceBEq, Bool.or_false, Bool.false_or, Bool.or_true, Bool.true_or, Bool.false_eq_true, false_implies, true_implies, true_and, and_true, forall_const]; intros; go_simp; rfl)
      refine Og.step_pure (fun _ => Below.refl _ _) ?_; apply Exists.intro; refine And.intro ?_ ?_; focus (intro vs w2 hC hk; have hm := HC w2 hC; revert hk; simp only [Og.KS, Og.K0, Og.Is, List.getD_cons_zero, List.getD_cons_succ, List.getD_nil, List.contains_cons, List.contains_nil, Nat.reduceAdd, Nat.reduceBEq, Bool.or_false, Bool.false_or, Bool.or_true, Bool.true_or, Bool.false_eq_true, false_implies, true_implies, true_and, and_true, forall_const]; intros; go_simp; rfl)
      refine Og.step_any (fun v w2 => w2.ownsRow w.heap.size 43 4 v ls.length (ls.flatMap cLk)) (fun v w2 w3 hb h => own_below h hb) ?_ ?_; focus (intro vs w2 hC hk; simp only [Og.KS, Og.K0, Og.Is, List.getD_cons_zero, List.getD_cons_succ, List.getD_nil, List.contains_cons, List.contains_nil, Nat.reduceAdd, Nat.reduceBEq, Bool.or_false, Bool.false_or, Bool.or_true, Bool.true_or, Bool.false_eq_true, false_implies, true_implies, true_and, and_true, forall_const] at hk; refine (opt_spreadLk ?_ (.const (.slice none 0 0)) (.tmp 26) rfl ls vb rfl ?_ (SB.out.below (bthen' BB.out BB.out.size hC)) (by have := HL.out.2; omega) (fun v' w' h1 h2 => ⟨bthen hC h2, h2, own_lower h1 (Nat.le_trans BB.out.size hC.size)⟩)).out <;> go_simp)
      refine Og.step_pure (fun _ => Below.refl _ _) ?_; apply Exists.intro; refine And.intro ?_ ?_; focus (intro vs w2 hC hk; have hm := HC w2 hC; revert hk; simp only [Og.KS, Og.K0, Og.Is, List.getD_cons_zero, List.getD_cons_succ, List.getD_nil, List.contains_cons, List.contains_nil, Nat.reduceAdd, Nat.reduceBEq, Bool.or_false, Bool.false_or, Bool.or_true, Bool.true_or, Bool.false_eq_true, false_implies, true_implies, true_and, and_true, forall_const]; intros; go_simp; rfl)
      refine Og.step_pure (fun _ => Below.refl _ _) ?_; apply Exists.intro; refine And.intro ?_ ?_; focus (intro vs w2 hC hk; have hm := HC w2 hC; revert hk; simp only [Og.KS, Og.K0, Og.Is, List.getD_cons_zero, List.getD_cons_succ, List.getD_nil, List.contains_cons, List.contains_nil, Nat.reduceAdd, Nat.reduceBEq, Bool.or_false, Bool.false_or, Bool.or_true, Bool.true_or, Bool.false_eq_true, false_implies, true_implies, true_and, and_true, forall_const]; intros; go_simp; rfl)
      refine Og.step_any (fun v w2 => w2.ownsRow w.heap.size 49 4 v ps.length (ps.flatMap cPn)) (fun v w2 w3 hb h => own_below h hb) ?_ ?_; focus (intro vs w2 hC hk; simp only [Og.KS, Og.K0, Og.Is, List.getD_cons_zero, List.getD_cons_succ, List.getD_nil, List.contains_cons, List.contains_nil, Nat.reduceAdd, Nat.reduceBEq, Bool.or_false, Bool.false_or, Bool.or_true, Bool.true_or, Bool.false_eq_true, false_implies, true_implies, true_and, and_true, forall_const] at hk; refine (opt_spreadPn ?_ (.const (.slice none 0 0)) (.tmp 29) rfl ps vc rfl ?_ (SC.out.below (bthen' BB.out BB.out.size hC)) (by have := HL.out.2; omega) (fun v' w' h1 h2 => ⟨bthen hC h2, h2, own_lower h1 (Nat.le_trans BB.out.size hC.size)⟩)).out <;> go_simp)
      intro vs w2 hC hk
      simp only [Og.KS, Og.K0, Og.Is, List.getD_cons_zero, List.getD_cons_succ, List.getD_nil, List.contains_cons, List.contains_nil, Nat.reduceAdd, Nat.reduceBEq, Bool.or_false, Bool.false_or, Bool.or_true, Bool.true_or, Bool.false_eq_true, false_implies, true_implies, true_and, and_true, forall_const] at hk
      obtain ⟨o6, h5, h4, o3, h2, h1, h0⟩ := hk
      obtain ⟨A3, c3, hv3, _⟩ := Sl_of_row cLk_len (by omega) o3 rfl
      obtain ⟨A6, c6, hv6, _⟩ := Sl_of_row cPn_len (by omega) o6 rfl
      simp only [h0, h1, h2, h4, h5, hv3, hv6, Act.put, List.setIfInBounds_toArray, List.set_cons_zero, List.set_cons_succ]
      rw [hv3] at o3
      rw [hv6] at o6
      have B2 := Lib.hid (bthen' BB.out BB.out.size hC)
      have O1 := Lib.hid (own_below OWr.out hC)
      have O3 := Lib.hid o3
      have O6 := Lib.hid o6
      have HG2 := Lib.hid (heap_keep hC HGw.out.2)
      clear h0 h1 h2 h4 h5 hv3 hv6 o3 o6 hC HC
      go_wp2_with (refine wpList_storeN rfl 33 (.tmp 2) (.tmp 31) rfl rfl (w.heap.size + 1) #[.slice A1 k c1, .slice A3 ls.length c3, .slice A6 ps.length c6] rfl rfl 33 _ HG2.out info33s rfl (by simp [Value.oneCell']) ?_; intro w4 hz hb ho hs)
      have z0 : w4.cell? ⟨w.heap.size + 1, 0, none⟩ = some (.slice A1 k c1) := by simp [World.cell?, hz]
      have z1 : w4.cell? ⟨w.heap.size + 1, 1, none⟩ = some (.slice A3 ls.length c3) := by simp [World.cell?, hz]
      have z2 : w4.cell? ⟨w.heap.size + 1, 2, none⟩ = some (.slice A6 ps.length c6) := by simp [World.cell?, hz]
      have hk4 : w2.grownBy w4 (some (w.heap.size + 1)) := ⟨(hb 0 (Nat.zero_le _)).os, (hb 0 (Nat.zero_le _)).tape, (hb 0 (Nat.zero_le _)).output, by omega, fun j hj hne => ho j (fun e => hne (by rw [e]))⟩
      have key : ∀ {e m n : Nat} {v : Value} {xs : List Value}, w2.ownsRow w.heap.size e m v n xs → e ≠ 33 → w4.ownsRow w.heap.size e m v n xs := fun h he => h.kept hk4 (by
        rcases h.2 with ⟨h0, _⟩ | ⟨g', cap', cur, hv, _, hg, _⟩
        · exact .inl (by rw [h0]; rfl)
        · refine .inr fun e' => he ?_
          rw [hv] at e'
          have e2 : g' = w.heap.size + 1 := by simpa [Value.ownBlock] using e'
          rw [e2, HG2.out] at hg
          cases hg
          rfl)
      refine bodyPost_ret (v := .agg #[.slice A1 k c1, .slice A3 ls.length c3, .slice A6 ps.length c6]) (by simp [results, Try.f32, go_sem, z0, z1, z2]) rfl ⟨⟨_, _, _, rfl, by rw [← N1.out]; exact key O1.out (by decide), key O3.out (by decide), key O6.out (by decide)⟩, B2.out.trans (hb _ (by omega))⟩

end Go.Proofs.Ytpklcefiabjplaa
