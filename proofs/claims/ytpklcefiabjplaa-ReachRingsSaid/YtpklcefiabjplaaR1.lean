/- The heap of whole numbers: which entry comes first; conditions as stated. -/
import Derived.Test.YtpklcefiabjplaaR0
import Derived.Test.YtpklcefiabjplaaG3
import Derived.Test.YtpklcefiabjplaaOg5
import Derived.Test.YtpklcefiabjplaaG4
namespace Go.Proofs.Ytpklcefiabjplaa
open Go.ChangeShapes Go.WideShapes Go.ChangeAt Go.RowKit
set_option linter.unusedVariables false
set_option linter.unusedSimpArgs false
attribute [local go_sem] Og.Opt Og.OpY

structure En where
  k : Int
  n : Int
deriving DecidableEq
def cEn (x : En) : List Value := [.int .i64 x.k, .int .i64 x.n]
theorem cEn_len (x : En) : (cEn x).length = 2 := rfl
theorem info168s : (Try.prog.info? 168).map (·.size) = some 2 := by kernel_rfl
theorem size168 (w : World) : (sizeOf 168).run Try.prog w = .ok 2 w := by kernel_rfl
theorem isAgg168 (w : World) : (isAgg 168).run Try.prog w = .ok true w := by kernel_rfl
def bef (x y : En) : Bool := decide (x.k < y.k) || (decide (x.k = y.k) && decide (x.n < y.n))
theorem optB_storeN {ops : Array Oper} {o : Oper} {a : Act} {w : World} {R : Value → World → Prop} {ty : TypeId} {x y : Operand} {g : Nat} {cells old : Array Value} {t : TypeId} (hw : Region.wanted o (yielded ops a.tmps) = true) (ho : o.op = .store ty x y) (hx : a.eval x = .pointer (some ⟨g, 0, none⟩)) (hy : a.eval y = .agg cells)
    (hg : w.heap[g]? = some (.cells old t (0, 0))) (hi : (Try.prog.info? ty).map (·.size) = some cells.size) (hold : old.size = cells.size) (h1 : cells.all (·.oneCell') = true)
    (hR : ∀ w3, w3.heap[g]? = some (.cells cells t (0, 0)) → (∀ B, B ≤ g → Below B w w3) → (∀ k, k ≠ g → w3.heap[k]? = w.heap[k]?) → w3.heap.size = w.heap.size → R undef w3) : Og.OptB Try.prog ops o a w R := by
  refine ⟨opt_of_wanted hw ?_⟩
  unfold Og.OpY execOp
  simp only [ho, hx, hy, Instr.storeAt, Instr.sureAddr, Sem.run_bind, Sem.run_pure, Result.andThen_ok, run_storeVar_row w g t ty old cells hg hi hold h1]
  exact hR _ (setRow_heap w g old cells t (0, 0) hg) (fun B hB => ⟨rfl, rfl, rfl, by simp [World.setRow], fun k hk => setRow_other w g k _ (by omega)⟩) (fun k hk => setRow_other w g k _ hk) (by simp [World.setRow])
/-- entries keep their shape -/
def K168 (w1 w2 : World) : Prop := ∀ (g : Nat) (u1 u2 : Value), w1.heap[g]? = some (.cells #[u1, u2] 168 (0, 0)) → ∃ v1 v2, w2.heap[g]? = some (.cells #[v1, v2] 168 (0, 0))
def IsE (wq : World) (v : Value) (w : World) : Prop := ∃ g u1 u2, v = .pointer (some ⟨g, 0, none⟩) ∧ wq.heap.size ≤ g ∧ w.heap[g]? = some (.cells #[u1, u2] 168 (0, 0))
def RelE (wq : World) (w1 w2 : World) : Prop := Below wq.heap.size w1 w2 ∧ K168 w1 w2
theorem RelE.refl (wq w : World) : RelE wq w w := ⟨Below.refl _ _, fun _ u1 u2 h => ⟨u1, u2, h⟩⟩
theorem IsE.keep {wq : World} (v : Value) (w w' : World) (hr : RelE wq w w') (h : IsE wq v w) : IsE wq v w' := by
  obtain ⟨g, u1, u2, rfl, h2, h3⟩ := h
  obtain ⟨v1, v2, h4⟩ := hr.2 g u1 u2 h3
  exact ⟨g, v1, v2, rfl, h2, h4⟩
def CE (wq : World) (X Y : Array Value) : Og.Joint2.Cls := fun p vs w => Below wq.heap.size wq w ∧ (p 16 = true → p 14 = true) ∧ (p 17 = true → p 15 = true) ∧
  (p 14 = true → ∃ g, vs 14 = .pointer (some ⟨g, 0, none⟩) ∧ wq.heap.size ≤ g ∧ g < w.heap.size ∧ (p 16 = true → w.heap[g]? = some (.cells X 168 (0, 0)))) ∧
  (p 15 = true → ∃ g, vs 15 = .pointer (some ⟨g, 0, none⟩) ∧ wq.heap.size ≤ g ∧ g < w.heap.size ∧ (p 17 = true → w.heap[g]? = some (.cells Y 168 (0, 0)))) ∧
  (p 14 = true → p 15 = true → vs 14 ≠ vs 15)
section
variable {wq w : World} {X Y : Array Value} {p : Nat → Bool} {vs : Nat → Value}
theorem CE.other {i : Nat} {v : Value} (h1 : i ≠ 14) (h2 : i ≠ 15) (h3 : i ≠ 16) (h4 : i ≠ 17) (c : CE wq X Y p vs w) : CE wq X Y (Og.Joint2.pSet p i) (Og.Joint2.vSet vs i v) w := by
  have e : ∀ j, i ≠ j → Og.Joint2.pSet p i j = p j := fun j h => by simp [Og.Joint2.pSet, Ne.symm h]
  have f : ∀ j, i ≠ j → Og.Joint2.vSet vs i v j = vs j := fun j h => by simp [Og.Joint2.vSet, Ne.symm h]
  unfold CE
  rw [e _ h1, e _ h2, e _ h3, e _ h4, f _ h1, f _ h2]
  exact c
theorem CE.a14 {ob : Obj} (hp : p 14 = false) (c : CE wq X Y p vs w) : CE wq X Y (Og.Joint2.pSet p 14) (Og.Joint2.vSet vs 14 (.pointer (some ⟨w.heap.size, 0, none⟩))) (w.alloc ob) := by
  obtain ⟨c1, c2, c3, c4, c5, c6⟩ := c
  have h16 : p 16 = false := by
    cases h : p 16 with
    | false => rfl
    | true => rw [hp] at c2; exact absurd (c2 h) (by decide)
  have ba : Below w.heap.size w (w.alloc ob) := (Below.refl _ _).alloc (Nat.le_refl _) _
  refine ⟨bthen c1 ba, fun _ => by simp [Og.Joint2.pSet], fun h => ?_, fun _ => ?_, fun h => ?_, fun _ h => ?_⟩
  · simp [Og.Joint2.pSet] at h ⊢; exact c3 h
  · exact ⟨w.heap.size, by simp [Og.Joint2.vSet], c1.size, by simp, fun h => by simp [Og.Joint2.pSet, h16] at h⟩
  · simp [Og.Joint2.pSet] at h
    obtain ⟨g, h1, h2, h3, h4⟩ := c5 h
    exact ⟨g, by simpa [Og.Joint2.vSet] using h1, h2, by simp; omega, fun h => by simp [Og.Joint2.pSet] at h; exact heap_keep ba (h4 h)⟩
  · simp [Og.Joint2.pSet] at h
    obtain ⟨g, h1, h2, h3, h4⟩ := c5 h
    simp [Og.Joint2.vSet, h1] <;> omega
theorem CE.a15 {ob : Obj} (hp : p 15 = false) (c : CE wq X Y p vs w) : CE wq X Y (Og.Joint2.pSet p 15) (Og.Joint2.vSet vs 15 (.pointer (some ⟨w.heap.size, 0, none⟩))) (w.alloc ob) := by
  obtain ⟨c1, c2, c3, c4, c5, c6⟩ := c
  have h17 : p 17 = false := by
    cases h : p 17 with
    | false => rfl
    | true => rw [hp] at c3; exact absurd (c3 h) (by decide)
  have ba : Below w.heap.size w (w.alloc ob) := (Below.refl _ _).alloc (Nat.le_refl _) _
  refine ⟨bthen c1 ba, fun h => ?_, fun _ => by simp [Og.Joint2.pSet], fun h => ?_, fun _ => ?_, fun h _ => ?_⟩
  · simp [Og.Joint2.pSet] at h ⊢; exact c2 h
  · simp [Og.Joint2.pSet] at h
    obtain ⟨g, h1, h2, h3, h4⟩ := c4 h
    exact ⟨g, by simpa [Og.Joint2.vSet] using h1, h2, by simp; omega, fun h => by simp [Og.Joint2.pSet] at h; exact heap_keep ba (h4 h)⟩
  · exact ⟨w.heap.size, by simp [Og.Joint2.vSet], c1.size, by simp, fun h => by simp [Og.Joint2.pSet, h17] at h⟩
  · simp [Og.Joint2.pSet] at h
    obtain ⟨g, h1, h2, h3, h4⟩ := c4 h
    simp [Og.Joint2.vSet, h1] <;> omega
theorem CE.s16 {g : Nat} {w3 : World} {v : Value} (h14 : p 14 = true) (hv : vs 14 = .pointer (some ⟨g, 0, none⟩)) (hq : wq.heap.size ≤ g) (hz : w3.heap[g]? = some (.cells X 168 (0, 0))) (hb : ∀ B, B ≤ g → Below B w w3) (ho : ∀ k, k ≠ g → w3.heap[k]? = w.heap[k]?) (hs : w3.heap.size = w.heap.size) (c : CE wq X Y p vs w) : CE wq X Y (Og.Joint2.pSet p 16) (Og.Joint2.vSet vs 16 v) w3 := by
  obtain ⟨c1, c2, c3, c4, c5, c6⟩ := c
  refine ⟨c1.trans (hb _ hq), fun _ => by simp [Og.Joint2.pSet, h14], fun h => ?_, fun _ => ?_, fun h => ?_, fun _ h => ?_⟩
  · simp [Og.Joint2.pSet] at h ⊢; exact c3 h
  · obtain ⟨g', e1, e2, e3, _⟩ := c4 h14
    rw [hv] at e1
    cases e1
    exact ⟨g, by simpa [Og.Joint2.vSet] using hv, hq, by omega, fun _ => hz⟩
  · simp [Og.Joint2.pSet] at h
    obtain ⟨g', h1, h2, h3, h4⟩ := c5 h
    have hne : g' ≠ g := fun e => c6 h14 h (by rw [hv, h1, e])
    exact ⟨g', by simpa [Og.Joint2.vSet] using h1, h2, by omega, fun h => by simp [Og.Joint2.pSet] at h; rw [ho _ hne]; exact h4 h⟩
  · simp [Og.Joint2.pSet] at h; simpa [Og.Joint2.vSet] using c6 h14 h
theorem CE.s17 {g : Nat} {w3 : World} {v : Value} (h15 : p 15 = true) (hv : vs 15 = .pointer (some ⟨g, 0, none⟩)) (hq : wq.heap.size ≤ g) (hz : w3.heap[g]? = some (.cells Y 168 (0, 0))) (hb : ∀ B, B ≤ g → Below B w w3) (ho : ∀ k, k ≠ g → w3.heap[k]? = w.heap[k]?) (hs : w3.heap.size = w.heap.size) (c : CE wq X Y p vs w) : CE wq X Y (Og.Joint2.pSet p 17) (Og.Joint2.vSet vs 17 v) w3 := by
  obtain ⟨c1, c2, c3, c4, c5, c6⟩ := c
  refine ⟨c1.trans (hb _ hq), fun h => ?_, fun _ => by simp [Og.Joint2.pSet, h15], fun h => ?_, fun _ => ?_, fun h _ => ?_⟩
  · simp [Og.Joint2.pSet] at h ⊢; exact c2 h
  · simp [Og.Joint2.pSet] at h
    obtain ⟨g', h1, h2, h3, h4⟩ := c4 h
    have hne : g' ≠ g := fun e => c6 h h15 (by rw [hv, h1, e])
    exact ⟨g', by simpa [Og.Joint2.vSet] using h1, h2, by omega, fun h => by simp [Og.Joint2.pSet] at h; rw [ho _ hne]; exact h4 h⟩
  · obtain ⟨g', e1, e2, e3, _⟩ := c5 h15
    rw [hv] at e1
    cases e1
    exact ⟨g, by simpa [Og.Joint2.vSet] using hv, hq, by omega, fun _ => hz⟩
  · simp [Og.Joint2.pSet] at h; simpa [Og.Joint2.vSet] using c6 h h15
theorem RelE.store {g : Nat} {w3 : World} {u1 u2 : Value} (hq : wq.heap.size ≤ g) (hz : w3.heap[g]? = some (.cells #[u1, u2] 168 (0, 0))) (hb : ∀ B, B ≤ g → Below B w w3) (ho : ∀ k, k ≠ g → w3.heap[k]? = w.heap[k]?) : RelE wq w w3 := ⟨hb _ hq, fun k v1 v2 h => by
  by_cases hk : k = g
  · subst hk; exact ⟨_, _, hz⟩
  · rw [ho k hk]; exact ⟨_, _, h⟩⟩
theorem RelE.alloc (ob : Obj) (hq : wq.heap.size ≤ w.heap.size) : RelE wq w (w.alloc ob) := ⟨(Below.refl _ _).alloc hq _, fun g v1 v2 h => ⟨v1, v2, heap_keep ((Below.refl _ _).alloc (Nat.le_refl _) _) h⟩⟩
end

set_option maxRecDepth 100000 in
set_option maxHeartbeats 4000000 in
theorem before_ok (es : List En) (h i j : Nat) (x y : En) (v : Value) (w : World) (hv : w.cell? ⟨h, 0, none⟩ = some v) (hs : Sl cEn 2 0 w v es) (hx : es[i]? = some x) (hy : es[j]? = some y) (hl : es.length ≤ 1000000) :
    Calls Try.prog 133 #[.pointer (some ⟨h, 0, none⟩), .int .i64 (i : Int), .int .i64 (j : Int)] w fun e w' => e = .returned (.bool (bef x y)) ∧ Below w.heap.size w w' := by
  obtain ⟨A, c, rfl, hr, -⟩ := hs
  obtain ⟨b, o, rfl, h1⟩ := hr i x hx
  obtain ⟨b', o', hA, h2⟩ := hr j y hy
  injection hA with hA
  injection hA with hb ho _
  subst hb ho
  have hi := (List.getElem?_eq_some_iff.1 hx).1
  have hj := (List.getElem?_eq_some_iff.1 hy).1
  obtain ⟨n, hn⟩ : ∃ n, n = es.length := ⟨_, rfl⟩
  rw [← hn] at hv hi hj hl
  have hi0 : (0 : Int) ≤ (i : Int) := by omega
  have hj0 : (0 : Int) ≤ (j : Int) := by omega
  have hin : (i : Int) < (n : Int) := by omega
  have hjn : (j : Int) < (n : Int) := by omega
  have HC : ∀ w2, Below w.heap.size w w2 → w2.cell? ⟨h, 0, none⟩ = some (.slice (some ⟨b, o, none⟩) n c) ∧ w2.cell? ⟨b, o + i * 2, none⟩ = some (.int .i64 x.k) ∧ w2.cell? ⟨b, o + i * 2 + 1, none⟩ = some (.int .i64 x.n) ∧ w2.cell? ⟨b, o + j * 2, none⟩ = some (.int .i64 y.k) ∧ w2.cell? ⟨b, o + j * 2 + 1, none⟩ = some (.int .i64 y.n) := fun w2 hb => ⟨bcell hb hv, bcell hb (by have := h1 0 _ rfl; simpa using this), bcell hb (by have := h1 1 _ rfl; simpa using this), bcell hb (by have := h2 0 _ rfl; simpa using this), bcell hb (by have := h2 1 _ rfl; simpa using this)⟩
  clear hv hr hx hy h1 h2 hi hj hn hl
  go_enter Try.func133, Try.ntmps133
  go_wp2_with fail
  refine Og.Joint2.walk_lit 18 [[],[0],[1,0],[2,1,0],[],[3,4,2,1,0],[5,3,4,2,1,0],[],[7],[8,7],[9,8,7],[],[10,11,9,8,7],[12,10,11,9,8,7],[],[],[14,6,0,1,2,3,4,5,15],[15,13,16,0,1,2,3,4,5,6,7,8,9,10,11,12,14]] (CE w #[.int .i64 x.k, .int .i64 x.n] #[.int .i64 y.k, .int .i64 y.n]) (RelE w) (by kernel_rfl) (by kernel_rfl) (by kernel_rfl) (fun vs => ⟨bdrew, (fun e => (by cases e)), (fun e => (by cases e)), (fun e => (by cases e)), (fun e => (by cases e)), (fun e => (by cases e))⟩) ?_
  simp only [List.take_succ_cons, List.take_zero, List.drop_succ_cons, List.drop_zero]
  refine Og.Joint2.step_pure (fun p vs v w h => h.other (by decide) (by decide) (by decide) (by decide)) (fun w0 => RelE.refl w w0) ?_; apply Exists.intro; refine And.intro ?_ ?_; focus (intro p vs w2 hC hk; have hm := HC w2 hC.1; refine Og.OptB.mk ?_; revert hk; simp only [Og.KS, Og.K0, Og.Is, List.getD_cons_zero, List.getD_cons_succ, List.getD_nil, List.contains_cons, List.contains_nil, Nat.reduceAdd, Nat.reduceBEq, Bool.or_false, Bool.false_or, Bool.or_true, Bool.true_or, Bool.false_eq_true, false_implies, true_implies, true_and, and_true, forall_const]; intros; go_simp; rfl)
  refine Og.Joint2.step_pure (fun p vs v w h => h.other (by decide) (by decide) (by decide) (by decide)) (fun w0 => RelE.refl w w0) ?_; apply Exists.intro; refine And.intro ?_ ?_; focus (intro p vs w2 hC hk; have hm := HC w2 hC.1; refine Og.OptB.mk ?_; revert hk; simp only [Og.KS, Og.K0, Og.Is, List.getD_cons_zero, List.getD_cons_succ, List.getD_nil, List.contains_cons, List.contains_nil, Nat.reduceAdd, Nat.reduceBEq, Bool.or_false, Bool.false_or, Bool.or_true, Bool.true_or, Bool.false_eq_true, false_implies, true_implies, true_and, and_true, forall_const]; intros; go_simp; rfl)
  refine Og.Joint2.step_pure (fun p vs v w h => h.other (by decide) (by decide) (by decide) (by decide)) (fun w0 => RelE.refl w w0) ?_; apply Exists.intro; refine And.intro ?_ ?_; focus (intro p vs w2 hC hk; have hm := HC w2 hC.1; refine Og.OptB.mk ?_; revert hk; simp only [Og.KS, Og.K0, Og.Is, List.getD_cons_zero, List.getD_cons_succ, List.getD_nil, List.contains_cons, List.contains_nil, Nat.reduceAdd, Nat.reduceBEq, Bool.or_false, Bool.false_or, Bool.or_true, Bool.true_or, Bool.false_eq_true, false_implies, true_implies, true_and, and_true, forall_const]; intros; go_simp; rfl)
  refine Og.Joint2.step_pure (fun p vs v w h => h.other (by decide) (by decide) (by decide) (by decide)) (fun w0 => RelE.refl w w0) ?_; apply Exists.intro; refine And.intro ?_ ?_; focus (intro p vs w2 hC hk; have hm := HC w2 hC.1; refine Og.OptB.mk ?_; revert hk; simp only [Og.KS, Og.K0, Og.Is, List.getD_cons_zero, List.getD_cons_succ, List.getD_nil, List.contains_cons, List.contains_nil, Nat.reduceAdd, Nat.reduceBEq, Bool.or_false, Bool.false_or, Bool.or_true, Bool.true_or, Bool.false_eq_true, false_implies, true_implies, true_and, and_true, forall_const]; intros; go_simp; rfl)
  refine Og.Joint2.step_pure (fun p vs v w h => h.other (by decide) (by decide) (by decide) (by decide)) (fun w0 => RelE.refl w w0) ?_; apply Exists.intro; refine And.intro ?_ ?_; focus (intro p vs w2 hC hk; have hm := HC w2 hC.1; refine Og.OptB.mk ?_; revert hk; simp only [Og.KS, Og.K0, Og.Is, List.getD_cons_zero, List.getD_cons_succ, List.getD_nil, List.contains_cons, List.contains_nil, Nat.reduceAdd, Nat.reduceBEq, Bool.or_false, Bool.false_or, Bool.or_true, Bool.true_or, Bool.false_eq_true, false_implies, true_implies, true_and, and_true, forall_const]; intros; go_simp; rfl)
  refine Og.Joint2.step_pure (fun p vs v w h => h.other (by decide) (by decide) (by decide) (by decide)) (fun w0 => RelE.refl w w0) ?_; apply Exists.intro; refine And.intro ?_ ?_; focus (intro p vs w2 hC hk; have hm := HC w2 hC.1; refine Og.OptB.mk ?_; revert hk; simp only [Og.KS, Og.K0, Og.Is, List.getD_cons_zero, List.getD_cons_succ, List.getD_nil, List.contains_cons, List.contains_nil, Nat.reduceAdd, Nat.reduceBEq, Bool.or_false, Bool.false_or, Bool.or_true, Bool.true_or, Bool.false_eq_true, false_implies, true_implies, true_and, and_true, forall_const]; intros; go_simp; rfl)
  refine Og.Joint2.step_pure (fun p vs v w h => h.other (by decide) (by decide) (by decide) (by decide)) (fun w0 => RelE.refl w w0) ?_; apply Exists.intro; refine And.intro ?_ ?_; focus (intro p vs w2 hC hk; have hm := HC w2 hC.1; refine Og.OptB.mk ?_; revert hk; simp only [Og.KS, Og.K0, Og.Is, List.getD_cons_zero, List.getD_cons_succ, List.getD_nil, List.contains_cons, List.contains_nil, Nat.reduceAdd, Nat.reduceBEq, Bool.or_false, Bool.false_or, Bool.or_true, Bool.true_or, Bool.false_eq_true, false_implies, true_implies, true_and, and_true, forall_const]; intros; go_simp; rfl)
  refine Og.Joint2.step_pure (fun p vs v w h => h.other (by decide) (by decide) (by decide) (by decide)) (fun w0 => RelE.refl w w0) ?_; apply Exists.intro; refine And.intro ?_ ?_; focus (intro p vs w2 hC hk; have hm := HC w2 hC.1; refine Og.OptB.mk ?_; revert hk; simp only [Og.KS, Og.K0, Og.Is, List.getD_cons_zero, List.getD_cons_succ, List.getD_nil, List.contains_cons, List.contains_nil, Nat.reduceAdd, Nat.reduceBEq, Bool.or_false, Bool.false_or, Bool.or_true, Bool.true_or, Bool.false_eq_true, false_implies, true_implies, true_and, and_true, forall_const]; intros; go_simp; rfl)
  refine Og.Joint2.step_pure (fun p vs v w h => h.other (by decide) (by decide) (by decide) (by decide)) (fun w0 => RelE.refl w w0) ?_; apply Exists.intro; refine And.intro ?_ ?_; focus (intro p vs w2 hC hk; have hm := HC w2 hC.1; refine Og.OptB.mk ?_; revert hk; simp only [Og.KS, Og.K0, Og.Is, List.getD_cons_zero, List.getD_cons_succ, List.getD_nil, List.contains_cons, List.contains_nil, Nat.reduceAdd, Nat.reduceBEq, Bool.or_false, Bool.false_or, Bool.or_true, Bool.true_or, Bool.false_eq_true, false_implies, true_implies, true_and, and_true, forall_const]; intros; go_simp; rfl)
  refine Og.Joint2.step_pure (fun p vs v w h => h.other (by decide) (by decide) (by decide) (by decide)) (fun w0 => RelE.refl w w0) ?_; apply Exists.intro; refine And.intro ?_ ?_; focus (intro p vs w2 hC hk; have hm := HC w2 hC.1; refine Og.OptB.mk ?_; revert hk; simp only [Og.KS, Og.K0, Og.Is, List.getD_cons_zero, List.getD_cons_succ, List.getD_nil, List.contains_cons, List.contains_nil, Nat.reduceAdd, Nat.reduceBEq, Bool.or_false, Bool.false_or, Bool.or_true, Bool.true_or, Bool.false_eq_true, false_implies, true_implies, true_and, and_true, forall_const]; intros; go_simp; rfl)
  refine Og.Joint2.step_pure (fun p vs v w h => h.other (by decide) (by decide) (by decide) (by decide)) (fun w0 => RelE.refl w w0) ?_; apply Exists.intro; refine And.intro ?_ ?_; focus (intro p vs w2 hC hk; have hm := HC w2 hC.1; refine Og.OptB.mk ?_; revert hk; simp only [Og.KS, Og.K0, Og.Is, List.getD_cons_zero, List.getD_cons_succ, List.getD_nil, List.contains_cons, List.contains_nil, Nat.reduceAdd, Nat.reduceBEq, Bool.or_false, Bool.false_or, Bool.or_true, Bool.true_or, Bool.false_eq_true, false_implies, true_implies, true_and, and_true, forall_const]; intros; go_simp; rfl)
  refine Og.Joint2.step_pure (fun p vs v w h => h.other (by decide) (by decide) (by decide) (by decide)) (fun w0 => RelE.refl w w0) ?_; apply Exists.intro; refine And.intro ?_ ?_; focus (intro p vs w2 hC hk; have hm := HC w2 hC.1; refine Og.OptB.mk ?_; revert hk; simp only [Og.KS, Og.K0, Og.Is, List.getD_cons_zero, List.getD_cons_succ, List.getD_nil, List.contains_cons, List.contains_nil, Nat.reduceAdd, Nat.reduceBEq, Bool.or_false, Bool.false_or, Bool.or_true, Bool.true_or, Bool.false_eq_true, false_implies, true_implies, true_and, and_true, forall_const]; intros; go_simp; rfl)
  refine Og.Joint2.step_pure (fun p vs v w h => h.other (by decide) (by decide) (by decide) (by decide)) (fun w0 => RelE.refl w w0) ?_; apply Exists.intro; refine And.intro ?_ ?_; focus (intro p vs w2 hC hk; have hm := HC w2 hC.1; refine Og.OptB.mk ?_; revert hk; simp only [Og.KS, Og.K0, Og.Is, List.getD_cons_zero, List.getD_cons_succ, List.getD_nil, List.contains_cons, List.contains_nil, Nat.reduceAdd, Nat.reduceBEq, Bool.or_false, Bool.false_or, Bool.or_true, Bool.true_or, Bool.false_eq_true, false_implies, true_implies, true_and, and_true, forall_const]; intros; go_simp; rfl)
  refine Og.Joint2.step_pure (fun p vs v w h => h.other (by decide) (by decide) (by decide) (by decide)) (fun w0 => RelE.refl w w0) ?_; apply Exists.intro; refine And.intro ?_ ?_; focus (intro p vs w2 hC hk; have hm := HC w2 hC.1; refine Og.OptB.mk ?_; revert hk; simp only [Og.KS, Og.K0, Og.Is, List.getD_cons_zero, List.getD_cons_succ, List.getD_nil, List.contains_cons, List.contains_nil, Nat.reduceAdd, Nat.reduceBEq, Bool.or_false, Bool.false_or, Bool.or_true, Bool.true_or, Bool.false_eq_true, false_implies, true_implies, true_and, and_true, forall_const]; intros; go_simp; rfl)
  refine Og.Joint2.step_any (IsE w) IsE.keep ?_ ?_; focus (intro p vs w2 hp hC hk; refine Og.OptB.mk ?_; go_simp; exact ⟨CE.a14 hp.1 hC, RelE.alloc _ hC.1.size, _, _, _, rfl, hC.1.size, heap_at rfl⟩)
  refine Og.Joint2.step_any (IsE w) IsE.keep ?_ ?_; focus (intro p vs w2 hp hC hk; refine Og.OptB.mk ?_; go_simp; exact ⟨CE.a15 hp.1 hC, RelE.alloc _ hC.1.size, _, _, _, rfl, hC.1.size, heap_at rfl⟩)
  refine Og.Joint2.step_any (fun _ _ => True) (fun _ _ _ _ _ => trivial) ?_ ?_; focus (intro p vs w2 hp hC hk; have hdn := hp.2 14 (by decide); simp only [Og.KS, Og.K0, Og.Is, List.getD_cons_zero, List.getD_cons_succ, List.getD_nil, List.contains_cons, List.contains_nil, Nat.reduceAdd, Nat.reduceBEq, Bool.or_false, Bool.false_or, Bool.or_true, Bool.true_or, Bool.false_eq_true, false_implies, true_implies, true_and, and_true, forall_const] at hk; obtain ⟨g, u1, u2, eg, hq, hg⟩ : IsE w (vs 14) w2 := (by first | exact hk.1 | exact hk.2.1 | (simp only [hk])); refine optB_storeN (g := g) (cells := #[.int .i64 x.k, .int .i64 x.n]) (by go_simp) rfl (by go_simp) (by go_simp) hg info168s rfl (by simp [Value.oneCell']) ?_; intro w3 hz hb ho hs; exact ⟨hC.s16 hdn eg hq hz hb ho hs, RelE.store hq hz hb ho, trivial⟩)
  refine Og.Joint2.step_any (fun _ _ => True) (fun _ _ _ _ _ => trivial) ?_ ?_; focus (intro p vs w2 hp hC hk; have hdn := hp.2 15 (by decide); simp only [Og.KS, Og.K0, Og.Is, List.getD_cons_zero, List.getD_cons_succ, List.getD_nil, List.contains_cons, List.contains_nil, Nat.reduceAdd, Nat.reduceBEq, Bool.or_false, Bool.false_or, Bool.or_true, Bool.true_or, Bool.false_eq_true, false_implies, true_implies, true_and, and_true, forall_const] at hk; obtain ⟨g, u1, u2, eg, hq, hg⟩ : IsE w (vs 15) w2 := (by first | exact hk.1 | exact hk.2.1 | (simp only [hk])); refine optB_storeN (g := g) (cells := #[.int .i64 y.k, .int .i64 y.n]) (by go_simp) rfl (by go_simp) (by go_simp) hg info168s rfl (by simp [Value.oneCell']) ?_; intro w3 hz hb ho hs; exact ⟨hC.s17 hdn eg hq hz hb ho hs, RelE.store hq hz hb ho, trivial⟩)
  intro p vs w2 hp hC hk
  obtain ⟨g8, e8, hg8, _, b8⟩ := hC.2.2.2.1 (hp 14 (by decide))
  obtain ⟨g9, e9, hg9, _, b9⟩ := hC.2.2.2.2.1 (hp 15 (by decide))
  have z8 := b8 (hp 16 (by decide))
  have z9 := b9 (hp 17 (by decide))
  simp only [Og.KS, Og.K0, Og.Is, List.getD_cons_zero, List.getD_cons_succ, List.getD_nil, List.contains_cons, List.contains_nil, Nat.reduceAdd, Nat.reduceBEq, Bool.or_false, Bool.false_or, Bool.or_true, Bool.true_or, Bool.false_eq_true, false_implies, true_implies, true_and, and_true, forall_const] at hk
  simp only [hk, e8, e9, Act.put, List.setIfInBounds_toArray, List.set_cons_zero, List.set_cons_succ]
  have BT := Lib.hid hC.1
  have m0 : w2.cell? ⟨g8, 0, none⟩ = some (.int .i64 x.k) := by simp [World.cell?, z8]
  have m1 : w2.cell? ⟨g8, 1, none⟩ = some (.int .i64 x.n) := by simp [World.cell?, z8]
  have m2 : w2.cell? ⟨g9, 0, none⟩ = some (.int .i64 y.k) := by simp [World.cell?, z9]
  have m3 : w2.cell? ⟨g9, 1, none⟩ = some (.int .i64 y.n) := by simp [World.cell?, z9]
  clear hk e8 e9 hp hC hg8 b8 hg9 b9 z8 z9 HC
  by_cases q0 : x.k < y.k <;> by_cases q1 : x.k = y.k <;> by_cases q2 : x.n < y.n <;> try (exfalso; omega)
  all_goals
    go_wp2_with fail
    go_ret
    exact ⟨by simp [bef, q0, q1, q2] <;> omega, BT.out⟩

end Go.Proofs.Ytpklcefiabjplaa
