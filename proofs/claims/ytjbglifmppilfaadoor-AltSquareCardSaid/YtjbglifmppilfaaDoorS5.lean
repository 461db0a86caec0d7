/- The heap of whole numbers: which entry comes first; conditions as stated. The heap of whole numbers: its block and its row; two entries change places; conditions as stated. -/
import Derived.Test.YtjbglifmppilfaaDoorS2
import Derived.Test.YtjbglifmppilfaaDoorS3
import Derived.Test.YtjbglifmppilfaaDoorS4
namespace Go.Proofs.YtjbglifmppilfaaDoor
open Go.ChangeShapes Go.WideShapes Go.ChangeAt Go.RowKit
set_option linter.unusedVariables false
set_option linter.unusedSimpArgs false
attribute [local go_sem] Og.Opt Og.OpY

structure En where
  k : Int
  n : Int
deriving DecidableEq
def cEn (x : En) : List Value := [.int .i64 x.k, .int .i64 x.n]
theorem cEn_len (x : En) : (cEn x).length = 2 := rfl
theorem info168s : (Tryd.prog.info? 132).map (·.size) = some 2 := by kernel_rfl
theorem size168 (w : World) : (sizeOf 132).run Tryd.prog w = .ok 2 w := by kernel_rfl
theorem isAgg168 (w : World) : (isAgg 132).run Tryd.prog w = .ok true w := by kernel_rfl
def bef (x y : En) : Bool := decide (x.k < y.k) || (decide (x.k = y.k) && decide (x.n < y.n))
theorem optB_storeN {ops : Array Oper} {o : Oper} {a : Act} {w : World} {R : Value → World → Prop} {ty : TypeId} {x y : Operand} {g : Nat} {cells old : Array Value} {t : TypeId} (hw : Region.wanted o (yielded ops a.tmps) = true) (ho : o.op = .store ty x y) (hx : a.eval x = .pointer (some ⟨g, 0, none⟩)) (hy : a.eval y = .agg cells)
    (hg : w.heap[g]? = some (.cells old t (0, 0))) (hi : (Tryd.prog.info? ty).map (·.size) = some cells.size) (hold : old.size = cells.size) (h1 : cells.all (·.oneCell') = true)
    (hR : ∀ w3, w3.heap[g]? = some (.cells cells t (0, 0)) → (∀ B, B ≤ g → Below B w w3) → (∀ k, k ≠ g → w3.heap[k]? = w.heap[k]?) → w3.heap.size = w.heap.size → R undef w3) : Og.OptB Tryd.prog ops o a w R := by
  refine ⟨opt_of_wanted hw ?_⟩
  unfold Og.OpY execOp
  simp only [ho, hx, hy, Instr.storeAt, Instr.sureAddr, Sem.run_bind, Sem.run_pure, Result.andThen_ok, run_storeVar_row w g t ty old cells hg hi hold h1]
  exact hR _ (setRow_heap w g old cells t (0, 0) hg) (fun B hB => ⟨rfl, rfl, rfl, by simp [World.setRow], fun k hk => setRow_other w g k _ (by omega)⟩) (fun k hk => setRow_other w g k _ hk) (by simp [World.setRow])
/-- entries keep their shape -/
def K168 (w1 w2 : World) : Prop := ∀ (g : Nat) (u1 u2 : Value), w1.heap[g]? = some (.cells #[u1, u2] 132 (0, 0)) → ∃ v1 v2, w2.heap[g]? = some (.cells #[v1, v2] 132 (0, 0))
def IsE (wq : World) (v : Value) (w : World) : Prop := ∃ g u1 u2, v = .pointer (some ⟨g, 0, none⟩) ∧ wq.heap.size ≤ g ∧ w.heap[g]? = some (.cells #[u1, u2] 132 (0, 0))
def RelE (wq : World) (w1 w2 : World) : Prop := Below wq.heap.size w1 w2 ∧ K168 w1 w2
theorem RelE.refl (wq w : World) : RelE wq w w := ⟨Below.refl _ _, fun _ u1 u2 h => ⟨u1, u2, h⟩⟩
theorem IsE.keep {wq : World} (v : Value) (w w' : World) (hr : RelE wq w w') (h : IsE wq v w) : IsE wq v w' := by
  obtain ⟨g, u1, u2, rfl, h2, h3⟩ := h
  obtain ⟨v1, v2, h4⟩ := hr.2 g u1 u2 h3
  exact ⟨g, v1, v2, rfl, h2, h4⟩
def CE (wq : World) (X Y : Array Value) : Og.Joint2.Cls := fun p vs w => Below wq.heap.size wq w ∧ (p 16 = true → p 14 = true) ∧ (p 17 = true → p 15 = true) ∧
  (p 14 = true → ∃ g, vs 14 = .pointer (some ⟨g, 0, none⟩) ∧ wq.heap.size ≤ g ∧ g < w.heap.size ∧ (p 16 = true → w.heap[g]? = some (.cells X 132 (0, 0)))) ∧
  (p 15 = true → ∃ g, vs 15 = .pointer (some ⟨g, 0, none⟩) ∧ wq.heap.size ≤ g ∧ g < w.heap.size ∧ (p 17 = true → w.heap[g]? = some (.cells Y 132 (0, 0)))) ∧
  (p 14 = true → p 15 = true → vs 14 ≠ vs 15)
section
variable {wq w : World} {X Y : Array Value} {p : Nat → Bool} {vs : Nat → Value}
theorem CE.other {i : Nat} {v : Value} (h1 : i ≠ 14) (h2 : i ≠ 15) (h3 : i ≠ 16) (h4 : i ≠ 17) (c : CE wq X Y p vs w) : CE wq X Y (Og.Joint2.pSet p i) (Og.Joint2.vSet vs i v) w := by
  have e : ∀ j, i ≠ j → Og.Joint2.pSet p i j = p j := fun j h => by simp [Og.Joint2.pSet, Ne.symm h]
  have f : ∀ j, i ≠ j → Og.Joint2.vSet vs i v j = vs j := fun j h => by simp [Og.Joint2.vSet, Ne.symm h]
  unfold CE
  rw [e _ h1, e _ h2, e _ h3, e _ h4, f _ h1, f _ h2]
  exact c
theorem CE.a14 {ob : Obj} (hp : p 14 = false) (c : CE wq X Y p vs w) : CE wq X Y (Og.Joint2.pSet p 14) (Og.Joint2.vSet vs 14 (.pointer (some ⟨w.heap.size, 0, none⟩))) (w.alloc ob) := by
  obtain ⟨c1, c2, c3, c4, c5, c6⟩ := c
  have h16 : p 16 = false := by
    cases h : p 16 with
    | false => rfl
    | true => rw [hp] at c2; exact absurd (c2 h) (by decide)
  have ba : Below w.heap.size w (w.alloc ob) := (Below.refl _ _).alloc (Nat.le_refl _) _
  refine ⟨bthen c1 ba, fun _ => by simp [Og.Joint2.pSet], fun h => ?_, fun _ => ?_, fun h => ?_, fun _ h => ?_⟩
  · simp [Og.Joint2.pSet] at h ⊢; exact c3 h
  · exact ⟨w.heap.size, by simp [Og.Joint2.vSet], c1.size, by simp, fun h => by simp [Og.Joint2.pSet, h16] at h⟩
  · simp [Og.Joint2.pSet] at h
    obtain ⟨g, h1, h2, h3, h4⟩ := c5 h
    exact ⟨g, by simpa [Og.Joint2.vSet] using h1, h2, by simp; omega, fun h => by simp [Og.Joint2.pSet] at h; exact heap_keep ba (h4 h)⟩
  · simp [Og.Joint2.pSet] at h
    obtain ⟨g, h1, h2, h3, h4⟩ := c5 h
    simp [Og.Joint2.vSet, h1] <;> omega
theorem CE.a15 {ob : Obj} (hp : p 15 = false) (c : CE wq X Y p vs w) : CE wq X Y (Og.Joint2.pSet p 15) (Og.Joint2.vSet vs 15 (.pointer (some ⟨w.heap.size, 0, none⟩))) (w.alloc ob) := by
  obtain ⟨c1, c2, c3, c4, c5, c6⟩ := c
  have h17 : p 17 = false := by
    cases h : p 17 with
    | false => rfl
    | true => rw [hp] at c3; exact absurd (c3 h) (by decide)
  have ba : Below w.heap.size w (w.alloc ob) := (Below.refl _ _).alloc (Nat.le_refl _) _
  refine ⟨bthen c1 ba, fun h => ?_, fun _ => by simp [Og.Joint2.pSet], fun h => ?_, fun _ => ?_, fun h _ => ?_⟩
  · simp [Og.Joint2.pSet] at h ⊢; exact c2 h
  · simp [Og.Joint2.pSet] at h
    obtain ⟨g, h1, h2, h3, h4⟩ := c4 h
    exact ⟨g, by simpa [Og.Joint2.vSet] using h1, h2, by simp; omega, fun h => by simp [Og.Joint2.pSet] at h; exact heap_keep ba (h4 h)⟩
  · exact ⟨w.heap.size, by simp [Og.Joint2.vSet], c1.size, by simp, fun h => by simp [Og.Joint2.pSet, h17] at h⟩
  · simp [Og.Joint2.pSet] at h
    obtain ⟨g, h1, h2, h3, h4⟩ := c4 h
    simp [Og.Joint2.vSet, h1] <;> omega
theorem CE.s16 {g : Nat} {w3 : World} {v : Value} (h14 : p 14 = true) (hv : vs 14 = .pointer (some ⟨g, 0, none⟩)) (hq : wq.heap.size ≤ g) (hz : w3.heap[g]? = some (.cells X 132 (0, 0))) (hb : ∀ B, B ≤ g → Below B w w3) (ho : ∀ k, k ≠ g → w3.heap[k]? = w.heap[k]?) (hs : w3.heap.size = w.heap.size) (c : CE wq X Y p vs w) : CE wq X Y (Og.Joint2.pSet p 16) (Og.Joint2.vSet vs 16 v) w3 := by
  obtain ⟨c1, c2, c3, c4, c5, c6⟩ := c
  refine ⟨c1.trans (hb _ hq), fun _ => by simp [Og.Joint2.pSet, h14], fun h => ?_, fun _ => ?_, fun h => ?_, fun _ h => ?_⟩
  · simp [Og.Joint2.pSet] at h ⊢; exact c3 h
  · obtain ⟨g', e1, e2, e3, _⟩ := c4 h14
    rw [hv] at e1
    cases e1
    exact ⟨g, by simpa [Og.Joint2.vSet] using hv, hq, by omega, fun _ => hz⟩
  · simp [Og.Joint2.pSet] at h
    obtain ⟨g', h1, h2, h3, h4⟩ := c5 h
    have hne : g' ≠ g := fun e => c6 h14 h (by rw [hv, h1, e])
    exact ⟨g', by simpa [Og.Joint2.vSet] using h1, h2, by omega, fun h => by simp [Og.Joint2.pSet] at h; rw [ho _ hne]; exact h4 h⟩
  · simp [Og.Joint2.pSet] at h; simpa [Og.Joint2.vSet] using c6 h14 h
theorem CE.s17 {g : Nat} {w3 : World} {v : Value} (h15 : p 15 = true) (hv : vs 15 = .pointer (some ⟨g, 0, none⟩)) (hq : wq.heap.size ≤ g) (hz : w3.heap[g]? = some (.cells Y 132 (0, 0))) (hb : ∀ B, B ≤ g → Below B w w3) (ho : ∀ k, k ≠ g → w3.heap[k]? = w.heap[k]?) (hs : w3.heap.size = w.heap.size) (c : CE wq X Y p vs w) : CE wq X Y (Og.Joint2.pSet p 17) (Og.Joint2.vSet vs 17 v) w3 := by
  obtain ⟨c1, c2, c3, c4, c5, c6⟩ := c
  refine ⟨c1.trans (hb _ hq), fun h => ?_, fun _ => by simp [Og.Joint2.pSet, h15], fun h => ?_, fun _ => ?_, fun h _ => ?_⟩
  · simp [Og.Joint2.pSet] at h ⊢; exact c2 h
  · simp [Og.Joint2.pSet] at h
    obtain ⟨g', h1, h2, h3, h4⟩ := c4 h
    have hne : g' ≠ g := fun e => c6 h h15 (by rw [hv, h1, e])
    exact ⟨g', by simpa [Og.Joint2.vSet] using h1, h2, by omega, fun h => by simp [Og.Joint2.pSet] at h; rw [ho _ hne]; exact h4 h⟩
  · obtain ⟨g', e1, e2, e3, _⟩ := c5 h15
    rw [hv] at e1
    cases e1
    exact ⟨g, by simpa [Og.Joint2.vSet] using hv, hq, by omega, fun _ => hz⟩
  · simp [Og.Joint2.pSet] at h; simpa [Og.Joint2.vSet] using c6 h h15
theorem RelE.store {g : Nat} {w3 : World} {u1 u2 : Value} (hq : wq.heap.size ≤ g) (hz : w3.heap[g]? = some (.cells #[u1, u2] 132 (0, 0))) (hb : ∀ B, B ≤ g → Below B w w3) (ho : ∀ k, k ≠ g → w3.heap[k]? = w.heap[k]?) : RelE wq w w3 := ⟨hb _ hq, fun k v1 v2 h => by
  by_cases hk : k = g
  · subst hk; exact ⟨_, _, hz⟩
  · rw [ho k hk]; exact ⟨_, _, h⟩⟩
theorem RelE.alloc (ob : Obj) (hq : wq.heap.size ≤ w.heap.size) : RelE wq w (w.alloc ob) := ⟨(Below.refl _ _).alloc hq _, fun g v1 v2 h => ⟨v1, v2, heap_keep ((Below.refl _ _).alloc (Nat.le_refl _) _) h⟩⟩
end

set_option maxRecDepth 100000 in
set_option maxHeartbeats 4000000 in
theorem before_ok (es : List En) (h i j : Nat) (x y : En) (v : Value) (w : World) (hv : w.cell? ⟨h, 0, none⟩ = some v) (hs : Sl cEn 2 0 w v es) (hx : es[i]? = some x) (hy : es[j]? = some y) (hl : es.length ≤ 1000000) :
    Calls Tryd.prog 85 #[.pointer (some ⟨h, 0, none⟩), .int .i64 (i : Int), .int .i64 (j : Int)] w fun e w' => e = .returned (.bool (bef x y)) ∧ Below w.heap.size w w' := by
  obtain ⟨A, c, rfl, hr, -⟩ := hs
  obtain ⟨b, o, rfl, h1⟩ := hr i x hx
  obtain ⟨b', o', hA, h2⟩ := hr j y hy
  injection hA with hA
  injection hA with hb ho _
  subst hb ho
  have hi := (List.getElem?_eq_some_iff.1 hx).1
  have hj := (List.getElem?_eq_some_iff.1 hy).1
  obtain ⟨n, hn⟩ : ∃ n, n = es.length := ⟨_, rfl⟩
  rw [← hn] at hv hi hj hl
  have hi0 : (0 : Int) ≤ (i : Int) := by omega
  have hj0 : (0 : Int) ≤ (j : Int) := by omega
  have hin : (i : Int) < (n : Int) := by omega
  have hjn : (j : Int) < (n : Int) := by omega
  have HC : ∀ w2, Below w.heap.size w w2 → w2.cell? ⟨h, 0, none⟩ = some (.slice (some ⟨b, o, none⟩) n c) ∧ w2.cell? ⟨b, o + i * 2, none⟩ = some (.int .i64 x.k) ∧ w2.cell? ⟨b, o + i * 2 + 1, none⟩ = some (.int .i64 x.n) ∧ w2.cell? ⟨b, o + j * 2, none⟩ = some (.int .i64 y.k) ∧ w2.cell? ⟨b, o + j * 2 + 1, none⟩ = some (.int .i64 y.n) := fun w2 hb => ⟨bcell hb hv, bcell hb (by have := h1 0 _ rfl; simpa using this), bcell hb (by have := h1 1 _ rfl; simpa using this), bcell hb (by have := h2 0 _ rfl; simpa using this), bcell hb (by have := h2 1 _ rfl; simpa using this)⟩
  clear hv hr hx hy h1 h2 hi hj hn hl
  go_enter Tryd.func85, Tryd.ntmps85
  go_wp2_with fail
  refine Og.Joint2.walk_lit 18 [[],[0],[1,0],[2,1,0],[],[3,4,2,1,0],[5,3,4,2,1,0],[],[7],[8,7],[9,8,7],[],[10,11,9,8,7],[12,10,11,9,8,7],[],[],[14,6,0,1,2,3,4,5,15],[15,13,16,0,1,2,3,4,5,6,7,8,9,10,11,12,14]] (CE w #[.int .i64 x.k, .int .i64 x.n] #[.int .i64 y.k, .int .i64 y.n]) (RelE w) (by kernel_rfl) (by kernel_rfl) (by kernel_rfl) (fun vs => ⟨bdrew, (fun e => (by cases e)), (fun e => (by cases e)), (fun e => (by cases e)), (fun e => (by cases e)), (fun e => (by cases e))⟩) ?_
  simp only [List.take_succ_cons, List.take_zero, List.drop_succ_cons, List.drop_zero]
  iterate 14 (refine Og.Joint2.step_pure (fun p vs v w h => h.other (by decide) (by decide) (by decide) (by decide)) (fun w0 => RelE.refl w w0) ?_; apply Exists.intro; refine And.intro ?_ ?_; focus (intro p vs w2 hC hk; have hm := HC w2 hC.1; refine Og.OptB.mk ?_; revert hk; simp only [Og.KS, Og.K0, Og.Is, List.getD_cons_zero, List.getD_cons_succ, List.getD_nil, List.contains_cons, List.contains_nil, Nat.reduceAdd, Nat.reduceBEq, Bool.or_false, Bool.false_or, Bool.or_true, Bool.true_or, Bool.false_eq_true, false_implies, true_implies, true_and, and_true, forall_const]; intros; go_simp; rfl))
  refine Og.Joint2.step_any (IsE w) IsE.keep ?_ ?_; focus (intro p vs w2 hp hC hk; refine Og.OptB.mk ?_; go_simp; exact ⟨CE.a14 hp.1 hC, RelE.alloc _ hC.1.size, _, _, _, rfl, hC.1.size, heap_at rfl⟩)
  refine Og.Joint2.step_any (IsE w) IsE.keep ?_ ?_; focus (intro p vs w2 hp hC hk; refine Og.OptB.mk ?_; go_simp; exact ⟨CE.a15 hp.1 hC, RelE.alloc _ hC.1.size, _, _, _, rfl, hC.1.size, heap_at rfl⟩)
  refine Og.Joint2.step_any (fun _ _ => True) (fun _ _ _ _ _ => trivial) ?_ ?_; focus (intro p vs w2 hp hC hk; have hdn := hp.2 14 (by decide); simp only [Og.KS, Og.K0, Og.Is, List.getD_cons_zero, List.getD_cons_succ, List.getD_nil, List.contains_cons, List.contains_nil, Nat.reduceAdd, Nat.reduceBEq, Bool.or_false, Bool.false_or, Bool.or_true, Bool.true_or, Bool.false_eq_true, false_implies, true_implies, true_and, and_true, forall_const] at hk; obtain ⟨g, u1, u2, eg, hq, hg⟩ : IsE w (vs 14) w2 := (by first | exact hk.1 | exact hk.2.1 | (simp only [hk])); refine optB_storeN (g := g) (cells := #[.int .i64 x.k, .int .i64 x.n]) (by go_simp) rfl (by go_simp) (by go_simp) hg info168s rfl (by simp [Value.oneCell']) ?_; intro w3 hz hb ho hs; exact ⟨hC.s16 hdn eg hq hz hb ho hs, RelE.store hq hz hb ho, trivial⟩)
  refine Og.Joint2.step_any (fun _ _ => True) (fun _ _ _ _ _ => trivial) ?_ ?_; focus (intro p vs w2 hp hC hk; have hdn := hp.2 15 (by decide); simp only [Og.KS, Og.K0, Og.Is, List.getD_cons_zero, List.getD_cons_succ, List.getD_nil, List.contains_cons, List.contains_nil, Nat.reduceAdd, Nat.reduceBEq, Bool.or_false, Bool.false_or, Bool.or_true, Bool.true_or, Bool.false_eq_true, false_implies, true_implies, true_and, and_true, forall_const] at hk; obtain ⟨g, u1, u2, eg, hq, hg⟩ : IsE w (vs 15) w2 := (by first | exact hk.1 | exact hk.2.1 | (simp only [hk])); refine optB_storeN (g := g) (cells := #[.int .i64 y.k, .int .i64 y.n]) (by go_simp) rfl (by go_simp) (by go_simp) hg info168s rfl (by simp [Value.oneCell']) ?_; intro w3 hz hb ho hs; exact ⟨hC.s17 hdn eg hq hz hb ho hs, RelE.store hq hz hb ho, trivial⟩)
  intro p vs w2 hp hC hk
  obtain ⟨g8, e8, hg8, _, b8⟩ := hC.2.2.2.1 (hp 14 (by decide))
  obtain ⟨g9, e9, hg9, _, b9⟩ := hC.2.2.2.2.1 (hp 15 (by decide))
  have z8 := b8 (hp 16 (by decide))
  have z9 := b9 (hp 17 (by decide))
  simp only [Og.KS, Og.K0, Og.Is, List.getD_cons_zero, List.getD_cons_succ, List.getD_nil, List.contains_cons, List.contains_nil, Nat.reduceAdd, Nat.reduceBEq, Bool.or_false, Bool.false_or, Bool.or_true, Bool.true_or, Bool.false_eq_true, false_implies, true_implies, true_and, and_true, forall_const] at hk
  simp only [hk, e8, e9, Act.put, List.setIfInBounds_toArray, List.set_cons_zero, List.set_cons_succ]
  have BT := Lib.hid hC.1
  have m0 : w2.cell? ⟨g8, 0, none⟩ = some (.int .i64 x.k) := by simp [World.cell?, z8]
  have m1 : w2.cell? ⟨g8, 1, none⟩ = some (.int .i64 x.n) := by simp [World.cell?, z8]
  have m2 : w2.cell? ⟨g9, 0, none⟩ = some (.int .i64 y.k) := by simp [World.cell?, z9]
  have m3 : w2.cell? ⟨g9, 1, none⟩ = some (.int .i64 y.n) := by simp [World.cell?, z9]
  clear hk e8 e9 hp hC hg8 b8 hg9 b9 z8 z9 HC
  by_cases q0 : x.k < y.k <;> by_cases q1 : x.k = y.k <;> by_cases q2 : x.n < y.n <;> try (exfalso; omega)
  all_goals
    go_wp2_with fail
    go_ret
    exact ⟨by simp [bef, q0, q1, q2] <;> omega, BT.out⟩

end Go.Proofs.YtjbglifmppilfaaDoor
namespace Go.Og.Joint2
open Tail
variable {P : Program} {ops : Array Oper} {m : Nat} {C : Cls} {Rel : World → World → Prop} {A : List (List Nat)} {Q : Act → World → Prop} {o : Oper} {r : List Oper} {i : Nat} {F : (Nat → Value) → Act} {K : (Nat → Bool) → (Nat → Value) → World → Prop}
/-- as step_pure, and the obligation knows what is done -/
theorem step_pureP (hI : ∀ p vs v w, C p vs w → C (pSet p i) (vSet vs i v) w) (hr : ∀ w, Rel w w) (h : ∃ x, (∀ p vs w, p i = false → C p vs w → K (fun j => (A.getD i []).contains j) vs w → OptB P ops o (F vs) w (fun v w' => w' = w ∧ v = x)) ∧ Walk P m C Rel A ops Q r (i + 1) (fun vs => (F vs).put o.dst (vs i)) (KS i (Is x) K)) :
    Walk P m C Rel A ops Q (o :: r) i F K := by
  obtain ⟨x, h1, h2⟩ := h
  refine ⟨Is x, fun _ _ _ _ h => h, fun p vs w hp hC hk => ?_, h2⟩
  have := (h1 p vs w hp.1 hC hk).out
  unfold Opt at this ⊢
  split
  · rename_i hw
    rw [if_pos hw] at this
    unfold OpY at this ⊢
    generalize (execOp (F vs).eval o).run P w = res at this
    cases res with
    | ok nx w' =>
      cases nx with
      | value v => obtain ⟨rfl, rfl⟩ := this; exact ⟨hI _ _ _ _ hC, hr _, rfl⟩
      | skip => obtain ⟨rfl, hu⟩ := this; exact ⟨hI _ _ _ _ hC, hr _, hu⟩
      | enter f args => exact Calls.mono this (fun e w'' ⟨v, he, hw', hv⟩ => ⟨v, he, by rw [hw']; exact hI _ _ _ _ hC, by rw [hw']; exact hr _, hv⟩)
      | _ => exact this.elim
    | halt x w' => exact this.elim
  · rename_i hw
    rw [if_neg hw] at this
    obtain ⟨_, hu⟩ := this
    exact ⟨hI _ _ _ _ hC, hr _, hu⟩
end Go.Og.Joint2
namespace Go.Proofs.YtjbglifmppilfaaDoor
open Go.ChangeShapes Go.WideShapes Go.ChangeAt Go.RowKit
set_option linter.unusedVariables false
set_option linter.unusedSimpArgs false
attribute [local go_sem] Og.Opt Og.OpY


theorem optB_storeR {ops : Array Oper} {o : Oper} {a : Act} {w w' : World} {R : Value → World → Prop} {ty : TypeId} {x y : Operand} {g off : Nat} {v : Value} (hw : Region.wanted o (yielded ops a.tmps) = true) (ho : o.op = .store ty x y) (hx : a.eval x = .pointer (some ⟨g, off, none⟩)) (hy : a.eval y = v)
    (hr : (storeVar ty ⟨g, off, none⟩ v).run Tryd.prog w = .ok () w') (hR : R undef w') : Og.OptB Tryd.prog ops o a w R := by
  refine ⟨opt_of_wanted hw ?_⟩
  unfold Og.OpY execOp
  simp only [ho, hx, hy, Instr.storeAt, Instr.sureAddr, Sem.run_bind, Sem.run_pure, Result.andThen_ok, hr]
  exact hR
theorem wpList_storeR {ops : Array Oper} {rest : List Oper} {o : Oper} {a : Act} {w w' : World} {Q : Exit → Act → World → Prop} {ty : TypeId} {x y : Operand} {g off : Nat} {v : Value} (hgd : o.guard = none) (ho : o.op = .store ty x y) (hd : o.dst = none) (hx : a.eval x = .pointer (some ⟨g, off, none⟩)) (hy : a.eval y = v)
    (hr : (storeVar ty ⟨g, off, none⟩ v).run Tryd.prog w = .ok () w') (h : wpList Tryd.prog ops Q rest a w') : wpList Tryd.prog ops Q (o :: rest) a w := by
  refine wpList_plain hgd fun K hK => ?_
  unfold Oper.wp
  simp only [execOp, ho, hx, hy, Instr.storeAt, Instr.sureAddr, Sem.run_bind, Sem.run_pure, Result.andThen_ok, hr]
  have e : a.put o.dst undef = a := by rw [hd]; rfl
  refine hK _ _ ?_
  rw [e]
  exact h

theorem cEn_one (x : En) : ∀ u ∈ cEn x, u.oneCell' = true := by
  intro u hu
  simp only [cEn, List.mem_cons, List.not_mem_nil, or_false] at hu
  rcases hu with rfl | rfl <;> rfl
theorem lay_getEn {cur : List Value} {xs : List En} {n k : Nat} {r : En} (h : cur.take (n * 2) = xs.flatMap cEn) (hn : xs.length = n) (hk : k < n) (hc : n * 2 ≤ cur.length) :
    (cur.take (k * 2) ++ cEn r ++ cur.drop (k * 2 + 2)).take (n * 2) = (xs.set k r).flatMap cEn := by
  refine List.ext_getElem? fun j => ?_
  by_cases hj : j < n * 2
  · rw [List.getElem?_take_of_lt hj, flat_get cEn 2 cEn_len (by omega), List.append_assoc]
    have hcur : cur[j]? = (xs[j / 2]?).bind fun x => (cEn x)[j % 2]? := by
      rw [← flat_get cEn 2 cEn_len (by omega), ← h, List.getElem?_take_of_lt hj]
    have hlt : (cur.take (k * 2)).length = k * 2 := by rw [List.length_take]; omega
    by_cases h1 : j < k * 2
    · rw [List.getElem?_append_left (by omega), List.getElem?_take_of_lt h1, hcur, List.getElem?_set_ne (by omega)]
    · rw [List.getElem?_append_right (by omega), hlt]
      by_cases h2 : j < k * 2 + 2
      · rw [List.getElem?_append_left (by rw [cEn_len]; omega), show j / 2 = k by omega, List.getElem?_set_self (by omega)]
        simp only [Option.bind_some]
        rw [show j % 2 = j - k * 2 by omega]
      · rw [List.getElem?_append_right (by rw [cEn_len]; omega), cEn_len, List.getElem?_drop, show k * 2 + 2 + (j - k * 2 - 2) = j by omega, hcur, List.getElem?_set_ne (by omega)]
  · rw [List.getElem?_eq_none (by rw [List.length_take]; omega), List.getElem?_eq_none (by rw [flat_len cEn 2 cEn_len, List.length_set]; omega)]
/-- an entry is laid over another one -/
theorem run_storeEn {w : World} {base g n cap k : Nat} {xs : List En} (r : En) (h : w.ownsRow base 132 2 (.slice (some ⟨g, 0, none⟩) n cap) n (xs.flatMap cEn)) (hn : xs.length = n) (hk : k < n) :
    ∃ w', (storeVar 132 ⟨g, k * 2, none⟩ (.agg (cEn r).toArray)).run Tryd.prog w = .ok () w' ∧ w'.ownsRow base 132 2 (.slice (some ⟨g, 0, none⟩) n cap) n ((xs.set k r).flatMap cEn) ∧ w'.heap.size = w.heap.size ∧ (∀ j, j ≠ g → w'.heap[j]? = w.heap[j]?) ∧ (∀ B, B ≤ g → Below B w w') := by
  rcases h.2 with ⟨h0, _⟩ | ⟨g', cap', cur, hv, hb, hg, hnc, hcm, hcs, htk⟩
  · cases h0
  · cases hv
    have hcl : cur.toList.length = cap * 2 := by rw [Array.length_toList]; exact hcs
    have hst := run_storeCells_at Tryd.prog g (k * 2) 132 (cEn r) 0 cur w hg (by rw [cEn_len]; omega) (cEn_one r)
    rw [Nat.add_zero, cEn_len] at hst
    refine ⟨w.setRow g (cur.toList.take (k * 2) ++ cEn r ++ cur.toList.drop (k * 2 + 2)).toArray, ?_, ⟨by rw [flat_len cEn 2 cEn_len, List.length_set, hn], .inr ⟨g, cap, (cur.toList.take (k * 2) ++ cEn r ++ cur.toList.drop (k * 2 + 2)).toArray, rfl, hb, setRow_heap w g cur _ 132 (0, 0) hg, hnc, hcm, ?_, ?_⟩⟩, by simp [World.setRow], fun j hj => setRow_other w g j _ hj, fun B hB => ⟨rfl, rfl, rfl, by simp [World.setRow], fun j hj => setRow_other w g j _ (by omega)⟩⟩
    · unfold storeVar
      have e : (Value.agg (cEn r).toArray).cells.size = 2 := rfl
      have e2 : (Value.agg (cEn r).toArray).cells.toList = cEn r := rfl
      simp only [Sem.run_bind, size168, Result.andThen_ok, e, ne_eq, not_true_eq_false, if_false, e2, hst, Sem.run_pure]
    · simp only [List.size_toArray, List.length_append, List.length_take, List.length_drop, cEn_len, hcl]
      omega
    · have := lay_getEn (cur := cur.toList) (r := r) htk hn hk (by rw [hcl]; omega)
      simpa using this
/-- one cell of a block -/
theorem run_store1 {w : World} {g k : Nat} {t : TypeId} {ty : TypeId} {cur : List Value} (u : Value) (hu : u.oneCell' = true) (huc : u.cells = #[u]) (hs : ∀ w, (sizeOf ty).run Tryd.prog w = .ok 1 w) (hg : w.heap[g]? = some (.cells cur.toArray t (0, 0))) (hk : k < cur.length) :
    ∃ w', (storeVar ty ⟨g, k, none⟩ u).run Tryd.prog w = .ok () w' ∧ w'.heap[g]? = some (.cells (cur.set k u).toArray t (0, 0)) ∧ w'.heap.size = w.heap.size ∧ (∀ j, j ≠ g → w'.heap[j]? = w.heap[j]?) ∧ (∀ B, B ≤ g → Below B w w') := by
  have hst := run_storeCells_at Tryd.prog g k t [u] 0 cur.toArray w hg (by simp; omega) (by intro v hv; cases hv with | head => exact hu | tail _ h => cases h)
  simp only [Nat.add_zero, List.length_cons, List.length_nil, Nat.zero_add] at hst
  have e : (cur.take k ++ [u] ++ cur.drop (k + 1)) = cur.set k u := by rw [List.set_eq_take_append_cons_drop, if_pos hk, List.append_assoc]; rfl
  rw [e] at hst
  refine ⟨w.setRow g (cur.set k u).toArray, ?_, setRow_heap w g _ _ t (0, 0) hg, by simp [World.setRow], fun j hj => setRow_other w g j _ hj, fun B hB => ⟨rfl, rfl, rfl, by simp [World.setRow], fun j hj => setRow_other w g j _ (by omega)⟩⟩
  unfold storeVar
  have e1 : u.cells.size = 1 := by rw [huc]; rfl
  have e2 : u.cells.toList = [u] := by rw [huc]
  simp only [Sem.run_bind, hs, Result.andThen_ok, e1, ne_eq, not_true_eq_false, if_false, e2, hst, Sem.run_pure]
theorem size3 (w : World) : (sizeOf 3).run Tryd.prog w = .ok 1 w := by kernel_rfl
/-- the cells of the heap's block -/
def hCs (v : Value) (tb : List Int) : List Value := v :: tb.map fun z => Value.int .i64 z
theorem hCs_set (v : Value) (tb : List Int) (k : Nat) (z : Int) : (hCs v tb).set (k + 1) (.int .i64 z) = hCs v (tb.set k z) := by simp [hCs, List.map_set]
theorem hCs_len (v : Value) (tb : List Int) : (hCs v tb).length = tb.length + 1 := by simp [hCs]
/-- the heap at h: its entries and where they stand -/
structure Hp (h : Nat) (w : World) (v : Value) (es : List En) (tb : List Int) : Prop where
  blk : w.heap[h]? = some (.cells (hCs v tb).toArray 130 (0, 0))
  own : w.ownsRow (h + 1) 132 2 v es.length (es.flatMap cEn)
  len : tb.length = 128
section
variable {h : Nat} {w w' : World} {v : Value} {es : List En} {tb : List Int}
theorem Hp.lt (H : Hp h w v es tb) : h < w.heap.size := (Array.getElem?_eq_some_iff.1 H.blk).1
theorem Hp.below (H : Hp h w v es tb) (hb : Below w.heap.size w w') : Hp h w' v es tb := ⟨heap_keep hb H.blk, own_below H.own hb, H.len⟩
theorem Hp.v0 (H : Hp h w v es tb) : w.cell? ⟨h, 0, none⟩ = some v := by
  rw [cell_of_row w h 0 _ _ _ H.blk]; rfl
theorem Hp.at_ (H : Hp h w v es tb) {k : Nat} {z : Int} (hz : tb[k]? = some z) : w.cell? ⟨h, k + 1, none⟩ = some (.int .i64 z) := by
  rw [cell_of_row w h (k + 1) _ _ _ H.blk]
  simp [hCs, hz]
theorem Hp.sl (H : Hp h w v es tb) : Sl cEn 2 0 w v es := (Sl_of_row cEn_len (by omega) H.own rfl).mono (Nat.zero_le _)
/-- a row that is not empty -/
theorem Hp.row (H : Hp h w v es tb) (h0 : 0 < es.length) : ∃ g cap, v = .slice (some ⟨g, 0, none⟩) es.length cap ∧ h < g ∧ g < w.heap.size ∧ AtL w g 0 (es.flatMap cEn) := by
  rcases H.own.2 with ⟨_, h1⟩ | ⟨g, cap, cur, hv, hb, hg, hnc, hcm, hcs, htk⟩
  · omega
  · refine ⟨g, cap, hv, hb, (Array.getElem?_eq_some_iff.1 hg).1, fun j u hu => ?_⟩
    rw [Nat.zero_add, cell_of_row w g j _ _ _ hg]
    rw [← htk] at hu
    rw [List.getElem?_take] at hu
    split at hu
    · simpa using hu
    · cases hu
end
/-- but the heap's block and its row all stays as it is -/
structure Fr (h : Nat) (v : Value) (w w' : World) : Prop where
  bel : Below h w w'
  oth : ∀ k, k < w.heap.size → k ≠ h → v.ownBlock ≠ some k → w'.heap[k]? = w.heap[k]?
theorem Fr.refl (h : Nat) (v : Value) (w : World) : Fr h v w w := ⟨Below.refl _ _, fun _ _ _ _ => rfl⟩
theorem Fr.trans {h : Nat} {v : Value} {w w1 w2 : World} (a : Fr h v w w1) (b : Fr h v w1 w2) : Fr h v w w2 :=
  ⟨a.bel.trans b.bel, fun k hk h1 h2 => (b.oth k (Nat.lt_of_lt_of_le hk a.bel.size) h1 h2).trans (a.oth k hk h1 h2)⟩
theorem Fr.of {h : Nat} {v : Value} {w w1 : World} (hh : h ≤ w.heap.size) (b : Below w.heap.size w w1) : Fr h v w w1 := ⟨b.mono hh, fun k hk _ _ => b.block k hk⟩
theorem Fr.one {h g : Nat} {v : Value} {w w1 : World} (hg : g = h ∨ v.ownBlock = some g) (b : Below h w w1) (n : ∀ j, j ≠ g → w1.heap[j]? = w.heap[j]?) : Fr h v w w1 :=
  ⟨b, fun k hk h1 h2 => n k (fun e => by subst e; rcases hg with e | e; exact h1 e; exact h2 e)⟩
theorem Fr.keep {h k : Nat} {v : Value} {w w1 : World} {ob : Obj} (a : Fr h v w w1) (hk : w.heap[k]? = some ob) (h1 : k ≠ h) (h2 : v.ownBlock ≠ some k) : w1.heap[k]? = some ob := (a.oth k (Array.getElem?_eq_some_iff.1 hk).1 h1 h2).trans hk
theorem getEn {es : List En} {i : Nat} {x : En} {w : World} {g : Nat} (ha : AtL w g 0 (es.flatMap cEn)) (hx : es[i]? = some x) : w.cell? ⟨g, i * 2, none⟩ = some (.int .i64 x.k) ∧ w.cell? ⟨g, i * 2 + 1, none⟩ = some (.int .i64 x.n) := by
  have h0 := ha (i * 2) (.int .i64 x.k) (by rw [flat_get cEn 2 cEn_len (by omega), show i * 2 / 2 = i by omega, hx, show i * 2 % 2 = 0 by omega]; rfl)
  have h1 := ha (i * 2 + 1) (.int .i64 x.n) (by rw [flat_get cEn 2 cEn_len (by omega), show (i * 2 + 1) / 2 = i by omega, hx, show (i * 2 + 1) % 2 = 1 by omega]; rfl)
  rw [Nat.zero_add] at h0 h1
  exact ⟨h0, h1⟩
theorem loadEn {es : List En} {i : Nat} {x : En} {w : World} {g : Nat} (ha : AtL w g 0 (es.flatMap cEn)) (hx : es[i]? = some x) : (loadVar 132 ⟨g, i * 2, none⟩).run Tryd.prog w = .ok (.agg (cEn x).toArray) w := by
  refine run_loadL isAgg168 size168 (cEn_len x) (fun j u hu => ?_)
  have := getEn ha hx
  match j, hu with
  | 0, hu => cases hu; exact this.1
  | 1, hu => cases hu; exact this.2
theorem ownR_same {w w' : World} {base e size n : Nat} {v : Value} {xs : List Value} (h : w.ownsRow base e size v n xs) (hg : ∀ g, v.ownBlock = some g → w'.heap[g]? = w.heap[g]?) (hs : w.heap.size ≤ w'.heap.size) : w'.ownsRow base e size v n xs := by
  refine ⟨h.1, ?_⟩
  rcases h.2 with h0 | ⟨g, cap, cur, rfl, hb, r⟩
  · exact .inl h0
  · exact .inr ⟨g, cap, cur, rfl, hb, by rw [hg g rfl]; exact r⟩
/-- the class of the exchange: till the store k the world is w0, then w1; k comes behind all of l -/
def CX (w0 w1 : World) (k : Nat) (l : List Nat) : Og.Joint2.Cls := fun p _ w => (p k = true → ∀ j ∈ l, p j = true) ∧ w = bif p k then w1 else w0
theorem CX.ini {w0 w1 : World} {k : Nat} {l : List Nat} {vs : Nat → Value} : CX w0 w1 k l (fun _ => false) vs w0 := ⟨fun e => (by cases e), rfl⟩
theorem CX.other {w0 w1 w : World} {k i : Nat} {l : List Nat} {p : Nat → Bool} {vs : Nat → Value} {v : Value} (h : i ≠ k) (c : CX w0 w1 k l p vs w) : CX w0 w1 k l (Og.Joint2.pSet p i) (Og.Joint2.vSet vs i v) w := by
  have e : Og.Joint2.pSet p i k = p k := by simp [Og.Joint2.pSet, Ne.symm h]
  refine ⟨fun hk j hj => ?_, by rw [e]; exact c.2⟩
  rw [e] at hk
  simp [Og.Joint2.pSet, c.1 hk j hj]
theorem CX.at_ {w0 w1 w : World} {k i : Nat} {l : List Nat} {p : Nat → Bool} {vs : Nat → Value} (c : CX w0 w1 k l p vs w) (hi : i ∈ l) (hp : p i = false) : w = w0 := by
  cases hk : p k with
  | true => have := c.1 hk i hi; rw [hp] at this; cases this
  | false => have := c.2; rw [hk] at this; exact this
theorem CX.now {w0 w1 w : World} {k : Nat} {l : List Nat} {p : Nat → Bool} {vs : Nat → Value} (c : CX w0 w1 k l p vs w) (hp : p k = false) : w = w0 := by have := c.2; rw [hp] at this; exact this
theorem CX.done {w0 w1 : World} {k : Nat} {l : List Nat} {p : Nat → Bool} {vs : Nat → Value} {v : Value} (h : ∀ j ∈ l, p j = true) : CX w0 w1 k l (Og.Joint2.pSet p k) (Og.Joint2.vSet vs k v) w1 := ⟨fun _ j hj => by simp [Og.Joint2.pSet, h j hj], by simp [Og.Joint2.pSet]⟩
theorem CX.fin {w0 w1 w : World} {k : Nat} {l : List Nat} {p : Nat → Bool} {vs : Nat → Value} (c : CX w0 w1 k l p vs w) (hp : p k = true) : w = w1 := by have := c.2; rw [hp] at this; exact this

def oks (n : Int) : Bool := decide (0 ≤ n) && decide (n < 128)
set_option maxRecDepth 100000 in
set_option maxHeartbeats 4000000 in
theorem swap_ok (es : List En) (tb : List Int) (h i j : Nat) (x y : En) (v : Value) (w : World) (H : Hp h w v es tb) (hx : es[i]? = some x) (hy : es[j]? = some y) (hl : es.length ≤ 1000000) (hnx : oks x.n = true) (hny : oks y.n = true) (hd : i = j ∨ x.n ≠ y.n) :
    Calls Tryd.prog 86 #[.pointer (some ⟨h, 0, none⟩), .int .i64 (i : Int), .int .i64 (j : Int)] w fun e w' => e = .returned (.tuple #[]) ∧ Fr h v w w' ∧ Hp h w' v ((es.set i y).set j x) ((tb.set y.n.toNat (i + 1)).set x.n.toNat (j + 1)) := by
  have hi := (List.getElem?_eq_some_iff.1 hx).1
  have hj := (List.getElem?_eq_some_iff.1 hy).1
  obtain ⟨g, c, rfl, hhg, hgs, hat⟩ := H.row (by omega)
  have D : Hp h w.drew (.slice (some ⟨g, 0, none⟩) es.length c) es tb := H.below bdrew
  have hatd : AtL w.drew g 0 (es.flatMap cEn) := hat.below bdrew
  obtain ⟨w1, r1, o1, s1, n1, b1⟩ := run_storeEn (k := i) y D.own rfl hi
  obtain ⟨w2, r2, o2, s2, n2, b2⟩ := run_storeEn (k := j) x o1 (by simp) hj
  have H2 : Hp h w2 (.slice (some ⟨g, 0, none⟩) es.length c) ((es.set i y).set j x) tb := ⟨by rw [n2 h (by omega), n1 h (by omega)]; exact D.blk, by simpa using o2, H.len⟩
  have e1 : (((es.set i y).set j x))[i]? = some y := by
    by_cases e : j = i
    · subst e
      rw [hx] at hy; cases hy
      rw [List.getElem?_set_self (by simpa using hi)]
    · rw [List.getElem?_set_ne e, List.getElem?_set_self hi]
  have e2 : (((es.set i y).set j x))[j]? = some x := by rw [List.getElem?_set_self (by simpa using hj)]
  have D2 : Hp h w2.drew (.slice (some ⟨g, 0, none⟩) es.length c) ((es.set i y).set j x) tb := H2.below bdrew
  have hat2 : AtL w2.drew g 0 (((es.set i y).set j x).flatMap cEn) := by
    obtain ⟨g', c', hv', -, -, ha⟩ := H2.row (by simp; omega)
    simp only [Value.slice.injEq, Option.some.injEq, Addr.mk.injEq, and_true, true_and] at hv'
    rw [hv'.1]
    exact ha.below bdrew
  simp only [oks, Bool.and_eq_true, decide_eq_true_eq] at hnx hny
  obtain ⟨nx, hnx'⟩ : ∃ k : Nat, x.n = (k : Int) := ⟨x.n.toNat, by omega⟩
  obtain ⟨ny, hny'⟩ : ∃ k : Nat, y.n = (k : Int) := ⟨y.n.toNat, by omega⟩
  obtain ⟨w3, r3, k3, s3, n3, b3⟩ := run_store1 (k := ny + 1) (ty := 3) (.int .i64 ((i : Int) + 1)) rfl rfl size3 D2.blk (by rw [hCs_len, H.len]; omega)
  rw [hCs_set] at k3
  obtain ⟨w4, r4, k4, s4, n4, b4⟩ := run_store1 (k := nx + 1) (ty := 3) (.int .i64 ((j : Int) + 1)) rfl rfl size3 k3 (by rw [hCs_len]; simp [H.len]; omega)
  rw [hCs_set] at k4
  have hgh : g ≠ h := by omega
  have H4 : Hp h w4 (.slice (some ⟨g, 0, none⟩) es.length c) ((es.set i y).set j x) ((tb.set ny (i + 1)).set nx (j + 1)) := ⟨k4, by
    refine ownR_same D2.own ?_ (by rw [s4, s3]; omega)
    intro gg hgg
    cases hgg
    rw [n4 g hgh, n3 g hgh], by simp [H.len]⟩
  have FIN : Go.RowKit.Hid (Fr h (.slice (some ⟨g, 0, none⟩) es.length c) w w4 ∧ Hp h w4 (.slice (some ⟨g, 0, none⟩) es.length c) ((es.set i y).set j x) ((tb.set y.n.toNat (i + 1)).set x.n.toNat (j + 1))) := Lib.hid ⟨((((Fr.of (by omega) bdrew).trans (Fr.one (.inr rfl) (b1 h (by omega)) n1)).trans (Fr.one (.inr rfl) (b2 h (by omega)) n2)).trans (Fr.of (by rw [s2, s1]; simp; omega) bdrew)).trans ((Fr.one (.inl rfl) (b3 h (by omega)) n3).trans (Fr.one (.inl rfl) (b4 h (by omega)) n4)), by rw [hny', hnx']; simpa using H4⟩
  have R1 := Lib.hid r1
  have R2 := Lib.hid r2
  have R3 := Lib.hid r3
  have R4 := Lib.hid r4
  have m0 := D.v0
  have m1 := loadEn hatd hx
  have m2 := loadEn hatd hy
  have p0 := D2.v0
  have p1 := (getEn hat2 e1).2
  have p2 := (getEn hat2 e2).2
  obtain ⟨n, hn⟩ : ∃ n, n = es.length := ⟨_, rfl⟩
  rw [← hn] at m0 p0 hi hj hl
  rw [hny'] at p1
  rw [hnx'] at p2
  have hi0 : (0 : Int) ≤ (i : Int) := by omega
  have hj0 : (0 : Int) ≤ (j : Int) := by omega
  have hin : (i : Int) < (n : Int) := by omega
  have hjn : (j : Int) < (n : Int) := by omega
  have hx0 : (0 : Int) ≤ (nx : Int) := by omega
  have hy0 : (0 : Int) ≤ (ny : Int) := by omega
  have hx1 : (nx : Int) < 128 := by omega
  have hy1 : (ny : Int) < 128 := by omega
  have hwi : IntKind.i64.wrap ((i : Int) + 1) = (i : Int) + 1 := wrapk (k := i + 1) (by omega)
  have hwj : IntKind.i64.wrap ((j : Int) + 1) = (j : Int) + 1 := wrapk (k := j + 1) (by omega)
  have hes : es.length = n := hn.symm
  rw [hes]
  have HN := Lib.hid hn
  clear H hx hy hd hi hj hat D hatd r1 o1 s1 n1 b1 r2 o2 s2 n2 b2 H2 e1 e2 D2 hat2 r3 k3 s3 n3 b3 r4 k4 s4 n4 b4 H4 hn hes hhg hgs hnx hny hnx' hny' hl
  go_enter Tryd.func86, Tryd.ntmps86
  go_wp2_with fail
  refine Og.Joint2.walk_lit 26 [[],[0],[1,0],[2,1,0],[],[],[5],[6,5],[7,6,5],[],[],[10],[11,10],[12,11,10],[],[13,14,12,11,10],[15,13,14,12,11,10],[],[17],[18,17],[19,18,17],[],[20,21,19,18,17],[22,20,21,19,18,17],[3,4,0,1,2,8,10,11,12,13,14,15,16,20,23,7,6,5,19,18,17,22,21],[24,16,0,1,2,3,4,8,10,11,12,13,14,15,20,23,7,6,5,19,18,17,22,21],[8,9,0,1,2,3,4,5,6,7,10,11,12,13,14,15,16,17,18,19,20,21,22,23,24,25],[26,23,25,0,1,2,3,4,5,6,7,8,9,10,11,12,13,14,15,16,17,18,19,20,21,22,24]] (CX w.drew w1 25 [3,8,13,16,20,23]) (fun _ _ => True) (by kernel_rfl) (by kernel_rfl) (by kernel_rfl) (fun vs => CX.ini) ?_
  simp only [List.take_succ_cons, List.take_zero, List.drop_succ_cons, List.drop_zero]
  iterate 3 (refine Og.Joint2.step_pureP (fun p vs v w h => h.other (by decide)) (fun _ => trivial) ?_; apply Exists.intro; refine And.intro ?_ ?_; focus (intro p vs w2 hp hC hk; refine Og.OptB.mk ?_; revert hk; simp only [Og.KS, Og.K0, Og.Is, List.getD_cons_zero, List.getD_cons_succ, List.getD_nil, List.contains_cons, List.contains_nil, Nat.reduceAdd, Nat.reduceBEq, Bool.or_false, Bool.false_or, Bool.or_true, Bool.true_or, Bool.false_eq_true, false_implies, true_implies, true_and, and_true, forall_const]; intros; go_simp; rfl))
  refine Og.Joint2.step_pureP (fun p vs v w h => h.other (by decide)) (fun _ => trivial) ?_; apply Exists.intro; refine And.intro ?_ ?_; focus (intro p vs w2 hp hC hk; obtain rfl := hC.at_ (by decide) hp; refine Og.OptB.mk ?_; revert hk; simp only [Og.KS, Og.K0, Og.Is, List.getD_cons_zero, List.getD_cons_succ, List.getD_nil, List.contains_cons, List.contains_nil, Nat.reduceAdd, Nat.reduceBEq, Bool.or_false, Bool.false_or, Bool.or_true, Bool.true_or, Bool.false_eq_true, false_implies, true_implies, true_and, and_true, forall_const]; intros; go_simp; rfl)
  iterate 4 (refine Og.Joint2.step_pureP (fun p vs v w h => h.other (by decide)) (fun _ => trivial) ?_; apply Exists.intro; refine And.intro ?_ ?_; focus (intro p vs w2 hp hC hk; refine Og.OptB.mk ?_; revert hk; simp only [Og.KS, Og.K0, Og.Is, List.getD_cons_zero, List.getD_cons_succ, List.getD_nil, List.contains_cons, List.contains_nil, Nat.reduceAdd, Nat.reduceBEq, Bool.or_false, Bool.false_or, Bool.or_true, Bool.true_or, Bool.false_eq_true, false_implies, true_implies, true_and, and_true, forall_const]; intros; go_simp; rfl))
  refine Og.Joint2.step_pureP (fun p vs v w h => h.other (by decide)) (fun _ => trivial) ?_; apply Exists.intro; refine And.intro ?_ ?_; focus (intro p vs w2 hp hC hk; obtain rfl := hC.at_ (by decide) hp; refine Og.OptB.mk ?_; revert hk; simp only [Og.KS, Og.K0, Og.Is, List.getD_cons_zero, List.getD_cons_succ, List.getD_nil, List.contains_cons, List.contains_nil, Nat.reduceAdd, Nat.reduceBEq, Bool.or_false, Bool.false_or, Bool.or_true, Bool.true_or, Bool.false_eq_true, false_implies, true_implies, true_and, and_true, forall_const]; intros; go_simp; rfl)
  iterate 4 (refine Og.Joint2.step_pureP (fun p vs v w h => h.other (by decide)) (fun _ => trivial) ?_; apply Exists.intro; refine And.intro ?_ ?_; focus (intro p vs w2 hp hC hk; refine Og.OptB.mk ?_; revert hk; simp only [Og.KS, Og.K0, Og.Is, List.getD_cons_zero, List.getD_cons_succ, List.getD_nil, List.contains_cons, List.contains_nil, Nat.reduceAdd, Nat.reduceBEq, Bool.or_false, Bool.false_or, Bool.or_true, Bool.true_or, Bool.false_eq_true, false_implies, true_implies, true_and, and_true, forall_const]; intros; go_simp; rfl))
  refine Og.Joint2.step_pureP (fun p vs v w h => h.other (by decide)) (fun _ => trivial) ?_; apply Exists.intro; refine And.intro ?_ ?_; focus (intro p vs w2 hp hC hk; obtain rfl := hC.at_ (by decide) hp; refine Og.OptB.mk ?_; revert hk; simp only [Og.KS, Og.K0, Og.Is, List.getD_cons_zero, List.getD_cons_succ, List.getD_nil, List.contains_cons, List.contains_nil, Nat.reduceAdd, Nat.reduceBEq, Bool.or_false, Bool.false_or, Bool.or_true, Bool.true_or, Bool.false_eq_true, false_implies, true_implies, true_and, and_true, forall_const]; intros; go_simp; rfl)
  iterate 2 (refine Og.Joint2.step_pureP (fun p vs v w h => h.other (by decide)) (fun _ => trivial) ?_; apply Exists.intro; refine And.intro ?_ ?_; focus (intro p vs w2 hp hC hk; refine Og.OptB.mk ?_; revert hk; simp only [Og.KS, Og.K0, Og.Is, List.getD_cons_zero, List.getD_cons_succ, List.getD_nil, List.contains_cons, List.contains_nil, Nat.reduceAdd, Nat.reduceBEq, Bool.or_false, Bool.false_or, Bool.or_true, Bool.true_or, Bool.false_eq_true, false_implies, true_implies, true_and, and_true, forall_const]; intros; go_simp; rfl))
  refine Og.Joint2.step_pureP (fun p vs v w h => h.other (by decide)) (fun _ => trivial) ?_; apply Exists.intro; refine And.intro ?_ ?_; focus (intro p vs w2 hp hC hk; obtain rfl := hC.at_ (by decide) hp; revert hk; simp only [Og.KS, Og.K0, Og.Is, List.getD_cons_zero, List.getD_cons_succ, List.getD_nil, List.contains_cons, List.contains_nil, Nat.reduceAdd, Nat.reduceBEq, Bool.or_false, Bool.false_or, Bool.or_true, Bool.true_or, Bool.false_eq_true, false_implies, true_implies, true_and, and_true, forall_const]; intros; exact optB_loadL (by go_simp) rfl (by go_simp) m2 ⟨rfl, rfl⟩)
  iterate 3 (refine Og.Joint2.step_pureP (fun p vs v w h => h.other (by decide)) (fun _ => trivial) ?_; apply Exists.intro; refine And.intro ?_ ?_; focus (intro p vs w2 hp hC hk; refine Og.OptB.mk ?_; revert hk; simp only [Og.KS, Og.K0, Og.Is, List.getD_cons_zero, List.getD_cons_succ, List.getD_nil, List.contains_cons, List.contains_nil, Nat.reduceAdd, Nat.reduceBEq, Bool.or_false, Bool.false_or, Bool.or_true, Bool.true_or, Bool.false_eq_true, false_implies, true_implies, true_and, and_true, forall_const]; intros; go_simp; rfl))
  refine Og.Joint2.step_pureP (fun p vs v w h => h.other (by decide)) (fun _ => trivial) ?_; apply Exists.intro; refine And.intro ?_ ?_; focus (intro p vs w2 hp hC hk; obtain rfl := hC.at_ (by decide) hp; refine Og.OptB.mk ?_; revert hk; simp only [Og.KS, Og.K0, Og.Is, List.getD_cons_zero, List.getD_cons_succ, List.getD_nil, List.contains_cons, List.contains_nil, Nat.reduceAdd, Nat.reduceBEq, Bool.or_false, Bool.false_or, Bool.or_true, Bool.true_or, Bool.false_eq_true, false_implies, true_implies, true_and, and_true, forall_const]; intros; go_simp; rfl)
  iterate 2 (refine Og.Joint2.step_pureP (fun p vs v w h => h.other (by decide)) (fun _ => trivial) ?_; apply Exists.intro; refine And.intro ?_ ?_; focus (intro p vs w2 hp hC hk; refine Og.OptB.mk ?_; revert hk; simp only [Og.KS, Og.K0, Og.Is, List.getD_cons_zero, List.getD_cons_succ, List.getD_nil, List.contains_cons, List.contains_nil, Nat.reduceAdd, Nat.reduceBEq, Bool.or_false, Bool.false_or, Bool.or_true, Bool.true_or, Bool.false_eq_true, false_implies, true_implies, true_and, and_true, forall_const]; intros; go_simp; rfl))
  refine Og.Joint2.step_pureP (fun p vs v w h => h.other (by decide)) (fun _ => trivial) ?_; apply Exists.intro; refine And.intro ?_ ?_; focus (intro p vs w2 hp hC hk; obtain rfl := hC.at_ (by decide) hp; revert hk; simp only [Og.KS, Og.K0, Og.Is, List.getD_cons_zero, List.getD_cons_succ, List.getD_nil, List.contains_cons, List.contains_nil, Nat.reduceAdd, Nat.reduceBEq, Bool.or_false, Bool.false_or, Bool.or_true, Bool.true_or, Bool.false_eq_true, false_implies, true_implies, true_and, and_true, forall_const]; intros; exact optB_loadL (by go_simp) rfl (by go_simp) m1 ⟨rfl, rfl⟩)
  refine Og.Joint2.step_pureP (fun p vs v w h => h.other (by decide)) (fun _ => trivial) ?_; apply Exists.intro; refine And.intro ?_ ?_; focus (intro p vs w2 hp hC hk; refine Og.OptB.mk ?_; revert hk; simp only [Og.KS, Og.K0, Og.Is, List.getD_cons_zero, List.getD_cons_succ, List.getD_nil, List.contains_cons, List.contains_nil, Nat.reduceAdd, Nat.reduceBEq, Bool.or_false, Bool.false_or, Bool.or_true, Bool.true_or, Bool.false_eq_true, false_implies, true_implies, true_and, and_true, forall_const]; intros; go_simp; rfl)
  refine Og.Joint2.step_any (fun _ _ => True) (fun _ _ _ _ _ => trivial) ?_ ?_; focus (intro p vs w2 hp hC hk; obtain rfl := hC.now hp.1; have hdn : ∀ j ∈ [3,8,13,16,20,23], p j = true := (by intro j hj; exact hp.2 j (by revert hj; revert j; decide)); revert hk; simp only [Og.KS, Og.K0, Og.Is, List.getD_cons_zero, List.getD_cons_succ, List.getD_nil, List.contains_cons, List.contains_nil, Nat.reduceAdd, Nat.reduceBEq, Bool.or_false, Bool.false_or, Bool.or_true, Bool.true_or, Bool.false_eq_true, false_implies, true_implies, true_and, and_true, forall_const]; intros; refine optB_storeR (by go_simp) rfl (by go_simp) (by go_simp) R1.out (CX.done hdn))
  intro p vs w5 hp hC hk
  obtain rfl := hC.fin (hp 25 (by decide))
  simp only [Og.KS, Og.K0, Og.Is, List.getD_cons_zero, List.getD_cons_succ, List.getD_nil, List.contains_cons, List.contains_nil, Nat.reduceAdd, Nat.reduceBEq, Bool.or_false, Bool.false_or, Bool.or_true, Bool.true_or, Bool.false_eq_true, false_implies, true_implies, true_and, and_true, forall_const] at hk
  simp only [hk, Act.put, List.setIfInBounds_toArray, List.set_cons_zero, List.set_cons_succ]
  clear hk hp hC m0 m1 m2
  go_wp2_with (refine wpList_storeR (ty := 132) (x := .tmp 31) (y := .tmp 29) rfl rfl rfl (by go_simp) (by go_simp) R2.out ?_)
  refine Og.Joint2.walk_lit 28 [[],[],[1],[2,1],[3,2,1],[],[4,5,3,2,1],[6,4,5,3,2,1],[7,6,4,5,3,2,1],[],[],[10],[11,10],[12,11,10],[],[13,14,12,11,10],[15,13,14,12,11,10],[16,15,13,14,12,11,10],[],[18],[],[20],[0],[22,0],[23,8,0,1,2,3,4,5,6,7,13,17,18,19,22,12,11,10,16,15,14],[24,19,0,1,2,3,4,5,6,7,8,13,17,18,23,22,12,11,10,16,15,14],[9],[26,9],[27,17,0,1,2,3,4,5,6,7,8,9,10,11,12,13,14,15,16,18,19,20,21,22,23,24,25,26],[28,21,25,0,1,2,3,4,5,6,7,8,9,10,11,12,13,14,15,16,17,18,19,20,22,23,24,27,26]] (CX w2.drew w3 25 [4,8,13,17]) (fun _ _ => True) (by kernel_rfl) (by kernel_rfl) (by kernel_rfl) (fun vs => CX.ini) ?_
  simp only [List.take_succ_cons, List.take_zero, List.drop_succ_cons, List.drop_zero]
  iterate 4 (refine Og.Joint2.step_pureP (fun p vs v w h => h.other (by decide)) (fun _ => trivial) ?_; apply Exists.intro; refine And.intro ?_ ?_; focus (intro p vs w2 hp hC hk; refine Og.OptB.mk ?_; revert hk; simp only [Og.KS, Og.K0, Og.Is, List.getD_cons_zero, List.getD_cons_succ, List.getD_nil, List.contains_cons, List.contains_nil, Nat.reduceAdd, Nat.reduceBEq, Bool.or_false, Bool.false_or, Bool.or_true, Bool.true_or, Bool.false_eq_true, false_implies, true_implies, true_and, and_true, forall_const]; intros; go_simp; rfl))
  refine Og.Joint2.step_pureP (fun p vs v w h => h.other (by decide)) (fun _ => trivial) ?_; apply Exists.intro; refine And.intro ?_ ?_; focus (intro p vs w2 hp hC hk; obtain rfl := hC.at_ (by decide) hp; refine Og.OptB.mk ?_; revert hk; simp only [Og.KS, Og.K0, Og.Is, List.getD_cons_zero, List.getD_cons_succ, List.getD_nil, List.contains_cons, List.contains_nil, Nat.reduceAdd, Nat.reduceBEq, Bool.or_false, Bool.false_or, Bool.or_true, Bool.true_or, Bool.false_eq_true, false_implies, true_implies, true_and, and_true, forall_const]; intros; go_simp; rfl)
  iterate 3 (refine Og.Joint2.step_pureP (fun p vs v w h => h.other (by decide)) (fun _ => trivial) ?_; apply Exists.intro; refine And.intro ?_ ?_; focus (intro p vs w2 hp hC hk; refine Og.OptB.mk ?_; revert hk; simp only [Og.KS, Og.K0, Og.Is, List.getD_cons_zero, List.getD_cons_succ, List.getD_nil, List.contains_cons, List.contains_nil, Nat.reduceAdd, Nat.reduceBEq, Bool.or_false, Bool.false_or, Bool.or_true, Bool.true_or, Bool.false_eq_true, false_implies, true_implies, true_and, and_true, forall_const]; intros; go_simp; rfl))
  refine Og.Joint2.step_pureP (fun p vs v w h => h.other (by decide)) (fun _ => trivial) ?_; apply Exists.intro; refine And.intro ?_ ?_; focus (intro p vs w2 hp hC hk; obtain rfl := hC.at_ (by decide) hp; refine Og.OptB.mk ?_; revert hk; simp only [Og.KS, Og.K0, Og.Is, List.getD_cons_zero, List.getD_cons_succ, List.getD_nil, List.contains_cons, List.contains_nil, Nat.reduceAdd, Nat.reduceBEq, Bool.or_false, Bool.false_or, Bool.or_true, Bool.true_or, Bool.false_eq_true, false_implies, true_implies, true_and, and_true, forall_const]; intros; go_simp; rfl)
  iterate 4 (refine Og.Joint2.step_pureP (fun p vs v w h => h.other (by decide)) (fun _ => trivial) ?_; apply Exists.intro; refine And.intro ?_ ?_; focus (intro p vs w2 hp hC hk; refine Og.OptB.mk ?_; revert hk; simp only [Og.KS, Og.K0, Og.Is, List.getD_cons_zero, List.getD_cons_succ, List.getD_nil, List.contains_cons, List.contains_nil, Nat.reduceAdd, Nat.reduceBEq, Bool.or_false, Bool.false_or, Bool.or_true, Bool.true_or, Bool.false_eq_true, false_implies, true_implies, true_and, and_true, forall_const]; intros; go_simp; rfl))
  refine Og.Joint2.step_pureP (fun p vs v w h => h.other (by decide)) (fun _ => trivial) ?_; apply Exists.intro; refine And.intro ?_ ?_; focus (intro p vs w2 hp hC hk; obtain rfl := hC.at_ (by decide) hp; refine Og.OptB.mk ?_; revert hk; simp only [Og.KS, Og.K0, Og.Is, List.getD_cons_zero, List.getD_cons_succ, List.getD_nil, List.contains_cons, List.contains_nil, Nat.reduceAdd, Nat.reduceBEq, Bool.or_false, Bool.false_or, Bool.or_true, Bool.true_or, Bool.false_eq_true, false_implies, true_implies, true_and, and_true, forall_const]; intros; go_simp; rfl)
  iterate 3 (refine Og.Joint2.step_pureP (fun p vs v w h => h.other (by decide)) (fun _ => trivial) ?_; apply Exists.intro; refine And.intro ?_ ?_; focus (intro p vs w2 hp hC hk; refine Og.OptB.mk ?_; revert hk; simp only [Og.KS, Og.K0, Og.Is, List.getD_cons_zero, List.getD_cons_succ, List.getD_nil, List.contains_cons, List.contains_nil, Nat.reduceAdd, Nat.reduceBEq, Bool.or_false, Bool.false_or, Bool.or_true, Bool.true_or, Bool.false_eq_true, false_implies, true_implies, true_and, and_true, forall_const]; intros; go_simp; rfl))
  refine Og.Joint2.step_pureP (fun p vs v w h => h.other (by decide)) (fun _ => trivial) ?_; apply Exists.intro; refine And.intro ?_ ?_; focus (intro p vs w2 hp hC hk; obtain rfl := hC.at_ (by decide) hp; refine Og.OptB.mk ?_; revert hk; simp only [Og.KS, Og.K0, Og.Is, List.getD_cons_zero, List.getD_cons_succ, List.getD_nil, List.contains_cons, List.contains_nil, Nat.reduceAdd, Nat.reduceBEq, Bool.or_false, Bool.false_or, Bool.or_true, Bool.true_or, Bool.false_eq_true, false_implies, true_implies, true_and, and_true, forall_const]; intros; go_simp; rfl)
  iterate 7 (refine Og.Joint2.step_pureP (fun p vs v w h => h.other (by decide)) (fun _ => trivial) ?_; apply Exists.intro; refine And.intro ?_ ?_; focus (intro p vs w2 hp hC hk; refine Og.OptB.mk ?_; revert hk; simp only [Og.KS, Og.K0, Og.Is, List.getD_cons_zero, List.getD_cons_succ, List.getD_nil, List.contains_cons, List.contains_nil, Nat.reduceAdd, Nat.reduceBEq, Bool.or_false, Bool.false_or, Bool.or_true, Bool.true_or, Bool.false_eq_true, false_implies, true_implies, true_and, and_true, forall_const]; intros; go_simp; rfl))
  refine Og.Joint2.step_any (fun _ _ => True) (fun _ _ _ _ _ => trivial) ?_ ?_; focus (intro p vs w2 hp hC hk; obtain rfl := hC.now hp.1; have hdn : ∀ j ∈ [4,8,13,17], p j = true := (by intro j hj; exact hp.2 j (by revert hj; revert j; decide)); revert hk; simp only [Og.KS, Og.K0, Og.Is, List.getD_cons_zero, List.getD_cons_succ, List.getD_nil, List.contains_cons, List.contains_nil, Nat.reduceAdd, Nat.reduceBEq, Bool.or_false, Bool.false_or, Bool.or_true, Bool.true_or, Bool.false_eq_true, false_implies, true_implies, true_and, and_true, forall_const]; intros; refine optB_storeR (by go_simp) rfl (by go_simp) (by go_simp) R3.out (CX.done hdn))
  iterate 2 (refine Og.Joint2.step_pureP (fun p vs v w h => h.other (by decide)) (fun _ => trivial) ?_; apply Exists.intro; refine And.intro ?_ ?_; focus (intro p vs w2 hp hC hk; refine Og.OptB.mk ?_; revert hk; simp only [Og.KS, Og.K0, Og.Is, List.getD_cons_zero, List.getD_cons_succ, List.getD_nil, List.contains_cons, List.contains_nil, Nat.reduceAdd, Nat.reduceBEq, Bool.or_false, Bool.false_or, Bool.or_true, Bool.true_or, Bool.false_eq_true, false_implies, true_implies, true_and, and_true, forall_const]; intros; go_simp; rfl))
  intro p vs w5 hp hC hk
  obtain rfl := hC.fin (hp 25 (by decide))
  simp only [Og.KS, Og.K0, Og.Is, List.getD_cons_zero, List.getD_cons_succ, List.getD_nil, List.contains_cons, List.contains_nil, Nat.reduceAdd, Nat.reduceBEq, Bool.or_false, Bool.false_or, Bool.or_true, Bool.true_or, Bool.false_eq_true, false_implies, true_implies, true_and, and_true, forall_const] at hk
  simp only [hk, Act.put, List.setIfInBounds_toArray, List.set_cons_zero, List.set_cons_succ]
  clear hk hp hC p0 p1 p2
  go_wp2_with (refine wpList_storeR (ty := 3) (x := .tmp 59) (y := .tmp 53) rfl rfl rfl (by go_simp) (by go_simp) R4.out ?_)
  go_end0
  rw [HN.out]
  exact ⟨rfl, FIN.out⟩

end Go.Proofs.YtjbglifmppilfaaDoor
