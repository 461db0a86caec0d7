/- The iterator that delta.All hands back: every change between two tables, in their order; conditions: the routes fit the memory. -/
import Derived.Test.YtpnhkniegjfncaaD10
import Derived.Test.YtpnhkniegjfncaaOgIn
import Derived.RangeFuncNested
import Derived.RangeFuncBound
import Derived.RangeFuncCalls
import Derived.RangeFuncLeaves
import Derived.Shelf.Abstract
import Derived.Shelf.RegionOpen
import Derived.WalkKit
import Derived.OwnWalkIn
import Derived.TacticsInMore
import Derived.LoopNIn
import Derived.LoopIn
namespace Go.Proofs.Ytpnhkniegjfncaa
open Go.ChangeShapes Go.WideShapes Go.ChangeAt Go.RowKit
set_option linter.unusedVariables false
set_option linter.unusedSimpArgs false
attribute [local go_sem] Og.Opt Og.OpY Oper.semAt_some
attribute [local go_sem high] eqB1 eqP1 eqR1 eqC1

/-- the changes from one table to another, in their order, those that change nothing too -/
def mrg : List Ro → List Ro → List Ch
  | [], [] => []
  | x :: a, [] => ⟨2, x, zR⟩ :: mrg a []
  | [], y :: b => ⟨1, zR, y⟩ :: mrg [] b
  | x :: a, y :: b => if befP x.p y.p then ⟨2, x, zR⟩ :: mrg a (y :: b) else if befP y.p x.p then ⟨1, zR, y⟩ :: mrg (x :: a) b else ⟨3, x, y⟩ :: mrg a b
termination_by a b => a.length + b.length
def keepC (c : Ch) : Bool := !decide (c.o = c.n)
/-- the changes from one table to another -/
def mrgK (a b : List Ro) : List Ch := (mrg a b).filter keepC
def lenS : Value → Nat
  | .slice _ n _ => n
  | _ => 0
/-- the slice v reads as xs, from blocks below n0 -/
def SlAt (n₀ : Nat) (w : World) (v : Value) (xs : List Ro) : Prop := ∃ A c, v = .slice A xs.length c ∧ RdR w A xs ∧ (∀ a, A = some a → xs ≠ [] → a.block < n₀) ∧ xs.length ≤ c
theorem SlAt.below {n₀ : Nat} {w w' : World} {v : Value} {xs : List Ro} (h : SlAt n₀ w v xs) (hb : Below n₀ w w') : SlAt n₀ w' v xs := by
  obtain ⟨A, c, hv, hr, h1, h2⟩ := h
  refine ⟨A, c, hv, fun i r hi => ?_, h1, h2⟩
  obtain ⟨b, o, hA, ha⟩ := hr i r hi
  have hbk : b < n₀ := h1 _ hA (fun h0 => by rw [h0] at hi; simp at hi)
  obtain ⟨a0, a1, a2, a3, a4, a5, a6⟩ := ha
  exact ⟨b, o, hA, (hb.cell hbk).trans a0, (hb.cell hbk).trans a1, (hb.cell hbk).trans a2, (hb.cell hbk).trans a3, (hb.cell hbk).trans a4, (hb.cell hbk).trans a5, (hb.cell hbk).trans a6⟩
/-- .. and behind its first -/
theorem SlAt.tail {n₀ : Nat} {w : World} {b o c c2 : Nat} {x : Ro} {a : List Ro} {A : Option Addr} (hc2 : c2 = c - 1) (h : SlAt n₀ w (.slice (some ⟨b, o, none⟩) (a.length + 1) c) (x :: a)) (hA : c ≠ 1 → A = some ⟨b, o + 7, none⟩) (hA1 : c = 1 → A = some ⟨b, o, none⟩) : SlAt n₀ w (.slice A a.length c2) a := by
  subst hc2
  obtain ⟨A0, c0, hv, hr, h1, h2⟩ := h
  cases hv
  rw [List.length_cons] at h2
  refine ⟨A, c - 1, rfl, fun i r hi => ?_, fun ad had _ => ?_, by omega⟩
  · have hi' := (List.getElem?_eq_some_iff.1 hi).1
    obtain ⟨b1, o1, he, ha⟩ := hr (i + 1) r (by simpa using hi)
    cases he
    refine ⟨_, _, hA (by omega), ?_⟩
    rwa [show o + 7 + i * 7 = o + (i + 1) * 7 by omega]
  · by_cases hc : c = 1
    · rw [hA1 hc] at had
      exact h1 _ had (by simp)
    · rw [hA hc] at had
      cases had
      exact h1 ⟨b, o, none⟩ rfl (by simp)
theorem abides_below {n₀ : Nat} {J : List Ch → World → Prop} (h : AbidesFrom n₀ J) {s : List Ch} {w w' : World} (hJ : J s w) (hb : Below w.heap.size w w') : J s w' :=
  h s w w' none hJ (below_grown hb) (fun r e => by cases e)

theorem z15_of {wr W1 w2 : World} (h : Below W1.heap.size W1 w2) (hW : W1 = wr.alloc (Obj.cells #[.int .i64 0, .int .u32 0, .int .i64 0, .int .i64 0, .int .u64 0, .int .u64 0, .int .u64 0, .int .u64 0, .int .u32 0, .int .i64 0, .int .i64 0, .int .u64 0, .int .u64 0, .int .u64 0, .int .u64 0] 42)) : w2.heap[wr.heap.size]? = some (Obj.cells #[.int .i64 0, .int .u32 0, .int .i64 0, .int .i64 0, .int .u64 0, .int .u64 0, .int .u64 0, .int .u64 0, .int .u32 0, .int .i64 0, .int .i64 0, .int .u64 0, .int .u64 0, .int .u64 0, .int .u64 0] 42) := by
  rw [h.block _ (by rw [hW]; simp), hW]
  exact heap_alloc_new wr _
theorem info42s : (Try.prog.info? 42).map (·.size) = some 15 := by kernel_rfl
theorem cells15 {w : World} {B : Nat} {t : TypeId} {v0 v1 v2 v3 v4 v5 v6 v7 v8 v9 v10 v11 v12 v13 v14 : Value} (h : w.heap[B]? = some (.cells #[v0, v1, v2, v3, v4, v5, v6, v7, v8, v9, v10, v11, v12, v13, v14] t (0, 0))) : w.cell? ⟨B, 0, none⟩ = some (v0) ∧ w.cell? ⟨B, 1, none⟩ = some (v1) ∧ w.cell? ⟨B, 2, none⟩ = some (v2) ∧ w.cell? ⟨B, 3, none⟩ = some (v3) ∧ w.cell? ⟨B, 4, none⟩ = some (v4) ∧ w.cell? ⟨B, 5, none⟩ = some (v5) ∧ w.cell? ⟨B, 6, none⟩ = some (v6) ∧ w.cell? ⟨B, 7, none⟩ = some (v7) ∧ w.cell? ⟨B, 8, none⟩ = some (v8) ∧ w.cell? ⟨B, 9, none⟩ = some (v9) ∧ w.cell? ⟨B, 10, none⟩ = some (v10) ∧ w.cell? ⟨B, 11, none⟩ = some (v11) ∧ w.cell? ⟨B, 12, none⟩ = some (v12) ∧ w.cell? ⟨B, 13, none⟩ = some (v13) ∧ w.cell? ⟨B, 14, none⟩ = some (v14) := by
  simp [World.cell?, h]
/-- a change is laid into a block of the call's own -/
theorem wpListIn_store_new {F : Fence} {n : Nat} {P : Program} {ops : Array Oper} {rest : List Oper} {o : Oper} {a : Act} {w : World} {Q : Exit → Act → World → Prop} (hgd : o.guard = none) (ty : TypeId) (x y : Operand) (ho : o.op = .store ty x y) (hd : o.dst = none)
    (g : Nat) (cells : Array Value) (hx : a.eval x = .pointer (some ⟨g, 0, none⟩)) (hy : a.eval y = .agg cells)
    (t : TypeId) (old : Array Value) (hg : w.heap[g]? = some (.cells old t (0, 0))) (hi : (P.info? ty).map (·.size) = some cells.size)
    (hold : old.size = cells.size) (h1 : cells.all (·.oneCell') = true) (B : Nat) (hB : B ≤ g)
    (h : ∀ w3, w3.heap[g]? = some (.cells cells t (0, 0)) → Below B w w3 → wpListIn F n P ops Q rest a w3) : wpListIn F n P ops Q (o :: rest) a w := by
  refine wpListIn_plain hgd fun K hK => ?_
  unfold Oper.wpIn
  refine ⟨fun f hf => by simp [Oper.about, ho] at hf, ?_⟩
  rw [Oper.semAt_plain F _ _ (by rw [ho]; intro c hc'; cases hc')]
  simp only [execOp, ho, hx, hy, Instr.storeAt, Instr.sureAddr, Sem.run_bind, Sem.run_pure, Result.andThen_ok, run_storeVar_row w g t ty old cells hg hi hold h1]
  have e : a.put o.dst undef = a := by rw [hd]; rfl
  refine hK _ _ ?_
  rw [e]
  exact h _ (setRow_heap w g old cells t (0, 0) hg) ⟨rfl, rfl, rfl, by simp [World.setRow], fun k hk => setRow_other w g k _ (by omega)⟩

/-- .. in a region that draws -/
theorem opt_store {P : Program} {ops : Array Oper} {o : Oper} {a : Act} {w : World} {R : Value → World → Prop} (hgd : o.guard = none) (ty : TypeId) (x y : Operand) (ho : o.op = .store ty x y)
    (g : Nat) (cells : Array Value) (hx : a.eval x = .pointer (some ⟨g, 0, none⟩)) (hy : a.eval y = .agg cells)
    (t : TypeId) (old : Array Value) (hg : w.heap[g]? = some (.cells old t (0, 0))) (hi : (P.info? ty).map (·.size) = some cells.size)
    (hold : old.size = cells.size) (h1 : cells.all (·.oneCell') = true) (B : Nat) (hB : B ≤ g)
    (h : ∀ w3, w3.heap[g]? = some (.cells cells t (0, 0)) → Below B w w3 → R undef w3) : Og.Opt P ops o a w R := by
  unfold Og.Opt
  rw [if_pos (by simp [Region.wanted, hgd])]
  unfold Og.OpY
  simp only [execOp, ho, hx, hy, Instr.storeAt, Instr.sureAddr, Sem.run_bind, Sem.run_pure, Result.andThen_ok, run_storeVar_row w g t ty old cells hg hi hold h1]
  exact h _ (setRow_heap w g old cells t (0, 0) hg) ⟨rfl, rfl, rfl, by simp [World.setRow], fun k hk => setRow_other w g k _ (by omega)⟩

/-- the cells from a place on hold these values -/
def AtL (w : World) (b o : Nat) (cs : List Value) : Prop := ∀ j v, cs[j]? = some v → w.cell? ⟨b, o + j, none⟩ = some v
theorem isAgg40i (w : World) : (isAgg 40).run Try.prog w = .ok true w := by kernel_rfl
theorem isAgg42i (w : World) : (isAgg 42).run Try.prog w = .ok true w := by kernel_rfl
theorem size40i (w : World) : (sizeOf 40).run Try.prog w = .ok 7 w := by kernel_rfl
theorem size42i (w : World) : (sizeOf 42).run Try.prog w = .ok 15 w := by kernel_rfl
theorem run_loadL {w : World} {b o n : Nat} {ty : TypeId} {cs : List Value} (hg : ∀ w, (isAgg ty).run Try.prog w = .ok true w) (hs : ∀ w, (sizeOf ty).run Try.prog w = .ok n w) (hn : cs.length = n) (h : AtL w b o cs) : (loadVar ty ⟨b, o, none⟩).run Try.prog w = .ok (.agg cs.toArray) w := by
  have hc := run_loadCells_list (P := Try.prog) w ⟨b, o, none⟩ cs (fun j v hv => by rw [Addr.add_lit]; exact h j v hv)
  rw [hn] at hc
  unfold loadVar
  simp only [Sem.run_bind, hg, Result.andThen_ok, if_true, hs, hc, Sem.run_pure]
theorem AtL_cells {w : World} {g : Nat} {t : TypeId} {cs : List Value} (h : w.heap[g]? = some (.cells cs.toArray t (0, 0))) : AtL w g 0 cs := fun j v hv => by
  rw [cell_of_row w g (0 + j) cs.toArray t (0, 0) h]
  simpa using hv
theorem AtL_sub {w : World} {g k n : Nat} {cs ds : List Value} (h : AtL w g 0 cs) (hd : (cs.drop k).take n = ds) : AtL w g k ds := fun j v hv => by
  subst hd
  rw [List.getElem?_take] at hv
  split at hv
  · rw [List.getElem?_drop] at hv
    have := h (k + j) v hv
    rwa [Nat.zero_add] at this
  · cases hv
/-- a load whose value is known -/
theorem wpListIn_loadW {F : Fence} {n : Nat} {P : Program} {ops : Array Oper} {rest : List Oper} {o : Oper} {a : Act} {w : World} {Q : Exit → Act → World → Prop} (hw : Region.wanted o (yielded ops a.tmps) = true) (ty : TypeId) (t : Operand) (ho : o.op = .load ty t) (b off : Nat) (v : Value) (ha : a.eval t = .pointer (some ⟨b, off, none⟩)) (hr : (loadVar ty ⟨b, off, none⟩).run P w = .ok v w)
    (k : wpListIn F n P ops Q rest (a.put o.dst v) w) : wpListIn F n P ops Q (o :: rest) a w := by
  refine wpListIn_step fun K hK => ?_
  rw [if_pos hw]
  unfold Oper.wpIn
  refine ⟨fun f hf => by simp [Oper.about, ho] at hf, ?_⟩
  rw [Oper.semAt_plain F _ _ (by rw [ho]; intro c hc'; cases hc')]
  simp only [execOp, ho, ha, Instr.loadAt, Instr.sureAddr, Sem.run_bind, Sem.run_pure, Result.andThen_ok, hr]
  exact hK _ _ k

set_option maxRecDepth 100000 in
set_option maxHeartbeats 8000000 in
theorem iter_in (n : Nat) (hn : 1 ≤ n) (l B B' n₀ : Nat) (xs ys : List Ro) (hl : xs.length ≤ 2513169434843) (hl' : ys.length ≤ 2513169434843) (J Jx : List Ch → World → Prop) (m₀ : Nat) (hJa : AbidesFrom m₀ J)
    (hY : ∀ pre x W, J pre W → pre.length < (mrgK xs ys).length → YieldAt Fence.wide (n - 1) Try.prog l #[.agg #[.int .i64 x.k, .int .u32 x.o.p.a, .int .i64 x.o.p.l, .int .i64 x.o.m, .int .u64 x.o.o0, .int .u64 x.o.o1, .int .u64 x.o.h0, .int .u64 x.o.h1, .int .u32 x.n.p.a, .int .i64 x.n.p.l, .int .i64 x.n.m, .int .u64 x.n.o0, .int .u64 x.n.o1, .int .u64 x.n.h0, .int .u64 x.n.h1]] W fun e W' =>
      (e = .returned (.bool true) ∧ J (pre ++ [x]) W' ∧ Below n₀ W W') ∨ (e = .returned (.bool false) ∧ Jx (pre ++ [x]) W'))
    (W : World) (hn₀ : n₀ ≤ W.heap.size) (v v' : Value) (hB : W.cell? ⟨B, 0, none⟩ = some v) (hB' : W.cell? ⟨B', 0, none⟩ = some v') (hs : SlAt n₀ W v xs) (hs' : SlAt n₀ W v' ys) (h0 : J [] W) :
    CallsIn Fence.wide n Try.prog 25 #[.func (.yield l) #[] #[], .pointer (some ⟨B, 0, none⟩), .pointer (some ⟨B', 0, none⟩)] W fun e W' => (∃ v, e = .returned v) ∧
      ((∃ zs, zs = mrgK xs ys ∧ J zs W') ∨ (∃ pre, pre <+: mrgK xs ys ∧ Jx pre W')) := by
  have HY := Lib.hid hY
  have HJA := Lib.hid hJa
  have HS := Lib.hid hs
  have HS' := Lib.hid hs'
  have HJ0 := Lib.hid h0
  have HN0 := Lib.hid hn₀
  have HL := Lib.hid (And.intro hl hl')
  clear hY hJa hs hs' h0 hn₀ hl hl'
  refine callsIn_of_wp Try.func25 rfl trivial ?_ rfl
  simp only [Try.ntmps25, List.size_toArray, List.length_cons, List.length_nil, Nat.reduceAdd, Nat.reduceSub, Array.replicate_succ, Array.replicate_zero, List.push_toArray, List.append_toArray, List.nil_append, List.cons_append]
  have HC : ∀ w2, Below W.heap.size W w2 → w2.cell? ⟨B, 0, none⟩ = some v ∧ w2.cell? ⟨B', 0, none⟩ = some v' := fun w2 h => ⟨bcell h hB, bcell h hB'⟩
  clear hB hB'
  obtain ⟨A, c, rfl, hs1⟩ := HS.out
  obtain ⟨A', c', rfl, hs1'⟩ := HS'.out
  clear hs1 hs1'
  gi_wp2_with fail
  refine Og.walkW_lit [[],[],[0],[1,2,0]] (fun w2 => Below W.heap.size W w2) (fun w1 w2 => Below w1.heap.size w1 w2) (by kernel_rfl) (by kernel_rfl) (by kernel_rfl) (bdrew) ?_
  repeat (first | (refine Og.step_pure (fun _ => Below.refl _ _) ?_; apply Exists.intro; refine And.intro ?_ ?_; focus (intro vs w2 hC hk; have hm := HC w2 hC; revert hk; simp only [Og.KS, Og.K0, Og.Is, List.getD_cons_zero, List.getD_cons_succ, List.getD_nil, List.contains_cons, List.contains_nil, Nat.reduceAdd, Nat.reduceBEq, Bool.or_false, Bool.false_or, Bool.or_true, Bool.true_or, Bool.false_eq_true, false_implies, true_implies, true_and, and_true, forall_const]; intros; go_simp; rfl)))
  intro vs w2 hC hk
  have hm := HC w2 hC
  simp only [Og.KS, Og.K0, Og.Is, List.getD_cons_zero, List.getD_cons_succ, List.getD_nil, List.contains_cons, List.contains_nil, Nat.reduceAdd, Nat.reduceBEq, Bool.or_false, Bool.false_or, Bool.or_true, Bool.true_or, Bool.false_eq_true, false_implies, true_implies, true_and, and_true, forall_const] at hk
  simp only [hk, Act.put, List.setIfInBounds_toArray, List.set_cons_zero, List.set_cons_succ]
  clear hk
  have HBW := Lib.hid hC
  clear hC hm HC
  gi_wp2_with fail
  gi_loopw [4, 5] (fun p q wr => ∃ (pre : List Ch) (a b : List Ro), Hid (SlAt n₀ wr p a) ∧ Hid (SlAt n₀ wr q b) ∧ Hid (pre ++ mrgK a b = mrgK xs ys) ∧ Hid (J pre wr) ∧ Hid (n₀ ≤ wr.heap.size) ∧ Hid (a.length ≤ 2513169434843 ∧ b.length ≤ 2513169434843)) (fun p q _ => lenS p + lenS q)
  case atStart => exact ⟨[], xs, ys, Lib.hid (HS.out.below (HBW.out.mono HN0.out)), Lib.hid (HS'.out.below (HBW.out.mono HN0.out)), Lib.hid rfl, Lib.hid (abides_below HJA.out HJ0.out HBW.out), Lib.hid (Nat.le_trans HN0.out HBW.out.size), HL⟩
  case round =>
    clear HS HS' HL HBW HJ0
    obtain ⟨pre, a, b, ha, hb, hpre, hJ, hn₀, hlen⟩ := hrel
    cases a with
    | nil =>
      cases b with
      | nil =>
        obtain ⟨A, c, rfl, hs1⟩ := ha.out
        obtain ⟨A', c', rfl, hs1'⟩ := hb.out
        clear hs1 hs1'
        gi_wp2_with fail
        go_end0
        exact ⟨⟨_, rfl⟩, .inl ⟨pre, by have := hpre.out; simpa [mrgK, mrg] using this, hJ.out⟩⟩
      | cons y b =>
        obtain ⟨A, c, rfl, hs1⟩ := ha.out
        clear hs1
        obtain ⟨A', c', rfl, hr, hlo, hc'⟩ := hb.out
        obtain ⟨bb', o', rfl, hat⟩ := hr 0 y rfl
        obtain ⟨nb, hnb⟩ : ∃ n, n = b.length := ⟨_, rfl⟩
        have HNB := Lib.hid hnb
        have hlnb : nb ≤ 2513169434843 := by have := hlen.out; simp only [List.length_cons] at this; omega
        have h0nb : ¬ ((nb : Int) + 1 = 0) := by omega
        have h1nb : (1 : Int) ≤ (nb : Int) + 1 := by omega
        have t0nb : ((nb : Int) + 1 == 0) = false := by simp; omega
        rw [List.length_cons, ← hnb] at hc' ⊢
        clear hr hlo hnb
        rw [Nat.zero_mul, Nat.add_zero] at hat
        obtain ⟨d0, d1, d2, d3, d4, d5, d6⟩ := hat
        gi_wp2_with fail
        obtain ⟨W1, hW⟩ : ∃ W1, W1 = wr.alloc (Obj.cells #[.int .i64 0, .int .u32 0, .int .i64 0, .int .i64 0, .int .u64 0, .int .u64 0, .int .u64 0, .int .u64 0, .int .u32 0, .int .i64 0, .int .i64 0, .int .u64 0, .int .u64 0, .int .u64 0, .int .u64 0] 42) := ⟨_, rfl⟩
        have hB1 : Below wr.heap.size wr W1 := by rw [hW]; exact (Below.refl _ _).alloc (Nat.le_refl _) _
        have HB1 := Lib.hid hB1
        have HZ := Lib.hid (fun w2 (h : Below W1.heap.size W1 w2) => z15_of h hW)
        have HX : ∀ w2, Below wr.heap.size wr w2 → (w2.cell? ⟨bb', o', none⟩ = some (.int .u32 y.p.a) ∧ w2.cell? ⟨bb', o' + 1, none⟩ = some (.int .i64 y.p.l) ∧ w2.cell? ⟨bb', o' + 2, none⟩ = some (.int .i64 y.m) ∧ w2.cell? ⟨bb', o' + 3, none⟩ = some (.int .u64 y.o0) ∧ w2.cell? ⟨bb', o' + 4, none⟩ = some (.int .u64 y.o1) ∧ w2.cell? ⟨bb', o' + 5, none⟩ = some (.int .u64 y.h0) ∧ w2.cell? ⟨bb', o' + 6, none⟩ = some (.int .u64 y.h1)) :=
          fun w2 h => ⟨bcell h d0, bcell h d1, bcell h d2, bcell h d3, bcell h d4, bcell h d5, bcell h d6⟩
        have HC := fun w2 (h : Below W1.heap.size W1 w2) => HX w2 (bthen' HB1.out HB1.out.size h)
        rw [← hW]
        clear hW hB1 d0 d1 d2 d3 d4 d5 d6
        have HB := Lib.hid (Below.refl W1.heap.size W1)
        refine Og.walkW_lit [[],[0],[1,0],[2,1,0],[3,2,1,0],[4,3,2,1,0],[5,3,4,2,1,0],[6,3,5,4,2,1,0],[7,6,3,5,4,2,1,0],[8,7,6,3,5,4,2,1,0],[9,7,8,6,3,5,4,2,1,0],[10,7,9,8,6,3,5,4,2,1,0],[7,6,3,5,4,2,1,0],[12,7,6,3,5,4,2,1,0],[13,7,12,6,3,5,4,2,1,0],[14,7,13,12,6,3,5,4,2,1,0],[11,15,7,10,9,8,6,3,5,4,2,1,0,14,13,12],[7,16,3,6,5,4,2,1,0,11,15,10,9,8,14,13,12],[3,17,2,1,0,7,16,6,5,4,11,15,10,9,8,14,13,12],[18,16,3,17,2,1,0,7,6,5,4,11,15,10,9,8,14,13,12]] (fun w2 => Below W1.heap.size W1 w2) (fun w1 w2 => Below w1.heap.size w1 w2) (by kernel_rfl) (by kernel_rfl) (by kernel_rfl) (bdrew) ?_
        repeat (first | (refine Og.step_pure (fun _ => Below.refl _ _) ?_; apply Exists.intro; refine And.intro ?_ ?_; focus (intro vs w2 hC hk; have hm := HC w2 hC; revert hk; simp only [Og.KS, Og.K0, Og.Is, List.getD_cons_zero, List.getD_cons_succ, List.getD_nil, List.contains_cons, List.contains_nil, Nat.reduceAdd, Nat.reduceBEq, Bool.or_false, Bool.false_or, Bool.or_true, Bool.true_or, Bool.false_eq_true, false_implies, true_implies, true_and, and_true, forall_const]; intros; go_simp; rfl)))
        intro vs wq1 hC hk
        have hm := HC wq1 hC
        simp only [Og.KS, Og.K0, Og.Is, List.getD_cons_zero, List.getD_cons_succ, List.getD_nil, List.contains_cons, List.contains_nil, Nat.reduceAdd, Nat.reduceBEq, Bool.or_false, Bool.false_or, Bool.or_true, Bool.true_or, Bool.false_eq_true, false_implies, true_implies, true_and, and_true, forall_const] at hk
        simp only [hk, Act.put, List.setIfInBounds_toArray, List.set_cons_zero, List.set_cons_succ]
        clear hk
        have HQ1 := Lib.hid (bthen HB.out hC)
        clear hC
        clear hm
        have HC2 := fun w2 (h : Below wq1.heap.size wq1 w2) => HC w2 (bthen HQ1.out h)
        gi_wp2_with fail
        refine Og.walkW_lit [[],[0],[1,0],[2,1,0],[3,2,1,0],[4,3,2,1,0],[5,3,4,2,1,0],[6,3,5,4,2,1,0],[3,2,1,0],[8,3,2,1,0],[9,3,8,2,1,0],[10,3,9,8,2,1,0],[7,11,3,6,5,4,2,1,0,10,9,8],[3,12,2,1,0,7,11,6,5,4,10,9,8],[13,12,3,2,1,0,7,11,6,5,4,10,9,8]] (fun w2 => Below wq1.heap.size wq1 w2) (fun w1 w2 => Below w1.heap.size w1 w2) (by kernel_rfl) (by kernel_rfl) (by kernel_rfl) (bdrew) ?_
        repeat (first | (refine Og.step_pure (fun _ => Below.refl _ _) ?_; apply Exists.intro; refine And.intro ?_ ?_; focus (intro vs w2 hC hk; have hm := HC2 w2 hC; revert hk; simp only [Og.KS, Og.K0, Og.Is, List.getD_cons_zero, List.getD_cons_succ, List.getD_nil, List.contains_cons, List.contains_nil, Nat.reduceAdd, Nat.reduceBEq, Bool.or_false, Bool.false_or, Bool.or_true, Bool.true_or, Bool.false_eq_true, false_implies, true_implies, true_and, and_true, forall_const]; intros; go_simp; rfl)))
        intro vs wq2 hC hk
        have hm := HC2 wq2 hC
        simp only [Og.KS, Og.K0, Og.Is, List.getD_cons_zero, List.getD_cons_succ, List.getD_nil, List.contains_cons, List.contains_nil, Nat.reduceAdd, Nat.reduceBEq, Bool.or_false, Bool.false_or, Bool.or_true, Bool.true_or, Bool.false_eq_true, false_implies, true_implies, true_and, and_true, forall_const] at hk
        simp only [hk, Act.put, List.setIfInBounds_toArray, List.set_cons_zero, List.set_cons_succ]
        clear hk
        have HQ2 := Lib.hid (bthen HQ1.out hC)
        clear hC
        have hbw := Lib.hid (bthen' HB1.out HB1.out.size HQ2.out)
        clear HC HX HC2
        by_cases hkz : zR = y
        · have te : eqRb 0 0 0 0 0 0 0 y.p.a y.p.l y.m y.o0 y.o1 y.h0 y.h1 = true := (eqRb_of zR y).trans (decide_eq_true hkz)
          have hkc : keepC ⟨1, zR, y⟩ = false := by simp [keepC, hkz]
          have HKC := Lib.hid hkc
          clear hkc hkz
          gi_wp2_with (first | (refine wpListIn_store_new rfl 42 (.tmp 6) (.tmp 72) rfl rfl wr.heap.size _ rfl rfl 42 _ (HZ.out _ HQ2.out) info42s rfl (by simp [Value.oneCell']) wr.heap.size (Nat.le_refl _) ?_; intro w3 hz3 hb3; have hm3 := AtL_cells (cs := [.int .i64 1, .int .u32 0, .int .i64 0, .int .i64 0, .int .u64 0, .int .u64 0, .int .u64 0, .int .u64 0, .int .u32 y.p.a, .int .i64 y.p.l, .int .i64 y.m, .int .u64 y.o0, .int .u64 y.o1, .int .u64 y.h0, .int .u64 y.h1]) hz3; have hmo := run_loadL isAgg40i size40i rfl (AtL_sub (k := 1) (n := 7) (ds := [.int .u32 0, .int .i64 0, .int .i64 0, .int .u64 0, .int .u64 0, .int .u64 0, .int .u64 0]) hm3 rfl); have hmn := run_loadL isAgg40i size40i rfl (AtL_sub (k := 8) (n := 7) (ds := [.int .u32 y.p.a, .int .i64 y.p.l, .int .i64 y.m, .int .u64 y.o0, .int .u64 y.o1, .int .u64 y.h0, .int .u64 y.h1]) hm3 rfl); have hmc := run_loadL isAgg42i size42i rfl hm3; clear hz3 hm hm3; have HMO := Lib.hid hmo; have HMN := Lib.hid hmn; have HMC := Lib.hid hmc; clear hmo hmn hmc; have HB3 := Lib.hid (hbw.out.trans hb3); clear hb3) | (refine wpListIn_loadW rfl 40 (.tmp 75) rfl wr.heap.size 1 _ rfl (HMO.out) ?_) | (refine wpListIn_loadW rfl 40 (.tmp 77) rfl wr.heap.size 8 _ rfl (HMN.out) ?_) | (refine wpListIn_loadW rfl 42 (.tmp 6) rfl wr.heap.size 0 _ rfl (HMC.out) ?_))
          all_goals
            refine ⟨fun _ h => (by cases h), ?_⟩
            gi_wp2_with fail
            have HBN := Lib.hid (HB3.out.mono hn₀.out)
            have HJ3 := Lib.hid (abides_below HJA.out hJ.out HB3.out)
            have HS3 := Lib.hid (Nat.le_trans hn₀.out HBN.out.size)
            go_roundw
            case rel => exact ⟨pre, [], b, Lib.hid (ha.out.below HBN.out), Lib.hid (by rw [HNB.out]; exact SlAt.tail (by omega) (hb.out.below HBN.out) (by intro hh; first | rfl | exact if_neg hh | exact if_pos hh | exact absurd (by assumption) hh | exact absurd hh (by assumption)) (by intro hh; first | rfl | exact if_neg hh | exact if_pos hh | exact absurd (by assumption) hh | exact absurd hh (by assumption))), Lib.hid (by rw [← hpre.out]; simp [mrgK, mrg, HKC.out]), HJ3, HS3, Lib.hid (by have := hlen.out; simp only [List.length_cons, List.length_nil] at this ⊢; omega)⟩
            case measure => (simp [lenS] <;> omega)
        · have te : eqRb 0 0 0 0 0 0 0 y.p.a y.p.l y.m y.o0 y.o1 y.h0 y.h1 = false := (eqRb_of zR y).trans (decide_eq_false hkz)
          have hkc : keepC ⟨1, zR, y⟩ = true := by simp [keepC, hkz]
          have HLEN := Lib.hid (show pre.length < (mrgK xs ys).length by rw [← hpre.out]; simp [mrgK, mrg, hkc])
          have HKC := Lib.hid hkc
          clear hkc hkz
          gi_wp2_with (first | (refine wpListIn_store_new rfl 42 (.tmp 6) (.tmp 72) rfl rfl wr.heap.size _ rfl rfl 42 _ (HZ.out _ HQ2.out) info42s rfl (by simp [Value.oneCell']) wr.heap.size (Nat.le_refl _) ?_; intro w3 hz3 hb3; have hm3 := AtL_cells (cs := [.int .i64 1, .int .u32 0, .int .i64 0, .int .i64 0, .int .u64 0, .int .u64 0, .int .u64 0, .int .u64 0, .int .u32 y.p.a, .int .i64 y.p.l, .int .i64 y.m, .int .u64 y.o0, .int .u64 y.o1, .int .u64 y.h0, .int .u64 y.h1]) hz3; have hmo := run_loadL isAgg40i size40i rfl (AtL_sub (k := 1) (n := 7) (ds := [.int .u32 0, .int .i64 0, .int .i64 0, .int .u64 0, .int .u64 0, .int .u64 0, .int .u64 0]) hm3 rfl); have hmn := run_loadL isAgg40i size40i rfl (AtL_sub (k := 8) (n := 7) (ds := [.int .u32 y.p.a, .int .i64 y.p.l, .int .i64 y.m, .int .u64 y.o0, .int .u64 y.o1, .int .u64 y.h0, .int .u64 y.h1]) hm3 rfl); have hmc := run_loadL isAgg42i size42i rfl hm3; clear hz3 hm hm3; have HMO := Lib.hid hmo; have HMN := Lib.hid hmn; have HMC := Lib.hid hmc; clear hmo hmn hmc; obtain ⟨fn, tmps, assign, body, hy, hR⟩ := HY.out pre ⟨1, zR, y⟩ w3 (abides_below HJA.out hJ.out (hbw.out.trans hb3)) HLEN.out; simp only [zR] at hy; have HB3 := Lib.hid (hbw.out.trans hb3); clear hb3) | (refine wpListIn_loadW rfl 40 (.tmp 75) rfl wr.heap.size 1 _ rfl (HMO.out) ?_) | (refine wpListIn_loadW rfl 40 (.tmp 77) rfl wr.heap.size 8 _ rfl (HMN.out) ?_) | (refine wpListIn_loadW rfl 42 (.tmp 6) rfl wr.heap.size 0 _ rfl (HMC.out) ?_))
          all_goals
            refine hR.mono ?_
            rintro e W3 (⟨rfl, hJ3, hk3⟩ | ⟨rfl, hJx3⟩)
            · have HBN := Lib.hid ((HB3.out.mono hn₀.out).trans hk3)
              have HJ3 := Lib.hid hJ3
              have HS3 := Lib.hid (Nat.le_trans hn₀.out HBN.out.size)
              clear hk3 hJ3
              gi_wp2_with fail
              go_roundw
              case rel => exact ⟨pre ++ [⟨1, zR, y⟩], [], b, Lib.hid (ha.out.below HBN.out), Lib.hid (by rw [HNB.out]; exact SlAt.tail (by omega) (hb.out.below HBN.out) (by intro hh; first | rfl | exact if_neg hh | exact if_pos hh | exact absurd (by assumption) hh | exact absurd hh (by assumption)) (by intro hh; first | rfl | exact if_neg hh | exact if_pos hh | exact absurd (by assumption) hh | exact absurd hh (by assumption))), Lib.hid (by rw [← hpre.out]; simp [mrgK, mrg, HKC.out]), HJ3, HS3, Lib.hid (by have := hlen.out; simp only [List.length_cons, List.length_nil] at this ⊢; omega)⟩
              case measure => (simp [lenS] <;> omega)
            · have HX := Lib.hid hJx3
              clear hJx3
              gi_wp2_with fail
              refine bodyPost_ret (results_none rfl _ _ _) rfl ?_
              exact ⟨⟨_, rfl⟩, .inr ⟨pre ++ [⟨1, zR, y⟩], by rw [← hpre.out]; simp [mrgK, mrg, HKC.out], HX.out⟩⟩
    | cons x a =>
      cases b with
      | nil =>
        obtain ⟨A, c, rfl, hr, hlo, hc⟩ := ha.out
        obtain ⟨bb, o, rfl, hat⟩ := hr 0 x rfl
        obtain ⟨na, hna⟩ : ∃ n, n = a.length := ⟨_, rfl⟩
        have HNA := Lib.hid hna
        have hlna : na ≤ 2513169434843 := by have := hlen.out; simp only [List.length_cons] at this; omega
        have h0na : ¬ ((na : Int) + 1 = 0) := by omega
        have h1na : (1 : Int) ≤ (na : Int) + 1 := by omega
        have t0na : ((na : Int) + 1 == 0) = false := by simp; omega
        rw [List.length_cons, ← hna] at hc ⊢
        clear hr hlo hna
        rw [Nat.zero_mul, Nat.add_zero] at hat
        obtain ⟨c0, c1, c2, c3, c4, c5, c6⟩ := hat
        obtain ⟨A', c', rfl, hs1⟩ := hb.out
        clear hs1
        gi_wp2_with fail
        obtain ⟨W1, hW⟩ : ∃ W1, W1 = wr.alloc (Obj.cells #[.int .i64 0, .int .u32 0, .int .i64 0, .int .i64 0, .int .u64 0, .int .u64 0, .int .u64 0, .int .u64 0, .int .u32 0, .int .i64 0, .int .i64 0, .int .u64 0, .int .u64 0, .int .u64 0, .int .u64 0] 42) := ⟨_, rfl⟩
        have hB1 : Below wr.heap.size wr W1 := by rw [hW]; exact (Below.refl _ _).alloc (Nat.le_refl _) _
        have HB1 := Lib.hid hB1
        have HZ := Lib.hid (fun w2 (h : Below W1.heap.size W1 w2) => z15_of h hW)
        have HX : ∀ w2, Below wr.heap.size wr w2 → (w2.cell? ⟨bb, o, none⟩ = some (.int .u32 x.p.a) ∧ w2.cell? ⟨bb, o + 1, none⟩ = some (.int .i64 x.p.l) ∧ w2.cell? ⟨bb, o + 2, none⟩ = some (.int .i64 x.m) ∧ w2.cell? ⟨bb, o + 3, none⟩ = some (.int .u64 x.o0) ∧ w2.cell? ⟨bb, o + 4, none⟩ = some (.int .u64 x.o1) ∧ w2.cell? ⟨bb, o + 5, none⟩ = some (.int .u64 x.h0) ∧ w2.cell? ⟨bb, o + 6, none⟩ = some (.int .u64 x.h1)) :=
          fun w2 h => ⟨bcell h c0, bcell h c1, bcell h c2, bcell h c3, bcell h c4, bcell h c5, bcell h c6⟩
        have HC := fun w2 (h : Below W1.heap.size W1 w2) => HX w2 (bthen' HB1.out HB1.out.size h)
        rw [← hW]
        clear hW hB1 c0 c1 c2 c3 c4 c5 c6
        have HB := Lib.hid (Below.refl W1.heap.size W1)
        refine Og.walkW_lit [[],[0],[1,0],[2,1,0],[3,2,1,0],[4,3,2,1,0],[5,3,4,2,1,0],[6,3,5,4,2,1,0],[7,6,3,5,4,2,1,0],[8,7,6,3,5,4,2,1,0],[9,7,8,6,3,5,4,2,1,0],[10,7,9,8,6,3,5,4,2,1,0],[7,6,3,5,4,2,1,0],[12,7,6,3,5,4,2,1,0],[13,7,12,6,3,5,4,2,1,0],[14,7,13,12,6,3,5,4,2,1,0],[11,15,7,10,9,8,6,3,5,4,2,1,0,14,13,12],[7,16,3,6,5,4,2,1,0,11,15,10,9,8,14,13,12],[3,17,2,1,0,7,16,6,5,4,11,15,10,9,8,14,13,12],[18,16,3,17,2,1,0,7,6,5,4,11,15,10,9,8,14,13,12]] (fun w2 => Below W1.heap.size W1 w2) (fun w1 w2 => Below w1.heap.size w1 w2) (by kernel_rfl) (by kernel_rfl) (by kernel_rfl) (bdrew) ?_
        repeat (first | (refine Og.step_pure (fun _ => Below.refl _ _) ?_; apply Exists.intro; refine And.intro ?_ ?_; focus (intro vs w2 hC hk; have hm := HC w2 hC; revert hk; simp only [Og.KS, Og.K0, Og.Is, List.getD_cons_zero, List.getD_cons_succ, List.getD_nil, List.contains_cons, List.contains_nil, Nat.reduceAdd, Nat.reduceBEq, Bool.or_false, Bool.false_or, Bool.or_true, Bool.true_or, Bool.false_eq_true, false_implies, true_implies, true_and, and_true, forall_const]; intros; go_simp; rfl)))
        intro vs wq1 hC hk
        have hm := HC wq1 hC
        simp only [Og.KS, Og.K0, Og.Is, List.getD_cons_zero, List.getD_cons_succ, List.getD_nil, List.contains_cons, List.contains_nil, Nat.reduceAdd, Nat.reduceBEq, Bool.or_false, Bool.false_or, Bool.or_true, Bool.true_or, Bool.false_eq_true, false_implies, true_implies, true_and, and_true, forall_const] at hk
        simp only [hk, Act.put, List.setIfInBounds_toArray, List.set_cons_zero, List.set_cons_succ]
        clear hk
        have HQ1 := Lib.hid (bthen HB.out hC)
        clear hC
        have hbw := Lib.hid (bthen' HB1.out HB1.out.size HQ1.out)
        clear HC HX
        by_cases hkz : x = zR
        · have te : eqRb x.p.a x.p.l x.m x.o0 x.o1 x.h0 x.h1 0 0 0 0 0 0 0 = true := (eqRb_of x zR).trans (decide_eq_true hkz)
          have hkc : keepC ⟨2, x, zR⟩ = false := by simp [keepC, hkz]
          have HKC := Lib.hid hkc
          clear hkc hkz
          gi_wp2_with (first | (refine wpListIn_store_new rfl 42 (.tmp 6) (.tmp 51) rfl rfl wr.heap.size _ rfl rfl 42 _ (HZ.out _ HQ1.out) info42s rfl (by simp [Value.oneCell']) wr.heap.size (Nat.le_refl _) ?_; intro w3 hz3 hb3; have hm3 := AtL_cells (cs := [.int .i64 2, .int .u32 x.p.a, .int .i64 x.p.l, .int .i64 x.m, .int .u64 x.o0, .int .u64 x.o1, .int .u64 x.h0, .int .u64 x.h1, .int .u32 0, .int .i64 0, .int .i64 0, .int .u64 0, .int .u64 0, .int .u64 0, .int .u64 0]) hz3; have hmo := run_loadL isAgg40i size40i rfl (AtL_sub (k := 1) (n := 7) (ds := [.int .u32 x.p.a, .int .i64 x.p.l, .int .i64 x.m, .int .u64 x.o0, .int .u64 x.o1, .int .u64 x.h0, .int .u64 x.h1]) hm3 rfl); have hmn := run_loadL isAgg40i size40i rfl (AtL_sub (k := 8) (n := 7) (ds := [.int .u32 0, .int .i64 0, .int .i64 0, .int .u64 0, .int .u64 0, .int .u64 0, .int .u64 0]) hm3 rfl); have hmc := run_loadL isAgg42i size42i rfl hm3; clear hz3 hm hm3; have HMO := Lib.hid hmo; have HMN := Lib.hid hmn; have HMC := Lib.hid hmc; clear hmo hmn hmc; have HB3 := Lib.hid (hbw.out.trans hb3); clear hb3) | (refine wpListIn_loadW rfl 40 (.tmp 75) rfl wr.heap.size 1 _ rfl (HMO.out) ?_) | (refine wpListIn_loadW rfl 40 (.tmp 77) rfl wr.heap.size 8 _ rfl (HMN.out) ?_) | (refine wpListIn_loadW rfl 42 (.tmp 6) rfl wr.heap.size 0 _ rfl (HMC.out) ?_))
          all_goals
            refine ⟨fun _ h => (by cases h), ?_⟩
            gi_wp2_with fail
            have HBN := Lib.hid (HB3.out.mono hn₀.out)
            have HJ3 := Lib.hid (abides_below HJA.out hJ.out HB3.out)
            have HS3 := Lib.hid (Nat.le_trans hn₀.out HBN.out.size)
            go_roundw
            case rel => exact ⟨pre, a, [], Lib.hid (by rw [HNA.out]; exact SlAt.tail (by omega) (ha.out.below HBN.out) (by intro hh; first | rfl | exact if_neg hh | exact if_pos hh | exact absurd (by assumption) hh | exact absurd hh (by assumption)) (by intro hh; first | rfl | exact if_neg hh | exact if_pos hh | exact absurd (by assumption) hh | exact absurd hh (by assumption))), Lib.hid (hb.out.below HBN.out), Lib.hid (by rw [← hpre.out]; simp [mrgK, mrg, HKC.out]), HJ3, HS3, Lib.hid (by have := hlen.out; simp only [List.length_cons, List.length_nil] at this ⊢; omega)⟩
            case measure => (simp [lenS] <;> omega)
        · have te : eqRb x.p.a x.p.l x.m x.o0 x.o1 x.h0 x.h1 0 0 0 0 0 0 0 = false := (eqRb_of x zR).trans (decide_eq_false hkz)
          have hkc : keepC ⟨2, x, zR⟩ = true := by simp [keepC, hkz]
          have HLEN := Lib.hid (show pre.length < (mrgK xs ys).length by rw [← hpre.out]; simp [mrgK, mrg, hkc])
          have HKC := Lib.hid hkc
          clear hkc hkz
          gi_wp2_with (first | (refine wpListIn_store_new rfl 42 (.tmp 6) (.tmp 51) rfl rfl wr.heap.size _ rfl rfl 42 _ (HZ.out _ HQ1.out) info42s rfl (by simp [Value.oneCell']) wr.heap.size (Nat.le_refl _) ?_; intro w3 hz3 hb3; have hm3 := AtL_cells (cs := [.int .i64 2, .int .u32 x.p.a, .int .i64 x.p.l, .int .i64 x.m, .int .u64 x.o0, .int .u64 x.o1, .int .u64 x.h0, .int .u64 x.h1, .int .u32 0, .int .i64 0, .int .i64 0, .int .u64 0, .int .u64 0, .int .u64 0, .int .u64 0]) hz3; have hmo := run_loadL isAgg40i size40i rfl (AtL_sub (k := 1) (n := 7) (ds := [.int .u32 x.p.a, .int .i64 x.p.l, .int .i64 x.m, .int .u64 x.o0, .int .u64 x.o1, .int .u64 x.h0, .int .u64 x.h1]) hm3 rfl); have hmn := run_loadL isAgg40i size40i rfl (AtL_sub (k := 8) (n := 7) (ds := [.int .u32 0, .int .i64 0, .int .i64 0, .int .u64 0, .int .u64 0, .int .u64 0, .int .u64 0]) hm3 rfl); have hmc := run_loadL isAgg42i size42i rfl hm3; clear hz3 hm hm3; have HMO := Lib.hid hmo; have HMN := Lib.hid hmn; have HMC := Lib.hid hmc; clear hmo hmn hmc; obtain ⟨fn, tmps, assign, body, hy, hR⟩ := HY.out pre ⟨2, x, zR⟩ w3 (abides_below HJA.out hJ.out (hbw.out.trans hb3)) HLEN.out; simp only [zR] at hy; have HB3 := Lib.hid (hbw.out.trans hb3); clear hb3) | (refine wpListIn_loadW rfl 40 (.tmp 75) rfl wr.heap.size 1 _ rfl (HMO.out) ?_) | (refine wpListIn_loadW rfl 40 (.tmp 77) rfl wr.heap.size 8 _ rfl (HMN.out) ?_) | (refine wpListIn_loadW rfl 42 (.tmp 6) rfl wr.heap.size 0 _ rfl (HMC.out) ?_))
          all_goals
            refine hR.mono ?_
            rintro e W3 (⟨rfl, hJ3, hk3⟩ | ⟨rfl, hJx3⟩)
            · have HBN := Lib.hid ((HB3.out.mono hn₀.out).trans hk3)
              have HJ3 := Lib.hid hJ3
              have HS3 := Lib.hid (Nat.le_trans hn₀.out HBN.out.size)
              clear hk3 hJ3
              gi_wp2_with fail
              go_roundw
              case rel => exact ⟨pre ++ [⟨2, x, zR⟩], a, [], Lib.hid (by rw [HNA.out]; exact SlAt.tail (by omega) (ha.out.below HBN.out) (by intro hh; first | rfl | exact if_neg hh | exact if_pos hh | exact absurd (by assumption) hh | exact absurd hh (by assumption)) (by intro hh; first | rfl | exact if_neg hh | exact if_pos hh | exact absurd (by assumption) hh | exact absurd hh (by assumption))), Lib.hid (hb.out.below HBN.out), Lib.hid (by rw [← hpre.out]; simp [mrgK, mrg, HKC.out]), HJ3, HS3, Lib.hid (by have := hlen.out; simp only [List.length_cons, List.length_nil] at this ⊢; omega)⟩
              case measure => (simp [lenS] <;> omega)
            · have HX := Lib.hid hJx3
              clear hJx3
              gi_wp2_with fail
              refine bodyPost_ret (results_none rfl _ _ _) rfl ?_
              exact ⟨⟨_, rfl⟩, .inr ⟨pre ++ [⟨2, x, zR⟩], by rw [← hpre.out]; simp [mrgK, mrg, HKC.out], HX.out⟩⟩
      | cons y b =>
        obtain ⟨A, c, rfl, hr, hlo, hc⟩ := ha.out
        obtain ⟨bb, o, rfl, hat⟩ := hr 0 x rfl
        obtain ⟨na, hna⟩ : ∃ n, n = a.length := ⟨_, rfl⟩
        have HNA := Lib.hid hna
        have hlna : na ≤ 2513169434843 := by have := hlen.out; simp only [List.length_cons] at this; omega
        have h0na : ¬ ((na : Int) + 1 = 0) := by omega
        have h1na : (1 : Int) ≤ (na : Int) + 1 := by omega
        have t0na : ((na : Int) + 1 == 0) = false := by simp; omega
        rw [List.length_cons, ← hna] at hc ⊢
        clear hr hlo hna
        rw [Nat.zero_mul, Nat.add_zero] at hat
        obtain ⟨c0, c1, c2, c3, c4, c5, c6⟩ := hat
        obtain ⟨A', c', rfl, hr, hlo, hc'⟩ := hb.out
        obtain ⟨bb', o', rfl, hat⟩ := hr 0 y rfl
        obtain ⟨nb, hnb⟩ : ∃ n, n = b.length := ⟨_, rfl⟩
        have HNB := Lib.hid hnb
        have hlnb : nb ≤ 2513169434843 := by have := hlen.out; simp only [List.length_cons] at this; omega
        have h0nb : ¬ ((nb : Int) + 1 = 0) := by omega
        have h1nb : (1 : Int) ≤ (nb : Int) + 1 := by omega
        have t0nb : ((nb : Int) + 1 == 0) = false := by simp; omega
        rw [List.length_cons, ← hnb] at hc' ⊢
        clear hr hlo hnb
        rw [Nat.zero_mul, Nat.add_zero] at hat
        obtain ⟨d0, d1, d2, d3, d4, d5, d6⟩ := hat
        gi_wp2_with fail
        obtain ⟨W1, hW⟩ : ∃ W1, W1 = wr.alloc (Obj.cells #[.int .i64 0, .int .u32 0, .int .i64 0, .int .i64 0, .int .u64 0, .int .u64 0, .int .u64 0, .int .u64 0, .int .u32 0, .int .i64 0, .int .i64 0, .int .u64 0, .int .u64 0, .int .u64 0, .int .u64 0] 42) := ⟨_, rfl⟩
        have hB1 : Below wr.heap.size wr W1 := by rw [hW]; exact (Below.refl _ _).alloc (Nat.le_refl _) _
        have HB1 := Lib.hid hB1
        have HZ := Lib.hid (fun w2 (h : Below W1.heap.size W1 w2) => z15_of h hW)
        have HX : ∀ w2, Below wr.heap.size wr w2 → (w2.cell? ⟨bb, o, none⟩ = some (.int .u32 x.p.a) ∧ w2.cell? ⟨bb, o + 1, none⟩ = some (.int .i64 x.p.l) ∧ w2.cell? ⟨bb, o + 2, none⟩ = some (.int .i64 x.m) ∧ w2.cell? ⟨bb, o + 3, none⟩ = some (.int .u64 x.o0) ∧ w2.cell? ⟨bb, o + 4, none⟩ = some (.int .u64 x.o1) ∧ w2.cell? ⟨bb, o + 5, none⟩ = some (.int .u64 x.h0) ∧ w2.cell? ⟨bb, o + 6, none⟩ = some (.int .u64 x.h1)) ∧ (w2.cell? ⟨bb', o', none⟩ = some (.int .u32 y.p.a) ∧ w2.cell? ⟨bb', o' + 1, none⟩ = some (.int .i64 y.p.l) ∧ w2.cell? ⟨bb', o' + 2, none⟩ = some (.int .i64 y.m) ∧ w2.cell? ⟨bb', o' + 3, none⟩ = some (.int .u64 y.o0) ∧ w2.cell? ⟨bb', o' + 4, none⟩ = some (.int .u64 y.o1) ∧ w2.cell? ⟨bb', o' + 5, none⟩ = some (.int .u64 y.h0) ∧ w2.cell? ⟨bb', o' + 6, none⟩ = some (.int .u64 y.h1)) :=
          fun w2 h => ⟨⟨bcell h c0, bcell h c1, bcell h c2, bcell h c3, bcell h c4, bcell h c5, bcell h c6⟩, ⟨bcell h d0, bcell h d1, bcell h d2, bcell h d3, bcell h d4, bcell h d5, bcell h d6⟩⟩
        have HC := fun w2 (h : Below W1.heap.size W1 w2) => HX w2 (bthen' HB1.out HB1.out.size h)
        rw [← hW]
        clear hW hB1 c0 c1 c2 c3 c4 c5 c6 d0 d1 d2 d3 d4 d5 d6
        have HB := Lib.hid (Below.refl W1.heap.size W1)
        cases hq1 : befP x.p y.p with
        | true =>
          have H1 : Hid (∀ w, Calls Try.prog 26 #[.agg #[.int .u32 x.p.a, .int .i64 x.p.l], .agg #[.int .u32 y.p.a, .int .i64 y.p.l]] w fun e w' => e = .returned (.bool true) ∧ Below w.heap.size w w') := Lib.hid (fun w => by have := before_ok x.p y.p w; rwa [hq1] at this)
          refine Og.walkW_lit [[],[0],[1,0],[2,1,0],[3,2,1,0],[4,3,2,1,0],[5,3,4,2,1,0],[6,3,5,4,2,1,0],[7,6,3,5,4,2,1,0],[8,7,6,3,5,4,2,1,0],[9,7,8,6,3,5,4,2,1,0],[10,7,9,8,6,3,5,4,2,1,0],[7,6,3,5,4,2,1,0],[12,7,6,3,5,4,2,1,0],[13,7,12,6,3,5,4,2,1,0],[14,7,13,12,6,3,5,4,2,1,0],[11,15,7,10,9,8,6,3,5,4,2,1,0,14,13,12],[7,16,3,6,5,4,2,1,0,11,15,10,9,8,14,13,12],[3,17,2,1,0,7,16,6,5,4,11,15,10,9,8,14,13,12],[18,16,3,17,2,1,0,7,6,5,4,11,15,10,9,8,14,13,12]] (fun w2 => Below W1.heap.size W1 w2) (fun w1 w2 => Below w1.heap.size w1 w2) (by kernel_rfl) (by kernel_rfl) (by kernel_rfl) (bdrew) ?_
          repeat (first | (refine Og.step_pure (fun _ => Below.refl _ _) ?_; apply Exists.intro; refine And.intro ?_ ?_; focus (intro vs w2 hC hk; have hm := HC w2 hC; revert hk; simp only [Og.KS, Og.K0, Og.Is, List.getD_cons_zero, List.getD_cons_succ, List.getD_nil, List.contains_cons, List.contains_nil, Nat.reduceAdd, Nat.reduceBEq, Bool.or_false, Bool.false_or, Bool.or_true, Bool.true_or, Bool.false_eq_true, false_implies, true_implies, true_and, and_true, forall_const]; intros; go_simp; rfl)) | (refine Og.step_one ?_; apply Exists.intro; refine And.intro ?_ ?_; focus (intro vs w2 hC hk; have hm := HC w2 hC; revert hk; simp only [Og.KS, Og.K0, Og.Is, List.getD_cons_zero, List.getD_cons_succ, List.getD_nil, List.contains_cons, List.contains_nil, Nat.reduceAdd, Nat.reduceBEq, Bool.or_false, Bool.false_or, Bool.or_true, Bool.true_or, Bool.false_eq_true, false_implies, true_implies, true_and, and_true, forall_const]; intros; go_simp; with_reducible refine (H1.out _).mono ?_; rintro e w3 ⟨rfl, hb⟩; exact Og.RetV.mk ⟨bthen hC hb, hb, rfl⟩)))
          intro vs wq1 hC hk
          have hm := HC wq1 hC
          simp only [Og.KS, Og.K0, Og.Is, List.getD_cons_zero, List.getD_cons_succ, List.getD_nil, List.contains_cons, List.contains_nil, Nat.reduceAdd, Nat.reduceBEq, Bool.or_false, Bool.false_or, Bool.or_true, Bool.true_or, Bool.false_eq_true, false_implies, true_implies, true_and, and_true, forall_const] at hk
          simp only [hk, Act.put, List.setIfInBounds_toArray, List.set_cons_zero, List.set_cons_succ]
          clear hk
          have HQ1 := Lib.hid (bthen HB.out hC)
          clear hC
          have hbw := Lib.hid (bthen' HB1.out HB1.out.size HQ1.out)
          clear HC HX
          by_cases hkz : x = zR
          · have te : eqRb x.p.a x.p.l x.m x.o0 x.o1 x.h0 x.h1 0 0 0 0 0 0 0 = true := (eqRb_of x zR).trans (decide_eq_true hkz)
            have hkc : keepC ⟨2, x, zR⟩ = false := by simp [keepC, hkz]
            have HKC := Lib.hid hkc
            clear hkc hkz
            gi_wp2_with (first | (refine wpListIn_store_new rfl 42 (.tmp 6) (.tmp 51) rfl rfl wr.heap.size _ rfl rfl 42 _ (HZ.out _ HQ1.out) info42s rfl (by simp [Value.oneCell']) wr.heap.size (Nat.le_refl _) ?_; intro w3 hz3 hb3; have hm3 := AtL_cells (cs := [.int .i64 2, .int .u32 x.p.a, .int .i64 x.p.l, .int .i64 x.m, .int .u64 x.o0, .int .u64 x.o1, .int .u64 x.h0, .int .u64 x.h1, .int .u32 0, .int .i64 0, .int .i64 0, .int .u64 0, .int .u64 0, .int .u64 0, .int .u64 0]) hz3; have hmo := run_loadL isAgg40i size40i rfl (AtL_sub (k := 1) (n := 7) (ds := [.int .u32 x.p.a, .int .i64 x.p.l, .int .i64 x.m, .int .u64 x.o0, .int .u64 x.o1, .int .u64 x.h0, .int .u64 x.h1]) hm3 rfl); have hmn := run_loadL isAgg40i size40i rfl (AtL_sub (k := 8) (n := 7) (ds := [.int .u32 0, .int .i64 0, .int .i64 0, .int .u64 0, .int .u64 0, .int .u64 0, .int .u64 0]) hm3 rfl); have hmc := run_loadL isAgg42i size42i rfl hm3; clear hz3 hm hm3; have HMO := Lib.hid hmo; have HMN := Lib.hid hmn; have HMC := Lib.hid hmc; clear hmo hmn hmc; have HB3 := Lib.hid (hbw.out.trans hb3); clear hb3) | (refine wpListIn_loadW rfl 40 (.tmp 75) rfl wr.heap.size 1 _ rfl (HMO.out) ?_) | (refine wpListIn_loadW rfl 40 (.tmp 77) rfl wr.heap.size 8 _ rfl (HMN.out) ?_) | (refine wpListIn_loadW rfl 42 (.tmp 6) rfl wr.heap.size 0 _ rfl (HMC.out) ?_))
            all_goals
              refine ⟨fun _ h => (by cases h), ?_⟩
              gi_wp2_with fail
              have HBN := Lib.hid (HB3.out.mono hn₀.out)
              have HJ3 := Lib.hid (abides_below HJA.out hJ.out HB3.out)
              have HS3 := Lib.hid (Nat.le_trans hn₀.out HBN.out.size)
              go_roundw
              case rel => exact ⟨pre, a, (y :: b), Lib.hid (by rw [HNA.out]; exact SlAt.tail (by omega) (ha.out.below HBN.out) (by intro hh; first | rfl | exact if_neg hh | exact if_pos hh | exact absurd (by assumption) hh | exact absurd hh (by assumption)) (by intro hh; first | rfl | exact if_neg hh | exact if_pos hh | exact absurd (by assumption) hh | exact absurd hh (by assumption))), Lib.hid (by rw [HNB.out]; exact hb.out.below HBN.out), Lib.hid (by rw [← hpre.out]; simp [mrgK, mrg, HKC.out, hq1]), HJ3, HS3, Lib.hid (by have := hlen.out; simp only [List.length_cons, List.length_nil] at this ⊢; omega)⟩
              case measure => (simp [lenS] <;> omega)
          · have te : eqRb x.p.a x.p.l x.m x.o0 x.o1 x.h0 x.h1 0 0 0 0 0 0 0 = false := (eqRb_of x zR).trans (decide_eq_false hkz)
            have hkc : keepC ⟨2, x, zR⟩ = true := by simp [keepC, hkz]
            have HLEN := Lib.hid (show pre.length < (mrgK xs ys).length by rw [← hpre.out]; simp [mrgK, mrg, hkc, hq1])
            have HKC := Lib.hid hkc
            clear hkc hkz
            gi_wp2_with (first | (refine wpListIn_store_new rfl 42 (.tmp 6) (.tmp 51) rfl rfl wr.heap.size _ rfl rfl 42 _ (HZ.out _ HQ1.out) info42s rfl (by simp [Value.oneCell']) wr.heap.size (Nat.le_refl _) ?_; intro w3 hz3 hb3; have hm3 := AtL_cells (cs := [.int .i64 2, .int .u32 x.p.a, .int .i64 x.p.l, .int .i64 x.m, .int .u64 x.o0, .int .u64 x.o1, .int .u64 x.h0, .int .u64 x.h1, .int .u32 0, .int .i64 0, .int .i64 0, .int .u64 0, .int .u64 0, .int .u64 0, .int .u64 0]) hz3; have hmo := run_loadL isAgg40i size40i rfl (AtL_sub (k := 1) (n := 7) (ds := [.int .u32 x.p.a, .int .i64 x.p.l, .int .i64 x.m, .int .u64 x.o0, .int .u64 x.o1, .int .u64 x.h0, .int .u64 x.h1]) hm3 rfl); have hmn := run_loadL isAgg40i size40i rfl (AtL_sub (k := 8) (n := 7) (ds := [.int .u32 0, .int .i64 0, .int .i64 0, .int .u64 0, .int .u64 0, .int .u64 0, .int .u64 0]) hm3 rfl); have hmc := run_loadL isAgg42i size42i rfl hm3; clear hz3 hm hm3; have HMO := Lib.hid hmo; have HMN := Lib.hid hmn; have HMC := Lib.hid hmc; clear hmo hmn hmc; obtain ⟨fn, tmps, assign, body, hy, hR⟩ := HY.out pre ⟨2, x, zR⟩ w3 (abides_below HJA.out hJ.out (hbw.out.trans hb3)) HLEN.out; simp only [zR] at hy; have HB3 := Lib.hid (hbw.out.trans hb3); clear hb3) | (refine wpListIn_loadW rfl 40 (.tmp 75) rfl wr.heap.size 1 _ rfl (HMO.out) ?_) | (refine wpListIn_loadW rfl 40 (.tmp 77) rfl wr.heap.size 8 _ rfl (HMN.out) ?_) | (refine wpListIn_loadW rfl 42 (.tmp 6) rfl wr.heap.size 0 _ rfl (HMC.out) ?_))
            all_goals
              refine hR.mono ?_
              rintro e W3 (⟨rfl, hJ3, hk3⟩ | ⟨rfl, hJx3⟩)
              · have HBN := Lib.hid ((HB3.out.mono hn₀.out).trans hk3)
                have HJ3 := Lib.hid hJ3
                have HS3 := Lib.hid (Nat.le_trans hn₀.out HBN.out.size)
                clear hk3 hJ3
                gi_wp2_with fail
                go_roundw
                case rel => exact ⟨pre ++ [⟨2, x, zR⟩], a, (y :: b), Lib.hid (by rw [HNA.out]; exact SlAt.tail (by omega) (ha.out.below HBN.out) (by intro hh; first | rfl | exact if_neg hh | exact if_pos hh | exact absurd (by assumption) hh | exact absurd hh (by assumption)) (by intro hh; first | rfl | exact if_neg hh | exact if_pos hh | exact absurd (by assumption) hh | exact absurd hh (by assumption))), Lib.hid (by rw [HNB.out]; exact hb.out.below HBN.out), Lib.hid (by rw [← hpre.out]; simp [mrgK, mrg, HKC.out, hq1]), HJ3, HS3, Lib.hid (by have := hlen.out; simp only [List.length_cons, List.length_nil] at this ⊢; omega)⟩
                case measure => (simp [lenS] <;> omega)
              · have HX := Lib.hid hJx3
                clear hJx3
                gi_wp2_with fail
                refine bodyPost_ret (results_none rfl _ _ _) rfl ?_
                exact ⟨⟨_, rfl⟩, .inr ⟨pre ++ [⟨2, x, zR⟩], by rw [← hpre.out]; simp [mrgK, mrg, HKC.out, hq1], HX.out⟩⟩
        | false =>
          have H1 : Hid (∀ w, Calls Try.prog 26 #[.agg #[.int .u32 x.p.a, .int .i64 x.p.l], .agg #[.int .u32 y.p.a, .int .i64 y.p.l]] w fun e w' => e = .returned (.bool false) ∧ Below w.heap.size w w') := Lib.hid (fun w => by have := before_ok x.p y.p w; rwa [hq1] at this)
          refine Og.walkW_lit [[],[0],[1,0],[2,1,0],[3,2,1,0],[4,3,2,1,0],[5,3,4,2,1,0],[6,3,5,4,2,1,0],[7,6,3,5,4,2,1,0],[8,7,6,3,5,4,2,1,0],[9,7,8,6,3,5,4,2,1,0],[10,7,9,8,6,3,5,4,2,1,0],[7,6,3,5,4,2,1,0],[12,7,6,3,5,4,2,1,0],[13,7,12,6,3,5,4,2,1,0],[14,7,13,12,6,3,5,4,2,1,0],[11,15,7,10,9,8,6,3,5,4,2,1,0,14,13,12],[7,16,3,6,5,4,2,1,0,11,15,10,9,8,14,13,12],[3,17,2,1,0,7,16,6,5,4,11,15,10,9,8,14,13,12],[18,16,3,17,2,1,0,7,6,5,4,11,15,10,9,8,14,13,12]] (fun w2 => Below W1.heap.size W1 w2) (fun w1 w2 => Below w1.heap.size w1 w2) (by kernel_rfl) (by kernel_rfl) (by kernel_rfl) (bdrew) ?_
          repeat (first | (refine Og.step_pure (fun _ => Below.refl _ _) ?_; apply Exists.intro; refine And.intro ?_ ?_; focus (intro vs w2 hC hk; have hm := HC w2 hC; revert hk; simp only [Og.KS, Og.K0, Og.Is, List.getD_cons_zero, List.getD_cons_succ, List.getD_nil, List.contains_cons, List.contains_nil, Nat.reduceAdd, Nat.reduceBEq, Bool.or_false, Bool.false_or, Bool.or_true, Bool.true_or, Bool.false_eq_true, false_implies, true_implies, true_and, and_true, forall_const]; intros; go_simp; rfl)) | (refine Og.step_one ?_; apply Exists.intro; refine And.intro ?_ ?_; focus (intro vs w2 hC hk; have hm := HC w2 hC; revert hk; simp only [Og.KS, Og.K0, Og.Is, List.getD_cons_zero, List.getD_cons_succ, List.getD_nil, List.contains_cons, List.contains_nil, Nat.reduceAdd, Nat.reduceBEq, Bool.or_false, Bool.false_or, Bool.or_true, Bool.true_or, Bool.false_eq_true, false_implies, true_implies, true_and, and_true, forall_const]; intros; go_simp; with_reducible refine (H1.out _).mono ?_; rintro e w3 ⟨rfl, hb⟩; exact Og.RetV.mk ⟨bthen hC hb, hb, rfl⟩)))
          intro vs wq1 hC hk
          have hm := HC wq1 hC
          simp only [Og.KS, Og.K0, Og.Is, List.getD_cons_zero, List.getD_cons_succ, List.getD_nil, List.contains_cons, List.contains_nil, Nat.reduceAdd, Nat.reduceBEq, Bool.or_false, Bool.false_or, Bool.or_true, Bool.true_or, Bool.false_eq_true, false_implies, true_implies, true_and, and_true, forall_const] at hk
          simp only [hk, Act.put, List.setIfInBounds_toArray, List.set_cons_zero, List.set_cons_succ]
          clear hk
          have HQ1 := Lib.hid (bthen HB.out hC)
          clear hC
          clear hm
          cases hq2 : befP y.p x.p with
          | true =>
            have H2 : Hid (∀ w, Calls Try.prog 26 #[.agg #[.int .u32 y.p.a, .int .i64 y.p.l], .agg #[.int .u32 x.p.a, .int .i64 x.p.l]] w fun e w' => e = .returned (.bool true) ∧ Below w.heap.size w w') := Lib.hid (fun w => by have := before_ok y.p x.p w; rwa [hq2] at this)
            have HC2 := fun w2 (h : Below wq1.heap.size wq1 w2) => HC w2 (bthen HQ1.out h)
            gi_wp2_with fail
            refine Og.walkW_lit [[],[0],[1,0],[2,1,0],[3,2,1,0],[4,3,2,1,0],[5,3,4,2,1,0],[6,3,5,4,2,1,0],[3,2,1,0],[8,3,2,1,0],[9,3,8,2,1,0],[10,3,9,8,2,1,0],[7,11,3,6,5,4,2,1,0,10,9,8],[3,12,2,1,0,7,11,6,5,4,10,9,8],[13,12,3,2,1,0,7,11,6,5,4,10,9,8]] (fun w2 => Below wq1.heap.size wq1 w2) (fun w1 w2 => Below w1.heap.size w1 w2) (by kernel_rfl) (by kernel_rfl) (by kernel_rfl) (bdrew) ?_
            repeat (first | (refine Og.step_pure (fun _ => Below.refl _ _) ?_; apply Exists.intro; refine And.intro ?_ ?_; focus (intro vs w2 hC hk; have hm := HC2 w2 hC; revert hk; simp only [Og.KS, Og.K0, Og.Is, List.getD_cons_zero, List.getD_cons_succ, List.getD_nil, List.contains_cons, List.contains_nil, Nat.reduceAdd, Nat.reduceBEq, Bool.or_false, Bool.false_or, Bool.or_true, Bool.true_or, Bool.false_eq_true, false_implies, true_implies, true_and, and_true, forall_const]; intros; go_simp; rfl)) | (refine Og.step_one ?_; apply Exists.intro; refine And.intro ?_ ?_; focus (intro vs w2 hC hk; have hm := HC2 w2 hC; revert hk; simp only [Og.KS, Og.K0, Og.Is, List.getD_cons_zero, List.getD_cons_succ, List.getD_nil, List.contains_cons, List.contains_nil, Nat.reduceAdd, Nat.reduceBEq, Bool.or_false, Bool.false_or, Bool.or_true, Bool.true_or, Bool.false_eq_true, false_implies, true_implies, true_and, and_true, forall_const]; intros; go_simp; with_reducible refine (H2.out _).mono ?_; rintro e w3 ⟨rfl, hb⟩; exact Og.RetV.mk ⟨bthen hC hb, hb, rfl⟩)))
            intro vs wq2 hC hk
            have hm := HC2 wq2 hC
            simp only [Og.KS, Og.K0, Og.Is, List.getD_cons_zero, List.getD_cons_succ, List.getD_nil, List.contains_cons, List.contains_nil, Nat.reduceAdd, Nat.reduceBEq, Bool.or_false, Bool.false_or, Bool.or_true, Bool.true_or, Bool.false_eq_true, false_implies, true_implies, true_and, and_true, forall_const] at hk
            simp only [hk, Act.put, List.setIfInBounds_toArray, List.set_cons_zero, List.set_cons_succ]
            clear hk
            have HQ2 := Lib.hid (bthen HQ1.out hC)
            clear hC
            have hbw := Lib.hid (bthen' HB1.out HB1.out.size HQ2.out)
            clear HC HX HC2
            by_cases hkz : zR = y
            · have te : eqRb 0 0 0 0 0 0 0 y.p.a y.p.l y.m y.o0 y.o1 y.h0 y.h1 = true := (eqRb_of zR y).trans (decide_eq_true hkz)
              have hkc : keepC ⟨1, zR, y⟩ = false := by simp [keepC, hkz]
              have HKC := Lib.hid hkc
              clear hkc hkz
              gi_wp2_with (first | (refine wpListIn_store_new rfl 42 (.tmp 6) (.tmp 72) rfl rfl wr.heap.size _ rfl rfl 42 _ (HZ.out _ HQ2.out) info42s rfl (by simp [Value.oneCell']) wr.heap.size (Nat.le_refl _) ?_; intro w3 hz3 hb3; have hm3 := AtL_cells (cs := [.int .i64 1, .int .u32 0, .int .i64 0, .int .i64 0, .int .u64 0, .int .u64 0, .int .u64 0, .int .u64 0, .int .u32 y.p.a, .int .i64 y.p.l, .int .i64 y.m, .int .u64 y.o0, .int .u64 y.o1, .int .u64 y.h0, .int .u64 y.h1]) hz3; have hmo := run_loadL isAgg40i size40i rfl (AtL_sub (k := 1) (n := 7) (ds := [.int .u32 0, .int .i64 0, .int .i64 0, .int .u64 0, .int .u64 0, .int .u64 0, .int .u64 0]) hm3 rfl); have hmn := run_loadL isAgg40i size40i rfl (AtL_sub (k := 8) (n := 7) (ds := [.int .u32 y.p.a, .int .i64 y.p.l, .int .i64 y.m, .int .u64 y.o0, .int .u64 y.o1, .int .u64 y.h0, .int .u64 y.h1]) hm3 rfl); have hmc := run_loadL isAgg42i size42i rfl hm3; clear hz3 hm hm3; have HMO := Lib.hid hmo; have HMN := Lib.hid hmn; have HMC := Lib.hid hmc; clear hmo hmn hmc; have HB3 := Lib.hid (hbw.out.trans hb3); clear hb3) | (refine wpListIn_loadW rfl 40 (.tmp 75) rfl wr.heap.size 1 _ rfl (HMO.out) ?_) | (refine wpListIn_loadW rfl 40 (.tmp 77) rfl wr.heap.size 8 _ rfl (HMN.out) ?_) | (refine wpListIn_loadW rfl 42 (.tmp 6) rfl wr.heap.size 0 _ rfl (HMC.out) ?_))
              all_goals
                refine ⟨fun _ h => (by cases h), ?_⟩
                gi_wp2_with fail
                have HBN := Lib.hid (HB3.out.mono hn₀.out)
                have HJ3 := Lib.hid (abides_below HJA.out hJ.out HB3.out)
                have HS3 := Lib.hid (Nat.le_trans hn₀.out HBN.out.size)
                go_roundw
                case rel => exact ⟨pre, (x :: a), b, Lib.hid (by rw [HNA.out]; exact ha.out.below HBN.out), Lib.hid (by rw [HNB.out]; exact SlAt.tail (by omega) (hb.out.below HBN.out) (by intro hh; first | rfl | exact if_neg hh | exact if_pos hh | exact absurd (by assumption) hh | exact absurd hh (by assumption)) (by intro hh; first | rfl | exact if_neg hh | exact if_pos hh | exact absurd (by assumption) hh | exact absurd hh (by assumption))), Lib.hid (by rw [← hpre.out]; simp [mrgK, mrg, HKC.out, hq1, hq2]), HJ3, HS3, Lib.hid (by have := hlen.out; simp only [List.length_cons, List.length_nil] at this ⊢; omega)⟩
                case measure => (simp [lenS] <;> omega)
            · have te : eqRb 0 0 0 0 0 0 0 y.p.a y.p.l y.m y.o0 y.o1 y.h0 y.h1 = false := (eqRb_of zR y).trans (decide_eq_false hkz)
              have hkc : keepC ⟨1, zR, y⟩ = true := by simp [keepC, hkz]
              have HLEN := Lib.hid (show pre.length < (mrgK xs ys).length by rw [← hpre.out]; simp [mrgK, mrg, hkc, hq1, hq2])
              have HKC := Lib.hid hkc
              clear hkc hkz
              gi_wp2_with (first | (refine wpListIn_store_new rfl 42 (.tmp 6) (.tmp 72) rfl rfl wr.heap.size _ rfl rfl 42 _ (HZ.out _ HQ2.out) info42s rfl (by simp [Value.oneCell']) wr.heap.size (Nat.le_refl _) ?_; intro w3 hz3 hb3; have hm3 := AtL_cells (cs := [.int .i64 1, .int .u32 0, .int .i64 0, .int .i64 0, .int .u64 0, .int .u64 0, .int .u64 0, .int .u64 0, .int .u32 y.p.a, .int .i64 y.p.l, .int .i64 y.m, .int .u64 y.o0, .int .u64 y.o1, .int .u64 y.h0, .int .u64 y.h1]) hz3; have hmo := run_loadL isAgg40i size40i rfl (AtL_sub (k := 1) (n := 7) (ds := [.int .u32 0, .int .i64 0, .int .i64 0, .int .u64 0, .int .u64 0, .int .u64 0, .int .u64 0]) hm3 rfl); have hmn := run_loadL isAgg40i size40i rfl (AtL_sub (k := 8) (n := 7) (ds := [.int .u32 y.p.a, .int .i64 y.p.l, .int .i64 y.m, .int .u64 y.o0, .int .u64 y.o1, .int .u64 y.h0, .int .u64 y.h1]) hm3 rfl); have hmc := run_loadL isAgg42i size42i rfl hm3; clear hz3 hm hm3; have HMO := Lib.hid hmo; have HMN := Lib.hid hmn; have HMC := Lib.hid hmc; clear hmo hmn hmc; obtain ⟨fn, tmps, assign, body, hy, hR⟩ := HY.out pre ⟨1, zR, y⟩ w3 (abides_below HJA.out hJ.out (hbw.out.trans hb3)) HLEN.out; simp only [zR] at hy; have HB3 := Lib.hid (hbw.out.trans hb3); clear hb3) | (refine wpListIn_loadW rfl 40 (.tmp 75) rfl wr.heap.size 1 _ rfl (HMO.out) ?_) | (refine wpListIn_loadW rfl 40 (.tmp 77) rfl wr.heap.size 8 _ rfl (HMN.out) ?_) | (refine wpListIn_loadW rfl 42 (.tmp 6) rfl wr.heap.size 0 _ rfl (HMC.out) ?_))
              all_goals
                refine hR.mono ?_
                rintro e W3 (⟨rfl, hJ3, hk3⟩ | ⟨rfl, hJx3⟩)
                · have HBN := Lib.hid ((HB3.out.mono hn₀.out).trans hk3)
                  have HJ3 := Lib.hid hJ3
                  have HS3 := Lib.hid (Nat.le_trans hn₀.out HBN.out.size)
                  clear hk3 hJ3
                  gi_wp2_with fail
                  go_roundw
                  case rel => exact ⟨pre ++ [⟨1, zR, y⟩], (x :: a), b, Lib.hid (by rw [HNA.out]; exact ha.out.below HBN.out), Lib.hid (by rw [HNB.out]; exact SlAt.tail (by omega) (hb.out.below HBN.out) (by intro hh; first | rfl | exact if_neg hh | exact if_pos hh | exact absurd (by assumption) hh | exact absurd hh (by assumption)) (by intro hh; first | rfl | exact if_neg hh | exact if_pos hh | exact absurd (by assumption) hh | exact absurd hh (by assumption))), Lib.hid (by rw [← hpre.out]; simp [mrgK, mrg, HKC.out, hq1, hq2]), HJ3, HS3, Lib.hid (by have := hlen.out; simp only [List.length_cons, List.length_nil] at this ⊢; omega)⟩
                  case measure => (simp [lenS] <;> omega)
                · have HX := Lib.hid hJx3
                  clear hJx3
                  gi_wp2_with fail
                  refine bodyPost_ret (results_none rfl _ _ _) rfl ?_
                  exact ⟨⟨_, rfl⟩, .inr ⟨pre ++ [⟨1, zR, y⟩], by rw [← hpre.out]; simp [mrgK, mrg, HKC.out, hq1, hq2], HX.out⟩⟩
          | false =>
            have H2 : Hid (∀ w, Calls Try.prog 26 #[.agg #[.int .u32 y.p.a, .int .i64 y.p.l], .agg #[.int .u32 x.p.a, .int .i64 x.p.l]] w fun e w' => e = .returned (.bool false) ∧ Below w.heap.size w w') := Lib.hid (fun w => by have := before_ok y.p x.p w; rwa [hq2] at this)
            have HC2 := fun w2 (h : Below wq1.heap.size wq1 w2) => HC w2 (bthen HQ1.out h)
            gi_wp2_with fail
            refine Og.walkW_lit [[],[0],[1,0],[2,1,0],[3,2,1,0],[4,3,2,1,0],[5,3,4,2,1,0],[6,3,5,4,2,1,0],[3,2,1,0],[8,3,2,1,0],[9,3,8,2,1,0],[10,3,9,8,2,1,0],[7,11,3,6,5,4,2,1,0,10,9,8],[3,12,2,1,0,7,11,6,5,4,10,9,8],[13,12,3,2,1,0,7,11,6,5,4,10,9,8]] (fun w2 => Below wq1.heap.size wq1 w2) (fun w1 w2 => Below w1.heap.size w1 w2) (by kernel_rfl) (by kernel_rfl) (by kernel_rfl) (bdrew) ?_
            repeat (first | (refine Og.step_pure (fun _ => Below.refl _ _) ?_; apply Exists.intro; refine And.intro ?_ ?_; focus (intro vs w2 hC hk; have hm := HC2 w2 hC; revert hk; simp only [Og.KS, Og.K0, Og.Is, List.getD_cons_zero, List.getD_cons_succ, List.getD_nil, List.contains_cons, List.contains_nil, Nat.reduceAdd, Nat.reduceBEq, Bool.or_false, Bool.false_or, Bool.or_true, Bool.true_or, Bool.false_eq_true, false_implies, true_implies, true_and, and_true, forall_const]; intros; go_simp; rfl)) | (refine Og.step_one ?_; apply Exists.intro; refine And.intro ?_ ?_; focus (intro vs w2 hC hk; have hm := HC2 w2 hC; revert hk; simp only [Og.KS, Og.K0, Og.Is, List.getD_cons_zero, List.getD_cons_succ, List.getD_nil, List.contains_cons, List.contains_nil, Nat.reduceAdd, Nat.reduceBEq, Bool.or_false, Bool.false_or, Bool.or_true, Bool.true_or, Bool.false_eq_true, false_implies, true_implies, true_and, and_true, forall_const]; intros; go_simp; with_reducible refine (H2.out _).mono ?_; rintro e w3 ⟨rfl, hb⟩; exact Og.RetV.mk ⟨bthen hC hb, hb, rfl⟩)))
            intro vs wq2 hC hk
            have hm := HC2 wq2 hC
            simp only [Og.KS, Og.K0, Og.Is, List.getD_cons_zero, List.getD_cons_succ, List.getD_nil, List.contains_cons, List.contains_nil, Nat.reduceAdd, Nat.reduceBEq, Bool.or_false, Bool.false_or, Bool.or_true, Bool.true_or, Bool.false_eq_true, false_implies, true_implies, true_and, and_true, forall_const] at hk
            simp only [hk, Act.put, List.setIfInBounds_toArray, List.set_cons_zero, List.set_cons_succ]
            clear hk
            have HQ2 := Lib.hid (bthen HQ1.out hC)
            clear hC
            clear hm
            gi_wp2_with fail
            have hbw := Lib.hid (bthen' HB1.out HB1.out.size HQ2.out)
            have HT := fun w2 (h : Below wr.heap.size wq2 w2 ∧ ∃ z, w2.heap[wr.heap.size]? = some (Obj.cells z 42 (0, 0)) ∧ z.size = 15) => HX w2 (hbw.out.trans h.1)
            have hz := HZ.out _ HQ2.out
            refine Og.walkW_lit [[],[0],[1,0],[],[3],[4,3],[2,5,1,0,4,3],[6,0,1,2,3,4,5]] (fun w2 => Below wr.heap.size wq2 w2 ∧ ∃ z, w2.heap[wr.heap.size]? = some (Obj.cells z 42 (0, 0)) ∧ z.size = 15) (fun w1 w2 => Below wr.heap.size w1 w2 ∧ (w1.heap[wr.heap.size]? = some (Obj.cells #[.int .i64 3, .int .u32 x.p.a, .int .i64 x.p.l, .int .i64 x.m, .int .u64 x.o0, .int .u64 x.o1, .int .u64 x.h0, .int .u64 x.h1, .int .u32 y.p.a, .int .i64 y.p.l, .int .i64 y.m, .int .u64 y.o0, .int .u64 y.o1, .int .u64 y.h0, .int .u64 y.h1] 42 (0, 0)) → w2.heap[wr.heap.size]? = some (Obj.cells #[.int .i64 3, .int .u32 x.p.a, .int .i64 x.p.l, .int .i64 x.m, .int .u64 x.o0, .int .u64 x.o1, .int .u64 x.h0, .int .u64 x.h1, .int .u32 y.p.a, .int .i64 y.p.l, .int .i64 y.m, .int .u64 y.o0, .int .u64 y.o1, .int .u64 y.h0, .int .u64 y.h1] 42 (0, 0)))) (by kernel_rfl) (by kernel_rfl) (by kernel_rfl) (⟨bdrew', _, hz, rfl⟩) ?_
            clear hz
            iterate 7 (refine Og.step_pure (fun _ => ⟨Below.refl _ _, fun h => h⟩) ?_; apply Exists.intro; refine And.intro ?_ ?_; focus (intro vs w2 hC hk; have hm := HT w2 hC; clear hC; revert hk; simp only [Og.KS, Og.K0, Og.Is, List.getD_cons_zero, List.getD_cons_succ, List.getD_nil, List.contains_cons, List.contains_nil, Nat.reduceAdd, Nat.reduceBEq, Bool.or_false, Bool.false_or, Bool.or_true, Bool.true_or, Bool.false_eq_true, false_implies, true_implies, true_and, and_true, forall_const]; intros; go_simp; rfl))
            refine Og.step_any (fun _ w2 => w2.heap[wr.heap.size]? = some (Obj.cells #[.int .i64 3, .int .u32 x.p.a, .int .i64 x.p.l, .int .i64 x.m, .int .u64 x.o0, .int .u64 x.o1, .int .u64 x.h0, .int .u64 x.h1, .int .u32 y.p.a, .int .i64 y.p.l, .int .i64 y.m, .int .u64 y.o0, .int .u64 y.o1, .int .u64 y.h0, .int .u64 y.h1] 42 (0, 0))) (fun _ _ _ h k => h.2 k) ?_ ?_
            · intro vs w2 hC hk
              simp only [Og.KS, Og.K0, Og.Is, List.getD_cons_zero, List.getD_cons_succ, List.getD_nil, List.contains_cons, List.contains_nil, Nat.reduceAdd, Nat.reduceBEq, Bool.or_false, Bool.false_or, Bool.or_true, Bool.true_or, Bool.false_eq_true, false_implies, true_implies, true_and, and_true, forall_const] at hk
              simp only [hk, Act.put, List.setIfInBounds_toArray, List.set_cons_zero, List.set_cons_succ]
              clear hk
              obtain ⟨z, hz, hz15⟩ := hC.2
              refine opt_store rfl 42 (.tmp 6) (.tmp 23) rfl wr.heap.size #[.int .i64 3, .int .u32 x.p.a, .int .i64 x.p.l, .int .i64 x.m, .int .u64 x.o0, .int .u64 x.o1, .int .u64 x.h0, .int .u64 x.h1, .int .u32 y.p.a, .int .i64 y.p.l, .int .i64 y.m, .int .u64 y.o0, .int .u64 y.o1, .int .u64 y.h0, .int .u64 y.h1] rfl rfl 42 z hz info42s (by rw [hz15]; rfl) (by simp [Value.oneCell']) wr.heap.size (Nat.le_refl _) ?_
              intro w3 hz3 hb3
              exact ⟨⟨hC.1.trans hb3, _, hz3, rfl⟩, ⟨hb3, fun _ => hz3⟩, hz3⟩
            intro vs w5 hC hk
            simp only [Og.KS, Og.K0, Og.Is, List.getD_cons_zero, List.getD_cons_succ, List.getD_nil, List.contains_cons, List.contains_nil, Nat.reduceAdd, Nat.reduceBEq, Bool.or_false, Bool.false_or, Bool.or_true, Bool.true_or, Bool.false_eq_true, false_implies, true_implies, true_and, and_true, forall_const] at hk
            simp only [hk, Act.put, List.setIfInBounds_toArray, List.set_cons_zero, List.set_cons_succ]
            have hz5 : w5.heap[wr.heap.size]? = some (Obj.cells #[.int .i64 3, .int .u32 x.p.a, .int .i64 x.p.l, .int .i64 x.m, .int .u64 x.o0, .int .u64 x.o1, .int .u64 x.h0, .int .u64 x.h1, .int .u32 y.p.a, .int .i64 y.p.l, .int .i64 y.m, .int .u64 y.o0, .int .u64 y.o1, .int .u64 y.h0, .int .u64 y.h1] 42 (0, 0)) := by simp only [hk]
            have HZ5 := Lib.hid hz5
            have HB5 := Lib.hid (hbw.out.trans hC.1)
            clear hk hz5 hC HT HX HC
            have HC9 : ∀ w2, Below w5.heap.size w5 w2 → True := fun _ _ => trivial
            gi_wp2_with fail
            refine Og.walkW_lit [[],[0],[],[2],[1,0],[3,4,0,1,2]] (fun w2 => Below w5.heap.size w5 w2) (fun w1 w2 => Below w1.heap.size w1 w2) (by kernel_rfl) (by kernel_rfl) (by kernel_rfl) (bdrew) ?_
            repeat (first | (refine Og.step_pure (fun _ => Below.refl _ _) ?_; apply Exists.intro; refine And.intro ?_ ?_; focus (intro vs w2 hC hk; have hm := HC9 w2 hC; revert hk; simp only [Og.KS, Og.K0, Og.Is, List.getD_cons_zero, List.getD_cons_succ, List.getD_nil, List.contains_cons, List.contains_nil, Nat.reduceAdd, Nat.reduceBEq, Bool.or_false, Bool.false_or, Bool.or_true, Bool.true_or, Bool.false_eq_true, false_implies, true_implies, true_and, and_true, forall_const]; intros; go_simp; rfl)))
            intro vs w3 hC hk
            have hm := HC9 w3 hC
            simp only [Og.KS, Og.K0, Og.Is, List.getD_cons_zero, List.getD_cons_succ, List.getD_nil, List.contains_cons, List.contains_nil, Nat.reduceAdd, Nat.reduceBEq, Bool.or_false, Bool.false_or, Bool.or_true, Bool.true_or, Bool.false_eq_true, false_implies, true_implies, true_and, and_true, forall_const] at hk
            simp only [hk, Act.put, List.setIfInBounds_toArray, List.set_cons_zero, List.set_cons_succ]
            clear hk
            clear hm
            have hz3 : w3.heap[wr.heap.size]? = some (Obj.cells #[.int .i64 3, .int .u32 x.p.a, .int .i64 x.p.l, .int .i64 x.m, .int .u64 x.o0, .int .u64 x.o1, .int .u64 x.h0, .int .u64 x.h1, .int .u32 y.p.a, .int .i64 y.p.l, .int .i64 y.m, .int .u64 y.o0, .int .u64 y.o1, .int .u64 y.h0, .int .u64 y.h1] 42 (0, 0)) := (hC.block _ (Array.getElem?_eq_some_iff.1 HZ5.out).1).trans HZ5.out
            have hm3 := cells15 hz3
            have HB3 := Lib.hid (bthen' HB5.out HB5.out.size hC)
            clear hC hz3 HC9
            by_cases hkz : x = y
            · have te : eqRb x.p.a x.p.l x.m x.o0 x.o1 x.h0 x.h1 y.p.a y.p.l y.m y.o0 y.o1 y.h0 y.h1 = true := (eqRb_of x y).trans (decide_eq_true hkz)
              have hkc : keepC ⟨3, x, y⟩ = false := by simp [keepC, hkz]
              have HKC := Lib.hid hkc
              clear hkc hkz
              gi_wp2_with fail
              all_goals
                refine ⟨fun _ h => (by cases h), ?_⟩
                gi_wp2_with fail
                have HBN := Lib.hid (HB3.out.mono hn₀.out)
                have HJ3 := Lib.hid (abides_below HJA.out hJ.out HB3.out)
                have HS3 := Lib.hid (Nat.le_trans hn₀.out HBN.out.size)
                go_roundw
                case rel => exact ⟨pre, a, b, Lib.hid (by rw [HNA.out]; exact SlAt.tail (by omega) (ha.out.below HBN.out) (by intro hh; first | rfl | exact if_neg hh | exact if_pos hh | exact absurd (by assumption) hh | exact absurd hh (by assumption)) (by intro hh; first | rfl | exact if_neg hh | exact if_pos hh | exact absurd (by assumption) hh | exact absurd hh (by assumption))), Lib.hid (by rw [HNB.out]; exact SlAt.tail (by omega) (hb.out.below HBN.out) (by intro hh; first | rfl | exact if_neg hh | exact if_pos hh | exact absurd (by assumption) hh | exact absurd hh (by assumption)) (by intro hh; first | rfl | exact if_neg hh | exact if_pos hh | exact absurd (by assumption) hh | exact absurd hh (by assumption))), Lib.hid (by rw [← hpre.out]; simp [mrgK, mrg, HKC.out, hq1, hq2]), HJ3, HS3, Lib.hid (by have := hlen.out; simp only [List.length_cons, List.length_nil] at this ⊢; omega)⟩
                case measure => (simp [lenS] <;> omega)
            · have te : eqRb x.p.a x.p.l x.m x.o0 x.o1 x.h0 x.h1 y.p.a y.p.l y.m y.o0 y.o1 y.h0 y.h1 = false := (eqRb_of x y).trans (decide_eq_false hkz)
              have hkc : keepC ⟨3, x, y⟩ = true := by simp [keepC, hkz]
              have HLEN := Lib.hid (show pre.length < (mrgK xs ys).length by rw [← hpre.out]; simp [mrgK, mrg, hkc, hq1, hq2])
              obtain ⟨fn, tmps, assign, body, hy, hR⟩ := HY.out pre ⟨3, x, y⟩ w3 (abides_below HJA.out hJ.out HB3.out) HLEN.out
              dsimp only at hy
              have HKC := Lib.hid hkc
              clear hkc hkz
              gi_wp2_with fail
              all_goals
                refine hR.mono ?_
                rintro e W3 (⟨rfl, hJ3, hk3⟩ | ⟨rfl, hJx3⟩)
                · have HBN := Lib.hid ((HB3.out.mono hn₀.out).trans hk3)
                  have HJ3 := Lib.hid hJ3
                  have HS3 := Lib.hid (Nat.le_trans hn₀.out HBN.out.size)
                  clear hk3 hJ3
                  gi_wp2_with fail
                  go_roundw
                  case rel => exact ⟨pre ++ [⟨3, x, y⟩], a, b, Lib.hid (by rw [HNA.out]; exact SlAt.tail (by omega) (ha.out.below HBN.out) (by intro hh; first | rfl | exact if_neg hh | exact if_pos hh | exact absurd (by assumption) hh | exact absurd hh (by assumption)) (by intro hh; first | rfl | exact if_neg hh | exact if_pos hh | exact absurd (by assumption) hh | exact absurd hh (by assumption))), Lib.hid (by rw [HNB.out]; exact SlAt.tail (by omega) (hb.out.below HBN.out) (by intro hh; first | rfl | exact if_neg hh | exact if_pos hh | exact absurd (by assumption) hh | exact absurd hh (by assumption)) (by intro hh; first | rfl | exact if_neg hh | exact if_pos hh | exact absurd (by assumption) hh | exact absurd hh (by assumption))), Lib.hid (by rw [← hpre.out]; simp [mrgK, mrg, HKC.out, hq1, hq2]), HJ3, HS3, Lib.hid (by have := hlen.out; simp only [List.length_cons, List.length_nil] at this ⊢; omega)⟩
                  case measure => (simp [lenS] <;> omega)
                · have HX := Lib.hid hJx3
                  clear hJx3
                  gi_wp2_with fail
                  refine bodyPost_ret (results_none rfl _ _ _) rfl ?_
                  exact ⟨⟨_, rfl⟩, .inr ⟨pre ++ [⟨3, x, y⟩], by rw [← hpre.out]; simp [mrgK, mrg, HKC.out, hq1, hq2], HX.out⟩⟩

end Go.Proofs.Ytpnhkniegjfncaa
