/- The reference's find, change and next; conditions: the tables fit the memory. -/
import Derived.Test.YtpnhkniegjfncaaD7
import Derived.Test.YtpnhkniegjfncaaD20
import Derived.Great.BuildSlice
namespace Go.Proofs.Ytpnhkniegjfncaa
open Go.ChangeShapes Go.WideShapes Go.ChangeAt Go.RowKit
set_option linter.unusedVariables false
set_option linter.unusedSimpArgs false
attribute [local go_sem] Og.Opt Og.OpY
attribute [local go_sem high] eqB1 eqP1 eqR1 eqC1

/-- the changes of one prefix -/
def chgL (o n : Ro) : List Ch := if o = n then [] else if o = zR then [⟨1, zR, n⟩] else if n = zR then [⟨2, o, zR⟩] else [⟨3, o, n⟩]
def fnd (xs : List Ro) (p : Pf) : Ro := (xs.find? (fun r => decide (r.p = p))).getD zR
theorem fnd_hit {xs : List Ro} {p : Pf} {k : Nat} {r : Ro} (h : ∀ j, j < k → ∀ s, xs[j]? = some s → decide (s.p = p) = false) (hx : xs[k]? = some r) (hp : decide (r.p = p) = true) : fnd xs p = r := by
  induction xs generalizing k with
  | nil => simp at hx
  | cons x xs ih =>
    unfold fnd
    cases k with
    | zero =>
      simp only [List.getElem?_cons_zero, Option.some.injEq] at hx
      subst hx
      rw [List.find?_cons_of_pos (by exact hp)]; rfl
    | succ k =>
      rw [List.find?_cons_of_neg (by have := h 0 (by omega) x rfl; simp [this])]
      exact ih (k := k) (fun j hj s hs => h (j + 1) (by omega) s (by simpa using hs)) (by simpa using hx)
theorem fnd_miss {xs : List Ro} {p : Pf} (h : ∀ j, j < xs.length → ∀ s, xs[j]? = some s → decide (s.p = p) = false) : fnd xs p = zR := by
  unfold fnd
  rw [List.find?_eq_none.2]
  · rfl
  · intro x hx
    obtain ⟨i, hi, rfl⟩ := List.getElem_of_mem hx
    simpa using h i hi _ (List.getElem?_eq_getElem hi)
theorem heap_keep {w w2 : World} {k : Nat} {ob : Obj} (hb : Below w.heap.size w w2) (h : w.heap[k]? = some ob) : w2.heap[k]? = some ob := (hb.block _ (Array.getElem?_eq_some_iff.1 h).1).trans h
theorem heap_new1 (w : World) (a b : Obj) : ((w.alloc a).alloc b).heap[w.heap.size + 1]? = (((w.alloc a).alloc b).heap[(w.alloc a).heap.size]?) := by rw [World.size_alloc]
/-- a struct is laid into a block of the call's own -/
theorem wpList_store_new {P : Program} {ops : Array Oper} {rest : List Oper} {o : Oper} {a : Act} {w : World} {Q : Exit → Act → World → Prop} (hgd : o.guard = none) (ty : TypeId) (x y : Operand) (ho : o.op = .store ty x y) (hd : o.dst = none)
    (g : Nat) (cells : Array Value) (hx : a.eval x = .pointer (some ⟨g, 0, none⟩)) (hy : a.eval y = .agg cells)
    (t : TypeId) (old : Array Value) (hg : w.heap[g]? = some (.cells old t (0, 0))) (hi : (P.info? ty).map (·.size) = some cells.size)
    (hold : old.size = cells.size) (h1 : cells.all (·.oneCell') = true)
    (h : ∀ w3, w3.heap[g]? = some (.cells cells t (0, 0)) → (∀ B, B ≤ g → Below B w w3) → (∀ k, k ≠ g → w3.heap[k]? = w.heap[k]?) → w3.heap.size = w.heap.size → wpList P ops Q rest a w3) : wpList P ops Q (o :: rest) a w := by
  refine wpList_store_rowTo hgd ty x y ho hd g cells hx hy t old hg hi hold h1 ?_
  exact h _ (setRow_heap w g old cells t (0, 0) hg) (fun B hB => ⟨rfl, rfl, rfl, by simp [World.setRow], fun k hk => setRow_other w g k _ (by omega)⟩) (fun k hk => setRow_other w g k _ hk) (by simp [World.setRow])
theorem info40s : (Try.prog.info? 40).map (·.size) = some 7 := by kernel_rfl
theorem info35s : (Try.prog.info? 35).map (·.size) = some 2 := by kernel_rfl
theorem info42s' : (Try.prog.info? 42).map (·.size) = some 15 := by kernel_rfl
theorem cells7 {w : World} {B : Nat} {t : TypeId} {v0 v1 v2 v3 v4 v5 v6 : Value} (h : w.heap[B]? = some (.cells #[v0, v1, v2, v3, v4, v5, v6] t (0, 0))) : w.cell? ⟨B, 0, none⟩ = some v0 ∧ w.cell? ⟨B, 1, none⟩ = some v1 ∧ w.cell? ⟨B, 2, none⟩ = some v2 ∧ w.cell? ⟨B, 3, none⟩ = some v3 ∧ w.cell? ⟨B, 4, none⟩ = some v4 ∧ w.cell? ⟨B, 5, none⟩ = some v5 ∧ w.cell? ⟨B, 6, none⟩ = some v6 := by
  simp [World.cell?, h]
theorem cells2 {w : World} {B : Nat} {t : TypeId} {v0 v1 : Value} (h : w.heap[B]? = some (.cells #[v0, v1] t (0, 0))) : w.cell? ⟨B, 0, none⟩ = some v0 ∧ w.cell? ⟨B, 1, none⟩ = some v1 := by
  simp [World.cell?, h]

set_option maxRecDepth 100000 in
set_option maxHeartbeats 4000000 in
theorem find_ok (xs : List Ro) (p : Pf) (A : Option Addr) (c : Nat) (w : World) (hr : RdR w A xs) (hl : xs.length ≤ 1125899906842624) :
    Calls Try.prog 29 #[.slice A xs.length c, .agg #[.int .u32 p.a, .int .i64 p.l]] w fun e w' => e = .returned (.agg #[.int .u32 (fnd xs p).p.a, .int .i64 (fnd xs p).p.l, .int .i64 (fnd xs p).m, .int .u64 (fnd xs p).o0, .int .u64 (fnd xs p).o1, .int .u64 (fnd xs p).h0, .int .u64 (fnd xs p).h1]) ∧ Below w.heap.size w w' := by
  obtain ⟨n, hn⟩ : ∃ n, n = xs.length := ⟨_, rfl⟩
  rw [← hn] at hl
  have HN := Lib.hid hn
  have HR := Lib.hid hr
  rw [← hn]
  clear hn hr
  go_enter Try.func29, Try.ntmps29
  go_wp2_with fail
  go_loopw [5] (fun i wr => ∃ k : Nat, k ≤ n ∧ i = .int .i64 k ∧ Hid (∀ j, j < k → ∀ s, xs[j]? = some s → decide (s.p = p) = false) ∧ Hid (Below w.heap.size w wr) ∧ Hid (wr.heap[w.heap.size]? = some (.cells #[.int .u32 p.a, .int .i64 p.l] 35 (0, 0))) ∧ Hid (wr.heap[w.heap.size + 1]? = some (.cells #[.int .u32 0, .int .i64 0, .int .i64 0, .int .u64 0, .int .u64 0, .int .u64 0, .int .u64 0] 40 (0, 0)))) (fun i _ => n - (intOf i).toNat)
  case atStart => exact ⟨0, Nat.zero_le _, rfl, Lib.hid (fun j hj => by omega), Lib.hid (((Below.refl _ _).alloc (Nat.le_refl _) _).alloc (by simp) _), Lib.hid (heap_keep ((Below.refl _ _).alloc (Nat.le_refl _) _) (heap_alloc_new w _)), Lib.hid ((heap_new1 w _ _).trans (heap_alloc_new (w.alloc _) _))⟩
  case round =>
    obtain ⟨k, hk, rfl, hall, hbw, hp, hz⟩ := hrel
    by_cases hlt : k < n
    · obtain ⟨r, hx⟩ : ∃ r, xs[k]? = some r := ⟨_, List.getElem?_eq_getElem (by rw [← HN.out]; exact hlt)⟩
      obtain ⟨b, o, rfl, ha⟩ := (HR.out.below hbw.out) k r hx
      have HX := Lib.hid hx
      obtain ⟨c0, c1, c2, c3, c4, c5, c6⟩ := ha
      obtain ⟨p0, p1⟩ := cells2 hp.out
      have hwk : IntKind.i64.wrap (k : Int) = k := wrapk (by omega)
      have hk0 : (0 : Int) ≤ (k : Int) := by omega
      have hkn : (k : Int) < (n : Int) := by omega
      have HC : ∀ w2, Below wr.heap.size wr w2 → w2.cell? ⟨b, o + k * 7, none⟩ = some (.int .u32 r.p.a) ∧ w2.cell? ⟨b, o + k * 7 + 1, none⟩ = some (.int .i64 r.p.l) ∧ w2.cell? ⟨b, o + k * 7 + 2, none⟩ = some (.int .i64 r.m) ∧ w2.cell? ⟨b, o + k * 7 + 3, none⟩ = some (.int .u64 r.o0) ∧ w2.cell? ⟨b, o + k * 7 + 4, none⟩ = some (.int .u64 r.o1) ∧ w2.cell? ⟨b, o + k * 7 + 5, none⟩ = some (.int .u64 r.h0) ∧ w2.cell? ⟨b, o + k * 7 + 6, none⟩ = some (.int .u64 r.h1) ∧ w2.cell? ⟨w.heap.size, 0, none⟩ = some (.int .u32 p.a) ∧ w2.cell? ⟨w.heap.size, 1, none⟩ = some (.int .i64 p.l) :=
        fun w2 h => ⟨bcell h c0, bcell h c1, bcell h c2, bcell h c3, bcell h c4, bcell h c5, bcell h c6, bcell h p0, bcell h p1⟩
      clear hx c0 c1 c2 c3 c4 c5 c6 p0 p1
      cases heq : decide (r.p = p) with
      | true =>
        have te : eqPb r.p.a r.p.l p.a p.l = true := heq
        have E := Lib.hid (fnd_hit hall.out HX.out heq)
        clear heq
        go_wp2_with fail
        refine Og.walk_lit [[],[],[0,1],[2,0,1],[3,2,0,1],[],[4,5,3,2,0,1]] (fun w2 => Below wr.heap.size wr w2) (fun w1 w2 => Below w1.heap.size w1 w2) (by kernel_rfl) (by kernel_rfl) (bdrew) ?_
        repeat (first | (refine Og.step_pure (fun _ => Below.refl _ _) ?_; apply Exists.intro; refine And.intro ?_ ?_; focus (intro vs w2 hC hk; have hm := HC w2 hC; revert hk; simp only [Og.KS, Og.K0, Og.Is, List.getD_cons_zero, List.getD_cons_succ, List.getD_nil, List.contains_cons, List.contains_nil, Nat.reduceAdd, Nat.reduceBEq, Bool.or_false, Bool.false_or, Bool.or_true, Bool.true_or, Bool.false_eq_true, false_implies, true_implies, true_and, and_true, forall_const]; intros; go_simp; rfl)))
        intro vs w2 hC hk
        have hm := HC w2 hC
        simp only [Og.KS, Og.K0, Og.Is, List.getD_cons_zero, List.getD_cons_succ, List.getD_nil, List.contains_cons, List.contains_nil, Nat.reduceAdd, Nat.reduceBEq, Bool.or_false, Bool.false_or, Bool.or_true, Bool.true_or, Bool.false_eq_true, false_implies, true_implies, true_and, and_true, forall_const] at hk
        simp only [hk, Act.put, List.setIfInBounds_toArray, List.set_cons_zero, List.set_cons_succ]
        clear hk
        have HB2 := Lib.hid (bthen' hbw.out hbw.out.size hC)
        have hz2 := Lib.hid (heap_keep hC hz.out)
        clear hC HC hbw hp hz
        go_wp2_with (refine wpList_store_new rfl 40 (.tmp 4) (.tmp 22) rfl rfl (w.heap.size + 1) #[.int .u32 r.p.a, .int .i64 r.p.l, .int .i64 r.m, .int .u64 r.o0, .int .u64 r.o1, .int .u64 r.h0, .int .u64 r.h1] rfl rfl 40 _ (hz2.out) info40s rfl (by simp [Value.oneCell']) ?_; intro w3 hz3 hb3 _ _; obtain ⟨z0, z1, z2, z3, z4, z5, z6⟩ := cells7 hz3; replace hb3 := HB2.out.trans (hb3 w.heap.size (by omega)); clear hz3)
        refine bodyPost_ret (v := .agg #[.int .u32 r.p.a, .int .i64 r.p.l, .int .i64 r.m, .int .u64 r.o0, .int .u64 r.o1, .int .u64 r.h0, .int .u64 r.h1]) (by simp [results, Try.f29, go_sem, z0, z1, z2, z3, z4, z5, z6]) rfl ⟨by rw [E.out], hb3⟩
      | false =>
        have te : eqPb r.p.a r.p.l p.a p.l = false := heq
        have N : Hid (Hid (∀ j, j < k + 1 → ∀ s, xs[j]? = some s → decide (s.p = p) = false)) := Lib.hid (Lib.hid (fun j hj s hs => by
          by_cases hjk : j = k
          · subst hjk; rw [HX.out] at hs; cases hs; exact heq
          · exact hall.out j (by omega) s hs))
        clear heq
        go_wp2_with fail
        refine Og.walk_lit [[],[],[0,1],[2,0,1],[3,2,0,1],[],[4,5,3,2,0,1]] (fun w2 => Below wr.heap.size wr w2) (fun w1 w2 => Below w1.heap.size w1 w2) (by kernel_rfl) (by kernel_rfl) (bdrew) ?_
        repeat (first | (refine Og.step_pure (fun _ => Below.refl _ _) ?_; apply Exists.intro; refine And.intro ?_ ?_; focus (intro vs w2 hC hk; have hm := HC w2 hC; revert hk; simp only [Og.KS, Og.K0, Og.Is, List.getD_cons_zero, List.getD_cons_succ, List.getD_nil, List.contains_cons, List.contains_nil, Nat.reduceAdd, Nat.reduceBEq, Bool.or_false, Bool.false_or, Bool.or_true, Bool.true_or, Bool.false_eq_true, false_implies, true_implies, true_and, and_true, forall_const]; intros; go_simp; rfl)))
        intro vs w2 hC hk
        have hm := HC w2 hC
        simp only [Og.KS, Og.K0, Og.Is, List.getD_cons_zero, List.getD_cons_succ, List.getD_nil, List.contains_cons, List.contains_nil, Nat.reduceAdd, Nat.reduceBEq, Bool.or_false, Bool.false_or, Bool.or_true, Bool.true_or, Bool.false_eq_true, false_implies, true_implies, true_and, and_true, forall_const] at hk
        simp only [hk, Act.put, List.setIfInBounds_toArray, List.set_cons_zero, List.set_cons_succ]
        clear hk
        have HB2 := Lib.hid (bthen' hbw.out hbw.out.size hC)
        have hp2 := Lib.hid (heap_keep hC hp.out)
        have hz2 := Lib.hid (heap_keep hC hz.out)
        clear hC hm HC hbw hp hz
        go_wp2_with fail
        go_roundw
        case rel => exact ⟨k + 1, by omega, by go_num, N.out, HB2, hp2, hz2⟩
        case measure => simp [intOf]; omega
    · have hkn : k = n := by omega
      subst hkn
      have E := Lib.hid (fnd_miss (xs := xs) (p := p) (fun j hj s hs => hall.out j (by rw [HN.out]; exact hj) s hs))
      go_wp2_with (refine wpList_store_new rfl 40 (.tmp 4) (.tmp 23) rfl rfl (w.heap.size + 1) #[.int .u32 0, .int .i64 0, .int .i64 0, .int .u64 0, .int .u64 0, .int .u64 0, .int .u64 0] rfl rfl 40 _ (hz.out) info40s rfl (by simp [Value.oneCell']) ?_; intro w3 hz3 hb3 _ _; obtain ⟨z0, z1, z2, z3, z4, z5, z6⟩ := cells7 hz3; replace hb3 := hbw.out.trans (hb3 w.heap.size (by omega)); clear hz3)
      refine bodyPost_ret (v := .agg #[.int .u32 0, .int .i64 0, .int .i64 0, .int .u64 0, .int .u64 0, .int .u64 0, .int .u64 0]) (by simp [results, Try.f29, go_sem, z0, z1, z2, z3, z4, z5, z6]) rfl ⟨by rw [E.out]; rfl, hb3⟩

theorem SlC_one {w : World} {g B : Nat} {c : Ch} (h : w.heap[g]? = some (.cells (ccV c).toArray 42 (0, 0))) (hB : B ≤ g) : SlC B w (.slice (some ⟨g, 0, none⟩) 1 1) [c] := by
  refine ⟨some ⟨g, 0, none⟩, 1, rfl, fun i r hi => ⟨g, 0, rfl, AtC_of fun k u hu => ?_⟩, fun hA => (by cases hA), fun a ha => (by cases ha; exact hB), by simp⟩
  have hi' := (List.getElem?_eq_some_iff.1 hi).1
  obtain rfl : i = 0 := by simp at hi'; exact hi'
  obtain rfl : c = r := by simpa using hi
  simp [World.cell?, h, hu]
theorem heap_at {W : World} {ob : Obj} {g : Nat} (hg : g = W.heap.size) : (W.alloc ob).heap[g]? = some ob := by subst hg; exact heap_alloc_new W ob
theorem SlC_nil {w : World} {B : Nat} : SlC B w (.slice none 0 0) [] := ⟨none, 0, rfl, fun i r hr => by simp at hr, fun _ => rfl, fun a ha => (by cases ha), by simp⟩
theorem change_ok (o n : Ro) (w : World) :
    Calls Try.prog 28 #[.agg #[.int .u32 o.p.a, .int .i64 o.p.l, .int .i64 o.m, .int .u64 o.o0, .int .u64 o.o1, .int .u64 o.h0, .int .u64 o.h1], .agg #[.int .u32 n.p.a, .int .i64 n.p.l, .int .i64 n.m, .int .u64 n.o0, .int .u64 n.o1, .int .u64 n.h0, .int .u64 n.h1]] w fun e w' => (∃ v, e = .returned v ∧ SlC w.heap.size w' v (chgL o n)) ∧ Below w.heap.size w w' := by
  by_cases h1 : o = n
  · have E : Hid (chgL o n = []) := Lib.hid (by unfold chgL; rw [if_pos h1])
    have t1 : eqRb o.p.a o.p.l o.m o.o0 o.o1 o.h0 o.h1 n.p.a n.p.l n.m n.o0 n.o1 n.h0 n.h1 = true := by rw [eqRb_of]; simpa using h1
    clear h1
    go_enter Try.func28, Try.ntmps28
    go_wp2_with fail
    go_ret
    exact ⟨⟨_, rfl, by rw [E.out]; exact SlC_nil⟩, (by repeat (first | exact Below.refl _ _ | refine Below.alloc ?_ (by first | exact Nat.le_refl _ | (simp; done) | (simp; omega)) _))⟩
  · have t1 : eqRb o.p.a o.p.l o.m o.o0 o.o1 o.h0 o.h1 n.p.a n.p.l n.m n.o0 n.o1 n.h0 n.h1 = false := by rw [eqRb_of]; simpa using h1
    by_cases h2 : o = zR
    · have E : Hid (chgL o n = [⟨1, zR, n⟩]) := Lib.hid (by unfold chgL; rw [if_neg h1, if_pos h2])
      have t2 : eqRb o.p.a o.p.l o.m o.o0 o.o1 o.h0 o.h1 0 0 0 0 0 0 0 = true := by have := eqRb_of o zR; rw [decide_eq_true h2] at this; exact this
      clear h1 h2
      go_enter Try.func28, Try.ntmps28
      go_wp2_with fail
      go_ret
      exact ⟨⟨_, rfl, by rw [E.out]; exact SlC_one (c := ⟨1, zR, n⟩) (heap_at (by simp only [World.size_alloc])) (by omega)⟩, (by repeat (first | exact Below.refl _ _ | refine Below.alloc ?_ (by first | exact Nat.le_refl _ | (simp; done) | (simp; omega)) _))⟩
    · have t2 : eqRb o.p.a o.p.l o.m o.o0 o.o1 o.h0 o.h1 0 0 0 0 0 0 0 = false := by have := eqRb_of o zR; rw [decide_eq_false h2] at this; exact this
      by_cases h3 : n = zR
      · have E : Hid (chgL o n = [⟨2, o, zR⟩]) := Lib.hid (by unfold chgL; rw [if_neg h1, if_neg h2, if_pos h3])
        have t3 : eqRb n.p.a n.p.l n.m n.o0 n.o1 n.h0 n.h1 0 0 0 0 0 0 0 = true := by have := eqRb_of n zR; rw [decide_eq_true h3] at this; exact this
        clear h1 h2 h3
        go_enter Try.func28, Try.ntmps28
        go_wp2_with fail
        go_ret
        exact ⟨⟨_, rfl, by rw [E.out]; exact SlC_one (c := ⟨2, o, zR⟩) (heap_at (by simp only [World.size_alloc])) (by omega)⟩, (by repeat (first | exact Below.refl _ _ | refine Below.alloc ?_ (by first | exact Nat.le_refl _ | (simp; done) | (simp; omega)) _))⟩
      · have t3 : eqRb n.p.a n.p.l n.m n.o0 n.o1 n.h0 n.h1 0 0 0 0 0 0 0 = false := by have := eqRb_of n zR; rw [decide_eq_false h3] at this; exact this
        have E : Hid (chgL o n = [⟨3, o, n⟩]) := Lib.hid (by unfold chgL; rw [if_neg h1, if_neg h2, if_neg h3])
        clear h1 h2 h3
        go_enter Try.func28, Try.ntmps28
        go_wp2_with fail
        go_ret
        exact ⟨⟨_, rfl, by rw [E.out]; exact SlC_one (c := ⟨3, o, n⟩) (heap_at (by simp only [World.size_alloc])) (by omega)⟩, (by repeat (first | exact Below.refl _ _ | refine Below.alloc ?_ (by first | exact Nat.le_refl _ | (simp; done) | (simp; omega)) _))⟩

end Go.Proofs.Ytpnhkniegjfncaa
