/- delta.All works: the fixed fact; no condition. -/
import Derived.Test.YtpnhkniegjfncaaD11
namespace Go.Proofs.Ytpnhkniegjfncaa
open Go.ChangeShapes Go.WideShapes Go.ChangeAt Go.RowKit
set_option linter.unusedVariables false
set_option linter.unusedSimpArgs false
attribute [local go_sem] Og.Opt Og.OpY Oper.semAt_some
attribute [local go_sem high] eqB1 eqP1 eqR1 eqC1

theorem slAt_of {B : Nat} {w : World} {v : Value} {xs : List Ro} (h : SlR B w v xs) : SlAt w.heap.size w v xs := by
  obtain ⟨A, c, hv, hr, h1, h2, h3⟩ := h
  refine ⟨A, c, hv, hr, fun a ha hne => ?_, h3⟩
  cases xs with
  | nil => exact absurd rfl hne
  | cons x xs =>
    obtain ⟨b, o, hA, hat⟩ := hr 0 x rfl
    rw [hA] at ha
    cases ha
    exact World.block_lt_of_cell? w _ hat.1

/-- WHAT delta.All HANDS BACK IS AN ITERATOR OVER ALL CHANGES -/
theorem iter_stops (n : Nat) (hn : 1 ≤ n) (B B' n₀ : Nat) (xs ys : List Ro) (hl : xs.length ≤ 2513169434843) (hl' : ys.length ≤ 2513169434843) (w : World) (v v' : Value) (hB : w.cell? ⟨B, 0, none⟩ = some v) (hB' : w.cell? ⟨B', 0, none⟩ = some v') (hn₀ : n₀ ≤ w.heap.size) (hs : SlAt n₀ w v xs) (hs' : SlAt n₀ w v' ys) :
    SeqStopsK Fence.wide n Try.prog 25 #[.pointer (some ⟨B, 0, none⟩), .pointer (some ⟨B', 0, none⟩)] (fun x : Ch => #[.agg #[.int .i64 x.k, .int .u32 x.o.p.a, .int .i64 x.o.p.l, .int .i64 x.o.m, .int .u64 x.o.o0, .int .u64 x.o.o1, .int .u64 x.o.h0, .int .u64 x.o.h1, .int .u32 x.n.p.a, .int .i64 x.n.p.l, .int .i64 x.n.m, .int .u64 x.n.o0, .int .u64 x.n.o1, .int .u64 x.n.h0, .int .u64 x.n.h1]]) (Below n₀) (fun zs => zs = mrgK xs ys) (fun pre => pre <+: mrgK xs ys) (mrgK xs ys).length w := fun l J Jx W hW hJ hJx hY h0 =>
  iter_in n hn l B B' n₀ xs ys hl hl' J Jx W.heap.size hJ hY W (Nat.le_trans hn₀ hW.size) v v' (bcell hW hB) (bcell hW hB') (hs.below (hW.mono hn₀)) (hs'.below (hW.mono hn₀)) h0

theorem func_nilIn (d : Nat) (L : Array Value) (f : FuncId) (w : World) : (Op.equalIn (d + 1) 25 (.func (.func f) #[] L) .nilFunc).run Try.prog w = .ok false w := by
  simp [Op.equalIn, run_underlying Try.underlying25]
theorem func_nil (L : Array Value) (f : FuncId) (w : World) : (binOp .eql 25 (.func (.func f) #[] L) .nilFunc).run Try.prog w = .ok (.bool false) w := by
  simp only [binOp]
  simp [Op.equal, Op.maxDepth, func_nilIn 9999 L f w]

/-- the one route of the fixed fact -/
def r0 : Ro := ⟨⟨16777216, 8⟩, 5, 2, 0, 0, 0⟩
theorem r0_ok : sndT [r0] = true := by decide +kernel
theorem nil_ok : sndT [] = true := rfl
theorem mrgK_r0 : mrgK [] [r0] = [⟨1, zR, r0⟩] := by
  simp [mrgK, mrg, keepC, r0, zR]

set_option maxRecDepth 100000 in
set_option maxHeartbeats 4000000 in
theorem awake_ok (w : World) : Calls Try.prog 9 #[] w fun e w' => e = .returned (.bool true) ∧ Below w.heap.size w w' := by
  refine (callsIn_wide (n := 6)).1 ?_
  have HA := Lib.hid (fun (w2 : World) (b : Nat) (h : AtR w2 b 0 r0) => All_yes [] [r0] none (some ⟨b, 0, none⟩) 0 1 w2 (fun i r hi => by simp at hi) (fun i r hi => (by
    cases i with
    | zero => cases hi; exact ⟨b, 0, rfl, h⟩
    | succ i => simp at hi)) (fun _ => rfl) (fun h => by cases h) (by simp) (by simp) (by rw [nil_ok, r0_ok]; rfl))
  refine callsIn_of_wp_marks Try.func9 rfl trivial ?_ rfl
  simp only [Try.ntmps9, List.size_toArray, List.length_cons, List.length_nil, Nat.reduceAdd, Nat.reduceSub, Array.replicate_succ, Array.replicate_zero, List.push_toArray, List.append_toArray, List.nil_append, List.cons_append]
  gi_wp2_with fail
  obtain ⟨W1, hW⟩ : ∃ W1, W1 = ((w.alloc (Obj.cells #[.bool false] 4)).alloc (Obj.cells #[.int .u32 16777216, .int .i64 8, .int .i64 5, .int .u64 2, .int .u64 0, .int .u64 0, .int .u64 0] 40)).alloc (Obj.cells #[.slice (some ⟨w.heap.size + 1, 0, none⟩) 1 1] 22) := ⟨_, rfl⟩
  have hB1 : Below w.heap.size w W1 := by rw [hW]; exact (((Below.refl _ _).alloc (Nat.le_refl _) _).alloc (by simp) _).alloc (by simp; omega) _
  have b0 : Boxed W1 w.heap.size 4 (.bool false) := by rw [hW]; exact ((Boxed.new w 4 _).alloc _).alloc _
  have b1 : W1.heap[w.heap.size + 1]? = some (.cells #[.int .u32 16777216, .int .i64 8, .int .i64 5, .int .u64 2, .int .u64 0, .int .u64 0, .int .u64 0] 40 (0, 0)) := by
    rw [hW]
    have := heap_alloc_new (w.alloc (Obj.cells #[.bool false] 4)) (Obj.cells #[.int .u32 16777216, .int .i64 8, .int .i64 5, .int .u64 2, .int .u64 0, .int .u64 0, .int .u64 0] 40)
    rw [World.size_alloc] at this
    exact (Below.heap_alloc _ _ _ (by simp)).trans this
  have b2 : Boxed W1 (w.heap.size + 1 + 1) 22 (.slice (some ⟨w.heap.size + 1, 0, none⟩) 1 1) := by
    rw [hW]
    have := Boxed.new ((w.alloc (Obj.cells #[.bool false] 4)).alloc (Obj.cells #[.int .u32 16777216, .int .i64 8, .int .i64 5, .int .u64 2, .int .u64 0, .int .u64 0, .int .u64 0] 40)) 22 (.slice (some ⟨w.heap.size + 1, 0, none⟩) 1 1)
    simpa only [World.size_alloc] using this
  rw [← hW]
  clear hW
  have ha : AtR W1 (w.heap.size + 1) 0 r0 := by simp [AtR, World.cell?, b1, r0]
  refine ⟨trivial, CallsIn.mono (callsIn_wide.2 (HA.out W1 (w.heap.size + 1) ha)) ?_⟩
  rintro e w2 ⟨⟨Ba, Bb, rfl, ha, hb⟩, hb2⟩
  have b0 := boxed_below b0 hb2
  have b1' : w2.heap[w.heap.size + 1]? = some (.cells #[.int .u32 16777216, .int .i64 8, .int .i64 5, .int .u64 2, .int .u64 0, .int .u64 0, .int .u64 0] 40 (0, 0)) := (hb2.block _ (Array.getElem?_eq_some_iff.1 b1).1).trans b1
  have b2 := boxed_below b2 hb2
  have HB2 := Lib.hid (bthen' hB1 hB1.size hb2)
  have BB := Lib.hid (And.intro b0 (And.intro b1' b2))
  have AA := Lib.hid (And.intro ha hb)
  clear hB1 hb2 b1 b0 b1' b2 HA ha hb
  have hnil := fun w => func_nil #[.pointer (some ⟨Ba, 0, none⟩), .pointer (some ⟨Bb, 0, none⟩)] 25 w
  gi_wp2_with fail
  have BN := Boxed.new w2 3 (.int .i64 0)
  obtain ⟨W0, hW0⟩ : ∃ W0, w2.alloc (Obj.cells #[.int .i64 0] 3) = W0 := ⟨_, rfl⟩
  have hB0 : Below w2.heap.size w2 W0 := by rw [← hW0]; exact (Below.refl _ _).alloc (Nat.le_refl _) _
  have hsz : W0.heap.size = w2.heap.size + 1 := by rw [← hW0]; simp
  rw [hW0] at BN ⊢
  clear hW0
  obtain ⟨⟨ha0, va, ha1, ha2⟩, hb0, vb, hbb1, hbb2⟩ := AA.out
  refine wpIn_rangeFunc_ownH rfl (by omega) (gf := 25) (lb := #[.pointer (some ⟨Ba, 0, none⟩), .pointer (some ⟨Bb, 0, none⟩)]) rfl trivial (enters_of Try.func25 (by kernel_rfl) rfl)
    (iter_stops 5 (by omega) Ba Bb w2.heap.size [] [r0] (by simp) (by simp) W0 va vb (boxed_below ha1 hB0).cell (boxed_below hbb1 hB0).cell (by omega) ((slAt_of ha2).below hB0) ((slAt_of hbb2).below hB0)) belowK_t (belowK_b (by omega)) (Below.refl _ _) (fun _ => rfl)
    (fun pre W => Boxed W w2.heap.size 3 (.int .i64 (pre.length : Int)) ∧ Below w2.heap.size w2 W)
    (fun _ pre _ => ∃ x ∈ pre, ¬ (x.k = 1 ∧ x.n = r0))
    (OwnFrom.and (Own.from (boxed_own _ _ (fun pre : List Ch => Value.int .i64 (pre.length : Int))) _) (ownFrom_below (Nat.le_refl _) (by omega)))
    (fun _ _ _ _ _ hs _ _ => hs)
    ⟨by simpa using BN, hB0⟩
    (fun x a' W => ∃ Bx, w2.heap.size < Bx ∧ W.heap[Bx]? = some (.cells #[.int .i64 x.k, .int .u32 x.o.p.a, .int .i64 x.o.p.l, .int .i64 x.o.m, .int .u64 x.o.o0, .int .u64 x.o.o1, .int .u64 x.o.h0, .int .u64 x.o.h1, .int .u32 x.n.p.a, .int .i64 x.n.p.l, .int .i64 x.n.m, .int .u64 x.n.o0, .int .u64 x.n.o1, .int .u64 x.n.h0, .int .u64 x.n.h1] 42 (0, 0)) ∧ a' = { tmps := #[.pointer (some ⟨w.heap.size, 0, none⟩), .pointer (some ⟨w.heap.size + 1 + 1, 0, none⟩), .func (.func 25) #[] #[.pointer (some ⟨Ba, 0, none⟩), .pointer (some ⟨Bb, 0, none⟩)], .int .i64 0, .pointer (some ⟨w2.heap.size, 0, none⟩), .pointer (some ⟨Bx, 0, none⟩), .agg #[.int .u32 16777216, .int .i64 8], .agg #[.int .u64 2, .int .u64 0], .agg #[.int .u32 16777216, .int .i64 8, .int .i64 5, .int .u64 2, .int .u64 0, .int .u64 0, .int .u64 0], .slice (some ⟨w.heap.size + 1, 0, none⟩) 1 1, .tuple #[.func (.func 25) #[] #[.pointer (some ⟨Ba, 0, none⟩), .pointer (some ⟨Bb, 0, none⟩)], .int .i64 0], .slice (some ⟨w.heap.size + 1, 0, none⟩) 1 1, .tuple #[.func (.func 25) #[] #[.pointer (some ⟨Ba, 0, none⟩), .pointer (some ⟨Bb, 0, none⟩)], .int .i64 0], .func (.func 25) #[] #[.pointer (some ⟨Ba, 0, none⟩), .pointer (some ⟨Bb, 0, none⟩)], .int .i64 0, .int .i64 0, .bool false, .bool false, .func (.func 25) #[] #[.pointer (some ⟨Ba, 0, none⟩), .pointer (some ⟨Bb, 0, none⟩)], .bool false, .bool false, .func (.func 25) #[] #[.pointer (some ⟨Ba, 0, none⟩), .pointer (some ⟨Bb, 0, none⟩)], .agg #[.int .i64 x.k, .int .u32 x.o.p.a, .int .i64 x.o.p.l, .int .i64 x.o.m, .int .u64 x.o.o0, .int .u64 x.o.o1, .int .u64 x.o.h0, .int .u64 x.o.h1, .int .u32 x.n.p.a, .int .i64 x.n.p.l, .int .i64 x.n.m, .int .u64 x.n.o0, .int .u64 x.n.o1, .int .u64 x.n.h0, .int .u64 x.n.h1], undef, undef, undef, undef, undef, undef, undef, undef, undef, undef, undef, undef, undef, undef, undef, undef, undef], defers := [] })
    (fun x a' _ X Y row hs hg hr => by
      obtain ⟨Bx, h1, h2, h3⟩ := hs
      refine ⟨Bx, h1, (hg.block Bx (Array.getElem?_eq_some_iff.1 h2).1 (fun e => ?_)).trans h2, h3⟩
      obtain ⟨_, o, ho, hc⟩ := hr Bx e.symm
      rw [h2] at ho; cases ho; cases hc)
    ?assign ?body ?done ?stop
  case assign =>
    rintro l pre x W K ⟨hbn, hB⟩ hK
    gi_wp2_with fail
    exact hK _ _ ((KeepsOthers.alloc _ _).from _) ((Below.refl _ W).alloc hB.size _) ⟨hbn.alloc _, hB.alloc hB.size _⟩ ⟨W.heap.size, hbn.lt, heap_alloc_new W _, rfl⟩
  case body =>
    rintro l pre x a' W hl ⟨r, hr⟩ ⟨hbn, hB⟩ ⟨Bx, hBx, bX, rfl⟩ hlt
    have hp : pre = [] := by rw [mrgK_r0] at hlt; simpa using hlt
    subst hp
    have HB := Lib.hid hB
    have HBN := Lib.hid hbn
    have HW := Lib.hid (show W.heap[w.heap.size + 1]? = some (.cells #[.int .u32 16777216, .int .i64 8, .int .i64 5, .int .u64 2, .int .u64 0, .int .u64 0, .int .u64 0] 40 (0, 0)) from (hB.block _ (Array.getElem?_eq_some_iff.1 BB.out.2.1).1).trans BB.out.2.1)
    have b2 := (boxed_below BB.out.2.2 hB).cell
    have b0 := (boxed_below BB.out.1 hB).cell
    have f0 := (boxed_below BB.out.1 hB).frozen
    have bn := hbn.cell
    have fn := hbn.frozen
    have cx := cells15 bX
    have cr : W.cell? ⟨w.heap.size + 1, 0, none⟩ = some (.int .u32 16777216) ∧ W.cell? ⟨w.heap.size + 1, 1, none⟩ = some (.int .i64 8) ∧ W.cell? ⟨w.heap.size + 1, 2, none⟩ = some (.int .i64 5) ∧ W.cell? ⟨w.heap.size + 1, 3, none⟩ = some (.int .u64 2) ∧ W.cell? ⟨w.heap.size + 1, 4, none⟩ = some (.int .u64 0) ∧ W.cell? ⟨w.heap.size + 1, 5, none⟩ = some (.int .u64 0) ∧ W.cell? ⟨w.heap.size + 1, 6, none⟩ = some (.int .u64 0) := by simp [World.cell?, HW.out]
    clear hl hr r hlt hbn hB bX
    obtain ⟨x0, x1, x2, x3, x4, x5, x6, x7, x8, x9, x10, x11, x12, x13, x14⟩ := cx
    obtain ⟨q0, q1, q2, q3, q4, q5, q6⟩ := cr
    have hC : ∀ w3, Below W.heap.size W w3 → (w3.cell? ⟨Bx, 0, none⟩ = some (.int .i64 x.k) ∧ w3.cell? ⟨Bx, 1, none⟩ = some (.int .u32 x.o.p.a) ∧ w3.cell? ⟨Bx, 2, none⟩ = some (.int .i64 x.o.p.l) ∧ w3.cell? ⟨Bx, 3, none⟩ = some (.int .i64 x.o.m) ∧ w3.cell? ⟨Bx, 4, none⟩ = some (.int .u64 x.o.o0) ∧ w3.cell? ⟨Bx, 5, none⟩ = some (.int .u64 x.o.o1) ∧ w3.cell? ⟨Bx, 6, none⟩ = some (.int .u64 x.o.h0) ∧ w3.cell? ⟨Bx, 7, none⟩ = some (.int .u64 x.o.h1) ∧ w3.cell? ⟨Bx, 8, none⟩ = some (.int .u32 x.n.p.a) ∧ w3.cell? ⟨Bx, 9, none⟩ = some (.int .i64 x.n.p.l) ∧ w3.cell? ⟨Bx, 10, none⟩ = some (.int .i64 x.n.m) ∧ w3.cell? ⟨Bx, 11, none⟩ = some (.int .u64 x.n.o0) ∧ w3.cell? ⟨Bx, 12, none⟩ = some (.int .u64 x.n.o1) ∧ w3.cell? ⟨Bx, 13, none⟩ = some (.int .u64 x.n.h0) ∧ w3.cell? ⟨Bx, 14, none⟩ = some (.int .u64 x.n.h1)) ∧ (w3.cell? ⟨w.heap.size + 1, 0, none⟩ = some (.int .u32 16777216) ∧ w3.cell? ⟨w.heap.size + 1, 1, none⟩ = some (.int .i64 8) ∧ w3.cell? ⟨w.heap.size + 1, 2, none⟩ = some (.int .i64 5) ∧ w3.cell? ⟨w.heap.size + 1, 3, none⟩ = some (.int .u64 2) ∧ w3.cell? ⟨w.heap.size + 1, 4, none⟩ = some (.int .u64 0) ∧ w3.cell? ⟨w.heap.size + 1, 5, none⟩ = some (.int .u64 0) ∧ w3.cell? ⟨w.heap.size + 1, 6, none⟩ = some (.int .u64 0)) ∧ w3.cell? ⟨w.heap.size + 1 + 1, 0, none⟩ = some (.slice (some ⟨w.heap.size + 1, 0, none⟩) 1 1) ∧ w3.cell? ⟨w.heap.size, 0, none⟩ = some (.bool false) ∧ w3.frozen? ⟨w.heap.size, 0, none⟩ = false ∧ w3.cell? ⟨w2.heap.size, 0, none⟩ = some (.int .i64 0) ∧ w3.frozen? ⟨w2.heap.size, 0, none⟩ = false :=
      fun w3 h => ⟨⟨bcell h x0, bcell h x1, bcell h x2, bcell h x3, bcell h x4, bcell h x5, bcell h x6, bcell h x7, bcell h x8, bcell h x9, bcell h x10, bcell h x11, bcell h x12, bcell h x13, bcell h x14⟩, ⟨bcell h q0, bcell h q1, bcell h q2, bcell h q3, bcell h q4, bcell h q5, bcell h q6⟩, bcell h b2, bcell h b0, (boxed_below (boxed_below BB.out.1 HB.out) h).frozen, bcell h bn, (boxed_below HBN.out h).frozen⟩
    clear b0 b2 f0 bn fn x0 x1 x2 x3 x4 x5 x6 x7 x8 x9 x10 x11 x12 x13 x14 q0 q1 q2 q3 q4 q5 q6
    by_cases hk : x.k = 1
    · by_cases hn : x.n = r0
      · have t1 : (x.k != 1) = false := by simpa using hk
        have te : eqRb x.n.p.a x.n.p.l x.n.m x.n.o0 x.n.o1 x.n.h0 x.n.h1 16777216 8 5 2 0 0 0 = true := (eqRb_of x.n r0).trans (decide_eq_true hn)
        have HG := Lib.hid (And.intro hk hn)
        clear hk hn
        gi_wp2_with fail
        refine Og.walkR_lit [[],[0],[1,0],[2,1,0],[3,2,1,0],[4,3,2,1,0],[3,2,1,0],[6,3,2,1,0],[7,3,6,2,1,0],[5,8,3,4,2,1,0,7,6],[3,9,2,1,0,5,8,4,7,6]] (fun w2 => Below W.heap.size W w2) (fun w1 w2 => Below w1.heap.size w1 w2) (by kernel_rfl) (by kernel_rfl) (by kernel_rfl) (bdrew) ?_
        repeat (first | (refine Og.step_pure (fun _ => Below.refl _ _) ?_; apply Exists.intro; refine And.intro ?_ ?_; focus (intro vs w2 hD hk; have hm := hC w2 hD; revert hk; simp only [Og.KS, Og.K0, Og.Is, List.getD_cons_zero, List.getD_cons_succ, List.getD_nil, List.contains_cons, List.contains_nil, Nat.reduceAdd, Nat.reduceBEq, Bool.or_false, Bool.false_or, Bool.or_true, Bool.true_or, Bool.false_eq_true, false_implies, true_implies, true_and, and_true, forall_const]; intros; go_simp; rfl)))
        intro vs w3 hD hk
        have hm := hC w3 hD
        simp only [Og.KS, Og.K0, Og.Is, List.getD_cons_zero, List.getD_cons_succ, List.getD_nil, List.contains_cons, List.contains_nil, Nat.reduceAdd, Nat.reduceBEq, Bool.or_false, Bool.false_or, Bool.or_true, Bool.true_or, Bool.false_eq_true, false_implies, true_implies, true_and, and_true, forall_const] at hk
        simp only [hk, Act.put, List.setIfInBounds_toArray, List.set_cons_zero, List.set_cons_succ]
        clear hk
        have HD := Lib.hid hD
        clear hD
        gi_wp2_with fail
        exact ⟨(KeepsFrom.of_grownBy (below_grown HD.out) (fun j e => by cases e)).trans ((KeepsOthers.setCell _ _ _).from _), (HD.out.mono HB.out.size).trans ((Below.refl _ _).setCell (p := ⟨w2.heap.size, 0, none⟩) (Nat.le_refl _) _), (boxed_below HBN.out HD.out).set _, (bthen' HB.out HB.out.size HD.out).setCell (p := ⟨w2.heap.size, 0, none⟩) (Nat.le_refl _) _⟩
      · have t1 : (x.k != 1) = false := by simpa using hk
        have te : eqRb x.n.p.a x.n.p.l x.n.m x.n.o0 x.n.o1 x.n.h0 x.n.h1 16777216 8 5 2 0 0 0 = false := (eqRb_of x.n r0).trans (decide_eq_false hn)
        have HG := Lib.hid (show ¬ (x.k = 1 ∧ x.n = r0) from fun h => hn h.2)
        clear hk hn
        gi_wp2_with fail
        refine Og.walkR_lit [[],[0],[1,0],[2,1,0],[3,2,1,0],[4,3,2,1,0],[3,2,1,0],[6,3,2,1,0],[7,3,6,2,1,0],[5,8,3,4,2,1,0,7,6],[3,9,2,1,0,5,8,4,7,6]] (fun w2 => Below W.heap.size W w2) (fun w1 w2 => Below w1.heap.size w1 w2) (by kernel_rfl) (by kernel_rfl) (by kernel_rfl) (bdrew) ?_
        repeat (first | (refine Og.step_pure (fun _ => Below.refl _ _) ?_; apply Exists.intro; refine And.intro ?_ ?_; focus (intro vs w2 hD hk; have hm := hC w2 hD; revert hk; simp only [Og.KS, Og.K0, Og.Is, List.getD_cons_zero, List.getD_cons_succ, List.getD_nil, List.contains_cons, List.contains_nil, Nat.reduceAdd, Nat.reduceBEq, Bool.or_false, Bool.false_or, Bool.or_true, Bool.true_or, Bool.false_eq_true, false_implies, true_implies, true_and, and_true, forall_const]; intros; go_simp; rfl)))
        intro vs w3 hD hk
        have hm := hC w3 hD
        simp only [Og.KS, Og.K0, Og.Is, List.getD_cons_zero, List.getD_cons_succ, List.getD_nil, List.contains_cons, List.contains_nil, Nat.reduceAdd, Nat.reduceBEq, Bool.or_false, Bool.false_or, Bool.or_true, Bool.true_or, Bool.false_eq_true, false_implies, true_implies, true_and, and_true, forall_const] at hk
        simp only [hk, Act.put, List.setIfInBounds_toArray, List.set_cons_zero, List.set_cons_succ]
        clear hk
        have HD := Lib.hid hD
        clear hD
        gi_wp2_with fail
        exact ⟨(KeepsFrom.of_grownBy (below_grown HD.out) (fun j e => by cases e)).trans ((KeepsOthers.setCell _ _ _).from _), x, by simp, HG.out⟩
    · have t1 : (x.k != 1) = true := by simpa using hk
      have HG := Lib.hid (show ¬ (x.k = 1 ∧ x.n = r0) from fun h => hk h.1)
      clear hk
      gi_wp2_with fail
      refine Og.walkR_lit [[],[0],[1,0],[2,1,0],[3,2,1,0],[4,3,2,1,0],[3,2,1,0],[6,3,2,1,0],[7,3,6,2,1,0],[5,8,3,4,2,1,0,7,6],[3,9,2,1,0,5,8,4,7,6]] (fun w2 => Below W.heap.size W w2) (fun w1 w2 => Below w1.heap.size w1 w2) (by kernel_rfl) (by kernel_rfl) (by kernel_rfl) (bdrew) ?_
      repeat (first | (refine Og.step_pure (fun _ => Below.refl _ _) ?_; apply Exists.intro; refine And.intro ?_ ?_; focus (intro vs w2 hD hk; have hm := hC w2 hD; revert hk; simp only [Og.KS, Og.K0, Og.Is, List.getD_cons_zero, List.getD_cons_succ, List.getD_nil, List.contains_cons, List.contains_nil, Nat.reduceAdd, Nat.reduceBEq, Bool.or_false, Bool.false_or, Bool.or_true, Bool.true_or, Bool.false_eq_true, false_implies, true_implies, true_and, and_true, forall_const]; intros; go_simp; rfl)))
      intro vs w3 hD hk
      have hm := hC w3 hD
      simp only [Og.KS, Og.K0, Og.Is, List.getD_cons_zero, List.getD_cons_succ, List.getD_nil, List.contains_cons, List.contains_nil, Nat.reduceAdd, Nat.reduceBEq, Bool.or_false, Bool.false_or, Bool.or_true, Bool.true_or, Bool.false_eq_true, false_implies, true_implies, true_and, and_true, forall_const] at hk
      simp only [hk, Act.put, List.setIfInBounds_toArray, List.set_cons_zero, List.set_cons_succ]
      clear hk
      have HD := Lib.hid hD
      clear hD
      gi_wp2_with fail
      exact ⟨(KeepsFrom.of_grownBy (below_grown HD.out) (fun j e => by cases e)).trans ((KeepsOthers.setCell _ _ _).from _), x, by simp, HG.out⟩
  case done =>
    rintro D ys W hD rfl ⟨hbn, hB⟩ hK
    rw [mrgK_r0] at hbn
    have hbn' : Boxed W w2.heap.size 3 (.int .i64 1) := hbn
    have bn := hbn'.cell
    have B0 := boxed_below BB.out.1 hB
    have b0 := B0.cell
    have f0 := B0.frozen
    have HK := Lib.hid hK
    have HB := Lib.hid hB
    have HB0 := Lib.hid B0
    clear hbn hbn' hB B0 hK
    gi_wp2_with fail
    have hK' := (KeepsOthers.setCell W ⟨w.heap.size, 0, none⟩ (.bool true)).same D _ HK.out rfl
    refine ⟨by simp, .inl ⟨_, _, rfl, run_takeDeferred hK', ?_⟩⟩
    have hc5 := cell_kept (World.cell?_setCell_same' W ⟨w.heap.size, 0, none⟩ (.bool true) (by rw [b0]; rfl)) (grownBy_putObj' _ D (.deferred none)) (fun r e => by cases e; exact ⟨_, hK', rfl⟩)
    refine ⟨.bool true, ?_, rfl, ?_⟩
    · simp [results, Try.f9, go_sem, hc5]
    · exact ((bthen' HB2.out HB2.out.size HB.out).setCell (p := ⟨w.heap.size, 0, none⟩) (Nat.le_refl _) _).trans (belowK_b (w := w) (Nat.le_refl _) _ D _ _ (by have := HB2.out.size; omega) hK' rfl rfl)
  case stop =>
    rintro D c pre W _ hpre ⟨x, hx, hbad⟩ _
    rw [mrgK_r0] at hpre
    have := hpre.subset hx
    simp only [List.mem_singleton] at this
    subst this
    exact absurd ⟨rfl, rfl⟩ hbad

end Go.Proofs.Ytpnhkniegjfncaa
