/- Check: one parent of a node; conditions as stated. Check: the region of conditions, in one word; conditions as stated. Check: the loop over the nodes; conditions as stated. The reference: rows of numbers and of sets are the same; conditions as stated. The reference: Same of any two trees; conditions as stated. -/
import Derived.Test.YtjbglifmppilfaaDoorE26
import Derived.Test.YtjbglifmppilfaaDoorK11
import Derived.RangeFuncNested
import Derived.RangeFuncBound
import Derived.RangeFuncCalls
import Derived.RangeFuncLeaves
import Derived.Shelf.Abstract
import Derived.Shelf.RegionOpen
import Derived.WalkKit
import Derived.OwnWalkIn
import Derived.TacticsInMore
import Derived.LoopNIn
import Derived.LoopIn
import Derived.Sort.LoopGhostIn
import Derived.Test.YtjbglifmppilfaaDoorK13
import Derived.Test.YtjbglifmppilfaaDoorK15
namespace Go.Proofs.YtjbglifmppilfaaDoor
open Go.ChangeShapes Go.WideShapes Go.ChangeAt Go.RowKit
set_option linter.unusedVariables false
set_option linter.unusedSimpArgs false
attribute [local go_sem] Og.Opt Og.OpY Oper.semAt_some

theorem size28 (w : World) : (sizeOf 28).run Tryd.prog w = .ok 1 w := by kernel_rfl
noncomputable def rbody9 : Code := sub3 (sub1 (sub2 (sub2 (sub2 (sub1 (sub1 (sub2 (sub2 (sub1 (sub1 (sub2 (sub1 (sub2 (sub2 body9))))))))))))))
set_option maxRecDepth 100000 in
set_option maxHeartbeats 16000000 in
theorem chkRound (Q : Exit → Act → World → Prop) (N l : Nat) (W : World) (ds : List Int) (d : Int) (u b1 b2 b4 gd od cd : Nat) (t0 t3 t6 t7 t8 t9 t10 t11 t12 t13 t14 t15 t16 t17 t18 t19 t20 t21 t22 t23 t24 t25 t26 t27 t28 t29 t30 t31 t32 t33 t34 t35 t36 t37 t38 t39 t40 t41 t42 t43 t44 t45 t46 t47 t48 t49 t50 t51 t52 t53 t54 t55 t56 t57 t58 t59 t60 t61 t62 t63 t64 t65 t66 t67 t68 t69 t70 t71 t72 t73 t74 t75 t76 t77 t78 t79 t80 t81 t82 t83 t84 t85 t86 t87 : Value)
    (q1 : W.cell? ⟨b1, 1, none⟩ = some (.slice (some ⟨gd, od, none⟩) 128 cd)) (q4 : W.cell? ⟨b4, 0, none⟩ = some (.int .i64 d)) (qd : W.cell? ⟨gd, od + u, none⟩ = some (.int .i64 (kd ds u))) (hu : u < 128)
    (k2 : Hid (W.heap[b2]? = some (.cells #[.int .i64 0] 28 (0, 0))))
    (hN : Hid (kd ds u < d → ∀ a' W', Below W.heap.size W W' → Q .normal a' W')) (hR : Hid (¬ kd ds u < d → ∀ a' W', W.grownBy W' (some b2) → W'.heap[b2]? = some (.cells #[.int .i64 1] 28 (0, 0)) → Q .ret a' W')) :
    rbody9.wpIn (Fence.wide.inRound l) N Tryd.prog Q { tmps := #[t0, .pointer (some ⟨b1, 0, none⟩), .pointer (some ⟨b2, 0, none⟩), t3, .pointer (some ⟨b4, 0, none⟩), .int .i64 (u : Int), t6, t7, t8, t9, t10, t11, t12, t13, t14, t15, t16, t17, t18, t19, t20, t21, t22, t23, t24, t25, t26, t27, t28, t29, t30, t31, t32, t33, t34, t35, t36, t37, t38, t39, t40, t41, t42, t43, t44, t45, t46, t47, t48, t49, t50, t51, t52, t53, t54, t55, t56, t57, t58, t59, t60, t61, t62, t63, t64, t65, t66, t67, t68, t69, t70, t71, t72, t73, t74, t75, t76, t77, t78, t79, t80, t81, t82, t83, t84, t85, t86, t87], defers := [] } W := by
  have hu0 : (0 : Int) ≤ (u : Int) := by omega
  have hu1 : (u : Int) < 128 := by omega
  have HC : ∀ w2, Below W.heap.size W w2 → w2.cell? ⟨b1, 1, none⟩ = some (.slice (some ⟨gd, od, none⟩) 128 cd) ∧ w2.cell? ⟨b4, 0, none⟩ = some (.int .i64 d) ∧ w2.cell? ⟨gd, od + u, none⟩ = some (.int .i64 (kd ds u)) := fun w2 h => ⟨bcell h q1, bcell h q4, bcell h qd⟩
  clear q1 q4 qd
  obtain ⟨e, he⟩ : ∃ e, e = kd ds u := ⟨_, rfl⟩
  rw [← he] at HC hN hR
  clear he
  simp only [rbody9, body9, Tryd.f9, sub1, sub2, sub3]
  gi_wp2_with fail
  refine Og.walkR_lit [[],[0],[],[1,2,0],[3,1,2,0],[],[4,5,3,1,2,0]] (fun w2 => Below W.heap.size W w2) (fun w1 w2 => Below w1.heap.size w1 w2) (by kernel_rfl) (by kernel_rfl) (by kernel_rfl) (bdrew) ?_
  iterate 7 (refine Og.step_pure (fun _ => Below.refl _ _) ?_; apply Exists.intro; refine And.intro ?_ ?_; focus (intro vs w2 hC hk; have hm := HC w2 hC; revert hk; simp only [Og.KS, Og.K0, Og.Is, List.getD_cons_zero, List.getD_cons_succ, List.getD_nil, List.contains_cons, List.contains_nil, Nat.reduceAdd, Nat.reduceBEq, Bool.or_false, Bool.false_or, Bool.or_true, Bool.true_or, Bool.false_eq_true, false_implies, true_implies, true_and, and_true, forall_const]; intros; go_simp; rfl))
  intro vs w2 hC hk
  have hm := HC w2 hC
  simp only [Og.KS, Og.K0, Og.Is, List.getD_cons_zero, List.getD_cons_succ, List.getD_nil, List.contains_cons, List.contains_nil, Nat.reduceAdd, Nat.reduceBEq, Bool.or_false, Bool.false_or, Bool.or_true, Bool.true_or, Bool.false_eq_true, false_implies, true_implies, true_and, and_true, forall_const] at hk
  simp only [hk, Act.put, List.setIfInBounds_toArray, List.set_cons_zero, List.set_cons_succ]
  clear hk
  by_cases hlt : d ≤ e
  · have g1 : decide (d ≤ e) = true := by simp [hlt]
    obtain ⟨w6, r6, k6, s6, n6, b6⟩ := run_store1 (k := 0) (ty := 28) (.int .i64 1) rfl rfl size28 (heap_keep hC k2.out) (by decide)
    have R6 := Lib.hid r6
    have F6 : Hid (W.grownBy w6 (some b2) ∧ w6.heap[b2]? = some (.cells #[.int .i64 1] 28 (0, 0))) := Lib.hid (by
      have b := b6 0 (Nat.zero_le _)
      have c := hC.mono (Nat.zero_le _)
      exact ⟨⟨b.os.trans hC.os, b.tape.trans hC.tape, b.output.trans hC.output, Nat.le_trans hC.size b.size, fun j hj hne => (n6 j (fun e => hne (by rw [e]))).trans (hC.block j hj)⟩, k6⟩)
    have HR := Lib.hid (hR.out (by omega))
    clear r6 k6 s6 n6 b6 hC hm HC hR hN
    gi_wp2_with (refine wpListIn_storeW rfl 28 (.tmp 2) (.const (.int .i64 1)) rfl rfl b2 0 (.int .i64 1) rfl rfl R6.out ?_)
    try simp only [Exit.then, Exit.inBlock]
    exact HR.out _ _ F6.out.1 F6.out.2
  · have g1 : decide (d ≤ e) = false := by simp [hlt]
    have HN := Lib.hid (hN.out (by omega))
    have H5 := Lib.hid hC
    clear hC hm HC hR hN
    gi_wp2_with fail
    try simp only [Exit.then, Exit.inBlock]
    exact HN.out _ _ H5.out

end Go.Proofs.YtjbglifmppilfaaDoor
namespace Go.Proofs.YtjbglifmppilfaaDoor
open Go.ChangeShapes Go.WideShapes Go.ChangeAt Go.RowKit
set_option linter.unusedVariables false
set_option linter.unusedSimpArgs false
attribute [local go_sem] Og.Opt Og.OpY Oper.semAt_some

/-- what Check asks of a node, but for its parents: true is faulty -/
def bad6 (r d : Int) (k M : Nat) : Bool := decide (d < 0) || decide (1073741824 < d) || ((d == 0) != ((k : Int) == r)) || (decide (M = 0) != (((k : Int) == r) || (d == 1073741824)))
set_option maxRecDepth 100000 in
set_option maxHeartbeats 4000000 in
theorem r6_all (r d : Int) (k M b1 b4 gp op cp : Nat) (t0 t2 t5 t6 t7 t8 t9 t10 t11 t12 t13 t14 t15 t16 t17 t18 t19 t20 t21 t22 t23 t24 t25 t26 t27 t28 t29 t30 t31 t32 t33 t34 t35 t36 t37 t38 t39 t40 t41 t42 t43 t44 t45 t46 t47 t48 t49 t50 t51 t52 t53 t54 t55 t56 t57 t58 t59 t60 t61 t62 t63 t64 t65 t66 t67 t68 t69 t70 t71 t72 t73 t74 t75 t76 t77 t78 t79 t80 t81 t82 t83 t84 t85 t86 t87 : Value) (df : List Deferred) (W : World) (Q : Exit → Act → World → Prop)
    (HC : Hid (∀ w5, Below W.heap.size W w5 → w5.cell? ⟨b1, 0, none⟩ = some (.int .i64 r) ∧ w5.cell? ⟨b1, 2, none⟩ = some (.slice (some ⟨gp, op, none⟩) 128 cp) ∧ w5.cell? ⟨b4, 0, none⟩ = some (.int .i64 d) ∧ AtL w5 gp (op + k * 2) (cM M)))
    (hk0 : (0 : Int) ≤ (k : Int)) (hk1 : (k : Int) < 128) (HQ : Hid (∀ (u40 u41 u42 u43 u44 u45 u46 u47 u48 u49 u50 u51 u52 u53 u54 u55 u56 u57 u58 u59 u60 u61 u62 u63 u64 u65 u66 u67 u68 u69 u70 u71 : Value) w5, Below W.heap.size W w5 → Q .normal { tmps := #[t0, .pointer (some ⟨b1, 0, none⟩), t2, .int .i64 (k : Int), .pointer (some ⟨b4, 0, none⟩), t5, t6, t7, t8, t9, t10, t11, t12, t13, t14, t15, t16, t17, t18, t19, t20, t21, t22, t23, t24, t25, t26, t27, t28, t29, t30, t31, t32, t33, t34, t35, t36, t37, t38, t39, u40, u41, u42, u43, u44, u45, u46, u47, u48, u49, u50, u51, u52, u53, u54, u55, u56, u57, u58, u59, u60, u61, u62, u63, u64, u65, u66, u67, u68, u69, u70, u71, .bool (bad6 r d k M), t73, t74, t75, t76, t77, t78, t79, t80, t81, t82, t83, t84, t85, t86, t87], defers := df } w5)) :
    reg96.wp Tryd.prog Q { tmps := #[t0, .pointer (some ⟨b1, 0, none⟩), t2, .int .i64 (k : Int), .pointer (some ⟨b4, 0, none⟩), t5, t6, t7, t8, t9, t10, t11, t12, t13, t14, t15, t16, t17, t18, t19, t20, t21, t22, t23, t24, t25, t26, t27, t28, t29, t30, t31, t32, t33, t34, t35, t36, t37, t38, t39, t40, t41, t42, t43, t44, t45, t46, t47, t48, t49, t50, t51, t52, t53, t54, t55, t56, t57, t58, t59, t60, t61, t62, t63, t64, t65, t66, t67, t68, t69, t70, t71, t72, t73, t74, t75, t76, t77, t78, t79, t80, t81, t82, t83, t84, t85, t86, t87], defers := df } W := by
  cases a1 : decide (d < 0) with
  | true =>
    have e : bad6 r d k M = true := by simp only [bad6, a1, Bool.true_or]
    rw [e] at HQ
    exact r6_neg r d k M b1 b4 gp op cp t0 t2 t5 t6 t7 t8 t9 t10 t11 t12 t13 t14 t15 t16 t17 t18 t19 t20 t21 t22 t23 t24 t25 t26 t27 t28 t29 t30 t31 t32 t33 t34 t35 t36 t37 t38 t39 t40 t41 t42 t43 t44 t45 t46 t47 t48 t49 t50 t51 t52 t53 t54 t55 t56 t57 t58 t59 t60 t61 t62 t63 t64 t65 t66 t67 t68 t69 t70 t71 t72 t73 t74 t75 t76 t77 t78 t79 t80 t81 t82 t83 t84 t85 t86 t87 df W Q a1 HC hk0 hk1 HQ
  | false =>
    cases a2 : decide (1073741824 < d) with
    | true =>
      have e : bad6 r d k M = true := by simp only [bad6, a1, a2, Bool.true_or, Bool.or_true]
      rw [e] at HQ
      exact r6_big r d k M b1 b4 gp op cp t0 t2 t5 t6 t7 t8 t9 t10 t11 t12 t13 t14 t15 t16 t17 t18 t19 t20 t21 t22 t23 t24 t25 t26 t27 t28 t29 t30 t31 t32 t33 t34 t35 t36 t37 t38 t39 t40 t41 t42 t43 t44 t45 t46 t47 t48 t49 t50 t51 t52 t53 t54 t55 t56 t57 t58 t59 t60 t61 t62 t63 t64 t65 t66 t67 t68 t69 t70 t71 t72 t73 t74 t75 t76 t77 t78 t79 t80 t81 t82 t83 t84 t85 t86 t87 df W Q a1 a2 HC hk0 hk1 HQ
    | false =>
      cases a3 : (d == 0) <;> cases a4 : ((k : Int) == r)
      · have he : ∀ w5, (Op.equalIn 10000 35 (.agg #[.int .u64 (loM M), .int .u64 (hiM M)]) (.agg #[.int .u64 0, .int .u64 0])).run Tryd.prog w5 = .ok (decide (M = 0)) w5 := eqM0 M
        cases a5 : (d == 1073741824) <;> cases a6 : decide (M = 0)
        · rw [a6] at he
          have e : bad6 r d k M = false := by rw [bad6, a1, a2, a3, a4, a5, a6]; rfl
          rw [e] at HQ
          exact r6_nff r d k M b1 b4 gp op cp t0 t2 t5 t6 t7 t8 t9 t10 t11 t12 t13 t14 t15 t16 t17 t18 t19 t20 t21 t22 t23 t24 t25 t26 t27 t28 t29 t30 t31 t32 t33 t34 t35 t36 t37 t38 t39 t40 t41 t42 t43 t44 t45 t46 t47 t48 t49 t50 t51 t52 t53 t54 t55 t56 t57 t58 t59 t60 t61 t62 t63 t64 t65 t66 t67 t68 t69 t70 t71 t72 t73 t74 t75 t76 t77 t78 t79 t80 t81 t82 t83 t84 t85 t86 t87 df W Q a1 a2 a3 a4 a5 he HC hk0 hk1 HQ
        · rw [a6] at he
          have e : bad6 r d k M = true := by rw [bad6, a1, a2, a3, a4, a5, a6]; rfl
          rw [e] at HQ
          exact r6_ntf r d k M b1 b4 gp op cp t0 t2 t5 t6 t7 t8 t9 t10 t11 t12 t13 t14 t15 t16 t17 t18 t19 t20 t21 t22 t23 t24 t25 t26 t27 t28 t29 t30 t31 t32 t33 t34 t35 t36 t37 t38 t39 t40 t41 t42 t43 t44 t45 t46 t47 t48 t49 t50 t51 t52 t53 t54 t55 t56 t57 t58 t59 t60 t61 t62 t63 t64 t65 t66 t67 t68 t69 t70 t71 t72 t73 t74 t75 t76 t77 t78 t79 t80 t81 t82 t83 t84 t85 t86 t87 df W Q a1 a2 a3 a4 a5 he HC hk0 hk1 HQ
        · rw [a6] at he
          have e : bad6 r d k M = true := by rw [bad6, a1, a2, a3, a4, a5, a6]; rfl
          rw [e] at HQ
          exact r6_nft r d k M b1 b4 gp op cp t0 t2 t5 t6 t7 t8 t9 t10 t11 t12 t13 t14 t15 t16 t17 t18 t19 t20 t21 t22 t23 t24 t25 t26 t27 t28 t29 t30 t31 t32 t33 t34 t35 t36 t37 t38 t39 t40 t41 t42 t43 t44 t45 t46 t47 t48 t49 t50 t51 t52 t53 t54 t55 t56 t57 t58 t59 t60 t61 t62 t63 t64 t65 t66 t67 t68 t69 t70 t71 t72 t73 t74 t75 t76 t77 t78 t79 t80 t81 t82 t83 t84 t85 t86 t87 df W Q a1 a2 a3 a4 a5 he HC hk0 hk1 HQ
        · rw [a6] at he
          have e : bad6 r d k M = false := by rw [bad6, a1, a2, a3, a4, a5, a6]; rfl
          rw [e] at HQ
          exact r6_ntt r d k M b1 b4 gp op cp t0 t2 t5 t6 t7 t8 t9 t10 t11 t12 t13 t14 t15 t16 t17 t18 t19 t20 t21 t22 t23 t24 t25 t26 t27 t28 t29 t30 t31 t32 t33 t34 t35 t36 t37 t38 t39 t40 t41 t42 t43 t44 t45 t46 t47 t48 t49 t50 t51 t52 t53 t54 t55 t56 t57 t58 t59 t60 t61 t62 t63 t64 t65 t66 t67 t68 t69 t70 t71 t72 t73 t74 t75 t76 t77 t78 t79 t80 t81 t82 t83 t84 t85 t86 t87 df W Q a1 a2 a3 a4 a5 he HC hk0 hk1 HQ
      · have e : bad6 r d k M = true := by rw [bad6, a1, a2, a3, a4]; rfl
        rw [e] at HQ
        exact r6_rb r d k M b1 b4 gp op cp t0 t2 t5 t6 t7 t8 t9 t10 t11 t12 t13 t14 t15 t16 t17 t18 t19 t20 t21 t22 t23 t24 t25 t26 t27 t28 t29 t30 t31 t32 t33 t34 t35 t36 t37 t38 t39 t40 t41 t42 t43 t44 t45 t46 t47 t48 t49 t50 t51 t52 t53 t54 t55 t56 t57 t58 t59 t60 t61 t62 t63 t64 t65 t66 t67 t68 t69 t70 t71 t72 t73 t74 t75 t76 t77 t78 t79 t80 t81 t82 t83 t84 t85 t86 t87 df W Q a1 a2 a3 a4 HC hk0 hk1 HQ
      · have e : bad6 r d k M = true := by rw [bad6, a1, a2, a3, a4]; rfl
        rw [e] at HQ
        exact r6_ra r d k M b1 b4 gp op cp t0 t2 t5 t6 t7 t8 t9 t10 t11 t12 t13 t14 t15 t16 t17 t18 t19 t20 t21 t22 t23 t24 t25 t26 t27 t28 t29 t30 t31 t32 t33 t34 t35 t36 t37 t38 t39 t40 t41 t42 t43 t44 t45 t46 t47 t48 t49 t50 t51 t52 t53 t54 t55 t56 t57 t58 t59 t60 t61 t62 t63 t64 t65 t66 t67 t68 t69 t70 t71 t72 t73 t74 t75 t76 t77 t78 t79 t80 t81 t82 t83 t84 t85 t86 t87 df W Q a1 a2 a3 a4 HC hk0 hk1 HQ
      · have he : ∀ w5, (Op.equalIn 10000 35 (.agg #[.int .u64 (loM M), .int .u64 (hiM M)]) (.agg #[.int .u64 0, .int .u64 0])).run Tryd.prog w5 = .ok (decide (M = 0)) w5 := eqM0 M
        cases a6 : decide (M = 0)
        · rw [a6] at he
          have e : bad6 r d k M = true := by rw [bad6, a1, a2, a3, a4, a6]; rfl
          rw [e] at HQ
          exact r6_rf r d k M b1 b4 gp op cp t0 t2 t5 t6 t7 t8 t9 t10 t11 t12 t13 t14 t15 t16 t17 t18 t19 t20 t21 t22 t23 t24 t25 t26 t27 t28 t29 t30 t31 t32 t33 t34 t35 t36 t37 t38 t39 t40 t41 t42 t43 t44 t45 t46 t47 t48 t49 t50 t51 t52 t53 t54 t55 t56 t57 t58 t59 t60 t61 t62 t63 t64 t65 t66 t67 t68 t69 t70 t71 t72 t73 t74 t75 t76 t77 t78 t79 t80 t81 t82 t83 t84 t85 t86 t87 df W Q a1 a2 a3 a4 he HC hk0 hk1 HQ
        · rw [a6] at he
          have e : bad6 r d k M = false := by rw [bad6, a1, a2, a3, a4, a6]; rfl
          rw [e] at HQ
          exact r6_rt r d k M b1 b4 gp op cp t0 t2 t5 t6 t7 t8 t9 t10 t11 t12 t13 t14 t15 t16 t17 t18 t19 t20 t21 t22 t23 t24 t25 t26 t27 t28 t29 t30 t31 t32 t33 t34 t35 t36 t37 t38 t39 t40 t41 t42 t43 t44 t45 t46 t47 t48 t49 t50 t51 t52 t53 t54 t55 t56 t57 t58 t59 t60 t61 t62 t63 t64 t65 t66 t67 t68 t69 t70 t71 t72 t73 t74 t75 t76 t77 t78 t79 t80 t81 t82 t83 t84 t85 t86 t87 df W Q a1 a2 a3 a4 he HC hk0 hk1 HQ

end Go.Proofs.YtjbglifmppilfaaDoor
namespace Go.Proofs.YtjbglifmppilfaaDoor
open Go.ChangeShapes Go.WideShapes Go.ChangeAt Go.RowKit
set_option linter.unusedVariables false
set_option linter.unusedSimpArgs false
attribute [local go_sem] Og.Opt Og.OpY Oper.semAt_some

theorem nagg28 (w : World) : (isAgg 28).run Tryd.prog w = .ok false w := by kernel_rfl
noncomputable def tail9 : Code := sub2 (sub2 body9)
def okV (r : Int) (ds : List Int) (ps : List Nat) (v : Nat) : Prop := bad6 r (kd ds v) v (gt ps v) = false ∧ ∀ u ∈ elM (gt ps v), kd ds u.val < kd ds v
def soundT (r : Int) (ds : List Int) (ps : List Nat) : Prop := ∀ v, v < 128 → okV r ds ps v
/-- what the loop reads -/
structure CK (wz : World) (r : Int) (b1 b2 gd od cd gp op cp : Nat) (ds : List Int) (ps : List Nat) (vH : Value) : Prop where
  k1 : wz.heap[b1]? = some (.cells #[.int .i64 r, .slice (some ⟨gd, od, none⟩) 128 cd, .slice (some ⟨gp, op, none⟩) 128 cp, vH] 25 (0, 0))
  k2 : wz.heap[b2]? = some (.cells #[.int .i64 0] 28 (0, 0))
  kd : AtL wz gd od (dC ds)
  dl : ds.length = 128
  kp : AtL wz gp op (ps.flatMap cM)
  pl : ps.length = 128
  pb : allM ps
  tb : Tab wz
  g2 : 0 < b2

theorem ft_own {β : Type} {b2 B : Nat} {w2 : World} {o : Obj} (hB : w2.heap.size ≤ B) (hb : b2 < w2.heap.size) : OwnFrom B (fun (_ : β) X => X.heap[b2]? = some o ∧ Ft b2 b2 none w2 X) := fun s X Y row h hg hr => by
  have hX := h.2.size
  refine ⟨(hg.block b2 (by omega) (fun e => by have := (hr b2 e.symm).1; omega)).trans h.1, ⟨hg.os.trans h.2.os, hg.tape.trans h.2.tape, hg.output.trans h.2.output, Nat.le_trans hX hg.size, fun j hj h1 h2 h3 => (hg.block j (by omega) (fun e => by have := (hr j e.symm).1; omega)).trans (h.2.block j hj h1 h2 h3)⟩⟩
set_option maxRecDepth 100000 in
set_option maxHeartbeats 16000000 in
theorem checkB (R : Ending → World → Prop) (N : Nat) (hN : 8 ≤ N) (wz : World) (r : Int) (b1 b2 gd od cd gp op cp : Nat) (ds : List Int) (ps : List Nat) (vH : Value) (t0 t3 t4 t5 t6 t7 t8 t9 t10 t11 t12 t13 t14 t15 t16 t17 t18 t19 t20 t21 t22 t23 t24 t25 t26 t27 t28 t29 t30 t31 t32 t33 t34 t35 t36 t37 t38 t39 t40 t41 t42 t43 t44 t45 t46 t47 t48 t49 t50 t51 t52 t53 t54 t55 t56 t57 t58 t59 t60 t61 t62 t63 t64 t65 t66 t67 t68 t69 t70 t71 t72 t73 t74 t75 t76 t77 t78 t79 t80 t81 t82 t83 t84 t85 t86 t87 : Value)
    (C : Hid (CK wz r b1 b2 gd od cd gp op cp ds ps vH))
    (H0 : Hid (soundT r ds ps → ∀ w', w'.heap[b2]? = some (.cells #[.int .i64 0] 28 (0, 0)) → Ft b2 b2 none wz w' → R (.returned (.int .i64 0)) w'))
    (H1 : Hid (¬ soundT r ds ps → ∀ w', w'.heap[b2]? = some (.cells #[.int .i64 1] 28 (0, 0)) → Ft b2 b2 none wz w' → R (.returned (.int .i64 1)) w')) :
    tail9.wpIn Fence.wide N Tryd.prog (bodyPostM Fence.wide N Tryd.prog Tryd.f9 R) { tmps := #[t0, .pointer (some ⟨b1, 0, none⟩), .pointer (some ⟨b2, 0, none⟩), t3, t4, t5, t6, t7, t8, t9, t10, t11, t12, t13, t14, t15, t16, t17, t18, t19, t20, t21, t22, t23, t24, t25, t26, t27, t28, t29, t30, t31, t32, t33, t34, t35, t36, t37, t38, t39, t40, t41, t42, t43, t44, t45, t46, t47, t48, t49, t50, t51, t52, t53, t54, t55, t56, t57, t58, t59, t60, t61, t62, t63, t64, t65, t66, t67, t68, t69, t70, t71, t72, t73, t74, t75, t76, t77, t78, t79, t80, t81, t82, t83, t84, t85, t86, t87], defers := [] } wz := by
  have q11 : wz.cell? ⟨b1, 1, none⟩ = some (.slice (some ⟨gd, od, none⟩) 128 cd) := by rw [cell_of_row wz _ 1 _ _ _ C.out.k1]; rfl
  simp only [tail9, body9, Tryd.f9, sub2]
  gi_wp2_with fail
  refine wpIn_loop_gh (fun m a1 wr => ∃ (k : Nat) (Ds : List Nat) (s3 s4 s5 s36 s37 s38 s39 s40 s41 s42 s43 s44 s45 s46 s47 s48 s49 s50 s51 s52 s53 s54 s55 s56 s57 s58 s59 s60 s61 s62 s63 s64 s65 s66 s67 s68 s69 s70 s71 s72 s73 s74 s75 s76 s77 s78 s79 s80 s81 s82 s83 s84 s85 s86 s87 : Value), m = 128 - k ∧ k ≤ 128 ∧ a1 = { tmps := #[t0, .pointer (some ⟨b1, 0, none⟩), .pointer (some ⟨b2, 0, none⟩), s3, s4, s5, t6, t7, t8, t9, t10, t11, t12, t13, t14, t15, t16, t17, t18, t19, t20, t21, t22, t23, t24, t25, t26, t27, t28, t29, t30, t31, .pointer (some ⟨b1, 1, none⟩), .slice (some ⟨gd, od, none⟩) 128 cd, .int .i64 128, .int .i64 (k : Int), s36, s37, s38, s39, s40, s41, s42, s43, s44, s45, s46, s47, s48, s49, s50, s51, s52, s53, s54, s55, s56, s57, s58, s59, s60, s61, s62, s63, s64, s65, s66, s67, s68, s69, s70, s71, s72, s73, s74, s75, s76, s77, s78, s79, s80, s81, s82, s83, s84, s85, s86, s87], defers := Ds.map mkD } ∧ Hid (Below wz.heap.size wz wr ∧ (∀ v, v < k → okV r ds ps v) ∧ Ds.Nodup ∧ ∀ D ∈ Ds, wz.heap.size ≤ D ∧ wr.heap[D]? = some (.deferred (some [])))) 128 ?start ?round
  case start => exact ⟨0, [], _, _, _, _, _, _, _, _, _, _, _, _, _, _, _, _, _, _, _, _, _, _, _, _, _, _, _, _, _, _, _, _, _, _, _, _, _, _, _, _, _, _, _, _, _, _, _, _, _, _, _, _, _, _, _, rfl, Nat.zero_le _, rfl, Lib.hid ⟨Below.refl _ _, fun v h => by omega, List.nodup_nil, fun D hD => by simp at hD⟩⟩
  case round =>
    rintro m a1 wr ⟨k, Ds, s3, s4, s5, s36, s37, s38, s39, s40, s41, s42, s43, s44, s45, s46, s47, s48, s49, s50, s51, s52, s53, s54, s55, s56, s57, s58, s59, s60, s61, s62, s63, s64, s65, s66, s67, s68, s69, s70, s71, s72, s73, s74, s75, s76, s77, s78, s79, s80, s81, s82, s83, s84, s85, s86, s87, rfl, hk, rfl, hlf⟩ K hKK
    have HKK := Lib.hid hKK
    clear hKK q11
    by_cases hlt : k < 128
    · have hkn : (k : Int) < 128 := by omega
      have hk0 : (0 : Int) ≤ (k : Int) := by omega
      have hwk : IntKind.i64.wrap ((k : Int) + 1) = (k : Int) + 1 := by rw [IntKind.wrap_i64]; omega
      have HKN := Lib.hid hlt
      obtain ⟨d, hd⟩ : ∃ d, d = kd ds k := ⟨_, rfl⟩
      have cD : wr.cell? ⟨gd, od + k, none⟩ = some (.int .i64 d) := by
        have h1 := (C.out.kd.below hlf.out.1) k (.int .i64 d) (by simp [dC, kd, hd, C.out.dl, hlt])
        exact h1
      have HD := Lib.hid hd
      clear hd hlt
      gi_wp2_with fail
      obtain ⟨b4, hb4⟩ : ∃ b, b = wr.heap.size := ⟨_, rfl⟩
      obtain ⟨W, hW⟩ : ∃ W, W = wr.alloc (Obj.cells #[.int .i64 d] 3) := ⟨_, rfl⟩
      have BW := Lib.hid (show Below wr.heap.size wr W by rw [hW]; exact (Below.refl _ _).alloc (Nat.le_refl _) _)
      have K4 := Lib.hid (show W.heap[b4]? = some (.cells #[.int .i64 d] 3 (0, 0)) by rw [hW]; exact heap_at hb4)
      have BZ := Lib.hid (bthen hlf.out.1 BW.out)
      have HB4 := Lib.hid hb4
      have SZW : Hid (W.heap.size = b4 + 1) := Lib.hid (by rw [hW, hb4]; simp)
      have K1 := Lib.hid (heap_keep BZ.out C.out.k1)
      obtain ⟨M, hM⟩ : ∃ M, M = gt ps k := ⟨_, rfl⟩
      have AT : Hid (AtL W gp (op + k * 2) (cM M)) := Lib.hid (AtL.sub (n := 2) (k * 2) (C.out.kp.below BZ.out) (by rw [hM]; exact flat_tk cM_len (gt_some (by rw [C.out.pl]; exact HKN.out))))
      have HM := Lib.hid (And.intro hM (show M < 2 ^ 128 by rw [hM]; exact gt_lt C.out.pb k))
      rw [← hW, ← hb4]
      clear hb4 hW hM cD
      refine wpIn_wide.2 ?_
      refine r6_all r d k M b1 b4 gp op cp _ _ _ _ _ _ _ _ _ _ _ _ _ _ _ _ _ _ _ _ _ _ _ _ _ _ _ _ _ _ _ _ _ _ _ _ _ _ _ _ _ _ _ _ _ _ _ _ _ _ _ _ _ _ _ _ _ _ _ _ _ _ _ _ _ _ _ _ _ _ _ _ _ _ _ _ _ _ _ _ _ _ _ _ _ _ W _ (Lib.hid (fun w5 h5 => ⟨by rw [cell_of_row w5 _ 0 _ _ _ (heap_keep h5 K1.out)]; rfl, by rw [cell_of_row w5 _ 2 _ _ _ (heap_keep h5 K1.out)]; rfl, by rw [cell_of_row w5 _ 0 _ _ _ (heap_keep h5 K4.out)]; rfl, AT.out.below h5⟩)) hk0 hkn (Lib.hid ?_)
      intro u40 u41 u42 u43 u44 u45 u46 u47 u48 u49 u50 u51 u52 u53 u54 u55 u56 u57 u58 u59 u60 u61 u62 u63 u64 u65 u66 u67 u68 u69 u70 u71 w5 hb5
      have B5 := Lib.hid hb5
      clear hb5
      cases hbad : bad6 r d k M with
      | true =>
        have HB := Lib.hid hbad
        clear hbad
        obtain ⟨w6, r6, k6, s6, n6, b6⟩ := run_store1 (k := 0) (ty := 28) (.int .i64 1) rfl rfl size28 (heap_keep B5.out (heap_keep BZ.out C.out.k2)) (by decide)
        have R6 := Lib.hid r6
        have F6 : Hid (w6.heap[b2]? = some (.cells #[.int .i64 1] 28 (0, 0)) ∧ Ft b2 b2 none wz w6 ∧ ∀ j, j ≠ b2 → w6.heap[j]? = w5.heap[j]?) := Lib.hid (by
          have b := b6 0 (Nat.zero_le _)
          have B := bthen BZ.out B5.out
          exact ⟨k6, ⟨b.os.trans B.os, b.tape.trans B.tape, b.output.trans B.output, Nat.le_trans B.size b.size, fun j hj hne _ _ => (n6 j hne).trans (B.block j hj)⟩, n6⟩)
        clear r6 k6 s6 n6 b6
        gi_wp2_with (refine wpListIn_storeW rfl 28 (.tmp 2) (.const (.int .i64 1)) rfl rfl b2 0 (.int .i64 1) rfl rfl R6.out ?_)
        have GB := Lib.hid (show b2 < wz.heap.size from (Array.getElem?_eq_some_iff.1 C.out.k2).1)
        have MK : Hid (Ds.Nodup ∧ ∀ D ∈ Ds, wz.heap.size ≤ D ∧ w6.heap[D]? = some (.deferred (some []))) := Lib.hid ⟨hlf.out.2.2.1, fun D hD => ⟨(hlf.out.2.2.2 D hD).1, by
          have h := hlf.out.2.2.2 D hD
          rw [F6.out.2.2 D (by have := GB.out; omega)]
          exact heap_keep B5.out (heap_keep BW.out h.2)⟩⟩
        have NS : Hid (¬ soundT r ds ps) := Lib.hid (fun h => by have := (h k HKN.out).1; rw [← HD.out, ← HM.out.1, HB.out] at this; cases this)
        refine leaves_marksD wz.heap.size (fun w9 => w9.heap[b2]? = some (.cells #[.int .i64 1] 28 (0, 0)) ∧ Ft b2 b2 none wz w9) (fun w D hBD hD hk => ?_) (fun w hk => ?_) Ds _ MK.out.1 MK.out.2 ⟨F6.out.1, F6.out.2.1⟩
        · have o : ∀ j, j ≠ D → (w.putObj D (.deferred none)).heap[j]? = w.heap[j]? := fun j hj => putObj_other hj
          have g := GB.out
          exact ⟨by rw [o b2 (by omega)]; exact hk.1, ⟨hk.2.os, hk.2.tape, hk.2.output, by simpa [World.putObj] using hk.2.size, fun j hj h1 h2 h3 => by rw [o j (by omega)]; exact hk.2.block j hj h1 h2 h3⟩⟩
        · exact ⟨_, results_cell1 rfl rfl (run_load1 nagg28 (by rw [cell_of_row w _ 0 _ _ _ hk.1]; rfl)), H1.out NS.out w hk.1 hk.2⟩
      | false =>
        have HB := Lib.hid hbad
        clear hbad
        have q13 : w5.cell? ⟨b1, 2, none⟩ = some (.slice (some ⟨gp, op, none⟩) 128 cp) := by rw [cell_of_row w5 _ 2 _ _ _ (heap_keep B5.out K1.out)]; rfl
        have LDP := Lib.hid (loadAt_M (AT.out.below B5.out))
        have EACH := Lib.hid (Each_ok M w5)
        gi_wp2_with (refine wpListIn_loadW rfl 35 (.tmp 76) rfl gp (op + k * 2) (mV M) rfl LDP.out ?_)
        refine ⟨trivial, fun h => (by cases h), CallsIn.mono (callsIn_wide.2 EACH.out) ?_⟩
        rintro e w2 ⟨rfl, kE, hb2, hsz2⟩
        have B2 := Lib.hid (bthen B5.out hb2)
        have HKE := Lib.hid kE
        have Z5 := Lib.hid B5.out.size
        obtain ⟨bE, hbE⟩ : ∃ b, b = w5.heap.size := ⟨_, rfl⟩
        rw [← hbE] at HKE
        rw [← hbE]
        have HBE := Lib.hid (And.intro hbE hsz2)
        clear kE hb2 hsz2 hbE q13 LDP EACH
        gi_wp2_with fail
        have HB1 := Lib.hid (show b1 < wz.heap.size ∧ b2 < wz.heap.size from ⟨(Array.getElem?_eq_some_iff.1 C.out.k1).1, (Array.getElem?_eq_some_iff.1 C.out.k2).1⟩)
        have Z2 := Lib.hid (show wz.heap.size ≤ wr.heap.size ∧ wr.heap.size < w2.heap.size ∧ b4 = wr.heap.size ∧ bE < w2.heap.size ∧ 0 < w2.heap.size from by
          have h1 := hlf.out.1.size; have h2 := BW.out.size; have h3 := SZW.out; have h4 := HB4.out; have h5 := B5.out.size; have h6 := HBE.out.1; have h7 := HBE.out.2; have h8 := BZ.out.size
          exact ⟨h1, by omega, h4, by omega, by omega⟩)
        have BZ2 : Hid (Below wz.heap.size wz w2) := Lib.hid (bthen BZ.out B2.out)
        have T2 : Hid (Tab w2) := Lib.hid (C.out.tb.below BZ2.out C.out.tb.size)
        have K42 := Lib.hid (heap_keep B2.out K4.out)
        have K12 := Lib.hid (heap_keep BZ2.out C.out.k1)
        have K22 := Lib.hid (heap_keep BZ2.out C.out.k2)
        have MKS := Lib.hid (show ∀ D' ∈ Ds, D' < wr.heap.size ∧ wz.heap.size ≤ D' ∧ w2.heap[D']? = some (.deferred (some [])) from fun D' hD' => by
          have h := hlf.out.2.2.2 D' hD'
          exact ⟨(Array.getElem?_eq_some_iff.1 h.2).1, h.1, heap_keep B2.out (heap_keep BW.out h.2)⟩)
        refine wpIn_rangeFunc_ownH rfl (by omega) (gf := 41) (lb := #[.pointer (some ⟨bE, 0, none⟩)]) rfl trivial (enters_of Tryd.func41 (by kernel_rfl) rfl)
          (each_stops (N - 1) (by omega) bE w2.heap.size M HM.out.2 w2 (Nat.le_refl _) Z2.out.2.2.2.2 T2.out HKE.out) belowK_t (belowK_b (Nat.le_refl _)) (Below.refl _ _) (fun _ => rfl)
          (fun pre X => Below w2.heap.size w2 X ∧ ∀ u ∈ pre, kd ds u.val < d)
          (fun c pre X => c = .ret ∧ (X.heap[b2]? = some (.cells #[.int .i64 1] 28 (0, 0)) ∧ Ft b2 b2 none w2 X) ∧ ∃ u ∈ pre, ¬ kd ds u.val < d)
          (OwnFrom.and (ownFrom_below (Nat.le_refl _) (Nat.le_refl _)) (fun s X Y row h1 hg hr => h1))
          (fun c => OwnFrom.and (fun s X Y row h1 hg hr => h1) (OwnFrom.and (ft_own (Nat.le_refl _) (by have := HB1.out.2; have := BZ2.out.size; omega)) (fun s X Y row h1 hg hr => h1)))
          ⟨Below.refl _ _, fun u hu => by simp at hu⟩
          (fun x a' _ => ∃ z0 z3 z6 z7 z8 z9 z10 z11 z12 z13 z14 z15 z16 z17 z18 z19 z20 z21 z22 z23 z24 z25 z26 z27 z28 z29 z30 z31 z32 z33 z34 z35 z36 z37 z38 z39 z40 z41 z42 z43 z44 z45 z46 z47 z48 z49 z50 z51 z52 z53 z54 z55 z56 z57 z58 z59 z60 z61 z62 z63 z64 z65 z66 z67 z68 z69 z70 z71 z72 z73 z74 z75 z76 z77 z78 z79 z80 z81 z82 z83 z84 z85 z86 z87 : Value, a' = { tmps := #[z0, .pointer (some ⟨b1, 0, none⟩), .pointer (some ⟨b2, 0, none⟩), z3, .pointer (some ⟨b4, 0, none⟩), .int .i64 (x.val : Int), z6, z7, z8, z9, z10, z11, z12, z13, z14, z15, z16, z17, z18, z19, z20, z21, z22, z23, z24, z25, z26, z27, z28, z29, z30, z31, z32, z33, z34, z35, z36, z37, z38, z39, z40, z41, z42, z43, z44, z45, z46, z47, z48, z49, z50, z51, z52, z53, z54, z55, z56, z57, z58, z59, z60, z61, z62, z63, z64, z65, z66, z67, z68, z69, z70, z71, z72, z73, z74, z75, z76, z77, z78, z79, z80, z81, z82, z83, z84, z85, z86, z87], defers := [] })
          (fun x a' _ X Y row hs hg hr => hs)
          ?assign ?body ?done ?stop
        case assign =>
          rintro l pre x X K2 ⟨hB, hP⟩ hK
          have PB := Lib.hid hB
          have PP := Lib.hid hP
          clear hB hP
          gi_wp2_with fail
          exact hK _ _ (KeepsFrom.refl _ _) (Below.refl _ _) ⟨PB.out, PP.out⟩ ⟨_, _, _, _, _, _, _, _, _, _, _, _, _, _, _, _, _, _, _, _, _, _, _, _, _, _, _, _, _, _, _, _, _, _, _, _, _, _, _, _, _, _, _, _, _, _, _, _, _, _, _, _, _, _, _, _, _, _, _, _, _, _, _, _, _, _, _, _, _, _, _, _, _, _, _, _, _, _, _, _, _, _, _, _, rfl⟩
        case body =>
          rintro l pre x a' X hl hrr ⟨hB, hP⟩ ⟨z0, z3, z6, z7, z8, z9, z10, z11, z12, z13, z14, z15, z16, z17, z18, z19, z20, z21, z22, z23, z24, z25, z26, z27, z28, z29, z30, z31, z32, z33, z34, z35, z36, z37, z38, z39, z40, z41, z42, z43, z44, z45, z46, z47, z48, z49, z50, z51, z52, z53, z54, z55, z56, z57, z58, z59, z60, z61, z62, z63, z64, z65, z66, z67, z68, z69, z70, z71, z72, z73, z74, z75, z76, z77, z78, z79, z80, z81, z82, z83, z84, z85, z86, z87, rfl⟩ hlp
          have BX := bthen BZ2.out hB
          refine chkRound _ _ l X ds d x.val b1 b2 b4 gd od cd _ _ _ _ _ _ _ _ _ _ _ _ _ _ _ _ _ _ _ _ _ _ _ _ _ _ _ _ _ _ _ _ _ _ _ _ _ _ _ _ _ _ _ _ _ _ _ _ _ _ _ _ _ _ _ _ _ _ _ _ _ _ _ _ _ _ _ _ _ _ _ _ _ _ _ _ _ _ _ _ _ _ _ _ (by rw [cell_of_row X _ 1 _ _ _ (heap_keep hB K12.out)]; rfl) (by rw [cell_of_row X _ 0 _ _ _ (heap_keep hB K42.out)]; rfl)
            ((C.out.kd.below BX) x.val (.int .i64 (kd ds x.val)) (by simp [dC, kd, C.out.dl])) x.isLt (Lib.hid (heap_keep hB K22.out)) (Lib.hid ?_) (Lib.hid ?_)
          · intro hlt a' X' hX
            refine ⟨⟨hX.size, fun k o hBk hk _ => heap_keep hX hk⟩, hX.mono hB.size, hB.trans (hX.mono hB.size), fun u hu => ?_⟩
            rcases List.mem_append.1 hu with h | h
            · exact hP u h
            · rw [List.mem_singleton.1 h]; exact hlt
          · intro hlt a' X' hg hk
            refine ⟨KeepsFrom.of_grownBy hg (fun j e => by cases e; have := HB1.out.2; have := BZ2.out.size; omega), rfl, ⟨hk, ⟨hg.os.trans hB.os, hg.tape.trans hB.tape, hg.output.trans hB.output, Nat.le_trans hB.size hg.size, fun j hj h1 _ _ => (hg.block j (Nat.lt_of_lt_of_le hj hB.size) (fun e => h1 (Option.some.inj e))).trans (hB.block j hj)⟩⟩, x, by simp, hlt⟩
        case done =>
          rintro D xs X hD rfl ⟨hB, hP⟩ hK
          have PB := Lib.hid hB
          have PP := Lib.hid hP
          have PD := Lib.hid (And.intro hD hK)
          clear hB hP hD hK
          gi_wp2_with fail
          refine HKK.out (128 - (k + 1)) _ _ (by have := HKN.out; omega) ⟨k + 1, D :: Ds, _, _, _, _, _, _, _, _, _, _, _, _, _, _, _, _, _, _, _, _, _, _, _, _, _, _, _, _, _, _, _, _, _, _, _, _, _, _, _, _, _, _, _, _, _, _, _, _, _, _, _, _, _, _, _, rfl, by have := HKN.out; omega, rfl, Lib.hid ⟨bthen BZ2.out PB.out, fun v hv => ?_, ?_, ?_⟩⟩
          · rcases Nat.lt_or_ge v k with h | h
            · exact hlf.out.2.1 v h
            · obtain rfl : v = k := by omega
              refine ⟨by rw [← HD.out, ← HM.out.1]; exact HB.out, fun u hu => ?_⟩
              rw [← HD.out]
              exact PP.out u (by rw [HM.out.1]; exact hu)
          · exact List.nodup_cons.2 ⟨fun hm => by have := (MKS.out D hm).1; have := PD.out.1; have := Z2.out.2.1; omega, hlf.out.2.2.1⟩
          · intro D' hD'
            rcases List.mem_cons.1 hD' with rfl | h
            · exact ⟨by have := PD.out.1; have := Z2.out; omega, PD.out.2⟩
            · exact ⟨(MKS.out D' h).2.1, heap_keep PB.out (MKS.out D' h).2.2⟩
        case stop =>
          rintro D c pre X hD hpre ⟨rfl, ⟨hk2, hft⟩, u, hu, hnu⟩ hK
          have NS : Hid (¬ soundT r ds ps) := Lib.hid (fun h => hnu (by
            have h1 := (h k HKN.out).2 u (by rw [← HM.out.1]; exact hpre.subset hu)
            rw [← HD.out] at h1
            exact h1))
          have FX := Lib.hid (show X.heap[b2]? = some (.cells #[.int .i64 1] 28 (0, 0)) ∧ Ft b2 b2 none wz X from ⟨hk2, (Ft.of BZ2.out).trans hft⟩)
          have MK := Lib.hid (show (D :: Ds).Nodup ∧ ∀ D' ∈ D :: Ds, wz.heap.size ≤ D' ∧ X.heap[D']? = some (.deferred (some [])) from by
            refine ⟨List.nodup_cons.2 ⟨fun hm => by have := (MKS.out D hm).1; have := Z2.out.2.1; omega, hlf.out.2.2.1⟩, fun D' hD' => ?_⟩
            rcases List.mem_cons.1 hD' with rfl | h
            · exact ⟨by have := Z2.out; omega, hK⟩
            · have m := MKS.out D' h
              refine ⟨m.2.1, (hft.block D' (Array.getElem?_eq_some_iff.1 m.2.2).1 (fun e => ?_) (fun e => ?_) (by simp)).trans m.2.2⟩
              · have := HB1.out.2; omega
              · have := HB1.out.2; omega)
          clear hD hpre hk2 hft hu hnu hK
          gi_wp2_with fail
          have GB := HB1
          refine leaves_marksD wz.heap.size (fun w9 => w9.heap[b2]? = some (.cells #[.int .i64 1] 28 (0, 0)) ∧ Ft b2 b2 none wz w9) (fun w D hBD hD hk => ?_) (fun w hk => ?_) (D :: Ds) _ MK.out.1 MK.out.2 FX.out
          · have o : ∀ j, j ≠ D → (w.putObj D (.deferred none)).heap[j]? = w.heap[j]? := fun j hj => putObj_other hj
            have g := GB.out.2
            exact ⟨by rw [o b2 (by omega)]; exact hk.1, ⟨hk.2.os, hk.2.tape, hk.2.output, by simpa [World.putObj] using hk.2.size, fun j hj h1 h2 h3 => by rw [o j (by omega)]; exact hk.2.block j hj h1 h2 h3⟩⟩
          · exact ⟨_, results_cell1 rfl rfl (run_load1 nagg28 (by rw [cell_of_row w _ 0 _ _ _ hk.1]; rfl)), H1.out NS.out w hk.1 hk.2⟩
    · have hkn : ¬ (k : Int) < 128 := by omega
      have hke : k = 128 := by omega
      obtain ⟨w6, r6, k6, s6, n6, b6⟩ := run_store1 (k := 0) (ty := 28) (.int .i64 0) rfl rfl size28 (heap_keep hlf.out.1 C.out.k2) (by decide)
      have R6 := Lib.hid r6
      have F6 : Hid (w6.heap[b2]? = some (.cells #[.int .i64 0] 28 (0, 0)) ∧ Ft b2 b2 none wz w6 ∧ ∀ j, j ≠ b2 → w6.heap[j]? = wr.heap[j]?) := Lib.hid (by
        have b := b6 0 (Nat.zero_le _)
        have B := hlf.out.1
        exact ⟨k6, ⟨b.os.trans B.os, b.tape.trans B.tape, b.output.trans B.output, Nat.le_trans B.size b.size, fun j hj hne _ _ => (n6 j hne).trans (B.block j hj)⟩, n6⟩)
      have GB := Lib.hid (show b2 < wz.heap.size from (Array.getElem?_eq_some_iff.1 C.out.k2).1)
      have MK : Hid (Ds.Nodup ∧ ∀ D ∈ Ds, wz.heap.size ≤ D ∧ w6.heap[D]? = some (.deferred (some []))) := Lib.hid ⟨hlf.out.2.2.1, fun D hD => ⟨(hlf.out.2.2.2 D hD).1, by
        have h := hlf.out.2.2.2 D hD
        rw [F6.out.2.2 D (by have := GB.out; omega)]
        exact h.2⟩⟩
      have SS : Hid (soundT r ds ps) := Lib.hid (fun v hv => hlf.out.2.1 v (by omega))
      clear r6 k6 s6 n6 b6 hke HKK
      gi_wp2_with (refine wpListIn_storeW rfl 28 (.tmp 2) (.const (.int .i64 0)) rfl rfl b2 0 (.int .i64 0) rfl rfl R6.out ?_)
      refine leaves_marksD wz.heap.size (fun w9 => w9.heap[b2]? = some (.cells #[.int .i64 0] 28 (0, 0)) ∧ Ft b2 b2 none wz w9) (fun w D hBD hD hk => ?_) (fun w hk => ?_) Ds _ MK.out.1 MK.out.2 ⟨F6.out.1, F6.out.2.1⟩
      · have o : ∀ j, j ≠ D → (w.putObj D (.deferred none)).heap[j]? = w.heap[j]? := fun j hj => putObj_other hj
        have g := GB.out
        exact ⟨by rw [o b2 (by omega)]; exact hk.1, ⟨hk.2.os, hk.2.tape, hk.2.output, by simpa [World.putObj] using hk.2.size, fun j hj h1 h2 h3 => by rw [o j (by omega)]; exact hk.2.block j hj h1 h2 h3⟩⟩
      · exact ⟨_, results_cell1 rfl rfl (run_load1 nagg28 (by rw [cell_of_row w _ 0 _ _ _ hk.1]; rfl)), H0.out SS.out w hk.1 hk.2⟩

end Go.Proofs.YtjbglifmppilfaaDoor
namespace Go.Proofs.YtjbglifmppilfaaDoor
open Go.ChangeShapes Go.WideShapes Go.ChangeAt Go.RowKit
set_option linter.unusedVariables false
set_option linter.unusedSimpArgs false
attribute [local go_sem] Og.Opt Og.OpY Oper.semAt_some

theorem eqIM (A B : Nat) (w : World) : (Op.equalIn 10000 35 (.agg #[.int .u64 (loM A), .int .u64 (hiM A)]) (.agg #[.int .u64 (loM B), .int .u64 (hiM B)])).run Tryd.prog w = .ok (decide (A = B)) w := by
  have := eqM A B w
  unfold Op.equal Op.maxDepth mV at this
  exact this
theorem Rd_at {α : Type} {f : α → List Value} {m : Nat} {w : World} {A : Option Addr} {xs : List α} (h : Rd f m w A xs) {k : Nat} (hk : k < xs.length) : ∃ x b o, xs[k]? = some x ∧ A = some ⟨b, o, none⟩ ∧ AtL w b (o + k * m) (f x) := by
  obtain ⟨x, hx⟩ : ∃ x, xs[k]? = some x := ⟨_, List.getElem?_eq_getElem hk⟩
  obtain ⟨b, o, h1, h2⟩ := h k x hx
  exact ⟨x, b, o, hx, h1, h2⟩
theorem eq_upto {α : Type} {xs ys : List α} (hl : xs.length = ys.length) (h : ∀ j, j < xs.length → xs[j]? = ys[j]?) : xs = ys := List.ext_getElem? fun j => by
  rcases Nat.lt_or_ge j xs.length with hj | hj
  · exact h j hj
  · rw [List.getElem?_eq_none hj, List.getElem?_eq_none (hl ▸ hj)]

set_option maxRecDepth 100000 in
set_option maxHeartbeats 4000000 in
theorem SameInts_ok (xs ys : List Int) (va vb : Value) (w : World) (ha : Sl cI 1 0 w va xs) (hb : Sl cI 1 0 w vb ys) (hl : xs.length ≤ 1125899906842624) :
    Calls Tryd.prog 23 #[va, vb] w fun e w' => e = .returned (.bool (decide (xs = ys))) ∧ Below w.heap.size w w' := by
  obtain ⟨A, c, rfl, hra, -⟩ := ha
  obtain ⟨B, d, rfl, hrb, -⟩ := hb
  obtain ⟨n, hn⟩ : ∃ n, n = xs.length := ⟨_, rfl⟩
  obtain ⟨m, hm⟩ : ∃ m, m = ys.length := ⟨_, rfl⟩
  rw [← hn, ← hm]
  rw [← hn] at hl
  have HN := Lib.hid hn
  have HM := Lib.hid hm
  have HA := Lib.hid hra
  have HB := Lib.hid hrb
  clear hn hm hra hrb
  by_cases hnm : n = m
  · have hnm' : (n : Int) = (m : Int) := by omega
    have HNM := Lib.hid hnm
    clear hnm
    go_enter Tryd.func23, Tryd.ntmps23
    go_wp2_with fail
    clear hnm'
    go_loopw [5] (fun i wr => ∃ k : Nat, k ≤ n ∧ i = .int .i64 k ∧ Hid ((∀ j, j < k → xs[j]? = ys[j]?) ∧ Below w.heap.size w wr)) (fun i _ => n - (intOf i).toNat)
    case atStart => exact ⟨0, Nat.zero_le _, rfl, Lib.hid ⟨fun j hj => by omega, Below.refl _ _⟩⟩
    case round =>
      obtain ⟨k, hk, rfl, hbw⟩ := hrel
      by_cases hlt : k < n
      · have hwk1 : IntKind.i64.wrap ((k : Int) + 1) = (k : Int) + 1 := by rw [IntKind.wrap_i64]; omega
        have hk0 : (0 : Int) ≤ (k : Int) := by omega
        have hkn : (k : Int) < (n : Int) := by omega
        have hkm : (k : Int) < (m : Int) := by have := HNM.out; omega
        obtain ⟨x, b1, o1, hx, rfl, h1⟩ := Rd_at HA.out (k := k) (by rw [← HN.out]; exact hlt)
        obtain ⟨y, b2, o2, hy, rfl, h2⟩ := Rd_at HB.out (k := k) (by rw [← HM.out, ← HNM.out]; exact hlt)
        have HX := Lib.hid (And.intro hx hy)
        rw [Nat.mul_one] at h1 h2
        have HC : ∀ w5, Below wr.heap.size wr w5 → w5.cell? ⟨b1, o1 + k, none⟩ = some (.int .i64 x) ∧ w5.cell? ⟨b2, o2 + k, none⟩ = some (.int .i64 y) := fun w5 h5 => ⟨bcell (bthen hbw.out.2 h5) (h1 0 _ rfl), bcell (bthen hbw.out.2 h5) (h2 0 _ rfl)⟩
        clear hx hy h1 h2 hlt
        go_wp2_with fail
        refine Og.walk_lit [[],[],[0,1],[2,0,1],[],[],[4,5],[6,4,5],[3,7,2,0,1,6,4,5]] (fun w2 => Below wr.heap.size wr w2) (fun w1 w2 => Below w1.heap.size w1 w2) (by kernel_rfl) (by kernel_rfl) (bdrew) ?_
        iterate 9 (refine Og.step_pure (fun _ => Below.refl _ _) ?_; apply Exists.intro; refine And.intro ?_ ?_; focus (intro vs w2 hC hk; have hm := HC w2 hC; revert hk; simp only [Og.KS, Og.K0, Og.Is, List.getD_cons_zero, List.getD_cons_succ, List.getD_nil, List.contains_cons, List.contains_nil, Nat.reduceAdd, Nat.reduceBEq, Bool.or_false, Bool.false_or, Bool.or_true, Bool.true_or, Bool.false_eq_true, false_implies, true_implies, true_and, and_true, forall_const]; intros; go_simp; rfl))
        intro vs w2 hC hk
        have hm := HC w2 hC
        simp only [Og.KS, Og.K0, Og.Is, List.getD_cons_zero, List.getD_cons_succ, List.getD_nil, List.contains_cons, List.contains_nil, Nat.reduceAdd, Nat.reduceBEq, Bool.or_false, Bool.false_or, Bool.or_true, Bool.true_or, Bool.false_eq_true, false_implies, true_implies, true_and, and_true, forall_const] at hk
        simp only [hk, Act.put, List.setIfInBounds_toArray, List.set_cons_zero, List.set_cons_succ]
        clear hk
        have B5 := Lib.hid (bthen hbw.out.2 hC)
        clear hm hC HC
        by_cases hxy : x = y
        · have HE := Lib.hid hxy
          try simp only [hxy, decide_true, Bool.not_true, bne_self_eq_false]
          clear hxy
          go_wp2_with fail
          go_roundw
          case rel => exact ⟨k + 1, by omega, by go_num, Lib.hid ⟨fun j hj => by
            rcases Nat.lt_or_ge j k with h | h
            · exact hbw.out.1 j h
            · obtain rfl : j = k := by omega
              rw [HX.out.1, HX.out.2, HE.out], B5.out⟩⟩
          case measure => simp [intOf]; omega
        · have HE := Lib.hid hxy
          have hd : decide (x = y) = false := by simp [hxy]
          try simp only [hxy, hd, Bool.not_false, decide_false]
          go_wp2_with fail
          go_ret
          refine ⟨?_, B5.out⟩
          have : ¬ xs = ys := fun e => by
            have h1 := HX.out.1
            have h2 := HX.out.2
            rw [e, h2] at h1
            exact HE.out (Option.some.inj h1).symm
          simp [this]
      · have hkn : ¬ (k : Int) < (n : Int) := by omega
        have hke : k = n := by omega
        have HE : Hid (xs = ys) := Lib.hid (eq_upto (by rw [← HN.out, ← HM.out, HNM.out]) (fun j hj => hbw.out.1 j (by rw [hke, HN.out]; exact hj)))
        clear hke hlt
        go_wp2_with fail
        go_ret
        exact ⟨by simp [HE.out], hbw.out.2⟩
  · have hnm' : ¬ (n : Int) = (m : Int) := by omega
    have HNM := Lib.hid hnm
    clear hnm
    go_enter Tryd.func23, Tryd.ntmps23
    go_wp2_with fail
    go_ret
    refine ⟨?_, Below.refl _ _⟩
    have : ¬ xs = ys := fun e => HNM.out (by rw [HN.out, HM.out, e])
    simp [this]

set_option maxRecDepth 100000 in
set_option maxHeartbeats 4000000 in
theorem SameSets_ok (xs ys : List Nat) (va vb : Value) (w : World) (ha : Sl cM 2 0 w va xs) (hb : Sl cM 2 0 w vb ys) (hl : xs.length ≤ 1125899906842624) :
    Calls Tryd.prog 24 #[va, vb] w fun e w' => e = .returned (.bool (decide (xs = ys))) ∧ Below w.heap.size w w' := by
  obtain ⟨A, c, rfl, hra, -⟩ := ha
  obtain ⟨B, d, rfl, hrb, -⟩ := hb
  obtain ⟨n, hn⟩ : ∃ n, n = xs.length := ⟨_, rfl⟩
  obtain ⟨m, hm⟩ : ∃ m, m = ys.length := ⟨_, rfl⟩
  rw [← hn, ← hm]
  rw [← hn] at hl
  have HN := Lib.hid hn
  have HM := Lib.hid hm
  have HA := Lib.hid hra
  have HB := Lib.hid hrb
  clear hn hm hra hrb
  by_cases hnm : n = m
  · have hnm' : (n : Int) = (m : Int) := by omega
    have HNM := Lib.hid hnm
    clear hnm
    go_enter Tryd.func24, Tryd.ntmps24
    go_wp2_with fail
    clear hnm'
    go_loopw [5] (fun i wr => ∃ k : Nat, k ≤ n ∧ i = .int .i64 k ∧ Hid ((∀ j, j < k → xs[j]? = ys[j]?) ∧ Below w.heap.size w wr)) (fun i _ => n - (intOf i).toNat)
    case atStart => exact ⟨0, Nat.zero_le _, rfl, Lib.hid ⟨fun j hj => by omega, Below.refl _ _⟩⟩
    case round =>
      obtain ⟨k, hk, rfl, hbw⟩ := hrel
      by_cases hlt : k < n
      · have hwk1 : IntKind.i64.wrap ((k : Int) + 1) = (k : Int) + 1 := by rw [IntKind.wrap_i64]; omega
        have hk0 : (0 : Int) ≤ (k : Int) := by omega
        have hkn : (k : Int) < (n : Int) := by omega
        have hkm : (k : Int) < (m : Int) := by have := HNM.out; omega
        obtain ⟨x, b1, o1, hx, rfl, h1⟩ := Rd_at HA.out (k := k) (by rw [← HN.out]; exact hlt)
        obtain ⟨y, b2, o2, hy, rfl, h2⟩ := Rd_at HB.out (k := k) (by rw [← HM.out, ← HNM.out]; exact hlt)
        have HX := Lib.hid (And.intro hx hy)
        have HC : ∀ w5, Below wr.heap.size wr w5 → w5.cell? ⟨b1, o1 + k * 2, none⟩ = some (.int .u64 (loM x)) ∧ w5.cell? ⟨b1, o1 + k * 2 + 1, none⟩ = some (.int .u64 (hiM x)) ∧ w5.cell? ⟨b2, o2 + k * 2, none⟩ = some (.int .u64 (loM y)) ∧ w5.cell? ⟨b2, o2 + k * 2 + 1, none⟩ = some (.int .u64 (hiM y)) := fun w5 h5 => ⟨bcell (bthen hbw.out.2 h5) (h1 0 _ rfl), bcell (bthen hbw.out.2 h5) (h1 1 _ rfl), bcell (bthen hbw.out.2 h5) (h2 0 _ rfl), bcell (bthen hbw.out.2 h5) (h2 1 _ rfl)⟩
        clear hx hy h1 h2 hlt
        go_wp2_with fail
        refine Og.walk_lit [[],[],[0,1],[2,0,1],[],[],[4,5],[6,4,5],[3,7,2,0,1,6,4,5]] (fun w2 => Below wr.heap.size wr w2) (fun w1 w2 => Below w1.heap.size w1 w2) (by kernel_rfl) (by kernel_rfl) (bdrew) ?_
        iterate 8 (refine Og.step_pure (fun _ => Below.refl _ _) ?_; apply Exists.intro; refine And.intro ?_ ?_; focus (intro vs w2 hC hk; have hm := HC w2 hC; revert hk; simp only [Og.KS, Og.K0, Og.Is, List.getD_cons_zero, List.getD_cons_succ, List.getD_nil, List.contains_cons, List.contains_nil, Nat.reduceAdd, Nat.reduceBEq, Bool.or_false, Bool.false_or, Bool.or_true, Bool.true_or, Bool.false_eq_true, false_implies, true_implies, true_and, and_true, forall_const]; intros; go_simp; rfl))
        refine Og.step_pure (fun _ => Below.refl _ _) ?_; apply Exists.intro; refine And.intro ?_ ?_; focus (intro vs w2 hC hk; have hm := HC w2 hC; have he := eqIM x y; revert hk; simp only [Og.KS, Og.K0, Og.Is, List.getD_cons_zero, List.getD_cons_succ, List.getD_nil, List.contains_cons, List.contains_nil, Nat.reduceAdd, Nat.reduceBEq, Bool.or_false, Bool.false_or, Bool.or_true, Bool.true_or, Bool.false_eq_true, false_implies, true_implies, true_and, and_true, forall_const]; intros; go_simp; rfl)
        intro vs w2 hC hk
        have hm := HC w2 hC
        simp only [Og.KS, Og.K0, Og.Is, List.getD_cons_zero, List.getD_cons_succ, List.getD_nil, List.contains_cons, List.contains_nil, Nat.reduceAdd, Nat.reduceBEq, Bool.or_false, Bool.false_or, Bool.or_true, Bool.true_or, Bool.false_eq_true, false_implies, true_implies, true_and, and_true, forall_const] at hk
        simp only [hk, Act.put, List.setIfInBounds_toArray, List.set_cons_zero, List.set_cons_succ]
        clear hk
        have B5 := Lib.hid (bthen hbw.out.2 hC)
        clear hm hC HC
        by_cases hxy : x = y
        · have HE := Lib.hid hxy
          try simp only [hxy, decide_true, Bool.not_true, bne_self_eq_false]
          clear hxy
          go_wp2_with fail
          go_roundw
          case rel => exact ⟨k + 1, by omega, by go_num, Lib.hid ⟨fun j hj => by
            rcases Nat.lt_or_ge j k with h | h
            · exact hbw.out.1 j h
            · obtain rfl : j = k := by omega
              rw [HX.out.1, HX.out.2, HE.out], B5.out⟩⟩
          case measure => simp [intOf]; omega
        · have HE := Lib.hid hxy
          have hd : decide (x = y) = false := by simp [hxy]
          try simp only [hxy, hd, Bool.not_false, decide_false]
          go_wp2_with fail
          go_ret
          refine ⟨?_, B5.out⟩
          have : ¬ xs = ys := fun e => by
            have h1 := HX.out.1
            have h2 := HX.out.2
            rw [e, h2] at h1
            exact HE.out (Option.some.inj h1).symm
          simp [this]
      · have hkn : ¬ (k : Int) < (n : Int) := by omega
        have hke : k = n := by omega
        have HE : Hid (xs = ys) := Lib.hid (eq_upto (by rw [← HN.out, ← HM.out, HNM.out]) (fun j hj => hbw.out.1 j (by rw [hke, HN.out]; exact hj)))
        clear hke hlt
        go_wp2_with fail
        go_ret
        exact ⟨by simp [HE.out], hbw.out.2⟩
  · have hnm' : ¬ (n : Int) = (m : Int) := by omega
    have HNM := Lib.hid hnm
    clear hnm
    go_enter Tryd.func24, Tryd.ntmps24
    go_wp2_with fail
    go_ret
    refine ⟨?_, Below.refl _ _⟩
    have : ¬ xs = ys := fun e => HNM.out (by rw [HN.out, HM.out, e])
    simp [this]

end Go.Proofs.YtjbglifmppilfaaDoor
namespace Go.Proofs.YtjbglifmppilfaaDoor
open Go.ChangeShapes Go.WideShapes Go.ChangeAt Go.RowKit
set_option linter.unusedVariables false
set_option linter.unusedSimpArgs false
attribute [local go_sem] Og.Opt Og.OpY Oper.semAt_some

/-- a tree as a value -/
structure TV (w : World) (x : Value) (r : Int) (ds : List Int) (ps hs : List Nat) : Prop where
  e : ∃ vD vP vH, x = .agg #[.int .i64 r, vD, vP, vH] ∧ Sl cI 1 0 w vD ds ∧ Sl cM 2 0 w vP ps ∧ Sl cM 2 0 w vH hs
  pb : allM ps
  hb : allM hs
  dn : ds.length * 8 ≤ 140737488355328
  pn : ps.length * 16 ≤ 140737488355328
  hn : hs.length * 16 ≤ 140737488355328
theorem TV.below {w w' : World} {x : Value} {r : Int} {ds : List Int} {ps hs : List Nat} (h : TV w x r ds ps hs) (hb : Below w.heap.size w w') : TV w' x r ds ps hs := by
  obtain ⟨vD, vP, vH, e, h1, h2, h3⟩ := h.e
  exact ⟨⟨vD, vP, vH, e, h1.below hb, h2.below hb, h3.below hb⟩, h.pb, h.hb, h.dn, h.pn, h.hn⟩
theorem Rd_all {α : Type} {f : α → List Value} {m : Nat} {w : World} {A : Option Addr} {xs : List α} (hm : ∀ x, (f x).length = m) (h0 : 0 < m) (h : Rd f m w A xs) (hl : 0 < xs.length) : ∃ b o, A = some ⟨b, o, none⟩ ∧ AtL w b o (xs.flatMap f) := by
  obtain ⟨x, b, o, -, rfl, -⟩ := Rd_at h hl
  refine ⟨b, o, rfl, fun j u hu => ?_⟩
  have h1 := news_rd hm h0 h j u hu
  by_cases hj : j = 0
  · subst hj
    simpa [Addr.add] using h1
  · simpa [Addr.add, hj] using h1
theorem Sl_one {α : Type} {f : α → List Value} {m B : Nat} {w : World} {v : Value} {xs : List α} (h : Sl f m B w v xs) : v.oneCell' = true := by
  obtain ⟨A, c, rfl, -⟩ := h
  rfl
set_option maxRecDepth 100000 in
set_option maxHeartbeats 4000000 in
theorem Same_ok (w : World) (x y : Value) (r r' : Int) (ds ds' : List Int) (ps hs ps' hs' : List Nat) (X : TV w x r ds ps hs) (Y : TV w y r' ds' ps' hs') :
    Calls Tryd.prog 11 #[x, y] w fun e w' => e = .returned (.bool (decide (r = r') && decide (ds = ds') && decide (ps = ps') && decide (hs = hs'))) ∧ Below w.heap.size w w' := by
  obtain ⟨vD, vP, vH, rfl, h1, h2, h3⟩ := X.e
  obtain ⟨vD', vP', vH', rfl, h1', h2', h3'⟩ := Y.e
  have SD := Lib.hid (fun w2 (hb : Below w.heap.size w w2) => SameInts_ok ds ds' vD vD' w2 (h1.below hb) (h1'.below hb) (by have := X.dn; omega))
  have SP := Lib.hid (fun w2 (hb : Below w.heap.size w w2) => SameSets_ok ps ps' vP vP' w2 (h2.below hb) (h2'.below hb) (by have := X.pn; omega))
  have SH := Lib.hid (fun w2 (hb : Below w.heap.size w w2) => SameSets_ok hs hs' vH vH' w2 (h3.below hb) (h3'.below hb) (by have := X.hn; omega))
  obtain ⟨b1, hb1⟩ : ∃ b, b = decide (ds = ds') := ⟨_, rfl⟩
  obtain ⟨b2, hb2⟩ : ∃ b, b = decide (ps = ps') := ⟨_, rfl⟩
  obtain ⟨b3, hb3⟩ : ∃ b, b = decide (hs = hs') := ⟨_, rfl⟩
  rw [← hb1] at SD ⊢
  rw [← hb2] at SP ⊢
  rw [← hb3] at SH ⊢
  have O1 := Lib.hid (And.intro (Sl_one h1) (And.intro (Sl_one h2) (And.intro (Sl_one h3) (And.intro (Sl_one h1') (And.intro (Sl_one h2') (Sl_one h3'))))))
  clear h1 h2 h3 h1' h2' h3' hb1 hb2 hb3 X Y
  obtain ⟨W, hW⟩ : ∃ W, W = (w.alloc (Obj.cells #[.int .i64 r, vD, vP, vH] 25)).alloc (Obj.cells #[.int .i64 r', vD', vP', vH'] 25) := ⟨_, rfl⟩
  obtain ⟨z, hz⟩ : ∃ z, z = w.heap.size := ⟨_, rfl⟩
  have BW := Lib.hid (show Below w.heap.size w W by rw [hW]; exact ((Below.refl _ _).alloc (Nat.le_refl _) _).alloc (by simp) _)
  have K1 := Lib.hid (show W.heap[z]? = some (.cells #[.int .i64 r, vD, vP, vH] 25 (0, 0)) by rw [hW]; exact heap_keep ((Below.refl _ _).alloc (Nat.le_refl _) _) (heap_at hz))
  have K2 := Lib.hid (show W.heap[z + 1]? = some (.cells #[.int .i64 r', vD', vP', vH'] 25 (0, 0)) by rw [hW]; exact heap_at (by rw [hz]; simp))
  have HC := Lib.hid (show ∀ w2, Below W.heap.size W w2 → w2.cell? ⟨z, 0, none⟩ = some (.int .i64 r) ∧ w2.cell? ⟨z, 1, none⟩ = some vD ∧ w2.cell? ⟨z, 2, none⟩ = some vP ∧ w2.cell? ⟨z, 3, none⟩ = some vH ∧ w2.cell? ⟨z + 1, 0, none⟩ = some (.int .i64 r') ∧ w2.cell? ⟨z + 1, 1, none⟩ = some vD' ∧ w2.cell? ⟨z + 1, 2, none⟩ = some vP' ∧ w2.cell? ⟨z + 1, 3, none⟩ = some vH' from fun w2 hb => by
    have k := heap_keep hb K1.out
    have k' := heap_keep hb K2.out
    exact ⟨by rw [cell_of_row w2 _ 0 _ _ _ k]; rfl, by rw [cell_of_row w2 _ 1 _ _ _ k]; rfl, by rw [cell_of_row w2 _ 2 _ _ _ k]; rfl, by rw [cell_of_row w2 _ 3 _ _ _ k]; rfl, by rw [cell_of_row w2 _ 0 _ _ _ k']; rfl, by rw [cell_of_row w2 _ 1 _ _ _ k']; rfl, by rw [cell_of_row w2 _ 2 _ _ _ k']; rfl, by rw [cell_of_row w2 _ 3 _ _ _ k']; rfl⟩)
  by_cases hr : r = r'
  · subst hr
    go_enter Tryd.func11, Tryd.ntmps11
    have hm := HC.out W (Below.refl _ _)
    go_wp2_with fail
    rw [← hW, ← hz]
    refine (SD.out W BW.out).mono ?_
    rintro e w3 ⟨rfl, hb3⟩
    have B3 := Lib.hid hb3
    have hm := HC.out w3 hb3
    clear hW hb3 hz
    cases b1 with
    | false =>
      go_wp2_with fail
      go_ret
      exact ⟨by simp, bthen BW.out B3.out⟩
    | true =>
      go_wp2_with fail
      refine (SP.out w3 (bthen BW.out B3.out)).mono ?_
      rintro e w4 ⟨rfl, hb4⟩
      have B4 := Lib.hid (bthen B3.out hb4)
      have hm := HC.out w4 (bthen B3.out hb4)
      clear hb4
      cases b2 with
      | false =>
        go_wp2_with fail
        go_ret
        exact ⟨by simp, bthen BW.out B4.out⟩
      | true =>
        go_wp2_with fail
        refine (SH.out w4 (bthen BW.out B4.out)).mono ?_
        rintro e w5 ⟨rfl, hb5⟩
        have B5 := Lib.hid (bthen B4.out hb5)
        clear hb5
        go_wp2_with fail
        go_ret
        exact ⟨by simp, bthen BW.out B5.out⟩
  · go_enter Tryd.func11, Tryd.ntmps11
    go_wp2_with fail
    rw [← hW]
    go_ret
    exact ⟨by simp [hr], BW.out⟩

end Go.Proofs.YtjbglifmppilfaaDoor
