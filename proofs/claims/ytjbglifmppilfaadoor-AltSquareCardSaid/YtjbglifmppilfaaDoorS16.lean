/- Two sorted ranges of a row merged; conditions as stated. Two sorted ranges of a row merged, by induction; conditions as stated. The sort by blocks and merging; conditions as stated. The next hops by the parents: what they are, and what the loop of fill keeps; conditions as stated. One parent in the loop of fill; conditions as stated. -/
import Derived.Test.YtjbglifmppilfaaDoorS15
import Derived.Test.YtjbglifmppilfaaDoorS14
import Derived.RangeFuncNested
import Derived.RangeFuncBound
import Derived.RangeFuncCalls
import Derived.RangeFuncLeaves
import Derived.Shelf.Abstract
import Derived.Shelf.RegionOpen
import Derived.WalkKit
import Derived.OwnWalkIn
import Derived.TacticsInMore
import Derived.LoopNIn
import Derived.LoopIn
namespace Go.Proofs.YtjbglifmppilfaaDoor
open Go.ChangeShapes Go.WideShapes Go.ChangeAt Go.RowKit
set_option linter.unusedVariables false
set_option linter.unusedSimpArgs false
attribute [local go_sem] Og.Opt Og.OpY

set_option maxRecDepth 100000 in
set_option maxHeartbeats 8000000 in
theorem symT (Ψ : World → Prop) (B gd od cd : Nat) (ds : List Int) (g : Nat) (tl : List Value) (l c a m b mid nn lo hi pp N : Nat) (xs : List Nat) (w : World) (t5 t6 t7 t8 t9 t10 t11 t12 t13 t14 t15 t16 t17 t23 t24 t25 t26 t27 t28 t29 t30 t31 t32 t33 t34 t35 t36 t37 t38 t39 t40 t41 t42 t43 t44 t45 t46 t47 t48 t49 t50 t51 t52 t53 t54 t55 t56 t57 t58 t59 t60 t61 t62 t63 t64 t65 t66 t67 t68 t69 t70 t71 t72 t73 t74 t75 t76 t77 t78 t79 t80 t81 t82 t83 t84 t85 t86 t87 t88 t89 t90 t91 t92 t93 t94 t95 t96 t97 t98 t99 t100 t101 t102 t103 t104 t105 t106 t107 t108 t109 t110 t111 t112 t113 t114 t115 t116 t117 t118 t119 t120 t121 t122 t123 t124 t125 t126 t127 t128 t129 t130 t131 t132 t133 t134 t135 t136 t137 t138 t139 t140 t141 t142 t143 t144 t145 t146 t147 t148 t149 t150 t151 t152 t153 t154 t155 t156 t157 t158 t159 t160 t161 t162 t163 t164 t165 t166 t167 t168 t169 t170 t171 t172 t173 t174 t175 t176 t177 t178 t179 t180 t181 t182 t183 t184 t185 t186 t187 t188 t189 t190 t191 t192 t193 t194 t195 t196 t197 t198 t199 t200 t201 t202 t203 t204 t205 t206 t207 t208 t209 t210 t211 t212 t213 t214 t215 t216 t217 t218 t219 : Value)
    (S : Hid (SW B gd od cd ds g tl w xs ∧ xs.length = l)) (HB : Hid ((a < m ∧ m < b ∧ b ≤ l ∧ l ≤ 1000) ∧ mid = (a + b) / 2 ∧ nn = mid + m ∧ pp = nn - 1 ∧ lo = (if mid < m then mid + m - b else a) ∧ hi = (if mid < m then mid else m) ∧ mid - a < N ∧ b - mid < N)) (U : Hid (Up (kd ds) xs a m ∧ Up (kd ds) xs m b)) (IH : Hid (IHm B gd od cd ds g tl l c N))
    (HΨ : Hid (∀ ys w', SW B gd od cd ds g tl w' ys → RP a b xs ys → Up (kd ds) ys a b → w.grownBy w' (some g) → Ψ w')) :
    tail66.wp Tryd.prog (bodyPost Tryd.prog Tryd.f66 fun e w' => e = .returned (.tuple #[]) ∧ Ψ w') { tmps := #[.slice (some ⟨g, 0, none⟩) l c, .int .i64 a, .int .i64 m, .int .i64 b, .func (.func 33) #[] #[.pointer (some ⟨B, 0, none⟩)], t5, t6, t7, t8, t9, t10, t11, t12, t13, t14, t15, t16, t17, .int .i64 mid, .int .i64 nn, .int .i64 lo, .int .i64 hi, .int .i64 pp, t23, t24, t25, t26, t27, t28, t29, t30, t31, t32, t33, t34, t35, t36, t37, t38, t39, t40, t41, t42, t43, t44, t45, t46, t47, t48, t49, t50, t51, t52, t53, t54, t55, t56, t57, t58, t59, t60, t61, t62, t63, t64, t65, t66, t67, t68, t69, t70, t71, t72, t73, t74, t75, t76, t77, t78, t79, t80, t81, t82, t83, t84, t85, t86, t87, t88, t89, t90, t91, t92, t93, t94, t95, t96, t97, t98, t99, t100, t101, t102, t103, t104, t105, t106, t107, t108, t109, t110, t111, t112, t113, t114, t115, t116, t117, t118, t119, t120, t121, t122, t123, t124, t125, t126, t127, t128, t129, t130, t131, t132, t133, t134, t135, t136, t137, t138, t139, t140, t141, t142, t143, t144, t145, t146, t147, t148, t149, t150, t151, t152, t153, t154, t155, t156, t157, t158, t159, t160, t161, t162, t163, t164, t165, t166, t167, t168, t169, t170, t171, t172, t173, t174, t175, t176, t177, t178, t179, t180, t181, t182, t183, t184, t185, t186, t187, t188, t189, t190, t191, t192, t193, t194, t195, t196, t197, t198, t199, t200, t201, t202, t203, t204, t205, t206, t207, t208, t209, t210, t211, t212, t213, t214, t215, t216, t217, t218, t219], defers := [] } w := by
  have T1 := Lib.hid (@symT1)
  have HR : Hid (a ≤ lo ∧ lo ≤ hi ∧ hi ≤ m ∧ hi ≤ mid ∧ m ≤ nn - hi ∧ nn - lo ≤ b ∧ mid < b ∧ a < mid) := Lib.hid (by
    obtain ⟨h1, h2, h3, h4, h5, h6, -⟩ := HB.out
    split at h5 <;> split at h6 <;> omega)
  rw [tail66_eq]
  simp only [tail66, body66, Tryd.f66, sub1, sub2]
  go_wp2_with fail
  go_loopw [20, 21] (fun lv hv wr => ∃ i j : Nat, (lo ≤ i ∧ i ≤ j ∧ j ≤ hi) ∧ lv = .int .i64 (i : Int) ∧ hv = .int .i64 (j : Int) ∧ Hid ((∀ t, lo ≤ t → t < i → ky (kd ds) xs t ≤ ky (kd ds) xs (nn - 1 - t)) ∧ (∀ t, j ≤ t → t < hi → ky (kd ds) xs (nn - 1 - t) < ky (kd ds) xs t)) ∧ Hid (SW B gd od cd ds g tl wr xs ∧ w.grownBy wr (some g))) (fun lv hv _ => (intOf hv).toNat - (intOf lv).toNat)
  case atStart => exact ⟨lo, hi, by have := HR.out; omega, rfl, rfl, Lib.hid ⟨fun t h1 h2 => by omega, fun t h1 h2 => by omega⟩, Lib.hid ⟨S.out.1, grown_refl _ _⟩⟩
  case round =>
    obtain ⟨i, j, hij, rfl, rfl, hcut, hT⟩ := hrel
    by_cases hlt : i < j
    · have hwa : IntKind.i64.wrap (i : Int) = i := wrapk (by have := HR.out; have := HB.out; omega)
      have hwb : IntKind.i64.wrap (j : Int) = j := wrapk (by have := HR.out; have := HB.out; omega)
      have ha0 : (0 : Int) ≤ (i : Int) := by omega
      have hb0 : (j : Int) ≤ 1125899906842624 := by have := HR.out; have := HB.out; omega
      have habi : (i : Int) < (j : Int) := by omega
      obtain ⟨n, hm⟩ : ∃ n : Nat, n = (i + j) / 2 := ⟨_, rfl⟩
      have hmi : ((i : Int) + (j : Int)) / 2 = (n : Int) := by omega
      have hwm : IntKind.i64.wrap (n : Int) = n := wrapk (by have := HR.out; have := HB.out; omega)
      have hwm1 : IntKind.i64.wrap ((n : Int) + 1) = (n : Int) + 1 := by have := HR.out; have := HB.out; rw [IntKind.wrap_i64]; omega
      have hnlt : i ≤ n ∧ n < j := by omega
      obtain ⟨q, hq⟩ : ∃ q : Nat, q = nn - 1 - n := ⟨_, rfl⟩
      have hqb : q < b ∧ n < m ∧ m ≤ q ∧ b ≤ xs.length := by have := HR.out; have := HB.out; have := S.out.2; omega
      have wq : IntKind.i64.wrap ((pp : Int) - (n : Int)) = (q : Int) := by have := HR.out; have := HB.out; rw [IntKind.wrap_i64]; omega
      have hm0 : (0 : Int) ≤ (n : Int) := by omega
      have hmn : (n : Int) < (l : Int) := by have := HB.out; omega
      have hq0 : (0 : Int) ≤ (q : Int) := by omega
      have hqn : (q : Int) < (l : Int) := by have := HB.out; omega
      have v1 := hT.out.1.val (i := q) (by omega)
      have v2 := hT.out.1.val (i := n) (by omega)
      obtain ⟨z, hz⟩ : ∃ z, z = kd ds (gt xs q) - kd ds (gt xs n) := ⟨_, rfl⟩
      have HCMP := Lib.hid (fun w2 (hb : Below wr.heap.size wr w2) => cmp_ok B gd od cd ds (gt xs q) (gt xs n) w2 (bcell hb hT.out.1.box) (hT.out.1.dist.below hb) hT.out.1.ok v1.2 v2.2)
      rw [← hz] at HCMP
      have HZ := Lib.hid hz
      have HC : ∀ w2, Below wr.heap.size wr w2 → w2.cell? ⟨g, q, none⟩ = some (.int .i64 (gt xs q : Nat)) ∧ w2.cell? ⟨g, n, none⟩ = some (.int .i64 (gt xs n : Nat)) := fun w2 hb => ⟨bcell hb v1.1, bcell hb v2.1⟩
      have HJ := Lib.hid (show (i ≤ n ∧ n < j ∧ lo ≤ i ∧ j ≤ hi) ∧ q = nn - 1 - n ∧ q < b ∧ n < m ∧ m ≤ q by omega)
      clear v1 v2 hij hm hz hlt hq hqb hnlt
      by_cases hc : z < 0
      · have HLT := Lib.hid hc
        have tc : decide (z < 0) = true := decide_eq_true hc
        clear hc
        go_wp2_with fail
        refine Og.walk_lit [[],[],[],[],[2,3],[1,4,2,3],[5,1,4,2,3],[],[],[7,8],[9,7,8],[0,6,10,5,1,4,2,3,9,7,8],[11,0,6,10,5,1,4,2,3,9,7,8],[12,11,0,6,10,5,1,4,2,3,9,7,8]] (fun w2 => Below wr.heap.size wr w2) (fun w1 w2 => Below w1.heap.size w1 w2) (by kernel_rfl) (by kernel_rfl) (bdrew) ?_
        repeat (first | (refine Og.step_pure (fun _ => Below.refl _ _) ?_; apply Exists.intro; refine And.intro ?_ ?_; focus (intro vs w2 hC hk; have hm := HC w2 hC; revert hk; simp only [Og.KS, Og.K0, Og.Is, List.getD_cons_zero, List.getD_cons_succ, List.getD_nil, List.contains_cons, List.contains_nil, Nat.reduceAdd, Nat.reduceBEq, Bool.or_false, Bool.false_or, Bool.or_true, Bool.true_or, Bool.false_eq_true, false_implies, true_implies, true_and, and_true, forall_const]; intros; go_simp; rfl)) | (refine Og.step_one ?_; apply Exists.intro; refine And.intro ?_ ?_; focus (intro vs w2 hC hk; revert hk; simp only [Og.KS, Og.K0, Og.Is, List.getD_cons_zero, List.getD_cons_succ, List.getD_nil, List.contains_cons, List.contains_nil, Nat.reduceAdd, Nat.reduceBEq, Bool.or_false, Bool.false_or, Bool.or_true, Bool.true_or, Bool.false_eq_true, false_implies, true_implies, true_and, and_true, forall_const]; intros; go_simp; with_reducible refine (HCMP.out w2 hC).mono ?_; rintro e w3 ⟨rfl, hb⟩; exact Og.RetV.mk ⟨bthen hC hb, hb, rfl⟩)))
        intro vs w2 hC hk
        have hm := HC w2 hC
        simp only [Og.KS, Og.K0, Og.Is, List.getD_cons_zero, List.getD_cons_succ, List.getD_nil, List.contains_cons, List.contains_nil, Nat.reduceAdd, Nat.reduceBEq, Bool.or_false, Bool.false_or, Bool.or_true, Bool.true_or, Bool.false_eq_true, false_implies, true_implies, true_and, and_true, forall_const] at hk
        simp only [hk, Act.put, List.setIfInBounds_toArray, List.set_cons_zero, List.set_cons_succ]
        clear hk
        have T2 := Lib.hid (And.intro (hT.out.1.below hC) (gtr hT.out.2 (grown_below'' hC _)))
        have CUT : Hid ((∀ t, lo ≤ t → t < i → ky (kd ds) xs t ≤ ky (kd ds) xs (nn - 1 - t)) ∧ (∀ t, n ≤ t → t < hi → ky (kd ds) xs (nn - 1 - t) < ky (kd ds) xs t)) := Lib.hid ⟨hcut.out.1, fun t h1 h2 => by
          have hj := HJ.out
          have hr := HR.out
          have hb := HB.out.1
          have h3 := U.out.1.le (show a ≤ n by omega) h1 (by omega)
          have h4 := HZ.out
          have h5 := HLT.out
          have h6 := U.out.2.le (show m ≤ nn - 1 - t by omega) (show nn - 1 - t ≤ q by omega) hj.2.2.1
          unfold ky at h3 h6 ⊢
          omega⟩
        clear hm HC HCMP hC hT hcut
        go_wp2_with fail
        go_roundw
        case rel => exact ⟨i, n, by have := HJ.out; omega, rfl, by go_num, CUT, T2⟩
        case measure => have := HJ.out; simp [intOf]; omega
      · have HLT := Lib.hid hc
        have tc : decide (z < 0) = false := decide_eq_false hc
        clear hc
        go_wp2_with fail
        refine Og.walk_lit [[],[],[],[],[2,3],[1,4,2,3],[5,1,4,2,3],[],[],[7,8],[9,7,8],[0,6,10,5,1,4,2,3,9,7,8],[11,0,6,10,5,1,4,2,3,9,7,8],[12,11,0,6,10,5,1,4,2,3,9,7,8]] (fun w2 => Below wr.heap.size wr w2) (fun w1 w2 => Below w1.heap.size w1 w2) (by kernel_rfl) (by kernel_rfl) (bdrew) ?_
        repeat (first | (refine Og.step_pure (fun _ => Below.refl _ _) ?_; apply Exists.intro; refine And.intro ?_ ?_; focus (intro vs w2 hC hk; have hm := HC w2 hC; revert hk; simp only [Og.KS, Og.K0, Og.Is, List.getD_cons_zero, List.getD_cons_succ, List.getD_nil, List.contains_cons, List.contains_nil, Nat.reduceAdd, Nat.reduceBEq, Bool.or_false, Bool.false_or, Bool.or_true, Bool.true_or, Bool.false_eq_true, false_implies, true_implies, true_and, and_true, forall_const]; intros; go_simp; rfl)) | (refine Og.step_one ?_; apply Exists.intro; refine And.intro ?_ ?_; focus (intro vs w2 hC hk; revert hk; simp only [Og.KS, Og.K0, Og.Is, List.getD_cons_zero, List.getD_cons_succ, List.getD_nil, List.contains_cons, List.contains_nil, Nat.reduceAdd, Nat.reduceBEq, Bool.or_false, Bool.false_or, Bool.or_true, Bool.true_or, Bool.false_eq_true, false_implies, true_implies, true_and, and_true, forall_const]; intros; go_simp; with_reducible refine (HCMP.out w2 hC).mono ?_; rintro e w3 ⟨rfl, hb⟩; exact Og.RetV.mk ⟨bthen hC hb, hb, rfl⟩)))
        intro vs w2 hC hk
        have hm := HC w2 hC
        simp only [Og.KS, Og.K0, Og.Is, List.getD_cons_zero, List.getD_cons_succ, List.getD_nil, List.contains_cons, List.contains_nil, Nat.reduceAdd, Nat.reduceBEq, Bool.or_false, Bool.false_or, Bool.or_true, Bool.true_or, Bool.false_eq_true, false_implies, true_implies, true_and, and_true, forall_const] at hk
        simp only [hk, Act.put, List.setIfInBounds_toArray, List.set_cons_zero, List.set_cons_succ]
        clear hk
        have T2 := Lib.hid (And.intro (hT.out.1.below hC) (gtr hT.out.2 (grown_below'' hC _)))
        have CUT : Hid ((∀ t, lo ≤ t → t < n + 1 → ky (kd ds) xs t ≤ ky (kd ds) xs (nn - 1 - t)) ∧ (∀ t, j ≤ t → t < hi → ky (kd ds) xs (nn - 1 - t) < ky (kd ds) xs t)) := Lib.hid ⟨fun t h1 h2 => by
          have hj := HJ.out
          have hr := HR.out
          have hb := HB.out.1
          have h3 := U.out.1.le (show a ≤ t by omega) (show t ≤ n by omega) (by omega)
          have h4 := HZ.out
          have h5 := HLT.out
          have h6 := U.out.2.le hj.2.2.2.2 (show q ≤ nn - 1 - t by omega) (by omega)
          unfold ky at h3 h6 ⊢
          omega, hcut.out.2⟩
        clear hm HC HCMP hC hT hcut
        go_wp2_with fail
        go_roundw
        case rel => exact ⟨n + 1, j, by have := HJ.out; omega, by go_num, rfl, CUT, T2⟩
        case measure => have := HJ.out; simp [intOf]; omega
    · obtain rfl : j = i := by omega
      have HIJ := Lib.hid hij
      obtain ⟨en, he⟩ : ∃ en, en = mid + m - j := ⟨_, rfl⟩
      have we : IntKind.i64.wrap ((nn : Int) - (j : Int)) = (en : Int) := by have := HB.out; have := HR.out; rw [IntKind.wrap_i64]; omega
      have CUT := Lib.hid (show Cut2 (kd ds) xs lo hi (mid + m) j from ⟨hij.1, hij.2.2, by rw [← HB.out.2.2.1]; exact hcut.out.1, by rw [← HB.out.2.2.1]; exact hcut.out.2⟩)
      have S' := Lib.hid (And.intro hT.out.1 S.out.2)
      have HB' : Hid ((a ≤ j ∧ j ≤ mid ∧ mid ≤ en ∧ en ≤ b ∧ b ≤ l ∧ mid - a < N ∧ b - mid < N) ∧ j ≤ m ∧ m ≤ en ∧ l ≤ 1000) := Lib.hid (by have := HB.out; have := HR.out; omega)
      have CR := Lib.hid (fun ys (r : Rot xs ys j m en) => sym_cross HB.out.2.1 HB.out.1.1 HB.out.1.2.1 U.out.1 U.out.2 HB.out.2.2.2.2.1 HB.out.2.2.2.2.2.1 CUT.out (by rw [← he]; exact r))
      rw [← he] at CR
      have HU' : Hid (∀ ys, Rot xs ys j m en → Up (kd ds) ys a j ∧ Up (kd ds) ys j mid ∧ Up (kd ds) ys mid en ∧ Up (kd ds) ys en b) := Lib.hid (fun ys r => by
        obtain ⟨-, h1, h2, h3, h4, -⟩ := CR.out ys r
        exact ⟨h1, h2, h3, h4⟩)
      have HP' : Hid (∀ xs' ys zs w', SW B gd od cd ds g tl w' zs → Rot xs xs' j m en → RP a b xs xs' → RP a mid xs' ys → Up (kd ds) ys a mid → RP mid b ys zs → Up (kd ds) zs mid b → wr.grownBy w' (some g) → Ψ w') := Lib.hid (fun xs' ys zs w' s1 ro r0 r1 u1 r2 u2 g1 => by
        obtain ⟨-, -, -, -, -, hx⟩ := CR.out xs' ro
        have hb := HR.out
        exact HΨ.out zs w' s1 ((r0.trans (r1.mono (Nat.le_refl _) (by omega))).trans (r2.mono (by omega) (Nat.le_refl _))) (sym_join (us := xs') hx r1 r2 u1 u2) (gtr hT.out.2 g1))
      clear hij hlt he hT hcut CR CUT
      go_wp2_with fail
      exact T1.out Ψ B gd od cd ds g tl l c a m b j mid en N xs _ _ _ _ _ _ _ _ _ _ _ _ _ _ _ _ _ _ _ _ _ _ _ _ _ _ _ _ _ _ _ _ _ _ _ _ _ _ _ _ _ _ _ _ _ _ _ _ _ _ _ _ _ _ _ _ _ _ _ _ _ _ _ _ _ _ _ _ _ _ _ _ _ _ _ _ _ _ _ _ _ _ _ _ _ _ _ _ _ _ _ _ _ _ _ _ _ _ _ _ _ _ _ _ _ _ _ _ _ _ _ _ _ _ _ _ _ _ _ _ _ _ _ _ _ _ _ _ _ _ _ _ _ _ _ _ _ _ _ _ _ _ _ _ _ _ _ _ _ _ _ _ _ _ _ _ _ _ _ _ _ _ _ _ _ _ _ _ _ _ _ _ _ _ _ _ _ _ _ _ _ _ _ _ _ _ _ _ _ _ _ _ _ _ _ _ _ _ _ _ _ _ _ _ _ _ _ _ _ _ _ _ _ S' HB' IH HU' HP'

end Go.Proofs.YtjbglifmppilfaaDoor
namespace Go.Proofs.YtjbglifmppilfaaDoor
open Go.ChangeShapes Go.WideShapes Go.ChangeAt Go.RowKit
set_option linter.unusedVariables false
set_option linter.unusedSimpArgs false
attribute [local go_sem] Og.Opt Og.OpY

theorem body66_eq : Tryd.f66.body = some ((sub1 body66).seq ((sub1 (sub2 body66)).seq ((sub1 (sub2 (sub2 body66))).seq ((sub1 (sub2 (sub2 (sub2 body66)))).seq ((sub1 (sub2 (sub2 (sub2 (sub2 body66))))).seq ((sub1 (sub2 (sub2 (sub2 (sub2 (sub2 body66)))))).seq ((sub1 (sub2 (sub2 (sub2 (sub2 (sub2 (sub2 body66))))))).seq (tail66)))))))) := by kernel_rfl
set_option maxRecDepth 100000 in
set_option maxHeartbeats 8000000 in
theorem sym_ok (B gd od cd : Nat) (ds : List Int) (g : Nat) (tl : List Value) (l c : Nat) (hl : l ≤ 1000) : ∀ N, IHm B gd od cd ds g tl l c N
  | 0 => fun a m b xs w h => by omega
  | N + 1 => by
    intro a m b xs w hN S ham hmb hb hlen hu hv
    by_cases c1 : m = a + 1
    · have := sym1_ok B gd od cd ds g tl c a m b xs w S c1 hmb (by omega) (by omega) hv
      rw [hlen] at this
      exact this
    · by_cases c2 : b = m + 1
      · have := sym2_ok B gd od cd ds g tl c a m b xs w S (by omega) c2 (by omega) (by omega) hu
        rw [hlen] at this
        exact this
      · have IH := Lib.hid (sym_ok B gd od cd ds g tl l c hl N)
        have T := Lib.hid (@symT)
        have S' := Lib.hid (And.intro S hlen)
        have U' := Lib.hid (And.intro hu hv)
        obtain ⟨mid, hmid⟩ : ∃ mid, mid = (a + b) / 2 := ⟨_, rfl⟩
        obtain ⟨nn, hnn⟩ : ∃ nn, nn = mid + m := ⟨_, rfl⟩
        obtain ⟨pp, hpp⟩ : ∃ pp, pp = nn - 1 := ⟨_, rfl⟩
        obtain ⟨e1, he1⟩ : ∃ e, e = m - a := ⟨_, rfl⟩
        obtain ⟨e2, he2⟩ : ∃ e, e = b - m := ⟨_, rfl⟩
        have w1 : IntKind.i64.wrap ((m : Int) - (a : Int)) = (e1 : Int) := by rw [IntKind.wrap_i64]; omega
        have w2 : IntKind.i64.wrap ((b : Int) - (m : Int)) = (e2 : Int) := by rw [IntKind.wrap_i64]; omega
        have g1 : ¬ (e1 : Int) = 1 := by omega
        have g2 : ¬ (e2 : Int) = 1 := by omega
        have g3 : ((e1 : Int) == 1) = false := by simp; omega
        have g4 : ((e2 : Int) == 1) = false := by simp; omega
        have hwa : IntKind.i64.wrap (a : Int) = a := wrapk (by omega)
        have hwb : IntKind.i64.wrap (b : Int) = b := wrapk (by omega)
        have ha0 : (0 : Int) ≤ (a : Int) := by omega
        have hb0 : (b : Int) ≤ 1125899906842624 := by omega
        have habi : (a : Int) < (b : Int) := by omega
        have hmi : ((a : Int) + (b : Int)) / 2 = (mid : Int) := by omega
        have hwm : IntKind.i64.wrap (mid : Int) = mid := wrapk (by omega)
        have wn : IntKind.i64.wrap ((mid : Int) + (m : Int)) = (nn : Int) := by rw [IntKind.wrap_i64]; omega
        have wp : IntKind.i64.wrap ((nn : Int) - 1) = (pp : Int) := by rw [IntKind.wrap_i64]; omega
        have HP := Lib.hid (show ∀ ys w', SW B gd od cd ds g tl w' ys → RP a b xs ys → Up (kd ds) ys a b → w.grownBy w' (some g) → (∃ ys, SW B gd od cd ds g tl w' ys ∧ RP a b xs ys ∧ Up (kd ds) ys a b ∧ w.grownBy w' (some g)) from fun ys w' h1 h2 h3 h4 => ⟨ys, h1, h2, h3, h4⟩)
        by_cases hc : mid < m
        · have gc : (mid : Int) < (m : Int) := by omega
          obtain ⟨lo, hlo⟩ : ∃ lo, lo = nn - b := ⟨_, rfl⟩
          have wl : IntKind.i64.wrap ((nn : Int) - (b : Int)) = (lo : Int) := by rw [IntKind.wrap_i64]; omega
          have HB := Lib.hid (show (a < m ∧ m < b ∧ b ≤ l ∧ l ≤ 1000) ∧ mid = (a + b) / 2 ∧ nn = mid + m ∧ pp = nn - 1 ∧ lo = (if mid < m then mid + m - b else a) ∧ mid = (if mid < m then mid else m) ∧ mid - a < N ∧ b - mid < N by
            refine ⟨by omega, hmid, hnn, hpp, by rw [if_pos hc]; omega, by rw [if_pos hc], by omega, by omega⟩)
          clear S hN ham hmb hb hlen hu hv c1 c2 hmid hnn hpp he1 he2 hc hlo
          refine calls_of_wp Tryd.func66 body66_eq ?_
          simp only [Tryd.ntmps66, List.size_toArray, List.length_cons, List.length_nil, Nat.reduceAdd, Nat.reduceSub, Array.replicate_succ, Array.replicate_zero, List.push_toArray, List.append_toArray, List.nil_append, List.cons_append]
          simp only [body66, Tryd.f66, sub1, sub2]
          go_wp2_with fail
          exact T.out _ B gd od cd ds g tl l c a m b mid nn lo mid pp N xs w _ _ _ _ _ _ _ _ _ _ _ _ _ _ _ _ _ _ _ _ _ _ _ _ _ _ _ _ _ _ _ _ _ _ _ _ _ _ _ _ _ _ _ _ _ _ _ _ _ _ _ _ _ _ _ _ _ _ _ _ _ _ _ _ _ _ _ _ _ _ _ _ _ _ _ _ _ _ _ _ _ _ _ _ _ _ _ _ _ _ _ _ _ _ _ _ _ _ _ _ _ _ _ _ _ _ _ _ _ _ _ _ _ _ _ _ _ _ _ _ _ _ _ _ _ _ _ _ _ _ _ _ _ _ _ _ _ _ _ _ _ _ _ _ _ _ _ _ _ _ _ _ _ _ _ _ _ _ _ _ _ _ _ _ _ _ _ _ _ _ _ _ _ _ _ _ _ _ _ _ _ _ _ _ _ _ _ _ _ _ _ _ _ _ _ _ _ _ _ _ _ _ _ _ _ _ _ _ _ _ S' HB U' IH HP
        · have gc : ¬ (mid : Int) < (m : Int) := by omega
          have HB := Lib.hid (show (a < m ∧ m < b ∧ b ≤ l ∧ l ≤ 1000) ∧ mid = (a + b) / 2 ∧ nn = mid + m ∧ pp = nn - 1 ∧ a = (if mid < m then mid + m - b else a) ∧ m = (if mid < m then mid else m) ∧ mid - a < N ∧ b - mid < N by
            refine ⟨by omega, hmid, hnn, hpp, by rw [if_neg hc], by rw [if_neg hc], by omega, by omega⟩)
          clear S hN ham hmb hb hlen hu hv c1 c2 hmid hnn hpp he1 he2 hc
          refine calls_of_wp Tryd.func66 body66_eq ?_
          simp only [Tryd.ntmps66, List.size_toArray, List.length_cons, List.length_nil, Nat.reduceAdd, Nat.reduceSub, Array.replicate_succ, Array.replicate_zero, List.push_toArray, List.append_toArray, List.nil_append, List.cons_append]
          simp only [body66, Tryd.f66, sub1, sub2]
          go_wp2_with fail
          exact T.out _ B gd od cd ds g tl l c a m b mid nn a m pp N xs w _ _ _ _ _ _ _ _ _ _ _ _ _ _ _ _ _ _ _ _ _ _ _ _ _ _ _ _ _ _ _ _ _ _ _ _ _ _ _ _ _ _ _ _ _ _ _ _ _ _ _ _ _ _ _ _ _ _ _ _ _ _ _ _ _ _ _ _ _ _ _ _ _ _ _ _ _ _ _ _ _ _ _ _ _ _ _ _ _ _ _ _ _ _ _ _ _ _ _ _ _ _ _ _ _ _ _ _ _ _ _ _ _ _ _ _ _ _ _ _ _ _ _ _ _ _ _ _ _ _ _ _ _ _ _ _ _ _ _ _ _ _ _ _ _ _ _ _ _ _ _ _ _ _ _ _ _ _ _ _ _ _ _ _ _ _ _ _ _ _ _ _ _ _ _ _ _ _ _ _ _ _ _ _ _ _ _ _ _ _ _ _ _ _ _ _ _ _ _ _ _ _ _ _ _ _ _ _ _ _ S' HB U' IH HP

end Go.Proofs.YtjbglifmppilfaaDoor
namespace Go.Proofs.YtjbglifmppilfaaDoor
open Go.ChangeShapes Go.WideShapes Go.ChangeAt Go.RowKit
set_option linter.unusedVariables false
set_option linter.unusedSimpArgs false
attribute [local go_sem] Og.Opt Og.OpY

section
variable {k : Nat → Int} {xs ys : List Nat} {a b s n : Nat}
theorem Blk.zero : Blk k xs s 0 0 := fun i j h1 h2 h3 h4 => by omega
theorem Blk.up {q : Nat} {lo : Nat} (h : Blk k xs s lo n) (hs : 0 < s) (ha : a = q * s) (hlo : lo ≤ a) (hb : b ≤ a + s) (hbn : b ≤ n) : Up k xs a b := by
  intro i j h1 h2 h3
  have e : ∀ t, a ≤ t → t < b → t / s = q := fun t ht ht' => Nat.div_eq_of_lt_le (by omega) (by rw [Nat.succ_mul]; omega)
  exact h i j (by omega) h2 (by omega) (by rw [e i h1 (by omega), e j (by omega) h3])
theorem Blk.ext {q : Nat} (h : Blk k xs s 0 a) (hs : 0 < s) (ha : a = q * s) (hb : b ≤ a + s) (r : RP a b xs ys) (u : Up k ys a b) : Blk k ys s 0 b := by
  intro i j h1 h2 h3 h4
  by_cases hj : j < a
  · unfold ky
    rw [r.out i (by omega), r.out j (by omega)]
    exact h i j h1 h2 hj h4
  · have h5 : q ≤ j / s := (Nat.le_div_iff_mul_le hs).2 (by omega)
    rw [← h4, Nat.le_div_iff_mul_le hs] at h5
    exact u i j (by omega) h2 h3
theorem Blk.rest (h : Blk k xs s a n) (hb : a ≤ b) (r : RP a b xs ys) : Blk k ys s b n := fun i j h1 h2 h3 h4 => by
  unfold ky
  rw [r.out i (by omega), r.out j (by omega)]
  exact h i j (by omega) h2 h3 h4
theorem Blk.sub {lo lo' n' : Nat} (h : Blk k xs s lo n) (hl : lo ≤ lo') (hn : n' ≤ n) : Blk k xs s lo' n' := fun i j h1 h2 h3 h4 => h i j (by omega) h2 (by omega) h4
theorem Blk.all (h : Blk k xs s 0 n) (hn : n ≤ s) : Up k xs 0 n := fun i j h1 h2 h3 => h i j h1 h2 h3 (by rw [Nat.div_eq_of_lt (by omega), Nat.div_eq_of_lt (by omega)])
end
set_option maxRecDepth 100000 in
set_option maxHeartbeats 8000000 in
theorem stable_ok (B gd od cd : Nat) (ds : List Int) (g : Nat) (tl : List Value) (l c : Nat) (xs : List Nat) (w : World) (h : SW B gd od cd ds g tl w xs) (hn : xs.length = l) (hl : l ≤ 500) :
    Calls Tryd.prog 54 #[.slice (some ⟨g, 0, none⟩) l c, .int .i64 l, .func (.func 33) #[] #[.pointer (some ⟨B, 0, none⟩)]] w fun e w' => e = .returned (.tuple #[]) ∧ ∃ ys, SW B gd od cd ds g tl w' ys ∧ RP 0 l xs ys ∧ Up (kd ds) ys 0 l ∧ w.grownBy w' (some g) := by
  have HN := Lib.hid hn
  have H := Lib.hid h
  have HL := Lib.hid hl
  have INS := Lib.hid (fun (a b : Nat) (cur : List Nat) (wr : World) (hs : SW B gd od cd ds g tl wr cur) (h1 : a ≤ b) (h2 : b ≤ l) (h3 : cur.length = l) => (show Calls Tryd.prog 65 #[.slice (some ⟨g, 0, none⟩) l c, .int .i64 a, .int .i64 b, .func (.func 33) #[] #[.pointer (some ⟨B, 0, none⟩)]] wr (fun e w' => e = .returned (.tuple #[]) ∧ ∃ ys, SW B gd od cd ds g tl w' ys ∧ RP a b cur ys ∧ Up (kd ds) ys a b ∧ wr.grownBy w' (some g)) from h3 ▸ ins_ok B gd od cd ds g tl c a b cur wr hs h1 (by omega) (by omega)))
  have SYM := Lib.hid (fun (a m b : Nat) (cur : List Nat) (wr : World) (hs : SW B gd od cd ds g tl wr cur) (h1 : a < m) (h2 : m < b) (h3 : b ≤ l) (h4 : cur.length = l) (u1 : Up (kd ds) cur a m) (u2 : Up (kd ds) cur m b) => sym_ok B gd od cd ds g tl l c (by omega) (b - a + 1) a m b cur wr (by omega) hs h1 h2 h3 h4 u1 u2)
  clear h hn hl
  go_enter Tryd.func54, Tryd.ntmps54
  go_wp2_with fail
  go_loopw [7, 8] (fun u v wr => ∃ (a q : Nat) (cur : List Nat), a ≤ l ∧ u = .int .i64 a ∧ v = .int .i64 ((a + 20 : Nat) : Int) ∧ Hid (a = q * 20 ∧ SW B gd od cd ds g tl wr cur ∧ RP 0 l xs cur ∧ Blk (kd ds) cur 20 0 a ∧ w.grownBy wr (some g))) (fun u _ _ => l - (intOf u).toNat)
  case atStart => exact ⟨0, 0, xs, Nat.zero_le _, rfl, rfl, Lib.hid ⟨rfl, H.out, RP.refl _ _ _, Blk.zero, grown_refl _ _⟩⟩
  case round =>
    obtain ⟨a, q, cur, hal, rfl, rfl, hT⟩ := hrel
    have hlen : cur.length = l := by rw [hT.out.2.2.1.len, HN.out]
    by_cases hlt : a + 20 ≤ l
    · have gb : (a : Int) + 20 ≤ (l : Int) := by omega
      have wb : IntKind.i64.wrap ((a : Int) + 20 + 20) = (a : Int) + 20 + 20 := by have := HL.out; rw [IntKind.wrap_i64]; omega
      have CALL := Lib.hid (INS.out a (a + 20) cur wr hT.out.2.1 (by omega) hlt hlen)
      have HLT := Lib.hid hlt
      simp only [Int.natCast_add, Int.cast_ofNat_Int] at CALL
      clear hlen hlt
      go_wp2_with fail
      with_reducible refine CALL.out.mono ?_
      rintro e w3 ⟨rfl, ys, S3, R3, U3, G3⟩
      have FIN := Lib.hid (show a + 20 = (q + 1) * 20 ∧ SW B gd od cd ds g tl w3 ys ∧ RP 0 l xs ys ∧ Blk (kd ds) ys 20 0 (a + 20) ∧ w.grownBy w3 (some g) from ⟨by have := hT.out.1; omega, S3, hT.out.2.2.1.trans (R3.mono (Nat.zero_le _) HLT.out), hT.out.2.2.2.1.ext (by decide) hT.out.1 (Nat.le_refl _) R3 U3, gtr hT.out.2.2.2.2 G3⟩)
      clear S3 R3 U3 G3 CALL hT
      go_wp2_with fail
      go_roundw
      case rel => exact ⟨a + 20, q + 1, _, HLT.out, by go_num, by go_num, FIN⟩
      case measure => have := HLT.out; simp [intOf]; omega
    · have gb : ¬ (a : Int) + 20 ≤ (l : Int) := by omega
      have CALL := Lib.hid (INS.out a l cur wr hT.out.2.1 hal (Nat.le_refl _) hlen)
      have HLT := Lib.hid (And.intro hal (show l ≤ a + 20 by omega))
      clear hlen hlt hal
      go_wp2_with fail
      with_reducible refine CALL.out.mono ?_
      rintro e w3 ⟨rfl, ys, S3, R3, U3, G3⟩
      have FIN := Lib.hid (show SW B gd od cd ds g tl w3 ys ∧ RP 0 l xs ys ∧ Blk (kd ds) ys 20 0 l ∧ w.grownBy w3 (some g) from ⟨S3, hT.out.2.2.1.trans (R3.mono (Nat.zero_le _) (Nat.le_refl _)), hT.out.2.2.2.1.ext (by decide) hT.out.1 HLT.out.2 R3 U3, gtr hT.out.2.2.2.2 G3⟩)
      clear S3 R3 U3 G3 CALL hT INS HLT gb
      go_wp2_with fail
      go_loopw [6] (fun u wr => ∃ (s : Nat) (cur : List Nat), (0 < s ∧ s ≤ 1000) ∧ u = .int .i64 s ∧ Hid (SW B gd od cd ds g tl wr cur ∧ RP 0 l xs cur ∧ Blk (kd ds) cur s 0 l ∧ w.grownBy wr (some g))) (fun u _ => l - (intOf u).toNat)
      case atStart => exact ⟨20, _, by omega, rfl, FIN⟩
      case round =>
        clear FIN
        obtain ⟨s, cur, hs, rfl, hT⟩ := hrel
        by_cases hlt : s < l
        · have gb : (s : Int) < (l : Int) := by omega
          obtain ⟨s2, hs2⟩ : ∃ s2, s2 = 2 * s := ⟨_, rfl⟩
          have w1 : IntKind.i64.wrap (2 * (s : Int)) = (s2 : Int) := by rw [IntKind.wrap_i64]; omega
          have w2 : IntKind.i64.wrap ((s : Int) * 2) = (s2 : Int) := by rw [IntKind.wrap_i64]; omega
          have HS := Lib.hid (show s2 = 2 * s ∧ 0 < s ∧ s < l ∧ s2 ≤ 1000 by have := HL.out; omega)
          clear hs hs2 hlt
          go_wp2_with fail
          go_loopw [7, 8] (fun u v wr => ∃ (a b q : Nat) (cur : List Nat), a ≤ l ∧ u = .int .i64 a ∧ v = .int .i64 b ∧ Hid (b = a + s2 ∧ a = q * s2 ∧ SW B gd od cd ds g tl wr cur ∧ RP 0 l xs cur ∧ Blk (kd ds) cur s2 0 a ∧ Blk (kd ds) cur s a l ∧ w.grownBy wr (some g))) (fun u _ _ => l - (intOf u).toNat)
          case atStart => exact ⟨0, s2, 0, cur, Nat.zero_le _, rfl, rfl, Lib.hid ⟨by omega, by omega, hT.out.1, hT.out.2.1, Blk.zero, hT.out.2.2.1, hT.out.2.2.2⟩⟩
          case round =>
            clear hT
            obtain ⟨a, b, q, cur, hal, rfl, rfl, hT⟩ := hrel
            have hlen : cur.length = l := by rw [hT.out.2.2.2.1.len, HN.out]
            obtain ⟨m, hm⟩ : ∃ m, m = a + s := ⟨_, rfl⟩
            have wm : IntKind.i64.wrap ((a : Int) + (s : Int)) = (m : Int) := by have := HL.out; have := HS.out; rw [IntKind.wrap_i64]; omega
            have hmul : a = (2 * q) * s ∧ m = (2 * q + 1) * s := by
              have h1 := hT.out.2.1
              have h2 := HS.out.1
              rw [h2] at h1
              have h3 : q * (2 * s) = 2 * q * s := by rw [← Nat.mul_assoc, Nat.mul_comm q 2]
              exact ⟨by rw [h1, h3], by rw [hm, h1, h3]; exact (Nat.succ_mul _ _).symm⟩
            by_cases hlt : b ≤ l
            · have gb : (b : Int) ≤ (l : Int) := by omega
              obtain ⟨b2, hb2⟩ : ∃ b2, b2 = b + s2 := ⟨_, rfl⟩
              have wb : IntKind.i64.wrap ((b : Int) + (s2 : Int)) = (b2 : Int) := by have := HL.out; have := HS.out; rw [IntKind.wrap_i64]; omega
              have hab : a < m ∧ m < b ∧ b = a + s2 ∧ b = m + s := by have := HS.out; have := hT.out.1; omega
              have CALL := Lib.hid (SYM.out a m b cur wr hT.out.2.2.1 hab.1 hab.2.1 hlt hlen (hT.out.2.2.2.2.2.1.up HS.out.2.1 hmul.1 (Nat.le_refl _) (by omega) (by omega)) (hT.out.2.2.2.2.2.1.up HS.out.2.1 hmul.2 (by omega) (by omega) hlt))
              have HJ := Lib.hid (show a < b ∧ b ≤ l ∧ b = a + s2 ∧ b2 = b + s2 by omega)
              clear hlen hm hmul hlt hab hb2 hal
              go_wp2_with fail
              with_reducible refine CALL.out.mono ?_
              rintro e w3 ⟨rfl, ys, S3, R3, U3, G3⟩
              have FIN := Lib.hid (show b2 = b + s2 ∧ b = (q + 1) * s2 ∧ SW B gd od cd ds g tl w3 ys ∧ RP 0 l xs ys ∧ Blk (kd ds) ys s2 0 b ∧ Blk (kd ds) ys s b l ∧ w.grownBy w3 (some g) from
                ⟨HJ.out.2.2.2, by rw [HJ.out.2.2.1, hT.out.2.1, Nat.succ_mul], S3, hT.out.2.2.2.1.trans (R3.mono (Nat.zero_le _) HJ.out.2.1), hT.out.2.2.2.2.1.ext (by have := HS.out; omega) hT.out.2.1 (by have := HJ.out; omega) R3 U3, hT.out.2.2.2.2.2.1.rest (by have := HJ.out; omega) R3, gtr hT.out.2.2.2.2.2.2 G3⟩)
              clear S3 R3 U3 G3 CALL hT
              go_wp2_with fail
              go_roundw
              case rel => exact ⟨b, b2, q + 1, _, HJ.out.2.1, by go_num, by go_num, FIN⟩
              case measure => have := HJ.out; simp [intOf]; omega
            · have gb : ¬ (b : Int) ≤ (l : Int) := by omega
              by_cases hml : m < l
              · have gm : (m : Int) < (l : Int) := by omega
                have hab : a < m ∧ b = a + s2 ∧ b = m + s := by have := HS.out; have := hT.out.1; omega
                have CALL := Lib.hid (SYM.out a m l cur wr hT.out.2.2.1 hab.1 hml (Nat.le_refl _) hlen (hT.out.2.2.2.2.2.1.up HS.out.2.1 hmul.1 (Nat.le_refl _) (by omega) (by omega)) (hT.out.2.2.2.2.2.1.up HS.out.2.1 hmul.2 (by omega) (by omega) (Nat.le_refl _)))
                have HJ := Lib.hid (show a ≤ l ∧ l ≤ a + s2 by omega)
                clear hlen hm hmul hlt hab hal hml
                go_wp2_with fail
                with_reducible refine CALL.out.mono ?_
                rintro e w3 ⟨rfl, ys, S3, R3, U3, G3⟩
                have FIN := Lib.hid (show SW B gd od cd ds g tl w3 ys ∧ RP 0 l xs ys ∧ Blk (kd ds) ys s2 0 l ∧ w.grownBy w3 (some g) from
                  ⟨S3, hT.out.2.2.2.1.trans (R3.mono (Nat.zero_le _) (Nat.le_refl _)), hT.out.2.2.2.2.1.ext (by have := HS.out; omega) hT.out.2.1 HJ.out.2 R3 U3, gtr hT.out.2.2.2.2.2.2 G3⟩)
                clear S3 R3 U3 G3 CALL hT
                go_wp2_with fail
                go_roundw
                case rel => exact ⟨s2, _, by have := HS.out; omega, by go_num, FIN⟩
                case measure => have := HS.out; simp [intOf]; omega
              · have gm : ¬ (m : Int) < (l : Int) := by omega
                have FIN := Lib.hid (show SW B gd od cd ds g tl wr cur ∧ RP 0 l xs cur ∧ Blk (kd ds) cur s2 0 l ∧ w.grownBy wr (some g) from
                  ⟨hT.out.2.2.1, hT.out.2.2.2.1, hT.out.2.2.2.2.1.ext (by have := HS.out; omega) hT.out.2.1 (by have := hT.out.1; omega) (RP.refl a l cur) (hT.out.2.2.2.2.2.1.up HS.out.2.1 hmul.1 (Nat.le_refl _) (by omega) (Nat.le_refl _)), hT.out.2.2.2.2.2.2⟩)
                clear hlen hm hmul hlt hal hml hT
                go_wp2_with fail
                go_roundw
                case rel => exact ⟨s2, _, by have := HS.out; omega, by go_num, FIN⟩
                case measure => have := HS.out; simp [intOf]; omega
        · have gb : ¬ (s : Int) < (l : Int) := by omega
          have FIN := Lib.hid (show SW B gd od cd ds g tl wr cur ∧ RP 0 l xs cur ∧ Up (kd ds) cur 0 l ∧ w.grownBy wr (some g) from ⟨hT.out.1, hT.out.2.1, hT.out.2.2.1.all (by omega), hT.out.2.2.2⟩)
          clear hT hlt hs
          go_wp2_with fail
          go_end0
          exact ⟨rfl, _, FIN.out⟩
set_option maxRecDepth 100000 in
set_option maxHeartbeats 4000000 in
theorem sortS_ok (B gd od cd : Nat) (ds : List Int) (g : Nat) (tl : List Value) (l c : Nat) (xs : List Nat) (w : World) (h : SW B gd od cd ds g tl w xs) (hn : xs.length = l) (hl : l ≤ 500) :
    Calls Tryd.prog 32 #[.slice (some ⟨g, 0, none⟩) l c, .func (.func 33) #[] #[.pointer (some ⟨B, 0, none⟩)]] w fun e w' => e = .returned (.tuple #[]) ∧ ∃ ys, SW B gd od cd ds g tl w' ys ∧ RP 0 l xs ys ∧ Up (kd ds) ys 0 l ∧ w.grownBy w' (some g) := by
  have CALL := Lib.hid (stable_ok B gd od cd ds g tl l c xs w h hn hl)
  clear h hn hl
  go_enter Tryd.func32, Tryd.ntmps32
  go_wp2_with fail
  with_reducible refine CALL.out.mono ?_
  rintro e w3 ⟨rfl, FIN⟩
  have F := Lib.hid FIN
  clear FIN CALL
  go_wp2_with fail
  go_end0
  exact ⟨rfl, F.out⟩

end Go.Proofs.YtjbglifmppilfaaDoor
namespace Go.Proofs.YtjbglifmppilfaaDoor
open Go.ChangeShapes Go.WideShapes Go.ChangeAt Go.RowKit
set_option linter.unusedVariables false
set_option linter.unusedSimpArgs false
attribute [local go_sem] Og.Opt Og.OpY Oper.semAt_some

/-- the next hops towards v, where those of its parents are known -/
def accF (r v : Nat) (hs : List Nat) (pre : List (Fin 128)) : Nat := pre.foldl (fun acc u => acc ||| (if u.val = r then 2 ^ v else gt hs u.val)) 0
theorem accF_snoc (r v : Nat) (hs : List Nat) (pre : List (Fin 128)) (u : Fin 128) : accF r v hs (pre ++ [u]) = accF r v hs pre ||| (if u.val = r then 2 ^ v else gt hs u.val) := by
  unfold accF
  rw [List.foldl_append]
  rfl
def stepV (r : Nat) (ps : List Nat) (hs : List Nat) (v : Nat) : List Nat := hs.set v (accF r v hs (elM (gt ps v)))
def fillV (r : Nat) (ps : List Nat) (order : List Nat) : List Nat := order.foldl (stepV r ps) (List.replicate 128 0)
def allM (hs : List Nat) : Prop := ∀ h ∈ hs, h < 2 ^ 128
theorem gt_lt {hs : List Nat} (h : allM hs) (t : Nat) : gt hs t < 2 ^ 128 := by
  by_cases ht : t < hs.length
  · exact h _ (List.mem_of_getElem? (gt_some ht))
  · unfold gt
    rw [List.getD_eq_getElem?_getD, List.getElem?_eq_none (by omega)]
    exact Nat.two_pow_pos 128
theorem accF_lt {r v : Nat} {hs : List Nat} (hv : v < 128) (h : allM hs) : ∀ (pre : List (Fin 128)) (a : Nat), a < 2 ^ 128 → pre.foldl (fun acc u => acc ||| (if u.val = r then 2 ^ v else gt hs u.val)) a < 2 ^ 128
  | [], a, ha => ha
  | u :: pre, a, ha => by
    rw [List.foldl_cons]
    refine accF_lt hv h pre _ (Nat.or_lt_two_pow ha ?_)
    split
    · exact Nat.pow_lt_pow_right (by omega) hv
    · exact gt_lt h _
theorem ne_cells {w : World} {g h : Nat} {a b : Array Value} {t u : TypeId} {f f' : Nat × Nat} (k : w.heap[g]? = some (.cells a t f)) (k' : w.heap[h]? = some (.cells b u f')) (ht : t ≠ u) : g ≠ h := fun e => by
  rw [e, k'] at k
  cases k
  exact ht rfl
theorem ne_map {w : World} {g h : Nat} {a : Array Value} {t : TypeId} {f : Nat × Nat} {es : Array MapEntry} {cl : Nat} (k : w.heap[g]? = some (.cells a t f)) (k' : w.heap[h]? = some (.map es cl)) : g ≠ h := fun e => by
  rw [e, k'] at k
  cases k
theorem ne_own {w : World} {g B0 n m : Nat} {a : Array Value} {t ty : TypeId} {f : Nat × Nat} {v : Value} {xs : List Value} (k : w.heap[g]? = some (.cells a t f)) (h : w.ownsRow B0 ty m v n xs) (ht : t ≠ ty) : v.ownBlock ≠ some g := fun e => by
  rcases h.2 with ⟨e0, _⟩ | ⟨g', cap, cur, e0, _, hg, _⟩
  · rw [e0] at e; cases e
  · rw [e0] at e; cases e; rw [hg] at k; cases k; exact ht rfl
/-- what fill's loop keeps: wz: the world ahead of the table; gH: the row of the next hops; gI: the numbers of the sets -/
structure FS (wz : World) (gH b7 b8 gI bt mb : Nat) (wr : World) (vS : Value) (ms ids hs : List Nat) : Prop where
  old : wz.grownBy wr (some gH)
  kH : wr.heap[gH]? = some (.cells (hs.flatMap cM).toArray 35 (0, 0))
  k7 : wr.heap[b7]? = some (.cells #[.pointer (some ⟨bt, 0, none⟩)] 76 (0, 0))
  k8 : wr.heap[b8]? = some (.cells #[.slice (some ⟨gI, 0, none⟩) 128 128] 22 (0, 0))
  kI : wr.heap[gI]? = some (.cells (nC ids).toArray 3 (0, 0))
  tb : TbS wr wz.heap.size bt mb vS ms
  g7 : wz.heap.size ≤ b7
  g8 : wz.heap.size ≤ b8
  gi : wz.heap.size ≤ gI
  gh : gH < wz.heap.size
  il : ids.length = 128
  hl : hs.length = 128
  hb : allM hs
  ln : ∀ u, u < 128 → ms[gt ids u]? = some (gt hs u)
section
variable {wz wr w2 : World} {gH b7 b8 gI bt mb : Nat} {vS : Value} {ms ids hs : List Nat}
theorem FS.below (F : FS wz gH b7 b8 gI bt mb wr vS ms ids hs) (hb : Below wr.heap.size wr w2) : FS wz gH b7 b8 gI bt mb w2 vS ms ids hs :=
  ⟨gtr F.old (grown_below'' hb _), heap_keep hb F.kH, heap_keep hb F.k7, heap_keep hb F.k8, heap_keep hb F.kI, F.tb.below hb, F.g7, F.g8, F.gi, F.gh, F.il, F.hl, F.hb, F.ln⟩
/-- a set takes its number -/
theorem FS.id (F : FS wz gH b7 b8 gI bt mb wr vS ms ids hs) {vS' : Value} {ms' : List Nat} {M v j : Nat} (hf : Ft bt mb vS.ownBlock wr w2) (T : TbS w2 wz.heap.size bt mb vS' ms') (hx : ∀ (i x : Nat), ms[i]? = some x → ms'[i]? = some x) (hj : ms'[j]? = some M) (hv : v < 128) (hM : M < 2 ^ 128) :
    w2.heap[gI]? = some (.cells (nC ids).toArray 3 (0, 0)) ∧ ∀ w3, w3.heap[gI]? = some (.cells (nC (ids.set v j)).toArray 3 (0, 0)) → w2.grownBy w3 (some gI) → ∀ w4, w4.heap[gH]? = some (.cells ((hs.set v M).flatMap cM).toArray 35 (0, 0)) → w3.grownBy w4 (some gH) →
      FS wz gH b7 b8 gI bt mb w4 vS' ms' (ids.set v j) (hs.set v M) := by
  have st : ∀ {k : Nat} {a : Array Value} {t : TypeId}, wr.heap[k]? = some (.cells a t (0, 0)) → t ≠ 104 → t ≠ 35 → w2.heap[k]? = some (.cells a t (0, 0)) := fun {k a t} hk h1 h2 =>
    (hf.block k (Array.getElem?_eq_some_iff.1 hk).1 (ne_cells hk F.tb.blk h1) (ne_map hk F.tb.map) (ne_own hk F.tb.own h2)).trans hk
  have kI2 := st F.kI (by decide) (by decide)
  have k72 := st F.k7 (by decide) (by decide)
  have k82 := st F.k8 (by decide) (by decide)
  refine ⟨kI2, fun w3 h3 g3 w4 h4 g4 => ?_⟩
  have hT := T.own.lt
  have ot : ∀ k, k < wz.heap.size → w2.heap[k]? = wr.heap[k]? := fun k hk => hf.block k (Nat.lt_of_lt_of_le hk F.old.size) (by have := F.tb.b1; omega) (by have := F.tb.b2; omega) (fun e => by have := (F.tb.own.lt k e).1; omega)
  have nI7 := ne_cells k72 kI2 (by decide)
  have nI8 := ne_cells k82 kI2 (by decide)
  have nIb := ne_cells kI2 T.blk (by decide)
  have nIm := ne_map kI2 T.map
  have nIo := ne_own kI2 T.own (by decide)
  have gi := F.gi
  have gh := F.gh
  have g7 := F.g7
  have g8 := F.g8
  have T3 := T.kept g3 nIb nIm nIo
  have T4 := T3.kept g4 (by have := T.b1; omega) (by have := T.b2; omega) (fun e => by have := (T.own.lt _ e).1; omega)
  have c3 : ∀ {k : Nat} {ob : Obj}, w2.heap[k]? = some ob → k ≠ gI → k ≠ gH → w4.heap[k]? = some ob := fun {k ob} hk h1 h2 => by
    have h3' := (g3.block k (Array.getElem?_eq_some_iff.1 hk).1 (by simpa using h1)).trans hk
    exact (g4.block k (Array.getElem?_eq_some_iff.1 h3').1 (by simpa using h2)).trans h3'
  refine ⟨⟨?_, ?_, ?_, ?_, fun k hk hne => ?_⟩, h4, c3 k72 nI7 (by omega), c3 k82 nI8 (by omega), ?_, T4, F.g7, F.g8, F.gi, F.gh, by simpa using F.il, by simpa using F.hl, fun h hh => ?_, fun u hu => ?_⟩
  · exact g4.os.trans (g3.os.trans (hf.os.trans F.old.os))
  · exact g4.tape.trans (g3.tape.trans (hf.tape.trans F.old.tape))
  · exact g4.output.trans (g3.output.trans (hf.output.trans F.old.output))
  · exact Nat.le_trans F.old.size (Nat.le_trans hf.size (Nat.le_trans g3.size g4.size))
  · have h1 := F.old.size
    have h2 := hf.size
    have h3' := g3.size
    rw [g4.block k (by omega) hne, g3.block k (by omega) (by simp; omega), ot k hk]
    exact F.old.block k hk hne
  · exact (g4.block gI (Array.getElem?_eq_some_iff.1 h3).1 (by simp; omega)).trans h3
  · rcases List.mem_or_eq_of_mem_set hh with h | h
    · exact F.hb _ h
    · rw [h]; exact hM
  · rw [gt_set (by rw [F.il]; exact hv), gt_set (by rw [F.hl]; exact hv)]
    by_cases e : u = v
    · rw [if_pos e, if_pos e]; exact hj
    · rw [if_neg e, if_neg e]; exact hx _ _ (F.ln u hu)
end

end Go.Proofs.YtjbglifmppilfaaDoor
namespace Go.Proofs.YtjbglifmppilfaaDoor
open Go.ChangeShapes Go.WideShapes Go.ChangeAt Go.RowKit
set_option linter.unusedVariables false
set_option linter.unusedSimpArgs false
attribute [local go_sem] Og.Opt Og.OpY Oper.semAt_some

def sub3 : Code → Code | .rangeFunc _ _ _ b => b | c => c
theorem storeM_run {w : World} {g : Nat} {old : Array Value} (M : Nat) (hg : w.heap[g]? = some (.cells old 35 (0, 0))) (hs : old.size = 2) : (storeVar 35 ⟨g, 0, none⟩ (mV M)).run Tryd.prog w = .ok () (w.setRow g (cM M).toArray) :=
  run_storeVar_row w g 35 35 old #[.int .u64 (loM M), .int .u64 (hiM M)] hg cinfo25s hs (by simp [Value.oneCell'])
/-- the class of a region in which a new set is made (9) and written (10) -/
def CS (W : World) (X : Nat) : Og.Joint2.Cls := fun p vs w => Below W.heap.size W w ∧ (p 10 = true → p 9 = true) ∧ (p 9 = true → ∃ g, vs 9 = .pointer (some ⟨g, 0, none⟩) ∧ W.heap.size ≤ g ∧ ∃ old : Array Value, w.heap[g]? = some (.cells old 35 (0, 0)) ∧ old.size = 2 ∧ (p 10 = true → old = (cM X).toArray))
section
variable {W w w2 : World} {X i : Nat} {p : Nat → Bool} {vs : Nat → Value} {v : Value}
theorem CS.ini (h : Below W.heap.size W w) : CS W X (fun _ => false) vs w := ⟨h, fun e => (by cases e), fun e => (by cases e)⟩
theorem CS.call (h9 : i ≠ 9) (h10 : i ≠ 10) (c : CS W X p vs w) (hb : Below w.heap.size w w2) : CS W X (Og.Joint2.pSet p i) (Og.Joint2.vSet vs i v) w2 := by
  have e9 : Og.Joint2.pSet p i 9 = p 9 := by simp [Og.Joint2.pSet, Ne.symm h9]
  have e10 : Og.Joint2.pSet p i 10 = p 10 := by simp [Og.Joint2.pSet, Ne.symm h10]
  have f9 : Og.Joint2.vSet vs i v 9 = vs 9 := by simp [Og.Joint2.vSet, Ne.symm h9]
  unfold CS
  rw [e9, e10, f9]
  refine ⟨bthen c.1 hb, c.2.1, fun h => ?_⟩
  obtain ⟨g, h1, h2, old, h3, h4⟩ := c.2.2 h
  exact ⟨g, h1, h2, old, heap_keep hb h3, h4⟩
theorem CS.other (h9 : i ≠ 9) (h10 : i ≠ 10) (c : CS W X p vs w) : CS W X (Og.Joint2.pSet p i) (Og.Joint2.vSet vs i v) w := c.call h9 h10 (Below.refl _ _)
theorem CS.new (hp : p 9 = false) (c : CS W X p vs w) : CS W X (Og.Joint2.pSet p 9) (Og.Joint2.vSet vs 9 (.pointer (some ⟨w.heap.size, 0, none⟩))) (w.alloc (.cells #[.int .u64 0, .int .u64 0] 35)) := by
  have h10 : p 10 = false := by
    cases h : p 10 with
    | false => rfl
    | true => have := c.2.1 h; rw [hp] at this; cases this
  have e10 : Og.Joint2.pSet p 9 10 = false := by simp [Og.Joint2.pSet, h10]
  refine ⟨bthen c.1 ((Below.refl _ _).alloc (Nat.le_refl _) _), fun h => (by rw [e10] at h; cases h), fun _ => ⟨w.heap.size, by simp [Og.Joint2.vSet], c.1.size, _, heap_at rfl, rfl, fun h => (by rw [e10] at h; cases h)⟩⟩
theorem CS.store {g : Nat} {old : Array Value} (h9 : p 9 = true) (e : vs 9 = .pointer (some ⟨g, 0, none⟩)) (hg : W.heap.size ≤ g) (k : w.heap[g]? = some (.cells old 35 (0, 0))) (c : CS W X p vs w) : CS W X (Og.Joint2.pSet p 10) (Og.Joint2.vSet vs 10 v) (w.setRow g (cM X).toArray) := by
  have e9 : Og.Joint2.pSet p 10 9 = p 9 := by simp [Og.Joint2.pSet]
  have f9 : Og.Joint2.vSet vs 10 v 9 = vs 9 := by simp [Og.Joint2.vSet]
  refine ⟨c.1.trans ⟨rfl, rfl, rfl, by simp [World.setRow], fun j hj => setRow_other w g j _ (by omega)⟩, fun _ => (by rw [e9]; exact h9), fun _ => ⟨g, by rw [f9]; exact e, hg, _, setRow_heap w g old _ 35 (0, 0) k, rfl, fun _ => rfl⟩⟩
end
noncomputable def rbody17 : Code := sub3 (sub1 (sub2 (sub1 (sub2 (sub2 (sub1 (sub1 (sub2 (sub2 (sub1 (sub1 (sub2 (sub1 (sub2 (sub2 (sub2 (sub2 (sub2 (sub2 (sub2 (match Tryd.f17.body with | some c => c | none => .skip)))))))))))))))))))))
set_option maxRecDepth 100000 in
set_option maxHeartbeats 16000000 in
theorem fillRound (Q : Exit → Act → World → Prop) (N l : Nat) (wz W : World) (r v u gH b1 b7 b8 b10 b11 gI bt mb acc : Nat) (vS : Value) (ms ids hs : List Nat) (t0 t2 t3 t4 t5 t6 t9 t13 t14 t15 t16 t17 t18 t19 t20 t21 t22 t23 t24 t25 t26 t27 t28 t29 t30 t31 t32 t33 t34 t35 t36 t37 t38 t39 t40 t41 t42 t43 t44 t45 t46 t47 t48 t49 t50 t51 t52 t53 t54 t55 t56 t57 t58 t59 t60 t61 t62 t63 t64 t65 t66 t67 t68 t69 t70 t71 t72 t73 t74 t75 t76 t77 t78 t79 t80 t81 t82 t83 t84 t85 t86 t87 t88 t89 t90 t91 t92 t93 t94 t95 t96 t97 t98 t99 t100 t101 t102 t103 t104 t105 t106 t107 : Value)
    (F : Hid (FS wz gH b7 b8 gI bt mb W vS ms ids hs)) (U : Hid (u < 128 ∧ v < 128 ∧ acc < 2 ^ 128 ∧ ms.length ≤ 1000)) (k10 : Hid (W.heap[b10]? = some (.cells #[.int .i64 (v : Int)] 3 (0, 0)))) (k11 : Hid (W.heap[b11]? = some (.cells (cM acc).toArray 35 (0, 0)))) (k1 : Hid (W.cell? ⟨b1, 0, none⟩ = some (.int .i64 (r : Int))))
    (hQ : Hid (∀ a' W', W.grownBy W' (some b11) → W'.heap[b11]? = some (.cells (cM (acc ||| (if u = r then 2 ^ v else gt hs u))).toArray 35 (0, 0)) → Q .normal a' W')) :
    rbody17.wpIn (Fence.wide.inRound l) N Tryd.prog Q { tmps := #[t0, .pointer (some ⟨b1, 0, none⟩), t2, t3, t4, t5, t6, .pointer (some ⟨b7, 0, none⟩), .pointer (some ⟨b8, 0, none⟩), t9, .pointer (some ⟨b10, 0, none⟩), .pointer (some ⟨b11, 0, none⟩), .int .i64 (u : Int), t13, t14, t15, t16, t17, t18, t19, t20, t21, t22, t23, t24, t25, t26, t27, t28, t29, t30, t31, t32, t33, t34, t35, t36, t37, t38, t39, t40, t41, t42, t43, t44, t45, t46, t47, t48, t49, t50, t51, t52, t53, t54, t55, t56, t57, t58, t59, t60, t61, t62, t63, t64, t65, t66, t67, t68, t69, t70, t71, t72, t73, t74, t75, t76, t77, t78, t79, t80, t81, t82, t83, t84, t85, t86, t87, t88, t89, t90, t91, t92, t93, t94, t95, t96, t97, t98, t99, t100, t101, t102, t103, t104, t105, t106, t107], defers := [] } W := by
  have q7 : W.cell? ⟨b7, 0, none⟩ = some (.pointer (some ⟨bt, 0, none⟩)) := by rw [cell_of_row W _ 0 _ _ _ F.out.k7]; rfl
  have q8 : W.cell? ⟨b8, 0, none⟩ = some (.slice (some ⟨gI, 0, none⟩) 128 128) := by rw [cell_of_row W _ 0 _ _ _ F.out.k8]; rfl
  obtain ⟨j, hj⟩ : ∃ j, j = gt ids u := ⟨_, rfl⟩
  obtain ⟨X, hX⟩ : ∃ X, X = gt hs u := ⟨_, rfl⟩
  have qI : W.cell? ⟨gI, u, none⟩ = some (.int .i64 (j : Int)) := by
    rw [cell_of_row W gI u _ _ _ F.out.kI, List.getElem?_toArray, nC, List.getElem?_map, gt_some (by rw [F.out.il]; exact U.out.1), hj]
    rfl
  have SET := Lib.hid (fun w2 (hb : Below W.heap.size W w2) => Set_ok wz.heap.size bt mb vS ms j X w2 (F.out.tb.below hb) (by rw [hj, hX]; exact F.out.ln u U.out.1) U.out.2.2.2)
  have HX := Lib.hid (show X = gt hs u ∧ X < 2 ^ 128 from ⟨hX, by rw [hX]; exact gt_lt F.out.hb u⟩)
  have hu0 : (0 : Int) ≤ (u : Int) := by omega
  have hu1 : (u : Int) < 128 := by have := U.out.1; omega
  have HC : ∀ w2, Below W.heap.size W w2 → w2.cell? ⟨b7, 0, none⟩ = some (.pointer (some ⟨bt, 0, none⟩)) ∧ w2.cell? ⟨b8, 0, none⟩ = some (.slice (some ⟨gI, 0, none⟩) 128 128) ∧ w2.cell? ⟨gI, u, none⟩ = some (.int .i64 (j : Int)) := fun w2 h => ⟨bcell h q7, bcell h q8, bcell h qI⟩
  clear q7 q8 qI hj hX
  simp only [rbody17, Tryd.f17, sub1, sub2, sub3]
  gi_wp2_with fail
  refine Og.Joint2.walkR_lit 12 [[],[],[],[1,2],[3,1,2],[0,4,3,1,2],[5,0,4,3,1,2],[6,5,0,4,3,1,2],[6,5,0,4,3,1,2],[],[9,7,5,0,1,2,3,4,6],[8,10,0,1,2,3,4,5,6,7,9]] (CS W X) (fun _ _ => True) (by kernel_rfl) (by kernel_rfl) (by kernel_rfl) (by kernel_rfl) (fun vs => CS.ini bdrew) ?_
  simp only [List.take_succ_cons, List.take_zero, List.drop_succ_cons, List.drop_zero]
  iterate 2 (refine Og.Joint2.step_pureP (fun p vs v w h => h.other (by decide) (by decide)) (fun _ => trivial) ?_; apply Exists.intro; refine And.intro ?_ ?_; focus (intro p vs w2 hp hC hk; have hm := HC w2 hC.1; refine Og.OptB.mk ?_; revert hk; simp only [Og.KS, Og.K0, Og.Is, List.getD_cons_zero, List.getD_cons_succ, List.getD_nil, List.contains_cons, List.contains_nil, Nat.reduceAdd, Nat.reduceBEq, Bool.or_false, Bool.false_or, Bool.or_true, Bool.true_or, Bool.false_eq_true, false_implies, true_implies, true_and, and_true, forall_const]; intros; go_simp; rfl))
  iterate 2 (refine Og.Joint2.step_pureP (fun p vs v w h => h.other (by decide) (by decide)) (fun _ => trivial) ?_; apply Exists.intro; refine And.intro ?_ ?_; focus (intro p vs w2 hp hC hk; refine Og.OptB.mk ?_; revert hk; simp only [Og.KS, Og.K0, Og.Is, List.getD_cons_zero, List.getD_cons_succ, List.getD_nil, List.contains_cons, List.contains_nil, Nat.reduceAdd, Nat.reduceBEq, Bool.or_false, Bool.false_or, Bool.or_true, Bool.true_or, Bool.false_eq_true, false_implies, true_implies, true_and, and_true, forall_const]; intros; go_simp; rfl))
  refine Og.Joint2.step_pureP (fun p vs v w h => h.other (by decide) (by decide)) (fun _ => trivial) ?_; apply Exists.intro; refine And.intro ?_ ?_; focus (intro p vs w2 hp hC hk; have hm := HC w2 hC.1; refine Og.OptB.mk ?_; revert hk; simp only [Og.KS, Og.K0, Og.Is, List.getD_cons_zero, List.getD_cons_succ, List.getD_nil, List.contains_cons, List.contains_nil, Nat.reduceAdd, Nat.reduceBEq, Bool.or_false, Bool.false_or, Bool.or_true, Bool.true_or, Bool.false_eq_true, false_implies, true_implies, true_and, and_true, forall_const]; intros; go_simp; rfl)
  refine Og.Joint2.step_any (Og.Is (.tuple #[mV X, .int .i64 0])) (fun _ _ _ _ h => h) ?_ ?_; focus (intro p vs w2 hp hC hk; refine Og.OptB.mk ?_; have hb1 := hC.1; revert hk; simp only [Og.KS, Og.K0, Og.Is, List.getD_cons_zero, List.getD_cons_succ, List.getD_nil, List.contains_cons, List.contains_nil, Nat.reduceAdd, Nat.reduceBEq, Bool.or_false, Bool.false_or, Bool.or_true, Bool.true_or, Bool.false_eq_true, false_implies, true_implies, true_and, and_true, forall_const]; intros; go_simp; with_reducible refine (SET.out w2 hb1).mono ?_; rintro e w3 ⟨rfl, hb3⟩; exact Og.RetV.mk ⟨CS.call (by decide) (by decide) hC hb3, rfl⟩)
  iterate 3 (refine Og.Joint2.step_pureP (fun p vs v w h => h.other (by decide) (by decide)) (fun _ => trivial) ?_; apply Exists.intro; refine And.intro ?_ ?_; focus (intro p vs w2 hp hC hk; refine Og.OptB.mk ?_; revert hk; simp only [Og.KS, Og.K0, Og.Is, List.getD_cons_zero, List.getD_cons_succ, List.getD_nil, List.contains_cons, List.contains_nil, Nat.reduceAdd, Nat.reduceBEq, Bool.or_false, Bool.false_or, Bool.or_true, Bool.true_or, Bool.false_eq_true, false_implies, true_implies, true_and, and_true, forall_const]; intros; go_simp; rfl))
  refine Og.Joint2.step_any (fun _ _ => True) (fun _ _ _ _ _ => trivial) ?_ ?_; focus (intro p vs w2 hp hC hk; refine Og.OptB.mk ?_; revert hk; simp only [Og.KS, Og.K0, Og.Is, List.getD_cons_zero, List.getD_cons_succ, List.getD_nil, List.contains_cons, List.contains_nil, Nat.reduceAdd, Nat.reduceBEq, Bool.or_false, Bool.false_or, Bool.or_true, Bool.true_or, Bool.false_eq_true, false_implies, true_implies, true_and, and_true, forall_const]; intros; go_simp; exact hC.new hp.1)
  refine Og.Joint2.step_any (fun _ _ => True) (fun _ _ _ _ _ => trivial) ?_ ?_; focus (intro p vs w2 hp hC hk; obtain ⟨g, e1, hg, old, ko, so, -⟩ := hC.2.2 (hp.2 9 (by decide)); have hr := storeM_run X ko so; revert hk; simp only [Og.KS, Og.K0, Og.Is, List.getD_cons_zero, List.getD_cons_succ, List.getD_nil, List.contains_cons, List.contains_nil, Nat.reduceAdd, Nat.reduceBEq, Bool.or_false, Bool.false_or, Bool.or_true, Bool.true_or, Bool.false_eq_true, false_implies, true_implies, true_and, and_true, forall_const]; intros; refine optB_storeR (g := g) (off := 0) (v := mV X) (by go_simp) rfl (by first | (go_simp; done) | (go_simp; exact e1)) (by go_simp) hr (CS.store (hp.2 9 (by decide)) e1 hg ko hC))
  refine Og.Joint2.step_pureP (fun p vs v w h => h.other (by decide) (by decide)) (fun _ => trivial) ?_; apply Exists.intro; refine And.intro ?_ ?_; focus (intro p vs w2 hp hC hk; refine Og.OptB.mk ?_; revert hk; simp only [Og.KS, Og.K0, Og.Is, List.getD_cons_zero, List.getD_cons_succ, List.getD_nil, List.contains_cons, List.contains_nil, Nat.reduceAdd, Nat.reduceBEq, Bool.or_false, Bool.false_or, Bool.or_true, Bool.true_or, Bool.false_eq_true, false_implies, true_implies, true_and, and_true, forall_const]; intros; go_simp; rfl)
  intro p vs w5 hp hC hk
  obtain ⟨g13, e13, hg13, old, k13, -, ho⟩ := hC.2.2 (hp 9 (by decide))
  rw [ho (hp 10 (by decide))] at k13
  simp only [Og.KS, Og.K0, Og.Is, List.getD_cons_zero, List.getD_cons_succ, List.getD_nil, List.contains_cons, List.contains_nil, Nat.reduceAdd, Nat.reduceBEq, Bool.or_false, Bool.false_or, Bool.or_true, Bool.true_or, Bool.false_eq_true, false_implies, true_implies, true_and, and_true, forall_const] at hk
  simp only [hk, e13, Act.put, List.setIfInBounds_toArray, List.set_cons_zero, List.set_cons_succ]
  have B5 := Lib.hid hC.1
  have K13 := Lib.hid (And.intro hg13 k13)
  clear hk hp hC HC ho e13 hg13 k13
  refine ⟨rfl, ?_⟩
  have q1 := bcell B5.out k1.out
  have q10 : w5.cell? ⟨b10, 0, none⟩ = some (.int .i64 (v : Int)) := by rw [cell_of_row w5 _ 0 _ _ _ (heap_keep B5.out k10.out)]; rfl
  have K11 := Lib.hid (heap_keep B5.out k11.out)
  have NE := Lib.hid (show g13 ≠ b11 from fun e => by have := (Array.getElem?_eq_some_iff.1 k11.out).1; have := K13.out.1; omega)
  by_cases hur : u = r
  · have hui : (u : Int) = (r : Int) := by omega
    have hub : ((u : Int) == (r : Int)) = true := by simp; omega
    have UR := Lib.hid hur
    obtain ⟨w6, hw6⟩ : ∃ w6, w6 = w5.alloc (.cells #[.int .i64 (v : Int)] 3) := ⟨_, rfl⟩
    have OF := Lib.hid (Of_M (b := w5.heap.size) U.out.2.1 (w5.alloc (.cells #[.int .i64 (v : Int)] 3)) (by rw [cell_of_row _ _ 0 _ _ _ (heap_at rfl)]; rfl))
    clear hur hw6
    gi_wp2_with fail
    refine ⟨trivial, fun h => (by cases h), CallsIn.mono (Og.callsIn_round OF.out) ?_⟩
    rintro e w7 ⟨rfl, hb7⟩
    have B7 := Lib.hid (bthen B5.out (bthen ((Below.refl _ _).alloc (Nat.le_refl _) _) hb7))
    have C7 := bthen ((Below.refl w5.heap.size w5).alloc (Nat.le_refl _) (.cells #[.int .i64 (v : Int)] 3)) hb7
    have G7 := Lib.hid (heap_keep C7 K13.out.2)
    have H11 := Lib.hid (heap_keep C7 K11.out)
    clear hb7 q1 q10 C7 OF
    obtain ⟨w8, hw8⟩ : ∃ w8, w8 = w7.setRow g13 (cM (2 ^ v)).toArray := ⟨_, rfl⟩
    obtain ⟨Y, hY⟩ : ∃ Y, Y = 2 ^ v := ⟨_, rfl⟩
    have SR : Hid ((storeVar 35 ⟨g13, 0, none⟩ (mV (2 ^ v))).run Tryd.prog w7 = .ok () w8) := Lib.hid (by rw [hw8]; exact storeM_run (2 ^ v) G7.out rfl)
    have W8 : Hid (Below W.heap.size W w8 ∧ w8.heap[g13]? = some (.cells (cM Y).toArray 35 (0, 0)) ∧ w8.heap[b11]? = some (.cells (cM acc).toArray 35 (0, 0))) := Lib.hid (by rw [hw8, hY]; exact ⟨B7.out.trans ⟨rfl, rfl, rfl, by simp [World.setRow], fun j hj => setRow_other w7 g13 j _ (by have := K13.out.1; omega)⟩, setRow_heap w7 g13 _ _ 35 (0, 0) G7.out, by rw [setRow_other w7 g13 b11 _ (Ne.symm NE.out)]; exact H11.out⟩)
    have YL : Hid (Y < 2 ^ 128) := Lib.hid (by rw [hY]; exact Nat.pow_lt_pow_right (by omega) U.out.2.1)
    have HY := Lib.hid hY
    clear hY hw8
    have L11 := Lib.hid (cldM W8.out.2.2)
    have L13 := Lib.hid (cldM W8.out.2.1)
    have OR := Lib.hid (Or_M U.out.2.2.1 YL.out w8)
    gi_wp2_with (first | (refine wpListIn_loadW rfl 35 (.tmp 11) rfl b11 0 (mV acc) rfl L11.out ?_) | (refine wpListIn_loadW rfl 35 (.tmp 13) rfl g13 0 (mV Y) rfl L13.out ?_) | (refine wpListIn_storeW rfl 35 (.tmp 13) (.tmp 87) rfl rfl g13 0 (mV (2 ^ v)) rfl rfl SR.out ?_))
    refine ⟨trivial, fun h => (by cases h), CallsIn.mono (Og.callsIn_round OR.out) ?_⟩
    rintro e w9 ⟨rfl, hb9⟩
    have B9 := Lib.hid (bthen W8.out.1 hb9)
    have H9 := Lib.hid (heap_keep hb9 W8.out.2.2)
    obtain ⟨wX, hwX⟩ : ∃ wX, wX = w9.setRow b11 (cM (acc ||| Y)).toArray := ⟨_, rfl⟩
    have SR9 : Hid ((storeVar 35 ⟨b11, 0, none⟩ (mV (acc ||| Y))).run Tryd.prog w9 = .ok () wX) := Lib.hid (by rw [hwX]; exact storeM_run (acc ||| Y) H9.out rfl)
    have HWX := Lib.hid hwX
    clear hb9 hwX
    gi_wp2_with (refine wpListIn_storeW rfl 35 (.tmp 11) (.tmp 91) rfl rfl b11 0 (mV (acc ||| Y)) rfl rfl SR9.out ?_)
    try simp only [Exit.then, Exit.inBlock]
    refine hQ.out _ _ ?_ ?_
    · rw [HWX.out]
      exact gtr (grown_below'' B9.out _) ⟨rfl, rfl, rfl, by simp [World.setRow], fun k hk hne => setRow_other w9 b11 k _ (fun e => hne (by rw [e]))⟩
    · rw [HWX.out, if_pos UR.out, ← HY.out]
      exact setRow_heap w9 b11 _ _ 35 (0, 0) H9.out
  · have hui : ¬ (u : Int) = (r : Int) := by omega
    have hub : ((u : Int) == (r : Int)) = false := by simp; omega
    have UR := Lib.hid hur
    clear hur
    obtain ⟨Y, hY⟩ : ∃ Y, Y = X := ⟨_, rfl⟩
    have W8 : Hid (Below W.heap.size W w5 ∧ w5.heap[g13]? = some (.cells (cM Y).toArray 35 (0, 0)) ∧ w5.heap[b11]? = some (.cells (cM acc).toArray 35 (0, 0))) := Lib.hid (by rw [hY]; exact ⟨B5.out, K13.out.2, K11.out⟩)
    have YL : Hid (Y < 2 ^ 128) := Lib.hid (by rw [hY]; exact HX.out.2)
    have HY := Lib.hid hY
    clear hY
    have L11 := Lib.hid (cldM W8.out.2.2)
    have L13 := Lib.hid (cldM W8.out.2.1)
    have OR := Lib.hid (Or_M U.out.2.2.1 YL.out w5)
    gi_wp2_with (first | (refine wpListIn_loadW rfl 35 (.tmp 11) rfl b11 0 (mV acc) rfl L11.out ?_) | (refine wpListIn_loadW rfl 35 (.tmp 13) rfl g13 0 (mV Y) rfl L13.out ?_))
    refine ⟨trivial, fun h => (by cases h), CallsIn.mono (Og.callsIn_round OR.out) ?_⟩
    rintro e w9 ⟨rfl, hb9⟩
    have B9 := Lib.hid (bthen W8.out.1 hb9)
    have H9 := Lib.hid (heap_keep hb9 W8.out.2.2)
    obtain ⟨wX, hwX⟩ : ∃ wX, wX = w9.setRow b11 (cM (acc ||| Y)).toArray := ⟨_, rfl⟩
    have SR9 : Hid ((storeVar 35 ⟨b11, 0, none⟩ (mV (acc ||| Y))).run Tryd.prog w9 = .ok () wX) := Lib.hid (by rw [hwX]; exact storeM_run (acc ||| Y) H9.out rfl)
    have HWX := Lib.hid hwX
    clear hb9 hwX
    gi_wp2_with (refine wpListIn_storeW rfl 35 (.tmp 11) (.tmp 91) rfl rfl b11 0 (mV (acc ||| Y)) rfl rfl SR9.out ?_)
    try simp only [Exit.then, Exit.inBlock]
    refine hQ.out _ _ ?_ ?_
    · rw [HWX.out]
      exact gtr (grown_below'' B9.out _) ⟨rfl, rfl, rfl, by simp [World.setRow], fun k hk hne => setRow_other w9 b11 k _ (fun e => hne (by rw [e]))⟩
    · rw [HWX.out, if_neg UR.out, ← HX.out.1, ← HY.out]
      exact setRow_heap w9 b11 _ _ 35 (0, 0) H9.out

end Go.Proofs.YtjbglifmppilfaaDoor
