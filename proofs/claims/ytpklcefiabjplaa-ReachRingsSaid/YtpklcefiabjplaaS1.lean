/- Rings: asking a graph for nodes and a link; conditions as stated. -/
import Derived.Test.YtpklcefiabjplaaS0
namespace Go.Proofs.Ytpklcefiabjplaa
open Go.ChangeShapes Go.WideShapes Go.ChangeAt Go.RowKit
set_option linter.unusedVariables false
set_option linter.unusedSimpArgs false
attribute [local go_sem] Og.Opt Og.OpY

attribute [local go_sem] Og.Opt Og.OpY
set_option maxRecDepth 100000 in
set_option maxHeartbeats 8000000 in
theorem ask_ok (xs : List Int) (n : Nat) (f t : Int) (c d : Int) (ns : List Nd) (ls : List Lk) (va vb vc : Value) (b : Nat) (w : World) (g : GX w va vb vc ns ls) (ha : AtL w b 0 (dC xs)) (hn : xs.length = n + 2) (hl : n ≤ 1000) (hx : ∀ x ∈ xs, ∃ k : Nat, ns[k]? = some ⟨x⟩) (hf : xs[n]? = some f) (ht : xs[n + 1]? = some t) (k0 : Nat) (hk : ls[k0]? = some ⟨f, t, c, d⟩) (hat : At (fun x => cmpL x ⟨f, t, 0, 0⟩) ls k0 true) :
    Calls Try.prog 17 #[.agg #[va, vb, vc], .slice (some ⟨b, 0, none⟩) (n + 2) (n + 2)] w fun e w' => e = .returned (.tuple #[.agg #[.int .i64 f, .int .i64 t, .int .i64 c, .int .i64 d], .int .i64 0]) ∧ Below w.heap.size w w' := by
  have HN := Lib.hid hn
  have HX := Lib.hid hx
  have HA := Lib.hid ha
  have GG := Lib.hid g
  obtain ⟨ka, hka⟩ := hx f (List.mem_of_getElem? hf)
  obtain ⟨kb, hkb⟩ := hx t (List.mem_of_getElem? ht)
  have HLK := Lib.hid (fun w2 (g2 : GX w2 va vb vc ns ls) => Link_ok f t k0 ka kb c d ns ls va vb vc w2 g2 hk hat hka hkb)
  have qf : w.cell? ⟨b, n, none⟩ = some (.int .i64 f) := by
    have := ha n (.int .i64 f) (by simp [dC, hf])
    rwa [Nat.zero_add] at this
  have qt : w.cell? ⟨b, n + 1, none⟩ = some (.int .i64 t) := by
    have := ha (n + 1) (.int .i64 t) (by simp [dC, ht])
    rwa [Nat.zero_add] at this
  clear hn hx ha g hka hkb hk hat hf ht
  obtain ⟨z, hz⟩ : ∃ z, z = w.heap.size := ⟨_, rfl⟩
  have HZ := Lib.hid hz
  have ba : Below w.heap.size w ((w.alloc (.cells #[va, vb, vc] 33)).alloc (.cells #[.int .i64 0, .int .i64 0, .int .i64 0, .int .i64 0] 43)) := ((Below.refl _ _).alloc (Nat.le_refl _) _).alloc (by simp) _
  have k0' : ((w.alloc (.cells #[va, vb, vc] 33)).alloc (.cells #[.int .i64 0, .int .i64 0, .int .i64 0, .int .i64 0] 43)).heap[z]? = some (.cells #[va, vb, vc] 33 (0, 0)) := heap_keep ((Below.refl _ _).alloc (Nat.le_refl _) _) (heap_at HZ.out)
  have k1 : ((w.alloc (.cells #[va, vb, vc] 33)).alloc (.cells #[.int .i64 0, .int .i64 0, .int .i64 0, .int .i64 0] 43)).heap[z + 1]? = some (.cells #[.int .i64 0, .int .i64 0, .int .i64 0, .int .i64 0] 43 (0, 0)) := heap_at (by rw [HZ.out]; simp)
  go_enter Try.func17, Try.ntmps17
  go_wp2_with fail
  rw [← hz]
  clear hz
  generalize ((w.alloc (.cells #[va, vb, vc] 33)).alloc (.cells #[.int .i64 0, .int .i64 0, .int .i64 0, .int .i64 0] 43)) = w2 at *
  have B2 := Lib.hid ba
  have K1 := Lib.hid k1
  have d0 : w2.cell? ⟨z, 0, none⟩ = some va := by rw [cell_of_row w2 _ 0 _ _ _ k0']; rfl
  have d1 : w2.cell? ⟨z, 1, none⟩ = some vb := by rw [cell_of_row w2 _ 1 _ _ _ k0']; rfl
  have d2 : w2.cell? ⟨z, 2, none⟩ = some vc := by rw [cell_of_row w2 _ 2 _ _ _ k0']; rfl
  have ef := bcell ba qf
  have et := bcell ba qt
  clear ba k0' k1 qf qt
  go_loopw [6, 13] (fun bad i wr => ∃ k : Nat, k ≤ n + 2 ∧ bad = .int .i64 0 ∧ i = .int .i64 k ∧ Hid (Below w2.heap.size w2 wr)) (fun _ i _ => n + 2 - (intOf i).toNat)
  case atStart => exact ⟨0, Nat.zero_le _, rfl, rfl, Lib.hid (Below.refl _ _)⟩
  case round =>
    obtain ⟨k, hk, rfl, rfl, hbw⟩ := hrel
    by_cases hlt : k < n + 2
    · have hwk1 : IntKind.i64.wrap ((k : Int) + 1) = (k : Int) + 1 := by rw [IntKind.wrap_i64]; omega
      have hk0 : (0 : Int) ≤ (k : Int) := by omega
      have hkn : (k : Int) < (n : Int) + 2 := by omega
      obtain ⟨x, hxk⟩ : ∃ x, xs[k]? = some x := ⟨_, List.getElem?_eq_getElem (by rw [HN.out]; exact hlt)⟩
      obtain ⟨kk, hkk⟩ := HX.out x (List.mem_of_getElem? hxk)
      have qx : wr.cell? ⟨b, k, none⟩ = some (.int .i64 x) := by
        have := HA.out k (.int .i64 x) (by simp [dC, hxk])
        rw [Nat.zero_add] at this
        exact bcell (bthen B2.out hbw.out) this
      have HI := Lib.hid (Node_ok x kk ns ls va vb vc wr (GG.out.below (bthen B2.out hbw.out)) hkk)
      have f0 := bcell hbw.out d0
      have f1 := bcell hbw.out d1
      have f2 := bcell hbw.out d2
      clear hxk hkk d0 d1 d2 ef et
      go_wp2_with fail
      with_reducible refine (HI.out).mono ?_
      rintro e w3 ⟨rfl, hb3⟩
      have B3 := Lib.hid (bthen hbw.out hb3)
      clear hb3 qx f0 f1 f2
      go_wp2_with (refine wpList_storeN rfl 41 (.tmp 9) (.tmp 21) rfl rfl w3.heap.size (cNd ⟨x⟩).toArray rfl rfl 41 _ (heap_at rfl) info41s rfl (by simp [Value.oneCell', cNd]) ?_; intro w4 hz hbb hn9 hs4; have b4 := below_storeA hbb; have B4 := Lib.hid (bthen B3.out b4); clear b4 hz hbb hn9 hs4)
      go_roundw
      case rel => exact ⟨k + 1, by omega, rfl, by go_num, B4⟩
      case measure => simp [intOf]; omega
    · have hkn : k = n + 2 := by omega
      subst hkn
      have BR := Lib.hid (bthen B2.out hbw.out)
      have KR := Lib.hid (heap_keep hbw.out K1.out)
      have e0 := bcell hbw.out d0
      have e1 := bcell hbw.out d1
      have e2 := bcell hbw.out d2
      have gf := bcell hbw.out ef
      have gt := bcell hbw.out et
      have hn0 : (0 : Int) ≤ (n : Int) := by omega
      have hn1 : (n : Int) < (n : Int) + 2 := by omega
      have hn2 : (0 : Int) ≤ (n : Int) + 1 := by omega
      have hn3 : (n : Int) + 1 < (n : Int) + 2 := by omega
      have hs1 : (n : Int) + 2 - 2 = (n : Int) := by omega
      have hs2 : (n : Int) + 2 - 1 = (n : Int) + 1 := by omega
      have hw1 : wrap64 (n : Int) = (n : Int) := by unfold wrap64; omega
      have hw2 : wrap64 ((n : Int) + 1) = (n : Int) + 1 := by unfold wrap64; omega
      have hw3 : wrap64 ((n : Int) + 2) = (n : Int) + 2 := by unfold wrap64; omega
      have hv1 : IntKind.i64.wrap (n : Int) = (n : Int) := by rw [IntKind.wrap_i64]; omega
      have hv2 : IntKind.i64.wrap ((n : Int) + 1) = (n : Int) + 1 := by rw [IntKind.wrap_i64]; omega
      have hy1 : ((n : Int) + 1).toNat = n + 1 := by omega
      have HLK2 : Hid (∀ w5, Below wr.heap.size wr w5 → Calls Try.prog 46 #[.agg #[va, vb, vc], .int .i64 f, .int .i64 t] w5 fun e w' => e = .returned (.tuple #[.agg #[.int .i64 f, .int .i64 t, .int .i64 c, .int .i64 d], .int .i64 0]) ∧ Below w5.heap.size w5 w') := Lib.hid (fun w5 h5 => HLK.out w5 (GG.out.below (bthen BR.out h5)))
      have HC : ∀ w5, Below wr.heap.size wr w5 → w5.cell? ⟨z, 0, none⟩ = some va ∧ w5.cell? ⟨z, 1, none⟩ = some vb ∧ w5.cell? ⟨z, 2, none⟩ = some vc ∧ w5.cell? ⟨b, n, none⟩ = some (.int .i64 f) ∧ w5.cell? ⟨b, n + 1, none⟩ = some (.int .i64 t) := fun w5 h5 => ⟨bcell h5 e0, bcell h5 e1, bcell h5 e2, bcell h5 gf, bcell h5 gt⟩
      clear d0 d1 d2 e0 e1 e2 ef et gf gt hbw hlt hk B2 HLK
      go_wp2_with fail
      refine Og.Tail.walk_lit 16 [[],[],[],[2],[3,2],[1,4,3,2],[5,1,4,3,2],[],[],[8],[9,8],[7,10,9,8],[11,7,10,9,8],[0,6,12,5,1,4,3,2,11,7,10,9,8],[13,0,6,12,5,1,4,3,2,11,7,10,9,8],[13,0,6,12,5,1,4,3,2,11,7,10,9,8],[14,13,0,1,2,3,4,5,6,7,8,9,10,11,12,15],[15,16,0,1,2,3,4,5,6,7,8,9,10,11,12,13,14]] (fun w2 => Below wr.heap.size wr w2) (fun w1 w2 => Below w1.heap.size w1 w2) (by kernel_rfl) (by kernel_rfl) (by kernel_rfl) (bdrew) ?_
      simp only [List.take_succ_cons, List.take_zero, List.drop_succ_cons, List.drop_zero]
      iterate 13 (refine Og.step_pure (fun _ => Below.refl _ _) ?_; apply Exists.intro; refine And.intro ?_ ?_; focus (intro vs w2 hC hk; have hm := HC w2 hC; revert hk; simp only [Og.KS, Og.K0, Og.Is, List.getD_cons_zero, List.getD_cons_succ, List.getD_nil, List.contains_cons, List.contains_nil, Nat.reduceAdd, Nat.reduceBEq, Bool.or_false, Bool.false_or, Bool.or_true, Bool.true_or, Bool.false_eq_true, false_implies, true_implies, true_and, and_true, forall_const]; intros; go_simp; exact rfl))
      refine Og.step_one ?_; apply Exists.intro; refine And.intro ?_ ?_; focus (intro vs w2 hC hk; have hm := HC w2 hC; revert hk; simp only [Og.KS, Og.K0, Og.Is, List.getD_cons_zero, List.getD_cons_succ, List.getD_nil, List.contains_cons, List.contains_nil, Nat.reduceAdd, Nat.reduceBEq, Bool.or_false, Bool.false_or, Bool.or_true, Bool.true_or, Bool.false_eq_true, false_implies, true_implies, true_and, and_true, forall_const]; intros; go_simp; with_reducible refine (HLK2.out _ hC).mono ?_; rintro e w3 ⟨rfl, hb⟩; exact Og.RetV.mk ⟨bthen hC hb, hb, rfl⟩)
      iterate 2 (refine Og.step_pure (fun _ => Below.refl _ _) ?_; apply Exists.intro; refine And.intro ?_ ?_; focus (intro vs w2 hC hk; have hm := HC w2 hC; revert hk; simp only [Og.KS, Og.K0, Og.Is, List.getD_cons_zero, List.getD_cons_succ, List.getD_nil, List.contains_cons, List.contains_nil, Nat.reduceAdd, Nat.reduceBEq, Bool.or_false, Bool.false_or, Bool.or_true, Bool.true_or, Bool.false_eq_true, false_implies, true_implies, true_and, and_true, forall_const]; intros; go_simp; exact rfl))
      intro vS wb hC hk
      simp only [Og.KS, Og.K0, Og.Is, List.getD_cons_zero, List.getD_cons_succ, List.getD_nil, List.contains_cons, List.contains_nil, Nat.reduceAdd, Nat.reduceBEq, Bool.or_false, Bool.false_or, Bool.or_true, Bool.true_or, Bool.false_eq_true, false_implies, true_implies, true_and, and_true, forall_const] at hk
      simp only [hk, Act.put, List.setIfInBounds_toArray, List.set_cons_zero, List.set_cons_succ]
      have BB := Lib.hid (bthen BR.out hC)
      have KB := Lib.hid (heap_keep hC KR.out)
      clear hk hC HC
      go_wp2_with (refine wpList_storeN rfl 43 (.tmp 4) (.tmp 55) rfl rfl (z + 1) (cLk ⟨f, t, c, d⟩).toArray rfl rfl 43 _ KB.out info43s rfl (by simp [Value.oneCell', cLk]) ?_; intro w6 hz hbb hn9 hs4; have Z6 := Lib.hid hz; have B6 := Lib.hid (BB.out.trans (hbb _ (by have := HZ.out; omega))); clear hz hbb hn9 hs4)
      refine bodyPost_ret (results_cell_tmp1 rfl rfl (run_loadL isAgg43 size43 (cLk_len ⟨f, t, c, d⟩) (AtL_heap Z6.out))) rfl ?_
      exact ⟨rfl, B6.out⟩

end Go.Proofs.Ytpklcefiabjplaa
