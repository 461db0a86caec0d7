/- fill: the tree with its next hops; conditions as stated. The next hops by the parents, plainly: filled in any order that rises by distance they come out the same. full.Run and hops.Run of a sound graph with no pins and a node as the root; conditions as stated. The three nodes of awake: what Run makes of them, by the kernel. The square: its trees with links of cost c; plain; conditions as stated. -/
import Derived.Test.YtjbglifmppilfaaDoorS17
import Derived.RangeFuncNested
import Derived.RangeFuncBound
import Derived.RangeFuncCalls
import Derived.RangeFuncLeaves
import Derived.Shelf.Abstract
import Derived.Shelf.RegionOpen
import Derived.WalkKit
import Derived.OwnWalkIn
import Derived.TacticsInMore
import Derived.LoopNIn
import Derived.LoopIn
import Derived.Test.YtjbglifmppilfaaDoorS9
namespace Go.Proofs.YtjbglifmppilfaaDoor
open Go.ChangeShapes Go.WideShapes Go.ChangeAt Go.RowKit
set_option linter.unusedVariables false
set_option linter.unusedSimpArgs false
attribute [local go_sem] Og.Opt Og.OpY Oper.semAt_some

/-- the class of a region that makes two rows of sets (7, 11) -/
def CR (W : World) : Og.Joint2.Cls := fun p vs w => Below W.heap.size W w ∧ (p 7 = true → ∃ k, (vs 7).ownBlock = some k ∧ k < w.heap.size) ∧ (p 11 = true → ∃ k, (vs 11).ownBlock = some k ∧ k < w.heap.size) ∧ (p 7 = true → p 11 = true → (vs 7).ownBlock ≠ (vs 11).ownBlock)
section
variable {W w w2 : World} {i : Nat} {p : Nat → Bool} {vs : Nat → Value} {v : Value}
theorem CR.ini (h : Below W.heap.size W w) : CR W (fun _ => false) vs w := ⟨h, fun e => (by cases e), fun e => (by cases e), fun e => (by cases e)⟩
theorem CR.other (h7 : i ≠ 7) (h11 : i ≠ 11) (hb : Below w.heap.size w w2) (c : CR W p vs w) : CR W (Og.Joint2.pSet p i) (Og.Joint2.vSet vs i v) w2 := by
  have e7 : Og.Joint2.pSet p i 7 = p 7 := by simp [Og.Joint2.pSet, Ne.symm h7]
  have e11 : Og.Joint2.pSet p i 11 = p 11 := by simp [Og.Joint2.pSet, Ne.symm h11]
  have f7 : Og.Joint2.vSet vs i v 7 = vs 7 := by simp [Og.Joint2.vSet, Ne.symm h7]
  have f11 : Og.Joint2.vSet vs i v 11 = vs 11 := by simp [Og.Joint2.vSet, Ne.symm h11]
  unfold CR
  rw [e7, e11, f7, f11]
  refine ⟨bthen c.1 hb, fun h => ?_, fun h => ?_, c.2.2.2⟩
  · obtain ⟨k, h1, h2⟩ := c.2.1 h; exact ⟨k, h1, Nat.lt_of_lt_of_le h2 hb.size⟩
  · obtain ⟨k, h1, h2⟩ := c.2.2.1 h; exact ⟨k, h1, Nat.lt_of_lt_of_le h2 hb.size⟩
theorem CR.d7 {ps : List Nat} (hp : p 7 = false) (c : CR W p vs w) (hb : Below w.heap.size w w2) (ho : w2.ownsRow w.heap.size 35 2 v 128 (ps.flatMap cM)) : CR W (Og.Joint2.pSet p 7) (Og.Joint2.vSet vs 7 v) w2 := by
  have e7 : Og.Joint2.pSet p 7 7 = true := by simp [Og.Joint2.pSet]
  have e11 : Og.Joint2.pSet p 7 11 = p 11 := by simp [Og.Joint2.pSet]
  have f7 : Og.Joint2.vSet vs 7 v 7 = v := by simp [Og.Joint2.vSet]
  have f11 : Og.Joint2.vSet vs 7 v 11 = vs 11 := by simp [Og.Joint2.vSet]
  obtain ⟨g, cap, ev, hg, hlt⟩ := own_some ho (fun e => by rw [e] at ho; rcases ho.2 with ⟨_, h0⟩ | ⟨_, _, _, h0, _⟩; cases h0; cases h0)
  have ob : v.ownBlock = some g := by rw [ev]; rfl
  unfold CR
  rw [e7, e11, f7, f11]
  refine ⟨bthen c.1 hb, fun _ => ⟨g, ob, hlt⟩, fun h => ?_, fun _ h => ?_⟩
  · obtain ⟨k, h1, h2⟩ := c.2.2.1 h; exact ⟨k, h1, Nat.lt_of_lt_of_le h2 hb.size⟩
  · obtain ⟨k, h1, h2⟩ := c.2.2.1 h
    rw [ob, h1]
    intro e
    cases e
    omega
theorem CR.d11 {ob : Obj} {n m : Nat} (hp : p 11 = false) (c : CR W p vs w) : CR W (Og.Joint2.pSet p 11) (Og.Joint2.vSet vs 11 (.slice (some ⟨w.heap.size, 0, none⟩) n m)) (w.alloc ob) := by
  have e7 : Og.Joint2.pSet p 11 7 = p 7 := by simp [Og.Joint2.pSet]
  have e11 : Og.Joint2.pSet p 11 11 = true := by simp [Og.Joint2.pSet]
  have f7 : Og.Joint2.vSet vs 11 (.slice (some ⟨w.heap.size, 0, none⟩) n m) 7 = vs 7 := by simp [Og.Joint2.vSet]
  have f11 : Og.Joint2.vSet vs 11 (.slice (some ⟨w.heap.size, 0, none⟩) n m) 11 = .slice (some ⟨w.heap.size, 0, none⟩) n m := by simp [Og.Joint2.vSet]
  unfold CR
  rw [e7, e11, f7, f11]
  refine ⟨bthen c.1 ((Below.refl _ _).alloc (Nat.le_refl _) _), fun h => ?_, fun _ => ⟨w.heap.size, rfl, by simp⟩, fun h _ => ?_⟩
  · obtain ⟨k, h1, h2⟩ := c.2.1 h; exact ⟨k, h1, by simp; omega⟩
  · obtain ⟨k, h1, h2⟩ := c.2.1 h
    rw [h1]
    intro e
    have e9 : k = w.heap.size := by simpa [Value.ownBlock] using e
    omega
end
/-- the tree as it is made -/
def IsF (W : World) (r : Nat) (ds : List Int) (ps : List Nat) (v : Value) (w : World) : Prop := ∃ vD vP gH, v = .agg #[.int .i64 (r : Int), vD, vP, .slice (some ⟨gH, 0, none⟩) 128 128] ∧ w.ownsRow W.heap.size 3 1 vD 128 (ds.flatMap cI) ∧ w.ownsRow W.heap.size 35 2 vP 128 (ps.flatMap cM) ∧ W.heap.size ≤ gH ∧ w.heap[gH]? = some (.cells z256.toArray 35 (0, 0)) ∧ vP.ownBlock ≠ some gH
theorem IsF.keep {W : World} {r : Nat} {ds : List Int} {ps : List Nat} (v : Value) (w w2 : World) (hb : Below w.heap.size w w2) (h : IsF W r ds ps v w) : IsF W r ds ps v w2 := by
  obtain ⟨vD, vP, gH, h1, h2, h3, h4, h5, h6⟩ := h
  exact ⟨vD, vP, gH, h1, own_below h2 hb, own_below h3 hb, h4, heap_keep hb h5, h6⟩
/-- the nodes that are reached, but for the root -/
def ordX (r : Nat) (ds : List Int) (k : Nat) : List Nat := (List.range k).filter fun v => decide (v ≠ r) && decide (kd ds v < 1073741824)
theorem ordX_s (r : Nat) (ds : List Int) (k : Nat) : ordX r ds (k + 1) = ordX r ds k ++ (if k ≠ r ∧ kd ds k < 1073741824 then [k] else []) := by
  unfold ordX
  rw [List.range_succ, List.filter_append]
  congr 1
  by_cases h1 : k = r
  · simp [h1]
  · by_cases h2 : kd ds k < 1073741824
    · simp [h1, h2]
    · simp [h1, h2]
theorem ordX_len (r : Nat) (ds : List Int) (k : Nat) : (ordX r ds k).length ≤ k := by
  unfold ordX
  exact Nat.le_trans (List.length_filter_le ..) (by simp)
theorem ordX_lt {r : Nat} {ds : List Int} {k x : Nat} (h : x ∈ ordX r ds k) : x < k := by
  unfold ordX at h
  simpa using (List.mem_filter.1 h).1
theorem z256_flat : z256 = (List.replicate 128 0).flatMap cM := by kernel_rfl
theorem body17_eq : Tryd.f17.body = some ((sub1 body17).seq ((sub1 (sub2 body17)).seq ((sub1 (sub2 (sub2 body17))).seq ((sub1 (sub2 (sub2 (sub2 body17)))).seq tail17a)))) := by kernel_rfl
theorem own_block {w : World} {B0 n m g : Nat} {ty : TypeId} {v : Value} {xs : List Value} (h : w.ownsRow B0 ty m v n xs) (hg : v.ownBlock = some g) : ∃ a, w.heap[g]? = some (.cells a ty (0, 0)) := by
  rcases h.2 with ⟨e0, _⟩ | ⟨g', cap, cur, e0, _, hk, _⟩
  · rw [e0] at hg; cases hg
  · rw [e0] at hg; cases hg; exact ⟨cur, hk⟩
set_option maxRecDepth 100000 in
set_option maxHeartbeats 16000000 in
theorem fill_ok (r gd od cd gp op cp : Nat) (ds : List Int) (ps : List Nat) (vH : Value) (w : World) (hvH : vH.oneCell' = true) (hd : AtL w gd od (dC ds)) (ok : dsOk ds) (hp : AtL w gp op (ps.flatMap cM)) (pl : ps.length = 128) (pb : allM ps) (tb : Tab w) (hr : r < 128) :
    Calls Tryd.prog 17 #[.agg #[.int .i64 (r : Int), .slice (some ⟨gd, od, none⟩) 128 cd, .slice (some ⟨gp, op, none⟩) 128 cp, vH]] w fun e w' => ∃ (vD vP : Value) (gH : Nat) (ys : List Nat), e = .returned (.agg #[.int .i64 (r : Int), vD, vP, .slice (some ⟨gH, 0, none⟩) 128 128]) ∧
      w'.ownsRow w.heap.size 3 1 vD 128 (ds.flatMap cI) ∧ w'.ownsRow w.heap.size 35 2 vP 128 (ps.flatMap cM) ∧ w.heap.size ≤ gH ∧ w'.heap[gH]? = some (.cells ((fillV r ps ys).flatMap cM).toArray 35 (0, 0)) ∧ vP.ownBlock ≠ some gH ∧ ys.Perm (ordX r ds 128) ∧ Up (kd ds) ys 0 ys.length ∧ Below w.heap.size w w' := by
  have TA := Lib.hid (@fillA)
  refine (callsIn_wide (n := 8)).1 (callsIn_of_wp_marks Tryd.func17 body17_eq trivial ((wpIn_wide).2 ?_) rfl)
  simp only [Tryd.ntmps17, List.size_toArray, List.length_cons, List.length_nil, Nat.reduceAdd, Nat.reduceSub, Array.replicate_succ, Array.replicate_zero, List.push_toArray, List.append_toArray, List.nil_append, List.cons_append]
  simp only [body17, Tryd.f17, sub1, sub2]
  obtain ⟨ad, had⟩ : ∃ d, (dC ds)[0]? = some d := ⟨_, (ok.get (show 0 < 128 by decide)).1⟩
  have gdw : gd < w.heap.size := World.block_lt_of_cell? w _ (hd 0 ad had)
  have gpw : gp < w.heap.size := by
    obtain ⟨p0, hp0⟩ : ∃ u, (ps.flatMap cM)[0]? = some u := ⟨_, List.getElem?_eq_getElem (by rw [flat_len cM 2 cM_len, pl]; decide)⟩
    exact World.block_lt_of_cell? w _ (hp 0 p0 hp0)
  have HD := Lib.hid hd
  have HP := Lib.hid hp
  have PL := Lib.hid (And.intro ok (And.intro pl (And.intro pb (And.intro tb (And.intro hr (And.intro gdw (And.intro gpw hvH)))))))
  clear hd hp ok pl pb tb hr gdw gpw had hvH
  go_wp2_with fail
  obtain ⟨W, hW⟩ : ∃ W, W = (w.alloc (Obj.cells #[.int .i64 (r : Int), .slice (some ⟨gd, od, none⟩) 128 cd, .slice (some ⟨gp, op, none⟩) 128 cp, vH] 25)).alloc (Obj.cells #[.int .i64 0, .slice none 0 0, .slice none 0 0, .slice none 0 0] 25) := ⟨_, rfl⟩
  obtain ⟨b1, hb1⟩ : ∃ b1, b1 = w.heap.size := ⟨_, rfl⟩
  have BW := Lib.hid (show Below w.heap.size w W by rw [hW]; exact ((Below.refl _ _).alloc (Nat.le_refl _) _).alloc (by simp) _)
  have K1 := Lib.hid (show W.heap[b1]? = some (.cells #[.int .i64 (r : Int), .slice (some ⟨gd, od, none⟩) 128 cd, .slice (some ⟨gp, op, none⟩) 128 cp, vH] 25 (0, 0)) by rw [hW]; exact heap_keep ((Below.refl _ _).alloc (Nat.le_refl _) _) (heap_at hb1))
  have K2 := Lib.hid (show W.heap[b1 + 1]? = some (.cells #[.int .i64 0, .slice none 0 0, .slice none 0 0, .slice none 0 0] 25 (0, 0)) by rw [hW]; exact heap_at (by rw [hb1]; simp))
  have SW' := Lib.hid (show W.heap.size = b1 + 2 by rw [hW, hb1]; simp)
  have HB1 := Lib.hid hb1
  have HDW := Lib.hid (HD.out.below BW.out)
  have HPW := Lib.hid (HP.out.below BW.out)
  have CLD := Lib.hid (fun w2 (hb : Below W.heap.size W w2) => (show Calls Tryd.prog 30 #[.slice (some ⟨gd, od, none⟩) 128 cd] w2 (fun e w' => (∃ v, e = .returned v ∧ w'.ownsRow w2.heap.size 3 1 v 128 (ds.flatMap cI)) ∧ Below w2.heap.size w2 w') from by
    have := CloneI_ok ds ⟨gd, od, none⟩ cd w2 (fun i x hx => ⟨gd, od, rfl, AtL.sub (n := 1) (i * 1) (HDW.out.below hb) (by rw [← dC_flat]; exact flat_tk cI_len hx)⟩) (by rw [PL.out.1.1]; decide)
    rw [PL.out.1.1] at this
    exact this))
  have CLP := Lib.hid (fun w2 (hb : Below W.heap.size W w2) => (show Calls Tryd.prog 31 #[.slice (some ⟨gp, op, none⟩) 128 cp] w2 (fun e w' => (∃ v, e = .returned v ∧ w'.ownsRow w2.heap.size 35 2 v 128 (ps.flatMap cM)) ∧ Below w2.heap.size w2 w') from by
    have := CloneM_ok ps ⟨gp, op, none⟩ cp w2 (fun i x hx => ⟨gp, op, rfl, AtL.sub (n := 2) (i * 2) (HPW.out.below hb) (flat_tk cM_len hx)⟩) (by rw [PL.out.2.1]; decide)
    rw [PL.out.2.1] at this
    exact this))
  have HC : ∀ w2, Below W.heap.size W w2 → w2.cell? ⟨b1, 0, none⟩ = some (.int .i64 (r : Int)) ∧ w2.cell? ⟨b1, 1, none⟩ = some (.slice (some ⟨gd, od, none⟩) 128 cd) ∧ w2.cell? ⟨b1, 2, none⟩ = some (.slice (some ⟨gp, op, none⟩) 128 cp) := fun w2 hb => by
    have k := heap_keep hb K1.out
    exact ⟨by rw [cell_of_row w2 _ 0 _ _ _ k]; rfl, by rw [cell_of_row w2 _ 1 _ _ _ k]; rfl, by rw [cell_of_row w2 _ 2 _ _ _ k]; rfl⟩
  rw [← hW, ← hb1]
  clear hW hb1 HD HP
  refine Og.Joint2.walk_lit 14 [[],[0],[],[2],[3,2],[],[5],[6,4,5,3,2],[],[8],[9,8],[10,9,8],[1,4,7,11,0,3,2,6,5,10,9,8],[],[13,12,7,0,1,2,3,4,5,6,8,9,10,11]] (CR W) (fun w1 w2 => Below w1.heap.size w1 w2) (by kernel_rfl) (by kernel_rfl) (by kernel_rfl) (fun vs => CR.ini bdrew) ?_
  simp only [List.take_succ_cons, List.take_zero, List.drop_succ_cons, List.drop_zero]
  iterate 4 (refine Og.Joint2.step_pureP (fun p vs v w h => CR.other (by decide) (by decide) (Below.refl _ _) h) (fun _ => Below.refl _ _) ?_; apply Exists.intro; refine And.intro ?_ ?_; focus (intro p vs w2 hp hC hk; have hm := HC w2 hC.1; refine Og.OptB.mk ?_; revert hk; simp only [Og.KS, Og.K0, Og.Is, List.getD_cons_zero, List.getD_cons_succ, List.getD_nil, List.contains_cons, List.contains_nil, Nat.reduceAdd, Nat.reduceBEq, Bool.or_false, Bool.false_or, Bool.or_true, Bool.true_or, Bool.false_eq_true, false_implies, true_implies, true_and, and_true, forall_const]; intros; go_simp; rfl))
  refine Og.Joint2.step_any (fun v w5 => w5.ownsRow W.heap.size 3 1 v 128 (ds.flatMap cI)) (fun v w w2 hb h => own_below h hb) ?_ ?_; focus (intro p vs w2 hp hC hk; have hb1 := hC.1; refine Og.OptB.mk ?_; revert hk; simp only [Og.KS, Og.K0, Og.Is, List.getD_cons_zero, List.getD_cons_succ, List.getD_nil, List.contains_cons, List.contains_nil, Nat.reduceAdd, Nat.reduceBEq, Bool.or_false, Bool.false_or, Bool.or_true, Bool.true_or, Bool.false_eq_true, false_implies, true_implies, true_and, and_true, forall_const]; intros; go_simp; with_reducible refine (CLD.out w2 hb1).mono ?_; rintro e w3 ⟨⟨v, rfl, ho⟩, hb⟩; exact Og.RetV.mk ⟨CR.other (by decide) (by decide) hb hC, hb, own_lower ho hb1.size⟩)
  iterate 2 (refine Og.Joint2.step_pureP (fun p vs v w h => CR.other (by decide) (by decide) (Below.refl _ _) h) (fun _ => Below.refl _ _) ?_; apply Exists.intro; refine And.intro ?_ ?_; focus (intro p vs w2 hp hC hk; have hm := HC w2 hC.1; refine Og.OptB.mk ?_; revert hk; simp only [Og.KS, Og.K0, Og.Is, List.getD_cons_zero, List.getD_cons_succ, List.getD_nil, List.contains_cons, List.contains_nil, Nat.reduceAdd, Nat.reduceBEq, Bool.or_false, Bool.false_or, Bool.or_true, Bool.true_or, Bool.false_eq_true, false_implies, true_implies, true_and, and_true, forall_const]; intros; go_simp; rfl))
  refine Og.Joint2.step_any (fun v w5 => w5.ownsRow W.heap.size 35 2 v 128 (ps.flatMap cM)) (fun v w w2 hb h => own_below h hb) ?_ ?_; focus (intro p vs w2 hp hC hk; have hb1 := hC.1; refine Og.OptB.mk ?_; revert hk; simp only [Og.KS, Og.K0, Og.Is, List.getD_cons_zero, List.getD_cons_succ, List.getD_nil, List.contains_cons, List.contains_nil, Nat.reduceAdd, Nat.reduceBEq, Bool.or_false, Bool.false_or, Bool.or_true, Bool.true_or, Bool.false_eq_true, false_implies, true_implies, true_and, and_true, forall_const]; intros; go_simp; with_reducible refine (CLP.out w2 hb1).mono ?_; rintro e w3 ⟨⟨v, rfl, ho⟩, hb⟩; exact Og.RetV.mk ⟨CR.d7 hp.1 hC hb ho, hb, own_lower ho hb1.size⟩)
  iterate 3 (refine Og.Joint2.step_pureP (fun p vs v w h => CR.other (by decide) (by decide) (Below.refl _ _) h) (fun _ => Below.refl _ _) ?_; apply Exists.intro; refine And.intro ?_ ?_; focus (intro p vs w2 hp hC hk; have hm := HC w2 hC.1; refine Og.OptB.mk ?_; revert hk; simp only [Og.KS, Og.K0, Og.Is, List.getD_cons_zero, List.getD_cons_succ, List.getD_nil, List.contains_cons, List.contains_nil, Nat.reduceAdd, Nat.reduceBEq, Bool.or_false, Bool.false_or, Bool.or_true, Bool.true_or, Bool.false_eq_true, false_implies, true_implies, true_and, and_true, forall_const]; intros; go_simp; rfl))
  refine Og.Joint2.step_any (IsP W) IsP.keep ?_ ?_; focus (intro p vs w2 hp hC hk; refine Og.OptB.mk ?_; revert hk; simp only [Og.KS, Og.K0, Og.Is, List.getD_cons_zero, List.getD_cons_succ, List.getD_nil, List.contains_cons, List.contains_nil, Nat.reduceAdd, Nat.reduceBEq, Bool.or_false, Bool.false_or, Bool.or_true, Bool.true_or, Bool.false_eq_true, false_implies, true_implies, true_and, and_true, forall_const]; intros; go_simp; simp only [mk97]; exact ⟨CR.d11 hp.1 hC, (Below.refl _ _).alloc (Nat.le_refl _) _, _, rfl, hC.1.size, heap_at rfl⟩)
  refine Og.Joint2.step_any (IsF W r ds ps) IsF.keep ?_ ?_; focus (intro p vs w2 hp hC hk; have h7 := hp.2 7 (by decide); have h11 := hp.2 11 (by decide); have hne := hC.2.2.2 h7 h11; refine Og.OptB.mk ?_; simp only [Og.KS, Og.K0, Og.Is, List.getD_cons_zero, List.getD_cons_succ, List.getD_nil, List.contains_cons, List.contains_nil, Nat.reduceAdd, Nat.reduceBEq, Bool.or_false, Bool.false_or, Bool.or_true, Bool.true_or, Bool.false_eq_true, false_implies, true_implies, true_and, and_true, forall_const] at hk; obtain ⟨h11v, h10, h9, h8, h7v, h6, h5, h4v, h3, h2, h1v, h0⟩ := hk; obtain ⟨gH, e11, hH, kH⟩ := h11v; obtain ⟨A4, c4, e4⟩ := own_small h4v; obtain ⟨A7, c7, e7⟩ := own_small h7v; rw [e4] at h4v; rw [e7] at h7v hne; rw [e11] at hne; go_simp; exact ⟨CR.other (by decide) (by decide) (Below.refl _ _) hC, Below.refl _ _, _, _, gH, rfl, h4v, h7v, hH, kH, hne⟩)
  refine Og.Joint2.step_any (Is5 W) Is5.keep ?_ ?_; focus (intro p vs w2 hp hC hk; refine Og.OptB.mk ?_; go_simp; exact ⟨CR.other (by decide) (by decide) ((Below.refl _ _).alloc (Nat.le_refl _) _) hC, (Below.refl _ _).alloc (Nat.le_refl _) _, _, _, rfl, hC.1.size, heap_at rfl, rfl⟩)
  intro p vs w5 hp hC hk
  have B5 := Lib.hid hC.1
  simp only [Og.KS, Og.K0, Og.Is, List.getD_cons_zero, List.getD_cons_succ, List.getD_nil, List.contains_cons, List.contains_nil, Nat.reduceAdd, Nat.reduceBEq, Bool.or_false, Bool.false_or, Bool.or_true, Bool.true_or, Bool.false_eq_true, false_implies, true_implies, true_and, and_true, forall_const] at hk
  obtain ⟨⟨b3, old3, e13, h3z, k3, hs3⟩, ⟨vD, vP, gH, e12, oD, oP, hgH, kH, hne⟩, ⟨_, e11, -, -⟩, e10, e9, e8, o7, e6, e5, o4, e3, e2, e1, e0⟩ := hk
  obtain ⟨A4, c4, e4⟩ := own_small o4
  obtain ⟨A7, c7, e7⟩ := own_small o7
  simp only [e0, e1, e2, e3, e4, e5, e6, e7, e8, e9, e10, e11, e12, e13, Act.put, List.setIfInBounds_toArray, List.set_cons_zero, List.set_cons_succ]
  obtain ⟨AD, cD, eD⟩ := own_small oD
  obtain ⟨AP, cP, eP⟩ := own_small oP
  subst eD
  subst eP
  have VO : Hid (∀ (i : Nat) (h : i < (#[Value.int .i64 (r : Int), .slice AD 128 cD, .slice AP 128 cP, .slice (some ⟨gH, 0, none⟩) 128 128] : Array Value).size), (#[Value.int .i64 (r : Int), .slice AD 128 cD, .slice AP 128 cP, .slice (some ⟨gH, 0, none⟩) 128 128] : Array Value)[i].oneCell' = true) := Lib.hid (fun i h => by
    match i, h with
    | 0, _ => rfl
    | 1, _ => rfl
    | 2, _ => rfl
    | 3, _ => rfl)
  obtain ⟨w6, hw6⟩ : ∃ w6, w6 = w5.setRow b3 #[.int .i64 (r : Int), .slice AD 128 cD, .slice AP 128 cP, .slice (some ⟨gH, 0, none⟩) 128 128] := ⟨_, rfl⟩
  have R6 : Hid ((storeVar 25 ⟨b3, 0, none⟩ (.agg #[.int .i64 (r : Int), .slice AD 128 cD, .slice AP 128 cP, .slice (some ⟨gH, 0, none⟩) 128 128])).run Tryd.prog w5 = .ok () w6) := Lib.hid (by rw [hw6]; exact run_storeVar_row w5 b3 25 25 old3 _ k3 info99s hs3 (by simp only [Array.all_eq_true]; exact VO.out))
  have oth : ∀ j, j ≠ b3 → w6.heap[j]? = w5.heap[j]? := fun j hj => by rw [hw6]; exact setRow_other w5 b3 j _ hj
  have G6 : w5.grownBy w6 (some b3) := ⟨by rw [hw6]; rfl, by rw [hw6]; rfl, by rw [hw6]; rfl, by rw [hw6]; simp [World.setRow], fun k _ hne => oth k (fun e => hne (by rw [e]))⟩
  have B6 : Below W.heap.size W w6 := B5.out.trans ⟨G6.os, G6.tape, G6.output, G6.size, fun k hk => oth k (by omega)⟩
  have oD6 := oD.kept G6 (.inr (ne_own k3 oD (by decide)))
  have oP6 := oP.kept G6 (.inr (ne_own k3 oP (by decide)))
  have kH6 := grown_at G6 kH (ne_cells kH k3 (by decide))
  have k36 : w6.heap[b3]? = some (.cells #[.int .i64 (r : Int), .slice AD 128 cD, .slice AP 128 cP, .slice (some ⟨gH, 0, none⟩) 128 128] 25 (0, 0)) := by rw [hw6]; exact setRow_heap w5 b3 old3 _ 25 (0, 0) k3
  have F6 := Lib.hid (And.intro B6 (And.intro oD6 (And.intro oP6 (And.intro kH6 (And.intro k36 (And.intro hgH hne))))))
  clear hp hC HC oD oP kH k3 hs3 h3z e0 e1 e2 e3 e4 e5 e6 e7 e8 e9 e10 e11 e12 e13 o4 o7 oth G6 B6 oD6 oP6 kH6 k36 hw6 CLD CLP hgH hne
  have q11 : w6.cell? ⟨b1, 1, none⟩ = some (.slice (some ⟨gd, od, none⟩) 128 cd) := by
    rw [cell_of_row w6 _ 1 _ _ _ (heap_keep F6.out.1 K1.out)]; rfl
  have Z6 := Lib.hid (show gH < w6.heap.size from (Array.getElem?_eq_some_iff.1 F6.out.2.2.2.1).1)
  go_wp2_with (refine wpList_storeR (ty := 25) (x := .tmp 3) (y := .tmp 27) rfl rfl rfl (by go_simp) (by go_simp) R6.out ?_)
  clear q11
  go_loopw [4, 31] (fun u i wr => ∃ (k : Nat) (o : Value), k ≤ 128 ∧ o = u ∧ i = .int .i64 k ∧ Hid (wr.ownsRow w6.heap.size 3 1 o (ordX r ds k).length ((ordX r ds k).flatMap cN)) ∧ Hid (Below w6.heap.size w6 wr)) (fun _ i _ => 128 - (intOf i).toNat)
  case atStart => exact ⟨0, _, Nat.zero_le _, rfl, rfl, Lib.hid (World.ownsRow_nil _ _ _ _), Lib.hid (Below.refl _ _)⟩
  case round =>
    obtain ⟨k, o, hk, rfl, rfl, ho, hbw⟩ := hrel
    have K1r := Lib.hid ((hbw.out.block b1 (Array.getElem?_eq_some_iff.1 (heap_keep F6.out.1 K1.out)).1).trans (heap_keep F6.out.1 K1.out))
    by_cases hlt : k < 128
    · have hkn : (k : Int) < 128 := by omega
      have hk0 : (0 : Int) ≤ (k : Int) := by omega
      have hwk : IntKind.i64.wrap ((k : Int) + 1) = (k : Int) + 1 := by rw [IntKind.wrap_i64]; omega
      obtain ⟨qd, d0, d1⟩ := PL.out.1.get hlt
      have cD : wr.cell? ⟨gd, od + k, none⟩ = some (.int .i64 (kd ds k)) := by
        have h1 := (HDW.out.below F6.out.1) k _ qd
        exact (World.cell?_of_block (a := ⟨gd, od + k, none⟩) (hbw.out.block gd (World.block_lt_of_cell? w6 _ h1))).trans h1
      have c0 : wr.cell? ⟨b1, 0, none⟩ = some (.int .i64 (r : Int)) := by rw [cell_of_row wr _ 0 _ _ _ K1r.out]; rfl
      have HS := Lib.hid (ordX_s r ds k)
      have HK := Lib.hid (show k < 128 from hlt)
      have HLN : Hid ((ordX r ds k).length ≤ 1172812402926) := Lib.hid (Nat.le_trans (ordX_len r ds k) (by omega))
      obtain ⟨dk, hdk⟩ : ∃ d, d = kd ds k := ⟨_, rfl⟩
      rw [← hdk] at cD HS
      clear qd d0 d1 hdk hlt hk
      by_cases hkr : k = r
      · have HE : Hid (ordX r ds (k + 1) = ordX r ds k) := Lib.hid (by rw [HS.out, if_neg (fun h => h.1 hkr), List.append_nil])
        subst hkr
        go_wp2_with fail
        go_roundw
        case rel => exact ⟨k + 1, _, by have := HK.out; omega, rfl, by go_num, by rw [HE.out]; exact ho, hbw⟩
        case measure => have := HK.out; simp [intOf]; omega
      · have hki : ¬ (k : Int) = (r : Int) := by omega
        have hkb : ((k : Int) != (r : Int)) = true := by simp; omega
        by_cases hdi : dk < 1073741824
        · have HE : Hid (ordX r ds (k + 1) = ordX r ds k ++ [k]) := Lib.hid (by rw [HS.out, if_pos ⟨hkr, hdi⟩])
          have S3 := Lib.hid (hbw.out.size)
          go_wp2_with (at_builtin; refine wpList_appG cN 1 22 3 8 cN_len cN_one (by omega) Tryd.underlying22 cinfo3 rfl (by omega) rfl (.tmp 44) (.tmp 46) rfl w6.heap.size _ o (ordX r ds k) k rfl rfl (own_below ho.out ((Below.refl _ _).alloc (Nat.le_refl _) _)) (heap_at rfl) HLN.out (alloc_le' S3.out) ?_; intro v5 w5' ho5 hg5; have b5 := app_below ho.out S3.out hg5; have O5 := Lib.hid ho5; have B5' := Lib.hid (hbw.out.trans b5); clear ho5 hg5 b5)
          go_roundw
          case rel => exact ⟨k + 1, _, by have := HK.out; omega, rfl, by go_num, by rw [HE.out]; exact O5, B5'⟩
          case measure => have := HK.out; simp [intOf]; omega
        · have HE : Hid (ordX r ds (k + 1) = ordX r ds k) := Lib.hid (by rw [HS.out, if_neg (fun h => hdi h.2), List.append_nil])
          go_wp2_with fail
          go_roundw
          case rel => exact ⟨k + 1, _, by have := HK.out; omega, rfl, by go_num, by rw [HE.out]; exact ho, hbw⟩
          case measure => have := HK.out; simp [intOf]; omega
    · have hkn : ¬ (k : Int) < 128 := by omega
      have hk8 : k = 128 := by omega
      rw [hk8] at ho
      obtain ⟨n, hn⟩ : ∃ n, n = (ordX r ds 128).length := ⟨_, rfl⟩
      have HN := Lib.hid hn
      rw [← hn] at ho
      have B1r := Lib.hid (show Below W.heap.size W wr from F6.out.1.trans (hbw.out.mono F6.out.1.size))
      have low6 : ∀ {j : Nat} {ob : Obj}, w6.heap[j]? = some ob → wr.heap[j]? = some ob := fun {j ob} h => (hbw.out.block j (Array.getElem?_eq_some_iff.1 h).1).trans h
      have FAr := Lib.hid (show FA wr r gH b1 (b1 + 1) b3 gd od cd gp op cp w6.heap.size n ds ps (ordX r ds 128) vH (.slice AD 128 cD) (.slice AP 128 cP) o from
        { k1 := K1r.out, k2 := ⟨_, heap_keep B1r.out K2.out, rfl⟩, k3 := low6 F6.out.2.2.2.2.1, kd := HDW.out.below B1r.out, ok := PL.out.1, kp := HPW.out.below B1r.out, pl := PL.out.2.1, pb := PL.out.2.2.1,
          gpH := by have h1 := F6.out.2.2.2.2.2.1; have h2 := PL.out.2.2.2.2.2.2.1; have h3 := BW.out.size; omega, gdH := by have h1 := F6.out.2.2.2.2.2.1; have h2 := PL.out.2.2.2.2.2.1; have h3 := BW.out.size; omega,
          kH := by rw [← z256_flat]; exact low6 F6.out.2.2.2.1, ow := ho.out, hz := Z6.out, xn := HN.out.symm, xl := by rw [HN.out]; exact ordX_len r ds 128, xb := fun x hx => ordX_lt hx,
          tb := (PL.out.2.2.2.1.below BW.out PL.out.2.2.2.1.size).below B1r.out (by have := SW'.out; omega), rb := PL.out.2.2.2.2.1 })
      clear low6 hn hk hk8 hlt
      go_wp2_with fail
      refine TA.out _ wr r gH b1 (b1 + 1) b3 gd od cd gp op cp w6.heap.size n ds ps (ordX r ds 128) vH (.slice AD 128 cD) (.slice AP 128 cP) o _ _ _ _ _ _ _ _ _ _ _ _ _ _ _ _ _ _ _ _ _ _ _ _ _ _ _ _ _ _ _ _ _ _ _ _ _ _ _ _ _ _ _ _ _ _ _ _ _ _ _ _ _ _ _ _ _ _ _ _ _ _ _ _ _ _ _ _ _ _ _ _ _ _ _ _ _ _ _ _ _ _ _ _ _ _ _ _ _ _ _ _ _ _ _ _ _ _ _ _ _ _ _ _ FAr VO (Lib.hid fun ys wz w' h1 h2 h3 h4 h5 => ?_)
      have bz := B1r.out
      have t4 : ∀ {j : Nat} {a : Array Value} {t : TypeId}, w6.heap[j]? = some (.cells a t (0, 0)) → j ≠ gH → j ≠ b1 + 1 → w'.heap[j]? = some (.cells a t (0, 0)) := fun {j a t} hj n1 n2 => by
        have e1 := (hbw.out.block j (Array.getElem?_eq_some_iff.1 hj).1).trans hj
        have e2 := (h3.block j (Array.getElem?_eq_some_iff.1 e1).1 (fun e => by have := (ho.out.lt j e.symm).1; have := (Array.getElem?_eq_some_iff.1 hj).1; omega)).trans e1
        exact (h5.block j (Array.getElem?_eq_some_iff.1 e2).1 n1 n2 (by simp)).trans e2
      have k2w : w6.heap[b1 + 1]? = some (.cells #[.int .i64 0, .slice none 0 0, .slice none 0 0, .slice none 0 0] 25 (0, 0)) := heap_keep F6.out.1 K2.out
      have sz : w6.heap.size ≤ w'.heap.size := Nat.le_trans hbw.out.size (Nat.le_trans h3.size h5.size)
      refine ⟨.slice AD 128 cD, .slice AP 128 cP, gH, ys, rfl, ?_, ?_, ?_, h4, F6.out.2.2.2.2.2.2, h1, by rw [h1.length_eq, ← HN.out]; exact h2, ?_⟩
      · refine own_lower (ownR_same F6.out.2.1 (fun g hg => ?_) sz) BW.out.size
        obtain ⟨a, ha⟩ := own_block F6.out.2.1 hg
        rw [ha]
        exact t4 ha (ne_cells ha F6.out.2.2.2.1 (by decide)) (ne_cells ha k2w (by decide))
      · refine own_lower (ownR_same F6.out.2.2.1 (fun g hg => ?_) sz) BW.out.size
        obtain ⟨a, ha⟩ := own_block F6.out.2.2.1 hg
        rw [ha]
        exact t4 ha (fun e => F6.out.2.2.2.2.2.2 (by rw [hg, e])) (ne_cells ha k2w (by decide))
      · exact Nat.le_trans BW.out.size F6.out.2.2.2.2.2.1
      · have e1 : Below w.heap.size w wr := BW.out.trans (B1r.out.mono BW.out.size)
        have s1 := BW.out.size
        have s6 := F6.out.1.size
        have hg := F6.out.2.2.2.2.2.1
        have hb1 := HB1.out
        have e2 : Below w.heap.size wr wz := ⟨h3.os, h3.tape, h3.output, h3.size, fun j hj => h3.block j (by have := e1.size; omega) (fun e => by have := (ho.out.lt j e.symm).1; omega)⟩
        have e3 : Below w.heap.size wz w' := ⟨h5.os, h5.tape, h5.output, h5.size, fun j hj => h5.block j (by have := e1.size; have := e2.size; omega) (by omega) (by omega) (by simp)⟩
        exact (e1.trans e2).trans e3

end Go.Proofs.YtjbglifmppilfaaDoor
namespace Go.Proofs.YtjbglifmppilfaaDoor
set_option linter.unusedVariables false
set_option linter.unusedSimpArgs false

/-- each parent is nearer -/
def nearP (ds : List Int) (ps : List Nat) : Prop := ∀ v, v < 128 → ∀ u ∈ elM (gt ps v), kd ds u.val < kd ds v
/-- a row of sets that is what the parents make of it -/
def FilledP (r : Nat) (ds : List Int) (ps hs : List Nat) : Prop := hs.length = 128 ∧ ∀ v, v < 128 → gt hs v = if v ≠ r ∧ kd ds v < 1073741824 then accF r v hs (elM (gt ps v)) else 0
theorem accF_congr {r v : Nat} {hs hs' : List Nat} {l : List (Fin 128)} (h : ∀ u ∈ l, gt hs u.val = gt hs' u.val) : accF r v hs l = accF r v hs' l := by
  have key : ∀ (l : List (Fin 128)) (a : Nat), (∀ u ∈ l, gt hs u.val = gt hs' u.val) → l.foldl (fun acc u => acc ||| (if u.val = r then 2 ^ v else gt hs u.val)) a = l.foldl (fun acc u => acc ||| (if u.val = r then 2 ^ v else gt hs' u.val)) a := by
    intro l
    induction l with
    | nil => intro a _; rfl
    | cons x t ih =>
      intro a h
      simp only [List.foldl_cons]
      rw [h x (List.mem_cons_self ..)]
      exact ih _ (fun u hu => h u (List.mem_cons_of_mem _ hu))
  exact key l 0 h
theorem list_gt {xs ys : List Nat} (hl : xs.length = ys.length) (h : ∀ i, i < xs.length → gt xs i = gt ys i) : xs = ys := by
  refine List.ext_getElem hl fun i h1 h2 => ?_
  have e := h i h1
  have e1 := gt_some h1
  have e2 := gt_some h2
  rw [List.getElem?_eq_getElem h1] at e1
  rw [List.getElem?_eq_getElem h2] at e2
  have e1' := Option.some.inj e1
  have e2' := Option.some.inj e2
  rw [e1', e2', e]
theorem filled_uniq {r : Nat} {ds : List Int} {ps hs hs' : List Nat} (hn : nearP ds ps) (h0 : ∀ v, 0 ≤ kd ds v) (h : FilledP r ds ps hs) (h' : FilledP r ds ps hs') : hs = hs' := by
  have key : ∀ (n : Nat) (v : Nat), v < 128 → kd ds v < (n : Int) → gt hs v = gt hs' v := by
    intro n
    induction n with
    | zero => intro v hv hk; have := h0 v; omega
    | succ n ih =>
      intro v hv hk
      rw [h.2 v hv, h'.2 v hv]
      rw [accF_congr (hs := hs) (hs' := hs') (fun u hu => ih u.val u.isLt (by have := hn v hv u hu; omega))]
  refine list_gt (by rw [h.1, h'.1]) fun i hi => key ((kd ds i).toNat + 1) i (by rw [h.1] at hi; exact hi) (by have := h0 i; omega)

theorem fillV_snoc (r : Nat) (ps l : List Nat) (y : Nat) : fillV r ps (l ++ [y]) = stepV r ps (fillV r ps l) y := by
  simp only [fillV, List.foldl_append, List.foldl_cons, List.foldl_nil]
theorem fillV_len (r : Nat) (ps : List Nat) : ∀ l : List Nat, (fillV r ps l).length = 128 := by
  intro l
  have key : ∀ (l : List Nat) (hs : List Nat), hs.length = 128 → (l.foldl (stepV r ps) hs).length = 128 := by
    intro l
    induction l with
    | nil => intro hs h; exact h
    | cons y t ih => intro hs h; exact ih _ (by simp only [stepV, List.length_set]; exact h)
  exact key l _ (by simp)
/-- an order that rises -/
def Rises (ds : List Int) (ys : List Nat) : Prop := ys.Nodup ∧ (∀ v ∈ ys, v < 128) ∧ ys.Pairwise fun a b => kd ds a ≤ kd ds b
theorem snoc_ind {P : List Nat → Prop} (h0 : P []) (h1 : ∀ l y, P l → P (l ++ [y])) : ∀ l, P l := by
  intro l
  have key : ∀ m : List Nat, P m.reverse := by
    intro m
    induction m with
    | nil => exact h0
    | cons x t ih => rw [List.reverse_cons]; exact h1 _ _ ih
  have := key l.reverse
  rwa [List.reverse_reverse] at this
theorem fillV_at {r : Nat} {ds : List Int} {ps : List Nat} (hn : nearP ds ps) : ∀ l : List Nat, Rises ds l → (∀ v, v ∈ l → gt (fillV r ps l) v = accF r v (fillV r ps l) (elM (gt ps v))) ∧ (∀ v, v ∉ l → gt (fillV r ps l) v = 0) := by
  refine snoc_ind ?_ ?_
  · intro _
    exact ⟨fun v hv => (by cases hv), fun v _ => gt_rep v⟩
  · intro l y ih hr
    obtain ⟨nd, lt, pw⟩ := hr
    rw [List.nodup_append] at nd
    rw [List.pairwise_append] at pw
    have hl : Rises ds l := ⟨nd.1, fun v hv => lt v (List.mem_append_left _ hv), pw.1⟩
    have hy : y < 128 := lt y (by simp)
    have hny : y ∉ l := fun h => nd.2.2 y h y (by simp) rfl
    obtain ⟨i1, i2⟩ := ih hl
    have hlen := fillV_len r ps l
    rw [fillV_snoc]
    have hg : ∀ t, gt (stepV r ps (fillV r ps l) y) t = if t = y then accF r y (fillV r ps l) (elM (gt ps y)) else gt (fillV r ps l) t := fun t => gt_set (by rw [hlen]; exact hy) t
    have hc : ∀ v, v < 128 → kd ds v ≤ kd ds y → accF r v (fillV r ps l) (elM (gt ps v)) = accF r v (stepV r ps (fillV r ps l) y) (elM (gt ps v)) := by
      intro v hv hk
      refine accF_congr fun u hu => ?_
      rw [hg]
      have h1 := hn v hv u hu
      rw [if_neg (fun e => by rw [e] at h1; omega)]
    refine ⟨fun v hv => ?_, fun v hv => ?_⟩
    · rw [hg]
      by_cases e : v = y
      · rw [if_pos e]
        subst e
        exact hc v hy (Int.le_refl _)
      · rw [if_neg e]
        have hv' : v ∈ l := by
          rcases List.mem_append.1 hv with h | h
          · exact h
          · simp at h; exact absurd h e
        rw [i1 v hv']
        exact hc v (hl.2.1 v hv') (pw.2.2 v hv' y (by simp))
    · rw [hg]
      have e : v ≠ y := fun e => hv (by rw [e]; simp)
      rw [if_neg e]
      exact i2 v (fun h => hv (List.mem_append_left _ h))
/-- filled in an order that rises, of all that are reached, the root among them or not -/
theorem fillV_filled {r : Nat} {ds : List Int} {ps ys : List Nat} (hn : nearP ds ps) (hr : Rises ds ys) (h1 : ∀ v ∈ ys, kd ds v < 1073741824) (h2 : ∀ v, v < 128 → v ≠ r → kd ds v < 1073741824 → v ∈ ys) (h0 : gt ps r = 0) : FilledP r ds ps (fillV r ps ys) := by
  refine ⟨fillV_len r ps ys, fun v hv => ?_⟩
  obtain ⟨i1, i2⟩ := fillV_at (r := r) hn ys hr
  by_cases hm : v ∈ ys
  · rw [i1 v hm]
    by_cases hc : v = r
    · rw [if_neg (fun h => h.1 hc), hc, h0]
      have e : elM 0 = [] := by simp [elM]
      rw [e]; rfl
    · rw [if_pos ⟨hc, h1 v hm⟩]
  · rw [i2 v hm, if_neg (fun h => hm (h2 v hv h.1 h.2))]
theorem pair_of_up {ds : List Int} {ys : List Nat} (h : Up (kd ds) ys 0 ys.length) : ys.Pairwise fun a b => kd ds a ≤ kd ds b := by
  rw [List.pairwise_iff_getElem]
  intro i j hi hj hij
  have e := h i j (Nat.zero_le _) hij hj
  have e1 : gt ys i = ys[i] := by simp [gt, hi]
  have e2 : gt ys j = ys[j] := by simp [gt, hj]
  simpa only [ky, e1, e2] using e
theorem ordX_nodup (r : Nat) (ds : List Int) (k : Nat) : (ordX r ds k).Nodup := List.Nodup.sublist List.filter_sublist List.nodup_range
theorem mem_ordX {r : Nat} {ds : List Int} {k v : Nat} : v ∈ ordX r ds k ↔ v < k ∧ v ≠ r ∧ kd ds v < 1073741824 := by
  simp [ordX, List.mem_filter]
/-- what fill answers -/
theorem fill_filled {r : Nat} {ds : List Int} {ps ys : List Nat} (hn : nearP ds ps) (h0 : gt ps r = 0) (hp : ys.Perm (ordX r ds 128)) (hu : Up (kd ds) ys 0 ys.length) : FilledP r ds ps (fillV r ps ys) := by
  refine fillV_filled hn ⟨hp.symm.nodup (ordX_nodup r ds 128), fun v hv => (mem_ordX.1 (hp.mem_iff.1 hv)).1, pair_of_up hu⟩ (fun v hv => (mem_ordX.1 (hp.mem_iff.1 hv)).2.2) (fun v h1 h2 h3 => hp.mem_iff.2 (mem_ordX.2 ⟨h1, h2, h3⟩)) h0

/-! the reference's way: each parent's set is put into the row at once -/
def refIn (r v : Nat) (hs : List Nat) (u : Nat) : List Nat := hs.set v (gt hs v ||| (if u = r then 2 ^ v else gt hs u))
def refStep (r : Nat) (ps : List Nat) (hs : List Nat) (v : Nat) : List Nat := (listM (gt ps v)).foldl (refIn r v) hs
def refFill (r : Nat) (ps : List Nat) (order : List Nat) : List Nat := order.foldl (refStep r ps) (List.replicate 128 0)
theorem refIn_fold {r v : Nat} : ∀ (l : List (Fin 128)) (hs : List Nat), v < hs.length → (∀ u ∈ l, u.val ≠ v) → (l.map fun i => i.val).foldl (refIn r v) hs = hs.set v (l.foldl (fun acc u => acc ||| (if u.val = r then 2 ^ v else gt hs u.val)) (gt hs v)) := by
  intro l
  induction l with
  | nil =>
    intro hs hv _
    simp only [List.map_nil, List.foldl_nil]
    refine list_gt (by simp) fun i hi => ?_
    rw [gt_set hv]
    by_cases e : i = v
    · rw [if_pos e, e]
    · rw [if_neg e]
  | cons x t ih =>
    intro hs hv hne
    simp only [List.map_cons, List.foldl_cons]
    rw [ih (refIn r v hs x.val) (by simp only [refIn, List.length_set]; exact hv) (fun u hu => hne u (List.mem_cons_of_mem _ hu))]
    have e1 : gt (refIn r v hs x.val) v = gt hs v ||| (if x.val = r then 2 ^ v else gt hs x.val) := by
      unfold refIn; rw [gt_set hv, if_pos rfl]
    rw [e1]
    have key : ∀ (l : List (Fin 128)) (a : Nat), (∀ u ∈ l, u.val ≠ v) → l.foldl (fun acc u => acc ||| (if u.val = r then 2 ^ v else gt (refIn r v hs x.val) u.val)) a = l.foldl (fun acc u => acc ||| (if u.val = r then 2 ^ v else gt hs u.val)) a := by
      intro l
      induction l with
      | nil => intro a _; rfl
      | cons y t ih2 =>
        intro a h
        simp only [List.foldl_cons]
        have e2 : gt (refIn r v hs x.val) y.val = gt hs y.val := by
          unfold refIn; rw [gt_set hv, if_neg (h y (List.mem_cons_self ..))]
        rw [e2]
        exact ih2 _ (fun u hu => h u (List.mem_cons_of_mem _ hu))
    rw [key t _ (fun u hu => hne u (List.mem_cons_of_mem _ hu))]
    unfold refIn
    rw [List.set_set]
theorem refStep_eq {r v : Nat} {ds : List Int} {ps hs : List Nat} (hn : nearP ds ps) (hv : v < 128) (hl : hs.length = 128) (h0 : gt hs v = 0) : refStep r ps hs v = stepV r ps hs v := by
  unfold refStep stepV
  rw [← elM_val, refIn_fold _ _ (by rw [hl]; exact hv) (fun u hu e => by have := hn v hv u hu; rw [e] at this; omega), h0]
  rfl
theorem refFill_eq {r : Nat} {ds : List Int} {ps : List Nat} (hn : nearP ds ps) : ∀ l : List Nat, Rises ds l → refFill r ps l = fillV r ps l := by
  refine snoc_ind ?_ ?_
  · intro _; rfl
  · intro l y ih hr
    obtain ⟨nd, lt, pw⟩ := hr
    rw [List.nodup_append] at nd
    rw [List.pairwise_append] at pw
    have hl : Rises ds l := ⟨nd.1, fun v hv => lt v (List.mem_append_left _ hv), pw.1⟩
    have hny : y ∉ l := fun h => nd.2.2 y h y (by simp) rfl
    rw [fillV_snoc, ← refStep_eq hn (lt y (by simp)) (fillV_len r ps l) ((fillV_at hn l hl).2 y hny), ← ih hl]
    simp only [refFill, List.foldl_append, List.foldl_cons, List.foldl_nil]
/-- both fill alike -/
theorem fill_same {r : Nat} {ds : List Int} {ps ys zs : List Nat} (hn : nearP ds ps) (h0 : gt ps r = 0) (hd : ∀ v, 0 ≤ kd ds v) (hp : ys.Perm (ordX r ds 128)) (hu : Up (kd ds) ys 0 ys.length) (hz : Rises ds zs) (h1 : ∀ v ∈ zs, kd ds v < 1073741824) (h2 : ∀ v, v < 128 → kd ds v < 1073741824 → v ∈ zs) : refFill r ps zs = fillV r ps ys := by
  rw [refFill_eq hn zs hz]
  exact filled_uniq hn hd (fillV_filled hn hz h1 (fun v a _ c => h2 v a c) h0) (fill_filled hn h0 hp hu)

end Go.Proofs.YtjbglifmppilfaaDoor
namespace Go.Proofs.YtjbglifmppilfaaDoor
open Go.ChangeShapes Go.WideShapes Go.ChangeAt Go.RowKit
set_option linter.unusedVariables false
set_option linter.unusedSimpArgs false
attribute [local go_sem] Og.Opt Og.OpY Oper.semAt_some

theorem size25t (w : World) : (sizeOf 25).run Tryd.prog w = .ok 4 w := by kernel_rfl
theorem isAgg25t (w : World) : (isAgg 25).run Tryd.prog w = .ok true w := by kernel_rfl
theorem pC_map : ∀ ps : List Nat, pC (ps.map pM) = ps.flatMap cM
  | [] => rfl
  | p :: ps => by
    have := pC_map ps
    simp only [List.map_cons, List.flatMap_cons, ← this]
    rfl
theorem oks_r {a : Int} (h : rng 0 127 a = true) : oks a = true := by have := rng_of h; simp [oks]; omega
def treeV (a : Int) (gD gP gH : Nat) : Value := .agg #[.int .i64 a, .slice (some ⟨gD, 0, none⟩) 128 128, .slice (some ⟨gP, 0, none⟩) 128 128, .slice (some ⟨gH, 0, none⟩) 128 128]
set_option maxRecDepth 100000 in
set_option maxHeartbeats 8000000 in
theorem fRun_ok (a : Int) (ka : Nat) (ns : List Nd) (ls : List Lk) (va vb vc : Value) (tr : List Int × List (Int × Int)) (w : World) (g : GX w va vb vc ns ls) (hka : ns[ka]? = some ⟨a⟩) (ht : treeP (viewL ls) a = some tr) :
    Calls Tryd.prog 29 #[.agg #[va, vb, vc], .int .i64 a] w fun e w' => (∃ gD gP gH, e = .returned (.tuple #[treeV a gD gP gH, .int .i64 0]) ∧ w'.heap[gD]? = some (.cells (dC tr.1).toArray 3 (0, 0)) ∧ w'.heap[gP]? = some (.cells (pC tr.2).toArray 35 (0, 0))) ∧ Below w.heap.size w w' := by
  have ha := oks_r (g.rng hka)
  have GG := Lib.hid g
  have HOF := Lib.hid (fun w2 (g : GX w2 va vb vc ns ls) => full_Of_ok ns ls va vb vc w2 g.sa g.sb (by have := g.len; omega) (by have := g.snd.ll; omega) (fun x hx => by
    obtain ⟨i, hi⟩ := List.mem_iff_getElem?.1 hx
    exact oks_r (g.snd.nr i x hi)) (fun l hl => by
    obtain ⟨i, hi⟩ := List.mem_iff_getElem?.1 hl
    obtain ⟨h1, h2, -⟩ := g.snd.lr i l hi
    exact ⟨oks_r (g.snd.at h1), oks_r (g.snd.at h2)⟩))
  have HTR := Lib.hid (fun V vs w2 (H : Vw V w2 vs (viewL ls)) => Tree_ok vs (viewL ls) a tr V w2 H ha ht (fun j xs hx => Nat.le_trans (viewL_small ls j xs hx) (by have := g.snd.ll; omega)))
  have HND := Lib.hid (fun bl w2 (g : GX w2 va vb vc ns ls) (hat : AtL w2 bl 0 (dC [a])) => fnodes_ok [a] ns ls va vb vc bl w2 g hat (by simp) (fun x hx => by
    simp only [List.mem_cons, List.not_mem_nil, or_false] at hx
    rcases hx with rfl
    exact ⟨ka, hka⟩))
  obtain ⟨z, hz⟩ : ∃ z, z = w.heap.size := ⟨_, rfl⟩
  have HZ := Lib.hid hz
  clear g ha hka ht
  go_enter Tryd.func29, Tryd.ntmps29
  go_wp2_with fail
  rw [← hz]
  clear hz
  obtain ⟨wa, hwa⟩ : ∃ wa, wa = (((w.alloc (.cells #[va, vb, vc] 42)).alloc (.cells #[.int .i64 0, .slice none 0 0, .slice none 0 0, .slice none 0 0] 25)).alloc (.cells #[.int .i64 a] 3)) := ⟨_, rfl⟩
  have b1 : Below w.heap.size w wa := by rw [hwa]; exact (((Below.refl _ _).alloc (Nat.le_refl _) _).alloc (by simp) _).alloc (by simp; omega) _
  have k0 : wa.heap[z]? = some (.cells #[va, vb, vc] 42 (0, 0)) := by rw [hwa]; exact heap_keep ((Below.refl _ _).alloc (Nat.le_refl _) _) (heap_keep ((Below.refl _ _).alloc (Nat.le_refl _) _) (heap_at HZ.out))
  have k1 : wa.heap[z + 1]? = some (.cells #[.int .i64 0, .slice none 0 0, .slice none 0 0, .slice none 0 0] 25 (0, 0)) := by rw [hwa]; exact heap_keep ((Below.refl _ _).alloc (Nat.le_refl _) _) (heap_at (by rw [HZ.out]; simp))
  have k2 : AtL wa (z + 1 + 1) 0 (dC [a]) := by rw [hwa]; exact AtL_heap (heap_at (by rw [HZ.out]; simp))
  rw [← hwa]
  clear hwa
  refine (HND.out _ wa (GG.out.below b1) k2).mono ?_
  rintro e w2 ⟨rfl, hb2⟩
  have B2 := Lib.hid (bthen b1 hb2)
  have K2 := heap_keep hb2 k0
  have K21 := Lib.hid (heap_keep hb2 k1)
  have c0 : w2.cell? ⟨z, 0, none⟩ = some va := by rw [cell_of_row w2 _ 0 _ _ _ K2]; rfl
  have c1 : w2.cell? ⟨z, 1, none⟩ = some vb := by rw [cell_of_row w2 _ 1 _ _ _ K2]; rfl
  have c2 : w2.cell? ⟨z, 2, none⟩ = some vc := by rw [cell_of_row w2 _ 2 _ _ _ K2]; rfl
  clear b1 k0 k1 k2 hb2 K2 HND
  go_wp2_with fail
  refine (HOF.out w2 (GG.out.below B2.out)).mono ?_
  rintro e w3 ⟨⟨V, vs, rfl, hV, HV⟩, hb3⟩
  have B3 := Lib.hid (bthen B2.out hb3)
  have HV' := Lib.hid HV
  have K31 := Lib.hid (heap_keep hb3 K21.out)
  clear hb3 HV hV c0 c1 c2 HOF K21
  go_wp2_with fail
  refine (HTR.out V vs w3 HV'.out).mono ?_
  rintro e w4 ⟨⟨gD, gP, gH, rfl, -, -, kD, kP, -, -⟩, hb4⟩
  have B4 := Lib.hid (bthen B3.out hb4)
  have K41 := Lib.hid (heap_keep hb4 K31.out)
  have KD := Lib.hid kD
  have KP := Lib.hid kP
  have ND := Lib.hid (ne_cells kD K41.out (by decide))
  have NP := Lib.hid (ne_cells kP K41.out (by decide))
  clear hb4 kD kP K31
  go_wp2_with (first | (refine wpList_storeN rfl 25 (.tmp 4) (.tmp 18) rfl rfl (z + 1) #[.int .i64 a, .slice (some ⟨gD, 0, none⟩) 128 128, .slice (some ⟨gP, 0, none⟩) 128 128, .slice (some ⟨gH, 0, none⟩) 128 128] rfl rfl 25 _ K41.out info99s rfl (by simp [Value.oneCell']) ?_; intro w9 hz9 hb9 hn9 hs9; have Z9 := Lib.hid hz9; have D9 := Lib.hid (B4.out.trans (hb9 _ (by have := HZ.out; omega))); have KD9 := Lib.hid ((hn9 gD ND.out).trans KD.out); have KP9 := Lib.hid ((hn9 gP NP.out).trans KP.out); clear hz9 hb9 hn9 hs9))
  refine bodyPost_ret (results_cell_tmp1 rfl rfl (run_loadL isAgg25t size25t rfl (AtL_heap Z9.out))) rfl ?_
  exact ⟨⟨gD, gP, gH, rfl, KD9.out, KP9.out⟩, D9.out⟩

/-- a tree as fill leaves it -/
def FT (z : Nat) (a : Nat) (ds : List Int) (ps hs : List Nat) (v : Value) (w : World) : Prop := ∃ (vD vP : Value) (gH : Nat), v = .agg #[.int .i64 (a : Int), vD, vP, .slice (some ⟨gH, 0, none⟩) 128 128] ∧ w.ownsRow z 3 1 vD 128 (ds.flatMap cI) ∧ w.ownsRow z 35 2 vP 128 (ps.flatMap cM) ∧ z ≤ gH ∧ w.heap[gH]? = some (.cells (hs.flatMap cM).toArray 35 (0, 0)) ∧ vP.ownBlock ≠ some gH
theorem FT.below {z a : Nat} {ds : List Int} {ps hs : List Nat} {v : Value} {w w2 : World} (h : FT z a ds ps hs v w) (hb : Below w.heap.size w w2) : FT z a ds ps hs v w2 := by
  obtain ⟨vD, vP, gH, h1, h2, h3, h4, h5, h6⟩ := h
  exact ⟨vD, vP, gH, h1, own_below h2 hb, own_below h3 hb, h4, heap_keep hb h5, h6⟩
set_option maxRecDepth 100000 in
set_option maxHeartbeats 8000000 in
theorem hRun_ok (a ka : Nat) (ns : List Nd) (ls : List Lk) (va vb vc : Value) (ds : List Int) (ps : List Nat) (w : World) (g : GX w va vb vc ns ls) (hka : ns[ka]? = some ⟨(a : Int)⟩) (ht : treeP (viewL ls) (a : Int) = some (ds, ps.map pM)) (ok : dsOk ds) (pl : ps.length = 128) (pb : allM ps) (tb : Tab w) :
    Calls Tryd.prog 16 #[.agg #[va, vb, vc], .int .i64 (a : Int)] w fun e w' => (∃ v ys, e = .returned (.tuple #[v, .int .i64 0]) ∧ FT w.heap.size a ds ps (fillV a ps ys) v w' ∧ ys.Perm (ordX a ds 128) ∧ Up (kd ds) ys 0 ys.length) ∧ Below w.heap.size w w' := by
  have ha : a < 128 := by have := oks_r (g.rng hka); simp only [oks, Bool.and_eq_true, decide_eq_true_eq] at this; omega
  have GG := Lib.hid g
  have HR := Lib.hid (fun w2 (g : GX w2 va vb vc ns ls) => fRun_ok (a : Int) ka ns ls va vb vc (ds, ps.map pM) w2 g hka ht)
  have HF := Lib.hid (fun gD gP (vH : Value) w2 (h1 : vH.oneCell' = true) (kD : w2.heap[gD]? = some (.cells (dC ds).toArray 3 (0, 0))) (kP : w2.heap[gP]? = some (.cells (pC (ps.map pM)).toArray 35 (0, 0))) (tb : Tab w2) => fill_ok a gD 0 128 gP 0 128 ds ps vH w2 h1 (AtL_heap kD) ok (AtL_heap (by rw [← pC_map]; exact kP)) pl pb tb ha)
  have TB := Lib.hid tb
  obtain ⟨z, hz⟩ : ∃ z, z = w.heap.size := ⟨_, rfl⟩
  have HZ := Lib.hid hz
  clear g ha hka ht ok pl pb tb
  go_enter Tryd.func16, Tryd.ntmps16
  go_wp2_with (first | (refine wpList_loadL rfl 42 (.tmp 2) rfl w.heap.size 0 (.agg #[va, vb, vc]) rfl (run_loadL (cs := [va, vb, vc]) isAgg33 size33 rfl (AtL_heap (heap_keep ((Below.refl _ _).alloc (Nat.le_refl _) _) (heap_at rfl)))) ?_))
  rw [← hz]
  clear hz
  obtain ⟨wa, hwa⟩ : ∃ wa, wa = ((w.alloc (.cells #[va, vb, vc] 42)).alloc (.cells #[.int .i64 0, .slice none 0 0, .slice none 0 0, .slice none 0 0] 25)) := ⟨_, rfl⟩
  have b1 : Below w.heap.size w wa := by rw [hwa]; exact ((Below.refl _ _).alloc (Nat.le_refl _) _).alloc (by simp) _
  have k1 : wa.heap[z + 1]? = some (.cells #[.int .i64 0, .slice none 0 0, .slice none 0 0, .slice none 0 0] 25 (0, 0)) := by rw [hwa]; exact heap_at (by rw [HZ.out]; simp)
  rw [← hwa]
  clear hwa
  refine (HR.out wa (GG.out.below b1)).mono ?_
  rintro e w2 ⟨⟨gD, gP, gH, rfl, kD, kP⟩, hb2⟩
  have B2 := Lib.hid (bthen b1 hb2)
  have K21 := Lib.hid (heap_keep hb2 k1)
  have KD := Lib.hid kD
  have KP := Lib.hid kP
  clear b1 k1 hb2 HR kD kP
  unfold treeV
  obtain ⟨gT, hgT⟩ : ∃ gT, gT = w2.heap.size := ⟨_, rfl⟩
  have BT := Lib.hid (show Below w2.heap.size w2 (w2.alloc (.cells #[.int .i64 0, .slice none 0 0, .slice none 0 0, .slice none 0 0] 25)) from (Below.refl _ _).alloc (Nat.le_refl _) _)
  go_wp2_with (first | (refine wpList_storeN rfl 25 (.tmp 6) (.tmp 12) rfl rfl w2.heap.size #[.int .i64 (a : Int), .slice (some ⟨gD, 0, none⟩) 128 128, .slice (some ⟨gP, 0, none⟩) 128 128, .slice (some ⟨gH, 0, none⟩) 128 128] rfl rfl 25 _ (heap_at rfl) info99s rfl (by simp [Value.oneCell']) ?_; intro w9 hz9 hb9 hn9 hs9; have Z9 := Lib.hid hz9; have b9 := below_storeA hb9; have D9 := Lib.hid (bthen B2.out b9); have KD9 := Lib.hid (heap_keep b9 KD.out); have KP9 := Lib.hid (heap_keep b9 KP.out); have K91 := Lib.hid (heap_keep b9 K21.out); clear hz9 hb9 hn9 hs9 b9) | (refine wpList_loadL rfl 25 (.tmp 6) rfl w2.heap.size 0 (.agg #[.int .i64 (a : Int), .slice (some ⟨gD, 0, none⟩) 128 128, .slice (some ⟨gP, 0, none⟩) 128 128, .slice (some ⟨gH, 0, none⟩) 128 128]) rfl (run_loadL (cs := [.int .i64 (a : Int), .slice (some ⟨gD, 0, none⟩) 128 128, .slice (some ⟨gP, 0, none⟩) 128 128, .slice (some ⟨gH, 0, none⟩) 128 128]) isAgg25t size25t rfl (AtL_heap Z9.out)) ?_))
  have S9 := Lib.hid D9.out.size
  refine (HF.out gD gP _ w9 rfl KD9.out KP9.out (TB.out.below D9.out TB.out.size)).mono ?_
  rintro e w3 ⟨vD, vP, gF, ys, rfl, oD, oP, hgF, kF, hne, hys, hup, hb3⟩
  obtain ⟨AD, cD, eD⟩ := own_small oD
  obtain ⟨AP, cP, eP⟩ := own_small oP
  subst eD
  subst eP
  have D3 := Lib.hid (bthen D9.out hb3)
  have K31 := Lib.hid (heap_keep hb3 K91.out)
  have zlt : z + 1 < w9.heap.size := (Array.getElem?_eq_some_iff.1 K91.out).1
  have F3 := Lib.hid (And.intro oD (And.intro oP (And.intro hgF (And.intro kF (And.intro hne (And.intro hys (And.intro hup zlt)))))))
  clear hb3 oD oP hgF kF hne hys hup HF hgT BT zlt
  go_wp2_with (first | (refine wpList_storeN rfl 25 (.tmp 4) (.tmp 19) rfl rfl (z + 1) #[.int .i64 (a : Int), .slice AD 128 cD, .slice AP 128 cP, .slice (some ⟨gF, 0, none⟩) 128 128] rfl rfl 25 _ K31.out info99s rfl (by simp [Value.oneCell']) ?_; intro w5 hz5 hb5 hn5 hs5; have Z5 := Lib.hid hz5; have H5 := Lib.hid hb5; have N5 := Lib.hid hn5; have S5 := Lib.hid hs5; clear hz5 hb5 hn5 hs5))
  refine bodyPost_ret (results_cell_tmp1 rfl rfl (run_loadL isAgg25t size25t rfl (AtL_heap Z5.out))) rfl ?_
  obtain ⟨oD, oP, hgF, kF, hne, hys, hup, zlt⟩ := F3.out
  refine ⟨⟨_, ys, rfl, ?_, hys, hup⟩, D3.out.trans (H5.out _ (by have := HZ.out; omega))⟩
  have h0 := H5.out 0 (Nat.zero_le _)
  have hg5 : w3.grownBy w5 (some (z + 1)) := ⟨h0.os, h0.tape, h0.output, h0.size, fun k _ hn => N5.out k (fun e => hn (by rw [e]))⟩
  have hz : w.heap.size ≤ w9.heap.size := D9.out.size
  exact ⟨_, _, gF, rfl, own_lower (oD.kept hg5 (.inr (ne_own K31.out oD (by decide)))) hz, own_lower (oP.kept hg5 (.inr (ne_own K31.out oP (by decide)))) hz, Nat.le_trans hz hgF, (N5.out gF (ne_cells kF K31.out (by decide))).trans kF, hne⟩

end Go.Proofs.YtjbglifmppilfaaDoor
namespace Go.Proofs.YtjbglifmppilfaaDoor
set_option linter.unusedVariables false
def chB {α : Type} (r : α → α → Bool) : List α → Bool
  | x :: y :: xs => r x y && chB r (y :: xs)
  | _ => true
theorem chB_at {α : Type} {r : α → α → Bool} : ∀ (xs : List α), chB r xs = true → ∀ (i : Nat) x y, xs[i]? = some x → xs[i + 1]? = some y → r x y = true
  | [], _, i, x, y, h, _ => by simp at h
  | [a], _, i, x, y, _, h => by simp at h
  | a :: b :: xs, h, 0, x, y, hx, hy => by
    simp only [chB, Bool.and_eq_true] at h
    simp at hx hy
    subst hx hy
    exact h.1
  | a :: b :: xs, h, i + 1, x, y, hx, hy => by
    simp only [chB, Bool.and_eq_true] at h
    exact chB_at (b :: xs) h.2 i x y (by simpa using hx) (by simpa using hy)
def sndC (ns : List Nd) (ls : List Lk) : Bool :=
  ns.all (fun x => rng 0 127 x.i) && chB (fun x y => decide (x.i < y.i)) ns && decide (ls.length ≤ 2048) &&
  ls.all (fun x => ns.any (fun n => decide (n.i = x.f)) && ns.any (fun n => decide (n.i = x.t)) && !decide (x.f = x.t) && rng 1 65535 x.c && rng 0 65535 x.d) && chB (fun x y => decide (cmpL x y < 0)) ls
theorem sndC_ok {ns : List Nd} {ls : List Lk} (h : sndC ns ls = true) : SndG ns ls [] := by
  unfold sndC at h
  simp only [Bool.and_eq_true, decide_eq_true_eq] at h
  obtain ⟨⟨⟨⟨h1, h2⟩, h3⟩, h4⟩, h5⟩ := h
  refine ⟨fun i x hx => List.all_eq_true.1 h1 x (List.mem_of_getElem? hx), fun i x y hx hy => by simpa using chB_at ns h2 i x y hx hy, h3, fun i x hx => ?_, fun i x y hx hy => by simpa using chB_at ls h5 i x y hx hy, by simp, fun i x hx => by simp at hx, fun i x y hx hy => by simp at hx⟩
  have := List.all_eq_true.1 h4 x (List.mem_of_getElem? hx)
  simp only [Bool.and_eq_true, Bool.not_eq_true', decide_eq_false_iff_not, List.any_eq_true, decide_eq_true_eq] at this
  obtain ⟨⟨⟨⟨a, b⟩, c⟩, d⟩, e⟩ := this
  exact ⟨a, b, c, d, e⟩
/-- the tree's parts, put down at a few nodes -/
def putI (l : List (Nat × Int)) : List Int := l.foldl (fun ds x => ds.set x.1 x.2) (List.replicate 128 1073741824)
def putS (l : List (Nat × Nat)) : List Nat := l.foldl (fun ds x => ds.set x.1 x.2) (List.replicate 128 0)
def dsOkB (ds : List Int) : Bool := ds.length == 128 && ds.all fun d => decide (0 ≤ d) && decide (d ≤ 1073741824)
theorem dsOkB_ok {ds : List Int} (h : dsOkB ds = true) : dsOk ds := by
  unfold dsOkB at h
  simp only [Bool.and_eq_true, List.all_eq_true, beq_iff_eq, decide_eq_true_eq] at h
  exact h
def allMB (ps : List Nat) : Bool := ps.length == 128 && ps.all fun d => decide (d < 2 ^ 128)
theorem allMB_ok {ps : List Nat} (h : allMB ps = true) : ps.length = 128 ∧ allM ps := by
  unfold allMB at h
  simp only [Bool.and_eq_true, List.all_eq_true, beq_iff_eq, decide_eq_true_eq] at h
  exact h
def nearB (ds : List Int) (ps : List Nat) : Bool := (List.range 128).all fun v => (elM (gt ps v)).all fun u => decide (kd ds u.val < kd ds v)
theorem nearB_ok {ds : List Int} {ps : List Nat} (h : nearB ds ps = true) : nearP ds ps := by
  unfold nearB at h
  simp only [List.all_eq_true, List.mem_range, decide_eq_true_eq] at h
  exact fun v hv u hu => h v hv u hu
def filledB (r : Nat) (ds : List Int) (ps hs : List Nat) : Bool := hs.length == 128 && (List.range 128).all fun v => decide (gt hs v = if v ≠ r ∧ kd ds v < 1073741824 then accF r v hs (elM (gt ps v)) else 0)
theorem filledB_ok {r : Nat} {ds : List Int} {ps hs : List Nat} (h : filledB r ds ps hs = true) : FilledP r ds ps hs := by
  unfold filledB at h
  simp only [Bool.and_eq_true, List.all_eq_true, List.mem_range, beq_iff_eq, decide_eq_true_eq] at h
  exact h
theorem kd_nn {ds : List Int} (h : dsOk ds) : ∀ v, 0 ≤ kd ds v := by
  intro v
  unfold kd
  by_cases hv : v < ds.length
  · have e : ds.getD v 0 = ds[v] := by simp [hv]
    rw [e]
    exact (h.2 _ (List.getElem_mem hv)).1
  · have e : ds.getD v 0 = 0 := by simp [List.getD, List.getElem?_eq_none (Nat.le_of_not_lt hv)]
    rw [e]; decide
/-- what fill makes of a tree whose parts the kernel has looked at -/
theorem fill_is {r : Nat} {ds : List Int} {ps hs ys : List Nat} (h1 : nearB ds ps = true) (h2 : filledB r ds ps hs = true) (h3 : gt ps r = 0) (ok : dsOkB ds = true) (hp : ys.Perm (ordX r ds 128)) (hu : Up (kd ds) ys 0 ys.length) : fillV r ps ys = hs :=
  filled_uniq (nearB_ok h1) (kd_nn (dsOkB_ok ok)) (fill_filled (nearB_ok h1) h3 hp hu) (filledB_ok h2)
def ns3 : List Nd := [⟨1⟩, ⟨2⟩, ⟨3⟩]
def ls3 : List Lk := [⟨1, 2, 1, 0⟩, ⟨1, 3, 2, 0⟩, ⟨2, 3, 1, 0⟩]
def ds3 : List Int := putI [(1, 0), (2, 1), (3, 2)]
def ps3 : List Nat := putS [(2, 2), (3, 6)]
def hs3 : List Nat := putS [(2, 4), (3, 12)]
theorem snd3 : SndG ns3 ls3 [] := sndC_ok (by decide +kernel)
theorem tree3 : treeP (viewL ls3) 1 = some (ds3, ps3.map pM) := by decide +kernel
theorem ds3_ok : dsOkB ds3 = true := by decide +kernel
theorem ps3_ok : allMB ps3 = true := by decide +kernel
theorem near3 : nearB ds3 ps3 = true := by decide +kernel
theorem filled3 : filledB 1 ds3 ps3 hs3 = true := by decide +kernel

end Go.Proofs.YtjbglifmppilfaaDoor
namespace Go.Proofs.YtjbglifmppilfaaDoor
set_option linter.unusedVariables false
theorem getD_map_nil {g : Lk → Lk} (xss : List (List Lk)) (i : Nat) : (xss.map fun xs => xs.map g).getD i [] = (xss.getD i []).map g := by
  rw [List.getD_eq_getElem?_getD, List.getD_eq_getElem?_getD, List.getElem?_map]
  cases xss[i]? <;> rfl
theorem setApp (c : Int) (yss : List (List Lk)) (i : Nat) (l : Lk) : (yss.map fun xs => xs.map (scK c)).set i ((yss.map fun xs => xs.map (scK c)).getD i [] ++ [scK c l]) = (yss.set i (yss.getD i [] ++ [l])).map fun xs => xs.map (scK c) := by
  rw [getD_map_nil, List.map_set, List.map_append]
  rfl
theorem addL_sc (c : Int) (xss : List (List Lk)) (l : Lk) : addL (xss.map fun xs => xs.map (scK c)) (scK c l) = (addL xss l).map fun xs => xs.map (scK c) := by
  unfold addL
  have e1 : (scK c l).f = l.f := rfl
  have e2 : (scK c l).t = l.t := rfl
  simp only [e1, e2]
  rw [setApp, setApp]
theorem viewL_sc (c : Int) (ls : List Lk) : viewL (ls.map (scK c)) = (viewL ls).map fun xs => xs.map (scK c) := by
  have key : ∀ (ls : List Lk) (xss : List (List Lk)), (ls.map (scK c)).foldl addL (xss.map fun xs => xs.map (scK c)) = (ls.foldl addL xss).map fun xs => xs.map (scK c) := by
    intro ls
    induction ls with
    | nil => intro xss; rfl
    | cons l ls ih => intro xss; rw [List.map_cons, List.foldl_cons, List.foldl_cons, addL_sc, ih]
  have := key ls (List.replicate 256 [])
  rw [List.map_replicate] at this
  exact this
theorem viewL_in {ls : List Lk} : ∀ xs ∈ viewL ls, ∀ l ∈ xs, l ∈ ls := by
  have hset : ∀ (P : Lk → Prop) (yss : List (List Lk)) (i : Nat) (l : Lk), (∀ xs ∈ yss, ∀ x ∈ xs, P x) → P l → ∀ xs ∈ yss.set i (yss.getD i [] ++ [l]), ∀ x ∈ xs, P x := by
    intro P yss i l hy hl xs hxs x hx
    rcases List.mem_or_eq_of_mem_set hxs with h1 | h1
    · exact hy xs h1 x hx
    · subst h1
      rcases List.mem_append.1 hx with h2 | h2
      · rw [List.getD_eq_getElem?_getD] at h2
        cases e : yss[i]? with
        | none => rw [e] at h2; cases h2
        | some zs => rw [e] at h2; exact hy zs (List.mem_of_getElem? e) x h2
      · rw [List.mem_singleton.1 h2]; exact hl
  have key : ∀ (P : Lk → Prop) (ls : List Lk) (xss : List (List Lk)), (∀ l ∈ ls, P l) → (∀ xs ∈ xss, ∀ x ∈ xs, P x) → ∀ xs ∈ ls.foldl addL xss, ∀ x ∈ xs, P x := by
    intro P ls
    induction ls with
    | nil => intro xss _ h; exact h
    | cons l ls ih =>
      intro xss hl h
      rw [List.foldl_cons]
      refine ih _ (fun x hx => hl x (List.mem_cons_of_mem _ hx)) ?_
      unfold addL
      exact hset P _ _ l (hset P _ _ l h (hl l (List.mem_cons_self ..))) (hl l (List.mem_cons_self ..))
  exact key (fun l => l ∈ ls) ls _ (fun l h => h) (fun xs hxs x hx => by
    rw [List.eq_of_mem_replicate hxs] at hx
    cases hx)

def nsQ : List Nd := [⟨1⟩, ⟨2⟩, ⟨3⟩, ⟨4⟩]
def lsQ (c : Int) : List Lk := [⟨1, 2, c, 0⟩, ⟨1, 3, c, 0⟩, ⟨2, 1, c, 0⟩, ⟨2, 4, c, 0⟩, ⟨3, 1, c, 0⟩, ⟨3, 4, c, 0⟩, ⟨4, 2, c, 0⟩, ⟨4, 3, c, 0⟩]
theorem lsQ_sc (c : Int) : lsQ c = (lsQ 1).map (scK c) := by simp [lsQ, scK]
theorem lsQ_one : ∀ l ∈ lsQ 1, l.c = 1 := by decide
def dU : Nat → List Int
  | 1 => putI [(1, 0), (2, 1), (3, 1), (4, 2)]
  | 2 => putI [(2, 0), (1, 1), (4, 1), (3, 2)]
  | 3 => putI [(3, 0), (1, 1), (4, 1), (2, 2)]
  | _ => putI [(4, 0), (2, 1), (3, 1), (1, 2)]
def pU : Nat → List Nat
  | 1 => putS [(2, 2), (3, 2), (4, 12)]
  | 2 => putS [(1, 4), (4, 4), (3, 18)]
  | 3 => putS [(1, 8), (4, 8), (2, 18)]
  | _ => putS [(2, 16), (3, 16), (1, 12)]
def hU : Nat → List Nat
  | 1 => putS [(2, 4), (3, 8), (4, 12)]
  | 2 => putS [(1, 2), (4, 16), (3, 18)]
  | 3 => putS [(1, 2), (4, 16), (2, 18)]
  | _ => putS [(2, 4), (3, 8), (1, 12)]
def smallB (ds : List Int) : Bool := ds.all fun x => decide (x = 1073741824) || (decide (0 ≤ x) && decide (x ≤ 1001))
def okA (a : Nat) : Bool := treeU (viewL (lsQ 1)) (a : Int) == some (dU a, (pU a).map pM) && nearB (dU a) (pU a) && filledB a (dU a) (pU a) (hU a) && decide (gt (pU a) a = 0) && dsOkB (dU a) && allMB (pU a) && smallB (dU a) && allMB (hU a)
theorem ok1 : okA 1 = true := by decide +kernel
theorem ok2 : okA 2 = true := by decide +kernel
theorem ok3 : okA 3 = true := by decide +kernel
theorem ok4 : okA 4 = true := by decide +kernel
/-- the four nodes -/
def isQ (a : Nat) : Prop := a = 1 ∨ a = 2 ∨ a = 3 ∨ a = 4
theorem okQ {a : Nat} (h : isQ a) : okA a = true := by
  rcases h with rfl | rfl | rfl | rfl
  · exact ok1
  · exact ok2
  · exact ok3
  · exact ok4
structure QF (a : Nat) : Prop where
  tree : treeU (viewL (lsQ 1)) (a : Int) = some (dU a, (pU a).map pM)
  near : nearP (dU a) (pU a)
  fil : FilledP a (dU a) (pU a) (hU a)
  g0 : gt (pU a) a = 0
  ok : dsOk (dU a)
  pl : (pU a).length = 128
  pb : allM (pU a)
  sm : ∀ x ∈ dU a, fnB 1001 x
  hl : (hU a).length = 128
  hb : allM (hU a)
theorem qf {a : Nat} (h : isQ a) : QF a := by
  have := okQ h
  unfold okA at this
  simp only [Bool.and_eq_true, decide_eq_true_eq, beq_iff_eq] at this
  obtain ⟨⟨⟨⟨⟨⟨⟨h1, h2⟩, h3⟩, h4⟩, h5⟩, h6⟩, h7⟩, h8⟩ := this
  refine ⟨h1, nearB_ok h2, filledB_ok h3, h4, dsOkB_ok h5, (allMB_ok h6).1, (allMB_ok h6).2, fun x hx => ?_, (allMB_ok h8).1, (allMB_ok h8).2⟩
  have := List.all_eq_true.1 h7 x hx
  unfold fnB
  simp only [Bool.or_eq_true, Bool.and_eq_true, decide_eq_true_eq] at this
  omega
theorem kd_sL (c : Int) (ds : List Int) (v : Nat) : kd (sL c ds) v = phi c (kd ds v) := sL_getD c ds v
theorem phi_rng {c x : Int} (hc : 1 ≤ c) (hc5 : c ≤ 1000) (h : fnB 1001 x) : 0 ≤ phi c x ∧ phi c x ≤ 1073741824 ∧ (x ≠ 1073741824 → phi c x ≤ 2001000) := by
  rcases h with rfl | ⟨h0, h1⟩
  · rw [phi_inf]; omega
  · have h1' : x ≤ 1001 := h1
    rw [phi_small h0 (by omega)]
    have := mulb hc (x := x) h0 (by omega) hc5
    omega
theorem phi_lt {c x y : Int} (hc : 1 ≤ c) (hc5 : c ≤ 1000) (hx : fnB 1001 x) (hy : fnB 1001 y) : phi c x < phi c y ↔ x < y := by
  rcases hx with rfl | ⟨h0, h1⟩
  · have h2 := phi_rng hc hc5 hy
    rw [phi_inf]
    rcases hy with rfl | ⟨h3, h4⟩
    · rw [phi_inf]
    · have h4' : y ≤ 1001 := h4
      omega
  · have h1' : x ≤ 1001 := h1
    have h2 := phi_rng hc hc5 (.inr ⟨h0, h1⟩ : fnB 1001 x)
    have h3 := h2.2.2 (by omega)
    rcases hy with rfl | ⟨h4, h5⟩
    · rw [phi_inf]; omega
    · have h5' : y ≤ 1001 := h5
      rw [phi_small h0 (by omega), phi_small h4 (by omega)]
      exact Int.mul_lt_mul_left (by omega)
section
variable {c : Int} (hc : 1 ≤ c) (hc5 : c ≤ 1000) {a : Nat} (q : QF a)
include hc hc5 q
omit hc hc5 in
theorem kdS (v : Nat) : fnB 1001 (kd (dU a) v) := fnB_getD q.sm v
theorem nearQ : nearP (sL c (dU a)) (pU a) := fun v hv u hu => by
  rw [kd_sL, kd_sL]
  exact (phi_lt hc hc5 (kdS q _) (kdS q _)).2 (q.near v hv u hu)
theorem infQ (v : Nat) : kd (sL c (dU a)) v < 1073741824 ↔ kd (dU a) v < 1073741824 := by
  have := phi_lt hc hc5 (fnB_getD q.sm v) (show fnB 1001 1073741824 from .inl rfl)
  rw [phi_inf] at this
  rw [kd_sL]
  exact this
theorem filQ : FilledP a (sL c (dU a)) (pU a) (hU a) := by
  refine ⟨q.fil.1, fun v hv => ?_⟩
  rw [q.fil.2 v hv]
  by_cases h : v ≠ a ∧ kd (dU a) v < 1073741824
  · rw [if_pos h, if_pos ⟨h.1, (infQ hc hc5 q v).2 h.2⟩]
  · rw [if_neg h, if_neg (fun e => h ⟨e.1, (infQ hc hc5 q v).1 e.2⟩)]
theorem okQs : dsOk (sL c (dU a)) := by
  refine ⟨by unfold sL; rw [List.length_map]; exact q.ok.1, fun d hd => ?_⟩
  obtain ⟨x, hx, rfl⟩ := List.mem_map.1 hd
  have := phi_rng hc hc5 (q.sm x hx)
  exact ⟨this.1, this.2.1⟩
theorem fill_sq {ys : List Nat} (hp : ys.Perm (ordX a (sL c (dU a)) 128)) (hu : Up (kd (sL c (dU a))) ys 0 ys.length) : fillV a (pU a) ys = hU a :=
  filled_uniq (nearQ hc hc5 q) (kd_nn (okQs hc hc5 q)) (fill_filled (nearQ hc hc5 q) q.g0 hp hu) (filQ hc hc5 q)
theorem treeQ : treeP (viewL (lsQ c)) (a : Int) = some (sL c (dU a), (pU a).map pM) := by
  rw [lsQ_sc, viewL_sc]
  exact treeP_sc hc hc5 _ _ _ _ (fun xs hxs l hl => lsQ_one l (viewL_in xs hxs l hl)) q.tree
end
theorem sndQ1 : SndG nsQ (lsQ 1) [] := sndC_ok (by decide +kernel)
theorem sndQ {c : Int} (hc : 1 ≤ c) (hc5 : c ≤ 1000) : SndG nsQ (lsQ c) [] := by
  have h := sndQ1
  refine ⟨h.nr, h.na, by rw [lsQ_sc c, List.length_map]; exact h.ll, fun i x hx => ?_, fun i x y hx hy => ?_, h.pl, h.pr, h.pa⟩
  · rw [lsQ_sc, List.getElem?_map] at hx
    obtain ⟨u, h1, rfl⟩ := Option.map_eq_some_iff.1 hx
    obtain ⟨a1, a2, a3, -, a5⟩ := h.lr i u h1
    have hone := lsQ_one u (List.mem_of_getElem? h1)
    refine ⟨a1, a2, a3, ?_, a5⟩
    simp only [scK, hone, Int.mul_one, rng, Bool.and_eq_true, decide_eq_true_eq]
    omega
  · rw [lsQ_sc, List.getElem?_map] at hx hy
    obtain ⟨u, h1, rfl⟩ := Option.map_eq_some_iff.1 hx
    obtain ⟨v, h2, rfl⟩ := Option.map_eq_some_iff.1 hy
    exact h.la i u v h1 h2
end Go.Proofs.YtjbglifmppilfaaDoor
