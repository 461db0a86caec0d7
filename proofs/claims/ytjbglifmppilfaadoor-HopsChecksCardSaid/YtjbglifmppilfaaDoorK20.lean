/- copyTree; conditions as stated. Check of any tree; conditions as stated. The reference: Check of any tree; conditions as stated. -/
import Derived.Test.YtjbglifmppilfaaDoorK19
import Derived.Test.YtjbglifmppilfaaDoorK17
import Derived.RangeFuncNested
import Derived.RangeFuncBound
import Derived.RangeFuncCalls
import Derived.RangeFuncLeaves
import Derived.Shelf.Abstract
import Derived.Shelf.RegionOpen
import Derived.WalkKit
import Derived.OwnWalkIn
import Derived.TacticsInMore
import Derived.LoopNIn
import Derived.LoopIn
namespace Go.Proofs.YtjbglifmppilfaaDoor
open Go.ChangeShapes Go.WideShapes Go.ChangeAt Go.RowKit
set_option linter.unusedVariables false
set_option linter.unusedSimpArgs false
attribute [local go_sem] Og.Opt Og.OpY Oper.semAt_some

/-- an empty row, just made -/
def IsEr (W : World) (ty : TypeId) (v : Value) (w : World) : Prop := ∃ g, v = .slice (some ⟨g, 0, none⟩) 0 0 ∧ W.heap.size ≤ g ∧ w.heap[g]? = some (.cells #[] ty (0, 0))
theorem IsEr.keep {W : World} {ty : TypeId} (v : Value) (w w2 : World) (hb : Below w.heap.size w w2) (h : IsEr W ty v w) : IsEr W ty v w2 := by
  obtain ⟨g, h1, h2, h3⟩ := h
  exact ⟨g, h1, h2, heap_keep hb h3⟩
/-- a tree of rows that the call has made -/
def IsTr (W : World) (r : Int) (ds : List Int) (ps hs : List Nat) (v : Value) (w : World) : Prop := ∃ vD vP vH, v = .agg #[.int .i64 r, vD, vP, vH] ∧ w.ownsRow W.heap.size 3 1 vD ds.length (ds.flatMap cI) ∧ w.ownsRow W.heap.size 35 2 vP ps.length (ps.flatMap cM) ∧ w.ownsRow W.heap.size 35 2 vH hs.length (hs.flatMap cM)
theorem IsTr.keep {W : World} {r : Int} {ds : List Int} {ps hs : List Nat} (v : Value) (w w2 : World) (hb : Below w.heap.size w w2) (h : IsTr W r ds ps hs v w) : IsTr W r ds ps hs v w2 := by
  obtain ⟨vD, vP, vH, h1, h2, h3, h4⟩ := h
  exact ⟨vD, vP, vH, h1, own_below h2 hb, own_below h3 hb, own_below h4 hb⟩
set_option maxRecDepth 100000 in
set_option maxHeartbeats 4000000 in
theorem copy_ok (w : World) (x : Value) (r : Int) (ds : List Int) (ps hs : List Nat) (X : TV w x r ds ps hs) :
    Calls Tryd.prog 6 #[x] w fun e w' => (∃ vD vP vH, e = .returned (.agg #[.int .i64 r, vD, vP, vH]) ∧ w'.ownsRow w.heap.size 3 1 vD ds.length (ds.flatMap cI) ∧ w'.ownsRow w.heap.size 35 2 vP ps.length (ps.flatMap cM) ∧ w'.ownsRow w.heap.size 35 2 vH hs.length (hs.flatMap cM)) ∧ Below w.heap.size w w' := by
  obtain ⟨_, _, _, rfl, ⟨A, c, rfl, h1, n1, -⟩, ⟨B, d, rfl, h2, n2, -⟩, ⟨C, f, rfl, h3, n3, -⟩⟩ := X.e
  obtain ⟨W, hW⟩ : ∃ W, W = (w.alloc (Obj.cells #[.int .i64 r, .slice A ds.length c, .slice B ps.length d, .slice C hs.length f] 25)).alloc (Obj.cells #[.int .i64 0, .slice none 0 0, .slice none 0 0, .slice none 0 0] 25) := ⟨_, rfl⟩
  obtain ⟨z, hz⟩ : ∃ z, z = w.heap.size := ⟨_, rfl⟩
  have BW := Lib.hid (show Below w.heap.size w W by rw [hW]; exact ((Below.refl _ _).alloc (Nat.le_refl _) _).alloc (by simp) _)
  have K1 := Lib.hid (show W.heap[z]? = some (.cells #[.int .i64 r, .slice A ds.length c, .slice B ps.length d, .slice C hs.length f] 25 (0, 0)) by rw [hW]; exact heap_keep ((Below.refl _ _).alloc (Nat.le_refl _) _) (heap_at hz))
  have K2 := Lib.hid (show W.heap[z + 1]? = some (.cells #[.int .i64 0, .slice none 0 0, .slice none 0 0, .slice none 0 0] 25 (0, 0)) by rw [hW]; exact heap_at (by rw [hz]; simp))
  have ZW := Lib.hid (show z = w.heap.size ∧ W.heap.size = z + 2 from ⟨hz, by rw [hW, hz]; simp⟩)
  have NN := Lib.hid (show (A = none → c = 0) ∧ (B = none → d = 0) ∧ (C = none → f = 0) from ⟨n1, n2, n3⟩)
  have HRR := Lib.hid (show ∀ w2, Below W.heap.size W w2 → Rd cI 1 w2 A ds ∧ Rd cM 2 w2 B ps ∧ Rd cM 2 w2 C hs from fun w2 hb => ⟨(h1.below BW.out).below hb, (h2.below BW.out).below hb, (h3.below BW.out).below hb⟩)
  have HLL := Lib.hid (show (ds.length ≤ maxLen ∧ ds.length * 8 ≤ 140737488355328) ∧ (ps.length ≤ maxLen ∧ ps.length * 16 ≤ 140737488355328) ∧ (hs.length ≤ maxLen ∧ hs.length * 16 ≤ 140737488355328) from by
    have e1 := X.dn; have e2 := X.pn; have e3 := X.hn; unfold maxLen
    exact ⟨⟨by omega, e1⟩, ⟨by omega, e2⟩, ⟨by omega, e3⟩⟩)
  have HC := Lib.hid (show ∀ w2, Below W.heap.size W w2 → w2.cell? ⟨z, 0, none⟩ = some (.int .i64 r) ∧ w2.cell? ⟨z, 1, none⟩ = some (.slice A ds.length c) ∧ w2.cell? ⟨z, 2, none⟩ = some (.slice B ps.length d) ∧ w2.cell? ⟨z, 3, none⟩ = some (.slice C hs.length f) from fun w2 hb => by
    have k := heap_keep hb K1.out
    exact ⟨by rw [cell_of_row w2 _ 0 _ _ _ k]; rfl, by rw [cell_of_row w2 _ 1 _ _ _ k]; rfl, by rw [cell_of_row w2 _ 2 _ _ _ k]; rfl, by rw [cell_of_row w2 _ 3 _ _ _ k]; rfl⟩)
  obtain ⟨nd, hnd⟩ : ∃ n, n = ds.length := ⟨_, rfl⟩
  obtain ⟨np, hnp⟩ : ∃ n, n = ps.length := ⟨_, rfl⟩
  obtain ⟨nh, hnh⟩ : ∃ n, n = hs.length := ⟨_, rfl⟩
  clear h1 h2 h3 n1 n2 n3 X hnd hnp hnh nd np nh
  go_enter Tryd.func6, Tryd.ntmps6
  go_wp2_with fail
  rw [← hW, ← hz]
  clear hW hz
  refine Og.Joint2.walk_lit 15 [[],[0],[],[],[3],[2,4,3],[],[],[7],[6,8,5,7,2,4,3],[],[],[11],[10,12,9,11,6,8,5,7,2,4,3],[1,5,9,13,0,2,4,3,6,8,7,10,12,11],[14,13,0,1,2,3,4,5,6,7,8,9,10,11,12]] (fun _ _ w2 => Below W.heap.size W w2) (fun w1 w2 => Below w1.heap.size w1 w2) (by kernel_rfl) (by kernel_rfl) (by kernel_rfl) (fun vs => bdrew) ?_
  simp only [List.take_succ_cons, List.take_zero, List.drop_succ_cons, List.drop_zero]
  iterate 2 (refine Og.Joint2.step_pureP (fun p vs v w h => h) (fun _ => Below.refl _ _) ?_; apply Exists.intro; refine And.intro ?_ ?_; focus (intro p vs w2 hp hC hk; have hm := HC.out w2 hC; refine Og.OptB.mk ?_; revert hk; simp only [Og.KS, Og.K0, Og.Is, List.getD_cons_zero, List.getD_cons_succ, List.getD_nil, List.contains_cons, List.contains_nil, Nat.reduceAdd, Nat.reduceBEq, Bool.or_false, Bool.false_or, Bool.or_true, Bool.true_or, Bool.false_eq_true, false_implies, true_implies, true_and, and_true, forall_const]; intros; go_simp; rfl))
  refine Og.Joint2.step_any (IsEr W 3) IsEr.keep ?_ ?_; focus (intro p vs w2 hp hC hk; refine Og.OptB.mk ?_; revert hk; simp only [Og.KS, Og.K0, Og.Is, List.getD_cons_zero, List.getD_cons_succ, List.getD_nil, List.contains_cons, List.contains_nil, Nat.reduceAdd, Nat.reduceBEq, Bool.or_false, Bool.false_or, Bool.or_true, Bool.true_or, Bool.false_eq_true, false_implies, true_implies, true_and, and_true, forall_const]; intros; go_simp; exact ⟨bthen hC ((Below.refl _ _).alloc (Nat.le_refl _) _), (Below.refl _ _).alloc (Nat.le_refl _) _, _, rfl, hC.size, heap_at rfl⟩)
  iterate 2 (refine Og.Joint2.step_pureP (fun p vs v w h => h) (fun _ => Below.refl _ _) ?_; apply Exists.intro; refine And.intro ?_ ?_; focus (intro p vs w2 hp hC hk; have hm := HC.out w2 hC; refine Og.OptB.mk ?_; revert hk; simp only [Og.KS, Og.K0, Og.Is, List.getD_cons_zero, List.getD_cons_succ, List.getD_nil, List.contains_cons, List.contains_nil, Nat.reduceAdd, Nat.reduceBEq, Bool.or_false, Bool.false_or, Bool.or_true, Bool.true_or, Bool.false_eq_true, false_implies, true_implies, true_and, and_true, forall_const]; intros; go_simp; rfl))
  refine Og.Joint2.step_any (fun v w5 => w5.ownsRow W.heap.size 3 1 v ds.length (ds.flatMap cI)) (fun v w w2 hb h => own_below h hb) ?_ ?_; focus (intro p vs w2 hp hC hk; have hr := HRR.out w2 hC; have hl := HLL.out; simp only [Og.KS, Og.K0, Og.Is, List.getD_cons_zero, List.getD_cons_succ, List.getD_nil, List.contains_cons, List.contains_nil, Nat.reduceAdd, Nat.reduceBEq, Bool.or_false, Bool.false_or, Bool.or_true, Bool.true_or, Bool.false_eq_true, false_implies, true_implies, true_and, and_true, forall_const] at hk; obtain ⟨e1, -, hE⟩ := hk; obtain ⟨g, e0, hg, kg⟩ := hE; refine opt_spreadB cI 1 22 3 8 cI_len cI_one (by omega) Tryd.underlying22 cinfo3 rfl (by go_simp) (.tmp 5) (.tmp 7) rfl W.heap.size g A c ds (by go_simp) (by go_simp) kg hg hC.size hr.1 NN.out.1 hl.1.1 hl.1.2 ?_; intro v' w' ho hb; exact ⟨bthen hC hb, hb, ho⟩)
  refine Og.Joint2.step_any (IsEr W 35) IsEr.keep ?_ ?_; focus (intro p vs w2 hp hC hk; refine Og.OptB.mk ?_; revert hk; simp only [Og.KS, Og.K0, Og.Is, List.getD_cons_zero, List.getD_cons_succ, List.getD_nil, List.contains_cons, List.contains_nil, Nat.reduceAdd, Nat.reduceBEq, Bool.or_false, Bool.false_or, Bool.or_true, Bool.true_or, Bool.false_eq_true, false_implies, true_implies, true_and, and_true, forall_const]; intros; go_simp; exact ⟨bthen hC ((Below.refl _ _).alloc (Nat.le_refl _) _), (Below.refl _ _).alloc (Nat.le_refl _) _, _, rfl, hC.size, heap_at rfl⟩)
  iterate 2 (refine Og.Joint2.step_pureP (fun p vs v w h => h) (fun _ => Below.refl _ _) ?_; apply Exists.intro; refine And.intro ?_ ?_; focus (intro p vs w2 hp hC hk; have hm := HC.out w2 hC; refine Og.OptB.mk ?_; revert hk; simp only [Og.KS, Og.K0, Og.Is, List.getD_cons_zero, List.getD_cons_succ, List.getD_nil, List.contains_cons, List.contains_nil, Nat.reduceAdd, Nat.reduceBEq, Bool.or_false, Bool.false_or, Bool.or_true, Bool.true_or, Bool.false_eq_true, false_implies, true_implies, true_and, and_true, forall_const]; intros; go_simp; rfl))
  refine Og.Joint2.step_any (fun v w5 => w5.ownsRow W.heap.size 35 2 v ps.length (ps.flatMap cM)) (fun v w w2 hb h => own_below h hb) ?_ ?_; focus (intro p vs w2 hp hC hk; have hr := HRR.out w2 hC; have hl := HLL.out; simp only [Og.KS, Og.K0, Og.Is, List.getD_cons_zero, List.getD_cons_succ, List.getD_nil, List.contains_cons, List.contains_nil, Nat.reduceAdd, Nat.reduceBEq, Bool.or_false, Bool.false_or, Bool.or_true, Bool.true_or, Bool.false_eq_true, false_implies, true_implies, true_and, and_true, forall_const] at hk; obtain ⟨e1, -, hE, -⟩ := hk; obtain ⟨g, e0, hg, kg⟩ := hE; refine opt_spreadB cM 2 23 35 16 cM_len cM_one (by omega) Tryd.underlying23 cinfo25 rfl (by go_simp) (.tmp 9) (.tmp 11) rfl W.heap.size g B d ps (by go_simp) (by go_simp) kg hg hC.size hr.2.1 NN.out.2.1 hl.2.1.1 hl.2.1.2 ?_; intro v' w' ho hb; exact ⟨bthen hC hb, hb, ho⟩)
  refine Og.Joint2.step_any (IsEr W 35) IsEr.keep ?_ ?_; focus (intro p vs w2 hp hC hk; refine Og.OptB.mk ?_; revert hk; simp only [Og.KS, Og.K0, Og.Is, List.getD_cons_zero, List.getD_cons_succ, List.getD_nil, List.contains_cons, List.contains_nil, Nat.reduceAdd, Nat.reduceBEq, Bool.or_false, Bool.false_or, Bool.or_true, Bool.true_or, Bool.false_eq_true, false_implies, true_implies, true_and, and_true, forall_const]; intros; go_simp; exact ⟨bthen hC ((Below.refl _ _).alloc (Nat.le_refl _) _), (Below.refl _ _).alloc (Nat.le_refl _) _, _, rfl, hC.size, heap_at rfl⟩)
  iterate 2 (refine Og.Joint2.step_pureP (fun p vs v w h => h) (fun _ => Below.refl _ _) ?_; apply Exists.intro; refine And.intro ?_ ?_; focus (intro p vs w2 hp hC hk; have hm := HC.out w2 hC; refine Og.OptB.mk ?_; revert hk; simp only [Og.KS, Og.K0, Og.Is, List.getD_cons_zero, List.getD_cons_succ, List.getD_nil, List.contains_cons, List.contains_nil, Nat.reduceAdd, Nat.reduceBEq, Bool.or_false, Bool.false_or, Bool.or_true, Bool.true_or, Bool.false_eq_true, false_implies, true_implies, true_and, and_true, forall_const]; intros; go_simp; rfl))
  refine Og.Joint2.step_any (fun v w5 => w5.ownsRow W.heap.size 35 2 v hs.length (hs.flatMap cM)) (fun v w w2 hb h => own_below h hb) ?_ ?_; focus (intro p vs w2 hp hC hk; have hr := HRR.out w2 hC; have hl := HLL.out; simp only [Og.KS, Og.K0, Og.Is, List.getD_cons_zero, List.getD_cons_succ, List.getD_nil, List.contains_cons, List.contains_nil, Nat.reduceAdd, Nat.reduceBEq, Bool.or_false, Bool.false_or, Bool.or_true, Bool.true_or, Bool.false_eq_true, false_implies, true_implies, true_and, and_true, forall_const] at hk; obtain ⟨e1, -, hE, -⟩ := hk; obtain ⟨g, e0, hg, kg⟩ := hE; refine opt_spreadB cM 2 23 35 16 cM_len cM_one (by omega) Tryd.underlying23 cinfo25 rfl (by go_simp) (.tmp 13) (.tmp 15) rfl W.heap.size g C f hs (by go_simp) (by go_simp) kg hg hC.size hr.2.2 NN.out.2.2 hl.2.2.1 hl.2.2.2 ?_; intro v' w' ho hb; exact ⟨bthen hC hb, hb, ho⟩)
  refine Og.Joint2.step_any (IsTr W r ds ps hs) IsTr.keep ?_ ?_; focus (intro p vs w2 hp hC hk; refine Og.OptB.mk ?_; simp only [Og.KS, Og.K0, Og.Is, List.getD_cons_zero, List.getD_cons_succ, List.getD_nil, List.contains_cons, List.contains_nil, Nat.reduceAdd, Nat.reduceBEq, Bool.or_false, Bool.false_or, Bool.or_true, Bool.true_or, Bool.false_eq_true, false_implies, true_implies, true_and, and_true, forall_const] at hk; obtain ⟨h13, h12, h11, h10, h9, h8, h7, h6, h5, h4, h3, h2, h1, h0⟩ := hk; obtain ⟨A5, c5, e5⟩ := own_small h5; obtain ⟨A9, c9, e9⟩ := own_small h9; obtain ⟨A13, c13, e13⟩ := own_small h13; rw [e5] at h5; rw [e9] at h9; rw [e13] at h13; have HH := Lib.hid (And.intro hC (And.intro h5 (And.intro h9 h13))); clear hC h5 h9 h13; go_simp; exact ⟨HH.out.1, Below.refl _ _, _, _, _, rfl, HH.out.2.1, HH.out.2.2.1, HH.out.2.2.2⟩)
  intro p vs w5 hC0 hC hk
  have B5 := Lib.hid hC
  simp only [Og.KS, Og.K0, Og.Is, List.getD_cons_zero, List.getD_cons_succ, List.getD_nil, List.contains_cons, List.contains_nil, Nat.reduceAdd, Nat.reduceBEq, Bool.or_false, Bool.false_or, Bool.or_true, Bool.true_or, Bool.false_eq_true, false_implies, true_implies, true_and, and_true, forall_const] at hk
  obtain ⟨⟨vD, vP, vH, e14, oD, oP, oH⟩, h13, h12, h11, h10, h9, h8, h7, h6, h5, h4, h3, h2, h1, h0⟩ := hk
  have oo := Lib.hid (And.intro oD (And.intro oP oH))
  have O1 : Hid (vD.oneCell' = true ∧ vP.oneCell' = true ∧ vH.oneCell' = true) := Lib.hid (by
    obtain ⟨_, _, e1⟩ := own_small oD
    obtain ⟨_, _, e2⟩ := own_small oP
    obtain ⟨_, _, e3⟩ := own_small oH
    rw [e1, e2, e3]
    exact ⟨rfl, rfl, rfl⟩)
  simp only [e14, h12, h11, h10, h8, h7, h6, h4, h3, h2, h1, h0, Act.put, List.setIfInBounds_toArray, List.set_cons_zero, List.set_cons_succ]
  clear hC hC0 e14 h13 h12 h11 h10 h9 h8 h7 h6 h5 h4 h3 h2 h1 h0 oD oP oH
  go_wp2_with (refine wpList_storeN rfl 25 (.tmp 2) (.tmp 17) rfl rfl (z + 1) #[.int .i64 r, vD, vP, vH] rfl rfl 25 _ (heap_keep B5.out K2.out) info99s rfl (by simp [O1.out, show (Value.int IntKind.i64 r).oneCell' = true from rfl]) ?_; intro w6 hz6 hb6 hn6 hs6)
  have B6 := Lib.hid (show Below w.heap.size w w6 from (bthen BW.out B5.out).trans (hb6 _ (by have := ZW.out.1; omega)))
  have G6 : Hid (w5.grownBy w6 (some (z + 1))) := Lib.hid (by
    have b := hb6 0 (Nat.zero_le _)
    exact ⟨b.os, b.tape, b.output, b.size, fun k _ hne => hn6 k (fun e => hne (by rw [e]))⟩)
  have KP := Lib.hid (show ∀ (ty m n : Nat) (v : Value) (xs : List Value), w5.ownsRow W.heap.size ty m v n xs → w6.ownsRow w.heap.size ty m v n xs from fun ty m n v xs h => own_lower (h.kept G6.out (by
    cases hv : v.ownBlock with
    | none => exact .inl rfl
    | some k => exact .inr (fun e => by have h1 := (h.lt k hv).1; have h2 := ZW.out.2; have := Option.some.inj e; omega))) (by have := BW.out.size; omega))
  have L6 := Lib.hid (run_loadL (cs := [.int .i64 r, vD, vP, vH]) isAgg99 size99 rfl (AtL_heap hz6))
  clear hz6 hb6 hn6 hs6
  refine bodyPost_ret (results_cell1 rfl rfl L6.out) rfl ?_
  exact ⟨⟨_, _, _, rfl, KP.out _ _ _ _ _ oo.out.1, KP.out _ _ _ _ _ oo.out.2.1, KP.out _ _ _ _ _ oo.out.2.2⟩, B6.out⟩

end Go.Proofs.YtjbglifmppilfaaDoor
namespace Go.Proofs.YtjbglifmppilfaaDoor
open Go.ChangeShapes Go.WideShapes Go.ChangeAt Go.RowKit
set_option linter.unusedVariables false
set_option linter.unusedSimpArgs false
attribute [local go_sem] Og.Opt Og.OpY Oper.semAt_some

/-- what Check asks of a tree -/
def goodT (r : Int) (ds : List Int) (ps hs : List Nat) : Prop := ds.length = 128 ∧ ps.length = 128 ∧ hs.length = 128 ∧ 0 ≤ r ∧ r < 128 ∧ soundT r ds ps
open Classical in
/-- what Check answers -/
noncomputable def codeT (r : Int) (ds : List Int) (ps hs : List Nat) : Int := if goodT r ds ps hs then 0 else 1
theorem codeT0 {r : Int} {ds : List Int} {ps hs : List Nat} (h : goodT r ds ps hs) : codeT r ds ps hs = 0 := by unfold codeT; rw [if_pos h]
theorem codeT1 {r : Int} {ds : List Int} {ps hs : List Nat} (h : ¬ goodT r ds ps hs) : codeT r ds ps hs = 1 := by unfold codeT; rw [if_neg h]
theorem body9_eq : Tryd.f9.body = some ((sub1 body9).seq ((sub1 (sub2 body9)).seq tail9)) := by kernel_rfl

set_option maxRecDepth 100000 in
set_option maxHeartbeats 4000000 in
theorem chk_e1 (r : Int) (n m k : Nat) (c d f : Nat) (A B C : Option Addr) (w : World) (h1 : ¬ (n : Int) = 128) :
    Calls Tryd.prog 9 #[.agg #[.int .i64 r, .slice A n c, .slice B m d, .slice C k f]] w fun e w' => e = .returned (.int .i64 1) ∧ Below w.heap.size w w' := by
  refine (callsIn_wide (n := 8)).1 (callsIn_of_wp_marks Tryd.func9 body9_eq trivial ((wpIn_wide).2 ?_) rfl)
  simp only [Tryd.ntmps9, List.size_toArray, List.length_cons, List.length_nil, Nat.reduceAdd, Nat.reduceSub, Array.replicate_succ, Array.replicate_zero, List.push_toArray, List.append_toArray, List.nil_append, List.cons_append]
  simp only [body9, Tryd.f9, sub1, sub2]
  go_wp2_with fail
  refine leaves_marksD (w.heap.size + 2) (fun w9 => w9.heap[w.heap.size + 1]? = some (.cells #[.int .i64 1] 28 (0, 0)) ∧ Below w.heap.size w w9) (fun w D hBD hD hk => ?_) (fun w9 hk => ?_) [] _ List.nodup_nil (by simp) ?_
  · exact ⟨by rw [putObj_other (by omega)]; exact hk.1, hk.2.trans ⟨rfl, rfl, rfl, by simp [World.putObj], fun j hj => putObj_other (by omega)⟩⟩
  · exact ⟨_, results_cell1 rfl rfl (run_load1 nagg28 (by rw [cell_of_row w9 _ 0 _ _ _ hk.1]; rfl)), rfl, hk.2⟩
  · exact ⟨heap_at (by simp), ((Below.refl _ _).alloc (Nat.le_refl _) _).alloc (by simp) _⟩

set_option maxRecDepth 100000 in
set_option maxHeartbeats 4000000 in
theorem chk_e2 (r : Int) (m k : Nat) (c d f : Nat) (A B C : Option Addr) (w : World) (h1 : ¬ (m : Int) = 128) :
    Calls Tryd.prog 9 #[.agg #[.int .i64 r, .slice A 128 c, .slice B m d, .slice C k f]] w fun e w' => e = .returned (.int .i64 1) ∧ Below w.heap.size w w' := by
  refine (callsIn_wide (n := 8)).1 (callsIn_of_wp_marks Tryd.func9 body9_eq trivial ((wpIn_wide).2 ?_) rfl)
  simp only [Tryd.ntmps9, List.size_toArray, List.length_cons, List.length_nil, Nat.reduceAdd, Nat.reduceSub, Array.replicate_succ, Array.replicate_zero, List.push_toArray, List.append_toArray, List.nil_append, List.cons_append]
  simp only [body9, Tryd.f9, sub1, sub2]
  go_wp2_with fail
  refine leaves_marksD (w.heap.size + 2) (fun w9 => w9.heap[w.heap.size + 1]? = some (.cells #[.int .i64 1] 28 (0, 0)) ∧ Below w.heap.size w w9) (fun w D hBD hD hk => ?_) (fun w9 hk => ?_) [] _ List.nodup_nil (by simp) ?_
  · exact ⟨by rw [putObj_other (by omega)]; exact hk.1, hk.2.trans ⟨rfl, rfl, rfl, by simp [World.putObj], fun j hj => putObj_other (by omega)⟩⟩
  · exact ⟨_, results_cell1 rfl rfl (run_load1 nagg28 (by rw [cell_of_row w9 _ 0 _ _ _ hk.1]; rfl)), rfl, hk.2⟩
  · exact ⟨heap_at (by simp), ((Below.refl _ _).alloc (Nat.le_refl _) _).alloc (by simp) _⟩

set_option maxRecDepth 100000 in
set_option maxHeartbeats 4000000 in
theorem chk_e3 (r : Int) (k : Nat) (c d f : Nat) (A B C : Option Addr) (w : World) (h1 : ¬ (k : Int) = 128) :
    Calls Tryd.prog 9 #[.agg #[.int .i64 r, .slice A 128 c, .slice B 128 d, .slice C k f]] w fun e w' => e = .returned (.int .i64 1) ∧ Below w.heap.size w w' := by
  refine (callsIn_wide (n := 8)).1 (callsIn_of_wp_marks Tryd.func9 body9_eq trivial ((wpIn_wide).2 ?_) rfl)
  simp only [Tryd.ntmps9, List.size_toArray, List.length_cons, List.length_nil, Nat.reduceAdd, Nat.reduceSub, Array.replicate_succ, Array.replicate_zero, List.push_toArray, List.append_toArray, List.nil_append, List.cons_append]
  simp only [body9, Tryd.f9, sub1, sub2]
  go_wp2_with fail
  refine leaves_marksD (w.heap.size + 2) (fun w9 => w9.heap[w.heap.size + 1]? = some (.cells #[.int .i64 1] 28 (0, 0)) ∧ Below w.heap.size w w9) (fun w D hBD hD hk => ?_) (fun w9 hk => ?_) [] _ List.nodup_nil (by simp) ?_
  · exact ⟨by rw [putObj_other (by omega)]; exact hk.1, hk.2.trans ⟨rfl, rfl, rfl, by simp [World.putObj], fun j hj => putObj_other (by omega)⟩⟩
  · exact ⟨_, results_cell1 rfl rfl (run_load1 nagg28 (by rw [cell_of_row w9 _ 0 _ _ _ hk.1]; rfl)), rfl, hk.2⟩
  · exact ⟨heap_at (by simp), ((Below.refl _ _).alloc (Nat.le_refl _) _).alloc (by simp) _⟩

set_option maxRecDepth 100000 in
set_option maxHeartbeats 4000000 in
theorem chk_e4 (r : Int) (c d f : Nat) (A B C : Option Addr) (w : World) (h1 : r < 0) :
    Calls Tryd.prog 9 #[.agg #[.int .i64 r, .slice A 128 c, .slice B 128 d, .slice C 128 f]] w fun e w' => e = .returned (.int .i64 1) ∧ Below w.heap.size w w' := by
  refine (callsIn_wide (n := 8)).1 (callsIn_of_wp_marks Tryd.func9 body9_eq trivial ((wpIn_wide).2 ?_) rfl)
  simp only [Tryd.ntmps9, List.size_toArray, List.length_cons, List.length_nil, Nat.reduceAdd, Nat.reduceSub, Array.replicate_succ, Array.replicate_zero, List.push_toArray, List.append_toArray, List.nil_append, List.cons_append]
  simp only [body9, Tryd.f9, sub1, sub2]
  go_wp2_with fail
  refine leaves_marksD (w.heap.size + 2) (fun w9 => w9.heap[w.heap.size + 1]? = some (.cells #[.int .i64 1] 28 (0, 0)) ∧ Below w.heap.size w w9) (fun w D hBD hD hk => ?_) (fun w9 hk => ?_) [] _ List.nodup_nil (by simp) ?_
  · exact ⟨by rw [putObj_other (by omega)]; exact hk.1, hk.2.trans ⟨rfl, rfl, rfl, by simp [World.putObj], fun j hj => putObj_other (by omega)⟩⟩
  · exact ⟨_, results_cell1 rfl rfl (run_load1 nagg28 (by rw [cell_of_row w9 _ 0 _ _ _ hk.1]; rfl)), rfl, hk.2⟩
  · exact ⟨heap_at (by simp), ((Below.refl _ _).alloc (Nat.le_refl _) _).alloc (by simp) _⟩

set_option maxRecDepth 100000 in
set_option maxHeartbeats 4000000 in
theorem chk_e5 (r : Int) (c d f : Nat) (A B C : Option Addr) (w : World) (h1 : ¬ r < 0) (h2 : 128 ≤ r) :
    Calls Tryd.prog 9 #[.agg #[.int .i64 r, .slice A 128 c, .slice B 128 d, .slice C 128 f]] w fun e w' => e = .returned (.int .i64 1) ∧ Below w.heap.size w w' := by
  refine (callsIn_wide (n := 8)).1 (callsIn_of_wp_marks Tryd.func9 body9_eq trivial ((wpIn_wide).2 ?_) rfl)
  simp only [Tryd.ntmps9, List.size_toArray, List.length_cons, List.length_nil, Nat.reduceAdd, Nat.reduceSub, Array.replicate_succ, Array.replicate_zero, List.push_toArray, List.append_toArray, List.nil_append, List.cons_append]
  simp only [body9, Tryd.f9, sub1, sub2]
  go_wp2_with fail
  refine leaves_marksD (w.heap.size + 2) (fun w9 => w9.heap[w.heap.size + 1]? = some (.cells #[.int .i64 1] 28 (0, 0)) ∧ Below w.heap.size w w9) (fun w D hBD hD hk => ?_) (fun w9 hk => ?_) [] _ List.nodup_nil (by simp) ?_
  · exact ⟨by rw [putObj_other (by omega)]; exact hk.1, hk.2.trans ⟨rfl, rfl, rfl, by simp [World.putObj], fun j hj => putObj_other (by omega)⟩⟩
  · exact ⟨_, results_cell1 rfl rfl (run_load1 nagg28 (by rw [cell_of_row w9 _ 0 _ _ _ hk.1]; rfl)), rfl, hk.2⟩
  · exact ⟨heap_at (by simp), ((Below.refl _ _).alloc (Nat.le_refl _) _).alloc (by simp) _⟩

set_option maxRecDepth 100000 in
set_option maxHeartbeats 4000000 in
theorem chk_main (r : Int) (gd od cd gp op cp f : Nat) (C : Option Addr) (ds : List Int) (ps hs : List Nat) (w : World) (h1 : ¬ r < 0) (h2 : ¬ 128 ≤ r) (dl : ds.length = 128) (pl : ps.length = 128) (hl : hs.length = 128) (hd : AtL w gd od (dC ds)) (hp : AtL w gp op (ps.flatMap cM)) (pb : allM ps) (tb : Tab w) :
    Calls Tryd.prog 9 #[.agg #[.int .i64 r, .slice (some ⟨gd, od, none⟩) 128 cd, .slice (some ⟨gp, op, none⟩) 128 cp, .slice C 128 f]] w fun e w' => e = .returned (.int .i64 (codeT r ds ps hs)) ∧ Below w.heap.size w w' := by
  have TA := Lib.hid (@checkB)
  have HR := Lib.hid (show 0 ≤ r ∧ r < 128 by omega)
  have HH := Lib.hid (And.intro dl (And.intro pl (And.intro hl (And.intro hd (And.intro hp (And.intro pb tb))))))
  clear dl pl hl hd hp pb tb
  refine (callsIn_wide (n := 8)).1 (callsIn_of_wp_marks Tryd.func9 body9_eq trivial ((wpIn_wide).2 ?_) rfl)
  simp only [Tryd.ntmps9, List.size_toArray, List.length_cons, List.length_nil, Nat.reduceAdd, Nat.reduceSub, Array.replicate_succ, Array.replicate_zero, List.push_toArray, List.append_toArray, List.nil_append, List.cons_append]
  simp only [body9, Tryd.f9, sub1, sub2]
  go_wp2_with fail
  obtain ⟨W, hW⟩ : ∃ W, W = (w.alloc (Obj.cells #[.int .i64 r, .slice (some ⟨gd, od, none⟩) 128 cd, .slice (some ⟨gp, op, none⟩) 128 cp, .slice C 128 f] 25)).alloc (Obj.cells #[.int .i64 0] 28) := ⟨_, rfl⟩
  obtain ⟨z, hz⟩ : ∃ z, z = w.heap.size := ⟨_, rfl⟩
  have BW := Lib.hid (show Below w.heap.size w W by rw [hW]; exact ((Below.refl _ _).alloc (Nat.le_refl _) _).alloc (by simp) _)
  have K1 := Lib.hid (show W.heap[z]? = some (.cells #[.int .i64 r, .slice (some ⟨gd, od, none⟩) 128 cd, .slice (some ⟨gp, op, none⟩) 128 cp, .slice C 128 f] 25 (0, 0)) by rw [hW]; exact heap_keep ((Below.refl _ _).alloc (Nat.le_refl _) _) (heap_at hz))
  have K2 := Lib.hid (show W.heap[z + 1]? = some (.cells #[.int .i64 0] 28 (0, 0)) by rw [hW]; exact heap_at (by rw [hz]; simp))
  have SZ := Lib.hid (show W.heap.size = z + 2 ∧ z = w.heap.size by rw [hW, hz]; simp)
  rw [← hW, ← hz]
  clear hW hz
  refine (wpIn_wide).1 (TA.out _ 8 (by omega) W r z (z + 1) gd od cd gp op cp ds ps (.slice C 128 f) _ _ _ _ _ _ _ _ _ _ _ _ _ _ _ _ _ _ _ _ _ _ _ _ _ _ _ _ _ _ _ _ _ _ _ _ _ _ _ _ _ _ _ _ _ _ _ _ _ _ _ _ _ _ _ _ _ _ _ _ _ _ _ _ _ _ _ _ _ _ _ _ _ _ _ _ _ _ _ _ _ _ _ _ _ _ (Lib.hid ⟨K1.out, K2.out, HH.out.2.2.2.1.below BW.out, HH.out.1, HH.out.2.2.2.2.1.below BW.out, HH.out.2.1, HH.out.2.2.2.2.2.1, HH.out.2.2.2.2.2.2.below BW.out HH.out.2.2.2.2.2.2.size, Nat.succ_pos _⟩) (Lib.hid ?_) (Lib.hid ?_))
  · intro hs' w' hk hf
    have hg : goodT r ds ps hs := ⟨HH.out.1, HH.out.2.1, HH.out.2.2.1, HR.out.1, HR.out.2, hs'⟩
    have hz := SZ.out.2
    exact ⟨by rw [codeT0 hg], BW.out.trans ((hf.bel (B0 := w.heap.size) (by have := SZ.out; omega) (by omega) (by omega) (fun k e => by cases e)))⟩
  · intro hs' w' hk hf
    have hg : ¬ goodT r ds ps hs := fun g => hs' g.2.2.2.2.2
    have hz := SZ.out.2
    exact ⟨by rw [codeT1 hg], BW.out.trans ((hf.bel (B0 := w.heap.size) (by have := SZ.out; omega) (by omega) (by omega) (fun k e => by cases e)))⟩
/-- Check of any tree -/
theorem hCheck_ok (w : World) (x : Value) (r : Int) (ds : List Int) (ps hs : List Nat) (X : TV w x r ds ps hs) (tb : Tab w) :
    Calls Tryd.prog 9 #[x] w fun e w' => e = .returned (.int .i64 (codeT r ds ps hs)) ∧ Below w.heap.size w w' := by
  obtain ⟨_, _, _, rfl, ⟨A, c, rfl, h1, n1, -⟩, ⟨B, d, rfl, h2, n2, -⟩, ⟨C, f, rfl, h3, n3, -⟩⟩ := X.e
  by_cases l1 : ds.length = 128
  · by_cases l2 : ps.length = 128
    · by_cases l3 : hs.length = 128
      · obtain ⟨gd, od, rfl, hd⟩ := Rd_all cI_len (by decide) h1 (by omega)
        obtain ⟨gp, op, rfl, hp⟩ := Rd_all cM_len (by decide) h2 (by omega)
        rw [dC_flat] at hd
        rw [l1, l2, l3]
        by_cases hr : r < 0
        · rw [codeT1 (fun g => by have := g.2.2.2.1; omega)]
          exact chk_e4 r c d f _ _ _ w hr
        · by_cases hr2 : 128 ≤ r
          · rw [codeT1 (fun g => by have := g.2.2.2.2.1; omega)]
            exact chk_e5 r c d f _ _ _ w hr hr2
          · exact chk_main r gd od c gp op d f C ds ps hs w hr hr2 l1 l2 l3 hd hp X.pb tb
      · rw [codeT1 (fun g => l3 g.2.2.1), l1, l2]
        exact chk_e3 r _ c d f _ _ _ w (by omega)
    · rw [codeT1 (fun g => l2 g.2.1), l1]
      exact chk_e2 r _ _ c d f _ _ _ w (by omega)
  · rw [codeT1 (fun g => l1 g.1)]
    exact chk_e1 r _ _ _ c d f _ _ _ w (by omega)

end Go.Proofs.YtjbglifmppilfaaDoor
namespace Go.Proofs.YtjbglifmppilfaaDoor
open Go.ChangeShapes Go.WideShapes Go.ChangeAt Go.RowKit
set_option linter.unusedVariables false
set_option linter.unusedSimpArgs false
attribute [local go_sem] Og.Opt Og.OpY Oper.semAt_some

set_option maxRecDepth 100000 in
set_option maxHeartbeats 4000000 in
theorem rchk_e1 (r : Int) (n m k : Nat) (c d f : Nat) (A B C : Option Addr) (w : World) (h1 : ¬ (n : Int) = 128) :
    Calls Tryd.prog 10 #[.agg #[.int .i64 r, .slice A n c, .slice B m d, .slice C k f]] w fun e w' => e = .returned (.int .i64 1) ∧ Below w.heap.size w w' := by
  go_enter Tryd.func10, Tryd.ntmps10
  go_wp2_with fail
  go_ret
  exact ⟨rfl, (Below.refl _ _).alloc (Nat.le_refl _) _⟩

set_option maxRecDepth 100000 in
set_option maxHeartbeats 4000000 in
theorem rchk_e2 (r : Int) (m k : Nat) (c d f : Nat) (A B C : Option Addr) (w : World) (h1 : ¬ (m : Int) = 128) :
    Calls Tryd.prog 10 #[.agg #[.int .i64 r, .slice A 128 c, .slice B m d, .slice C k f]] w fun e w' => e = .returned (.int .i64 1) ∧ Below w.heap.size w w' := by
  go_enter Tryd.func10, Tryd.ntmps10
  go_wp2_with fail
  go_ret
  exact ⟨rfl, (Below.refl _ _).alloc (Nat.le_refl _) _⟩

set_option maxRecDepth 100000 in
set_option maxHeartbeats 4000000 in
theorem rchk_e3 (r : Int) (k : Nat) (c d f : Nat) (A B C : Option Addr) (w : World) (h1 : ¬ (k : Int) = 128) :
    Calls Tryd.prog 10 #[.agg #[.int .i64 r, .slice A 128 c, .slice B 128 d, .slice C k f]] w fun e w' => e = .returned (.int .i64 1) ∧ Below w.heap.size w w' := by
  go_enter Tryd.func10, Tryd.ntmps10
  go_wp2_with fail
  go_ret
  exact ⟨rfl, (Below.refl _ _).alloc (Nat.le_refl _) _⟩

set_option maxRecDepth 100000 in
set_option maxHeartbeats 4000000 in
theorem rchk_e4 (r : Int) (c d f : Nat) (A B C : Option Addr) (w : World) (h1 : r < 0) :
    Calls Tryd.prog 10 #[.agg #[.int .i64 r, .slice A 128 c, .slice B 128 d, .slice C 128 f]] w fun e w' => e = .returned (.int .i64 1) ∧ Below w.heap.size w w' := by
  go_enter Tryd.func10, Tryd.ntmps10
  go_wp2_with fail
  go_ret
  exact ⟨rfl, (Below.refl _ _).alloc (Nat.le_refl _) _⟩

set_option maxRecDepth 100000 in
set_option maxHeartbeats 4000000 in
theorem rchk_e5 (r : Int) (c d f : Nat) (A B C : Option Addr) (w : World) (h1 : ¬ r < 0) (h2 : 127 < r) :
    Calls Tryd.prog 10 #[.agg #[.int .i64 r, .slice A 128 c, .slice B 128 d, .slice C 128 f]] w fun e w' => e = .returned (.int .i64 1) ∧ Below w.heap.size w w' := by
  go_enter Tryd.func10, Tryd.ntmps10
  go_wp2_with fail
  go_ret
  exact ⟨rfl, (Below.refl _ _).alloc (Nat.le_refl _) _⟩

theorem listM_nil {M : Nat} (hM : M < 2 ^ 128) (h : M ≠ 0) : (listM M).length ≠ 0 := fun e => h (by
  have e2 : ofM (listM M) = M := ofM_filter (fun n => M.testBit n) M hM (fun _ _ => rfl)
  rw [List.length_eq_zero_iff.1 e] at e2
  exact e2.symm)
theorem listM_len (M : Nat) : (listM M).length ≤ 128 := lkM_len M 128
theorem okV_mk {r : Int} {ds : List Int} {ps : List Nat} {k M : Nat} {d : Int} (hd : d = kd ds k) (hM : M = gt ps k) (hb : bad6 r d k M = false) (hu : ∀ (j u : Nat), (listM M)[j]? = some u → kd ds u < d) : okV r ds ps k := by
  subst hd hM
  refine ⟨hb, fun u h => ?_⟩
  have h1 : u.val ∈ listM (gt ps k) := by rw [← elM_val]; exact List.mem_map.2 ⟨u, h, rfl⟩
  obtain ⟨j, hj⟩ := List.getElem?_of_mem h1
  exact hu j _ hj
theorem okV_at {r : Int} {ds : List Int} {ps : List Nat} {k M : Nat} {d : Int} (hd : d = kd ds k) (hM : M = gt ps k) (h : okV r ds ps k) {j u : Nat} (hj : (listM M)[j]? = some u) : kd ds u < d := by
  subst hd hM
  have h1 := List.mem_of_getElem? hj
  rw [← elM_val] at h1
  obtain ⟨x, h2, rfl⟩ := List.mem_map.1 h1
  exact h.2 x h2
set_option maxRecDepth 100000 in
set_option maxHeartbeats 16000000 in
theorem rchk_main (r : Int) (gd od cd gp op cp f : Nat) (C : Option Addr) (ds : List Int) (ps hs : List Nat) (w : World) (h1 : ¬ r < 0) (h2 : ¬ 127 < r) (dl : ds.length = 128) (pl : ps.length = 128) (hl : hs.length = 128) (hd : AtL w gd od (dC ds)) (hp : AtL w gp op (ps.flatMap cM)) (pb : allM ps) :
    Calls Tryd.prog 10 #[.agg #[.int .i64 r, .slice (some ⟨gd, od, none⟩) 128 cd, .slice (some ⟨gp, op, none⟩) 128 cp, .slice C 128 f]] w fun e w' => e = .returned (.int .i64 (codeT r ds ps hs)) ∧ Below w.heap.size w w' := by
  obtain ⟨W, hW⟩ : ∃ W, W = (w.alloc (Obj.cells #[.int .i64 r, .slice (some ⟨gd, od, none⟩) 128 cd, .slice (some ⟨gp, op, none⟩) 128 cp, .slice C 128 f] 25)) := ⟨_, rfl⟩
  obtain ⟨z, hz⟩ : ∃ z, z = w.heap.size := ⟨_, rfl⟩
  have BW := Lib.hid (show Below w.heap.size w W by rw [hW]; exact (Below.refl _ _).alloc (Nat.le_refl _) _)
  have K1 := Lib.hid (show W.heap[z]? = some (.cells #[.int .i64 r, .slice (some ⟨gd, od, none⟩) 128 cd, .slice (some ⟨gp, op, none⟩) 128 cp, .slice C 128 f] 25 (0, 0)) by rw [hW]; exact heap_at hz)
  have HC := Lib.hid (show ∀ w2, Below W.heap.size W w2 → w2.cell? ⟨z, 0, none⟩ = some (.int .i64 r) ∧ w2.cell? ⟨z, 1, none⟩ = some (.slice (some ⟨gd, od, none⟩) 128 cd) ∧ w2.cell? ⟨z, 2, none⟩ = some (.slice (some ⟨gp, op, none⟩) 128 cp) from fun w2 hb => by
    have k := heap_keep hb K1.out
    exact ⟨by rw [cell_of_row w2 _ 0 _ _ _ k]; rfl, by rw [cell_of_row w2 _ 1 _ _ _ k]; rfl, by rw [cell_of_row w2 _ 2 _ _ _ k]; rfl⟩)
  have HDP := Lib.hid (show ∀ w2, Below W.heap.size W w2 → AtL w2 gd od (dC ds) ∧ AtL w2 gp op (ps.flatMap cM) from fun w2 hb => ⟨(hd.below BW.out).below hb, (hp.below BW.out).below hb⟩)
  have HH := Lib.hid (And.intro dl (And.intro pl (And.intro hl pb)))
  have HR := Lib.hid (show 0 ≤ r ∧ r < 128 by omega)
  have GOOD : Hid (soundT r ds ps → codeT r ds ps hs = 0) := Lib.hid (fun s => codeT0 ⟨HH.out.1, HH.out.2.1, HH.out.2.2.1, HR.out.1, HR.out.2, s⟩)
  have BAD : Hid (¬ soundT r ds ps → codeT r ds ps hs = 1) := Lib.hid (fun s => codeT1 (fun g => s g.2.2.2.2.2))
  clear dl pl hl hd hp pb
  go_enter Tryd.func10, Tryd.ntmps10
  go_wp2_with fail
  rw [← hW, ← hz]
  clear hW hz
  go_loopw [4] (fun i wr => ∃ k : Nat, k ≤ 128 ∧ i = .int .i64 k ∧ Hid ((∀ v, v < k → okV r ds ps v) ∧ Below W.heap.size W wr)) (fun i _ => 128 - (intOf i).toNat)
  case atStart => exact ⟨0, Nat.zero_le _, rfl, Lib.hid ⟨fun v h => by omega, Below.refl _ _⟩⟩
  case round =>
    obtain ⟨k, hk, rfl, hT⟩ := hrel
    by_cases hlt : k < 128
    · have hwk1 : IntKind.i64.wrap ((k : Int) + 1) = (k : Int) + 1 := by rw [IntKind.wrap_i64]; omega
      have hk0 : (0 : Int) ≤ (k : Int) := by omega
      have hk7 : (k : Int) < 128 := by omega
      obtain ⟨d, hd⟩ : ∃ d, d = kd ds k := ⟨_, rfl⟩
      obtain ⟨M, hM⟩ : ∃ M, M = gt ps k := ⟨_, rfl⟩
      have cD : wr.cell? ⟨gd, od + k, none⟩ = some (.int .i64 d) := by
        have h1 := (HDP.out wr hT.out.2).1 k (.int .i64 d) (by simp [dC, kd, hd, HH.out.1, hlt])
        exact h1
      have AT : Hid (AtL wr gp (op + k * 2) (cM M)) := Lib.hid (AtL.sub (n := 2) (k * 2) (HDP.out wr hT.out.2).2 (by rw [hM]; exact flat_tk cM_len (gt_some (by rw [HH.out.2.1]; exact hlt))))
      have LDP := Lib.hid (loadAt_M AT.out)
      have HM := Lib.hid (And.intro hM (show M < 2 ^ 128 by rw [hM]; exact gt_lt HH.out.2.2.2 k))
      have LIST := Lib.hid (rList_ok M HM.out.2 wr)
      have hm := HC.out wr hT.out.2
      have HD := Lib.hid hd
      have HK := Lib.hid hlt
      have RET1 : Hid (bad6 r d k M = true → codeT r ds ps hs = 1) := Lib.hid (fun hb => BAD.out (fun s => by have h1 := (s k HK.out).1; rw [← HD.out, ← HM.out.1, hb] at h1; cases h1))
      clear hd hM hlt
      by_cases a1 : d < 0
      · have g1 : decide (d < 0) = true := by simp [a1]
        go_wp2_with fail
        go_ret
        exact ⟨by rw [RET1.out (by unfold bad6; simp [a1])]; rfl, BW.out.trans (hT.out.2.mono (by have := BW.out.size; omega))⟩
      · have g1 : decide (d < 0) = false := by simp [a1]
        by_cases a2 : 1073741824 < d
        · have g2 : decide (1073741824 < d) = true := by simp [a2]
          go_wp2_with fail
          go_ret
          exact ⟨by rw [RET1.out (by unfold bad6; simp [a1, a2])]; rfl, BW.out.trans (hT.out.2.mono (by have := BW.out.size; omega))⟩
        · have g2 : decide (1073741824 < d) = false := by simp [a2]
          cases g3 : (d == 0) with
          | true =>
            cases g4 : ((k : Int) == r) with
            | true =>
              go_wp2_with (refine wpList_loadL rfl 35 (.tmp 65) rfl gp (op + k * 2) (mV M) rfl LDP.out ?_)
              refine LIST.out.mono ?_
              rintro e w2 ⟨⟨v, rfl, ho⟩, hb⟩
              have B2 := Lib.hid (bthen hT.out.2 hb)
              have S2 := Lib.hid (Sl_of_row cN_len (by decide) ho rfl)
              have HUL := Lib.hid (listM_len M)
              obtain ⟨n, hn⟩ : ∃ n, n = (listM M).length := ⟨_, rfl⟩
              obtain ⟨A, c, rfl, hrd, -⟩ := S2.out
              have RD := Lib.hid hrd
              rw [← hn]
              have HN := Lib.hid hn
              have hm := HC.out w2 B2.out
              clear ho hb hn hrd S2 cD LDP LIST AT
              by_cases a6 : M = 0
              · have hn0 : n = 0 := by rw [HN.out, a6]; rfl
                have g6 : ((n : Int) == 0) = true := by rw [hn0]; rfl
                have g7 : (n == 0) = true := by rw [hn0]; rfl
                have A6 := Lib.hid a6
                clear hn0 a6
                go_wp2_with fail
                go_loopw [7] (fun i wr => ∃ j : Nat, j ≤ n ∧ i = .int .i64 j ∧ Hid ((∀ t u, t < j → (listM M)[t]? = some u → kd ds u < d) ∧ Below w2.heap.size w2 wr)) (fun i _ => n - (intOf i).toNat)
                case atStart => exact ⟨0, Nat.zero_le _, rfl, Lib.hid ⟨fun t u h => by omega, Below.refl _ _⟩⟩
                case round =>
                  obtain ⟨j, hj, rfl, hT2⟩ := hrel
                  by_cases hjn : j < n
                  · have hwj1 : IntKind.i64.wrap ((j : Int) + 1) = (j : Int) + 1 := by have := HN.out; have := HUL.out; rw [IntKind.wrap_i64]; omega
                    have hj0 : (0 : Int) ≤ (j : Int) := by omega
                    have hj7 : (j : Int) < (n : Int) := by omega
                    obtain ⟨u, gU, oU, hu, rfl, hat⟩ := Rd_at RD.out (k := j) (by rw [← HN.out]; exact hjn)
                    have hu8 : u < 128 := listM_lt (List.mem_of_getElem? hu)
                    have hu0 : (0 : Int) ≤ (u : Int) := by omega
                    have hu1 : (u : Int) < 128 := by omega
                    obtain ⟨e, he⟩ : ∃ e, e = kd ds u := ⟨_, rfl⟩
                    have qU : w2.cell? ⟨gU, oU + j, none⟩ = some (.int .i64 (u : Int)) := by
                      have := hat 0 (.int .i64 (u : Int)) rfl
                      rwa [Nat.add_zero, Nat.mul_one] at this
                    have HCC : ∀ w5, Below wr.heap.size wr w5 → w5.cell? ⟨gU, oU + j, none⟩ = some (.int .i64 (u : Int)) ∧ w5.cell? ⟨gd, od + u, none⟩ = some (.int .i64 e) ∧ w5.cell? ⟨z, 1, none⟩ = some (.slice (some ⟨gd, od, none⟩) 128 cd) := fun w5 h5 => by
                      have h6 := bthen B2.out (bthen hT2.out.2 h5)
                      exact ⟨bcell (bthen hT2.out.2 h5) qU, (HDP.out w5 h6).1 u (.int .i64 e) (by simp [dC, kd, he, HH.out.1, hu8]), (HC.out w5 h6).2.1⟩
                    have HU := Lib.hid (And.intro hu he)
                    clear hu he qU hat hu8 hm
                    by_cases hde : d ≤ e
                    · have g9 : decide (d ≤ e) = true := by simp [hde]
                      have HBD : Hid (codeT r ds ps hs = 1) := Lib.hid (BAD.out (fun s => by have h1 := okV_at HD.out HM.out.1 (s k HK.out) HU.out.1; have h2 := HU.out.2; omega))
                      go_wp2_with fail
                      refine Og.walk_lit [[],[0],[],[],[2,3],[4,2,3],[1,5,0,4,2,3],[6,1,5,0,4,2,3],[],[7,8,6,1,5,0,4,2,3]] (fun w2 => Below wr.heap.size wr w2) (fun w1 w2 => Below w1.heap.size w1 w2) (by kernel_rfl) (by kernel_rfl) (bdrew) ?_
                      iterate 10 (refine Og.step_pure (fun _ => Below.refl _ _) ?_; apply Exists.intro; refine And.intro ?_ ?_; focus (intro vs w2 hC hk; have hm := HCC w2 hC; revert hk; simp only [Og.KS, Og.K0, Og.Is, List.getD_cons_zero, List.getD_cons_succ, List.getD_nil, List.contains_cons, List.contains_nil, Nat.reduceAdd, Nat.reduceBEq, Bool.or_false, Bool.false_or, Bool.or_true, Bool.true_or, Bool.false_eq_true, false_implies, true_implies, true_and, and_true, forall_const]; intros; go_simp; rfl))
                      intro vs w2 hC hk
                      have hm := HCC w2 hC
                      simp only [Og.KS, Og.K0, Og.Is, List.getD_cons_zero, List.getD_cons_succ, List.getD_nil, List.contains_cons, List.contains_nil, Nat.reduceAdd, Nat.reduceBEq, Bool.or_false, Bool.false_or, Bool.or_true, Bool.true_or, Bool.false_eq_true, false_implies, true_implies, true_and, and_true, forall_const] at hk
                      simp only [hk, Act.put, List.setIfInBounds_toArray, List.set_cons_zero, List.set_cons_succ]
                      clear hk
                      clear hm HCC
                      have B9 := Lib.hid (bthen B2.out (bthen hT2.out.2 hC))
                      clear hC
                      go_wp2_with fail
                      go_ret
                      exact ⟨by rw [HBD.out]; rfl, BW.out.trans (B9.out.mono (by have := BW.out.size; omega))⟩
                    · have g9 : decide (d ≤ e) = false := by simp [hde]
                      have HLT : Hid (∀ t u', t < j + 1 → (listM M)[t]? = some u' → kd ds u' < d) := Lib.hid (fun t u' ht h => by
                        rcases Nat.lt_or_ge t j with h1 | h1
                        · exact hT2.out.1 t u' h1 h
                        · obtain rfl : t = j := by omega
                          rw [HU.out.1] at h
                          rw [← Option.some.inj h, ← HU.out.2]
                          omega)
                      go_wp2_with fail
                      refine Og.walk_lit [[],[0],[],[],[2,3],[4,2,3],[1,5,0,4,2,3],[6,1,5,0,4,2,3],[],[7,8,6,1,5,0,4,2,3]] (fun w2 => Below wr.heap.size wr w2) (fun w1 w2 => Below w1.heap.size w1 w2) (by kernel_rfl) (by kernel_rfl) (bdrew) ?_
                      iterate 10 (refine Og.step_pure (fun _ => Below.refl _ _) ?_; apply Exists.intro; refine And.intro ?_ ?_; focus (intro vs w2 hC hk; have hm := HCC w2 hC; revert hk; simp only [Og.KS, Og.K0, Og.Is, List.getD_cons_zero, List.getD_cons_succ, List.getD_nil, List.contains_cons, List.contains_nil, Nat.reduceAdd, Nat.reduceBEq, Bool.or_false, Bool.false_or, Bool.or_true, Bool.true_or, Bool.false_eq_true, false_implies, true_implies, true_and, and_true, forall_const]; intros; go_simp; rfl))
                      intro vs w2 hC hk
                      have hm := HCC w2 hC
                      simp only [Og.KS, Og.K0, Og.Is, List.getD_cons_zero, List.getD_cons_succ, List.getD_nil, List.contains_cons, List.contains_nil, Nat.reduceAdd, Nat.reduceBEq, Bool.or_false, Bool.false_or, Bool.or_true, Bool.true_or, Bool.false_eq_true, false_implies, true_implies, true_and, and_true, forall_const] at hk
                      simp only [hk, Act.put, List.setIfInBounds_toArray, List.set_cons_zero, List.set_cons_succ]
                      clear hk
                      clear hm HCC
                      have B9 := Lib.hid (bthen hT2.out.2 hC)
                      clear hC
                      go_wp2_with fail
                      go_roundw
                      case rel => exact ⟨j + 1, by omega, by go_num, Lib.hid ⟨HLT.out, B9.out⟩⟩
                      case measure => simp [intOf]; omega
                  · have hjn' : ¬ (j : Int) < (n : Int) := by omega
                    have hje : j = n := by omega
                    have OKV : Hid (okV r ds ps k) := Lib.hid (okV_mk HD.out HM.out.1 (by unfold bad6; simp [g1, g2, g3, g4, A6.out]) (fun t u h => hT2.out.1 t u (by rw [hje, HN.out]; exact (List.getElem?_eq_some_iff.1 h).1) h))
                    have B9 := Lib.hid (bthen B2.out hT2.out.2)
                    clear hje hj hT2 hm
                    go_wp2_with fail
                    go_roundw
                    case rel => exact ⟨k + 1, by have := HK.out; omega, by go_num, Lib.hid ⟨fun v hv => by
                      rcases Nat.lt_or_ge v k with h | h
                      · exact hT.out.1 v h
                      · obtain rfl : v = k := by omega
                        exact OKV.out, B9.out⟩⟩
                    case measure => have := HK.out; simp [intOf]; omega
              · have hn0 : ¬ n = 0 := by rw [HN.out]; exact listM_nil HM.out.2 a6
                have g6 : ((n : Int) == 0) = false := by simp [hn0]
                have g7 : (n == 0) = false := by simp [hn0]
                have A6 := Lib.hid a6
                clear hn0 a6
                go_wp2_with fail
                go_ret
                exact ⟨by rw [RET1.out (by unfold bad6; simp [g1, g2, g3, g4, A6.out])]; rfl, BW.out.trans (B2.out.mono (by have := BW.out.size; omega))⟩
            | false =>
              go_wp2_with fail
              go_ret
              exact ⟨by rw [RET1.out (by unfold bad6; simp [g1, g2, g3, g4])]; rfl, BW.out.trans (hT.out.2.mono (by have := BW.out.size; omega))⟩
          | false =>
            cases g4 : ((k : Int) == r) with
            | true =>
              go_wp2_with fail
              go_ret
              exact ⟨by rw [RET1.out (by unfold bad6; simp [g1, g2, g3, g4])]; rfl, BW.out.trans (hT.out.2.mono (by have := BW.out.size; omega))⟩
            | false =>
              cases g5 : (d == 1073741824) with
              | true =>
                go_wp2_with (refine wpList_loadL rfl 35 (.tmp 65) rfl gp (op + k * 2) (mV M) rfl LDP.out ?_)
                refine LIST.out.mono ?_
                rintro e w2 ⟨⟨v, rfl, ho⟩, hb⟩
                have B2 := Lib.hid (bthen hT.out.2 hb)
                have S2 := Lib.hid (Sl_of_row cN_len (by decide) ho rfl)
                have HUL := Lib.hid (listM_len M)
                obtain ⟨n, hn⟩ : ∃ n, n = (listM M).length := ⟨_, rfl⟩
                obtain ⟨A, c, rfl, hrd, -⟩ := S2.out
                have RD := Lib.hid hrd
                rw [← hn]
                have HN := Lib.hid hn
                have hm := HC.out w2 B2.out
                clear ho hb hn hrd S2 cD LDP LIST AT
                by_cases a6 : M = 0
                · have hn0 : n = 0 := by rw [HN.out, a6]; rfl
                  have g6 : ((n : Int) == 0) = true := by rw [hn0]; rfl
                  have g7 : (n == 0) = true := by rw [hn0]; rfl
                  have A6 := Lib.hid a6
                  clear hn0 a6
                  go_wp2_with fail
                  go_loopw [7] (fun i wr => ∃ j : Nat, j ≤ n ∧ i = .int .i64 j ∧ Hid ((∀ t u, t < j → (listM M)[t]? = some u → kd ds u < d) ∧ Below w2.heap.size w2 wr)) (fun i _ => n - (intOf i).toNat)
                  case atStart => exact ⟨0, Nat.zero_le _, rfl, Lib.hid ⟨fun t u h => by omega, Below.refl _ _⟩⟩
                  case round =>
                    obtain ⟨j, hj, rfl, hT2⟩ := hrel
                    by_cases hjn : j < n
                    · have hwj1 : IntKind.i64.wrap ((j : Int) + 1) = (j : Int) + 1 := by have := HN.out; have := HUL.out; rw [IntKind.wrap_i64]; omega
                      have hj0 : (0 : Int) ≤ (j : Int) := by omega
                      have hj7 : (j : Int) < (n : Int) := by omega
                      obtain ⟨u, gU, oU, hu, rfl, hat⟩ := Rd_at RD.out (k := j) (by rw [← HN.out]; exact hjn)
                      have hu8 : u < 128 := listM_lt (List.mem_of_getElem? hu)
                      have hu0 : (0 : Int) ≤ (u : Int) := by omega
                      have hu1 : (u : Int) < 128 := by omega
                      obtain ⟨e, he⟩ : ∃ e, e = kd ds u := ⟨_, rfl⟩
                      have qU : w2.cell? ⟨gU, oU + j, none⟩ = some (.int .i64 (u : Int)) := by
                        have := hat 0 (.int .i64 (u : Int)) rfl
                        rwa [Nat.add_zero, Nat.mul_one] at this
                      have HCC : ∀ w5, Below wr.heap.size wr w5 → w5.cell? ⟨gU, oU + j, none⟩ = some (.int .i64 (u : Int)) ∧ w5.cell? ⟨gd, od + u, none⟩ = some (.int .i64 e) ∧ w5.cell? ⟨z, 1, none⟩ = some (.slice (some ⟨gd, od, none⟩) 128 cd) := fun w5 h5 => by
                        have h6 := bthen B2.out (bthen hT2.out.2 h5)
                        exact ⟨bcell (bthen hT2.out.2 h5) qU, (HDP.out w5 h6).1 u (.int .i64 e) (by simp [dC, kd, he, HH.out.1, hu8]), (HC.out w5 h6).2.1⟩
                      have HU := Lib.hid (And.intro hu he)
                      clear hu he qU hat hu8 hm
                      by_cases hde : d ≤ e
                      · have g9 : decide (d ≤ e) = true := by simp [hde]
                        have HBD : Hid (codeT r ds ps hs = 1) := Lib.hid (BAD.out (fun s => by have h1 := okV_at HD.out HM.out.1 (s k HK.out) HU.out.1; have h2 := HU.out.2; omega))
                        go_wp2_with fail
                        refine Og.walk_lit [[],[0],[],[],[2,3],[4,2,3],[1,5,0,4,2,3],[6,1,5,0,4,2,3],[],[7,8,6,1,5,0,4,2,3]] (fun w2 => Below wr.heap.size wr w2) (fun w1 w2 => Below w1.heap.size w1 w2) (by kernel_rfl) (by kernel_rfl) (bdrew) ?_
                        iterate 10 (refine Og.step_pure (fun _ => Below.refl _ _) ?_; apply Exists.intro; refine And.intro ?_ ?_; focus (intro vs w2 hC hk; have hm := HCC w2 hC; revert hk; simp only [Og.KS, Og.K0, Og.Is, List.getD_cons_zero, List.getD_cons_succ, List.getD_nil, List.contains_cons, List.contains_nil, Nat.reduceAdd, Nat.reduceBEq, Bool.or_false, Bool.false_or, Bool.or_true, Bool.true_or, Bool.false_eq_true, false_implies, true_implies, true_and, and_true, forall_const]; intros; go_simp; rfl))
                        intro vs w2 hC hk
                        have hm := HCC w2 hC
                        simp only [Og.KS, Og.K0, Og.Is, List.getD_cons_zero, List.getD_cons_succ, List.getD_nil, List.contains_cons, List.contains_nil, Nat.reduceAdd, Nat.reduceBEq, Bool.or_false, Bool.false_or, Bool.or_true, Bool.true_or, Bool.false_eq_true, false_implies, true_implies, true_and, and_true, forall_const] at hk
                        simp only [hk, Act.put, List.setIfInBounds_toArray, List.set_cons_zero, List.set_cons_succ]
                        clear hk
                        clear hm HCC
                        have B9 := Lib.hid (bthen B2.out (bthen hT2.out.2 hC))
                        clear hC
                        go_wp2_with fail
                        go_ret
                        exact ⟨by rw [HBD.out]; rfl, BW.out.trans (B9.out.mono (by have := BW.out.size; omega))⟩
                      · have g9 : decide (d ≤ e) = false := by simp [hde]
                        have HLT : Hid (∀ t u', t < j + 1 → (listM M)[t]? = some u' → kd ds u' < d) := Lib.hid (fun t u' ht h => by
                          rcases Nat.lt_or_ge t j with h1 | h1
                          · exact hT2.out.1 t u' h1 h
                          · obtain rfl : t = j := by omega
                            rw [HU.out.1] at h
                            rw [← Option.some.inj h, ← HU.out.2]
                            omega)
                        go_wp2_with fail
                        refine Og.walk_lit [[],[0],[],[],[2,3],[4,2,3],[1,5,0,4,2,3],[6,1,5,0,4,2,3],[],[7,8,6,1,5,0,4,2,3]] (fun w2 => Below wr.heap.size wr w2) (fun w1 w2 => Below w1.heap.size w1 w2) (by kernel_rfl) (by kernel_rfl) (bdrew) ?_
                        iterate 10 (refine Og.step_pure (fun _ => Below.refl _ _) ?_; apply Exists.intro; refine And.intro ?_ ?_; focus (intro vs w2 hC hk; have hm := HCC w2 hC; revert hk; simp only [Og.KS, Og.K0, Og.Is, List.getD_cons_zero, List.getD_cons_succ, List.getD_nil, List.contains_cons, List.contains_nil, Nat.reduceAdd, Nat.reduceBEq, Bool.or_false, Bool.false_or, Bool.or_true, Bool.true_or, Bool.false_eq_true, false_implies, true_implies, true_and, and_true, forall_const]; intros; go_simp; rfl))
                        intro vs w2 hC hk
                        have hm := HCC w2 hC
                        simp only [Og.KS, Og.K0, Og.Is, List.getD_cons_zero, List.getD_cons_succ, List.getD_nil, List.contains_cons, List.contains_nil, Nat.reduceAdd, Nat.reduceBEq, Bool.or_false, Bool.false_or, Bool.or_true, Bool.true_or, Bool.false_eq_true, false_implies, true_implies, true_and, and_true, forall_const] at hk
                        simp only [hk, Act.put, List.setIfInBounds_toArray, List.set_cons_zero, List.set_cons_succ]
                        clear hk
                        clear hm HCC
                        have B9 := Lib.hid (bthen hT2.out.2 hC)
                        clear hC
                        go_wp2_with fail
                        go_roundw
                        case rel => exact ⟨j + 1, by omega, by go_num, Lib.hid ⟨HLT.out, B9.out⟩⟩
                        case measure => simp [intOf]; omega
                    · have hjn' : ¬ (j : Int) < (n : Int) := by omega
                      have hje : j = n := by omega
                      have OKV : Hid (okV r ds ps k) := Lib.hid (okV_mk HD.out HM.out.1 (by unfold bad6; simp [g1, g2, g3, g4, g5, A6.out]) (fun t u h => hT2.out.1 t u (by rw [hje, HN.out]; exact (List.getElem?_eq_some_iff.1 h).1) h))
                      have B9 := Lib.hid (bthen B2.out hT2.out.2)
                      clear hje hj hT2 hm
                      go_wp2_with fail
                      go_roundw
                      case rel => exact ⟨k + 1, by have := HK.out; omega, by go_num, Lib.hid ⟨fun v hv => by
                        rcases Nat.lt_or_ge v k with h | h
                        · exact hT.out.1 v h
                        · obtain rfl : v = k := by omega
                          exact OKV.out, B9.out⟩⟩
                      case measure => have := HK.out; simp [intOf]; omega
                · have hn0 : ¬ n = 0 := by rw [HN.out]; exact listM_nil HM.out.2 a6
                  have g6 : ((n : Int) == 0) = false := by simp [hn0]
                  have g7 : (n == 0) = false := by simp [hn0]
                  have A6 := Lib.hid a6
                  clear hn0 a6
                  go_wp2_with fail
                  go_ret
                  exact ⟨by rw [RET1.out (by unfold bad6; simp [g1, g2, g3, g4, g5, A6.out])]; rfl, BW.out.trans (B2.out.mono (by have := BW.out.size; omega))⟩
              | false =>
                go_wp2_with (refine wpList_loadL rfl 35 (.tmp 65) rfl gp (op + k * 2) (mV M) rfl LDP.out ?_)
                refine LIST.out.mono ?_
                rintro e w2 ⟨⟨v, rfl, ho⟩, hb⟩
                have B2 := Lib.hid (bthen hT.out.2 hb)
                have S2 := Lib.hid (Sl_of_row cN_len (by decide) ho rfl)
                have HUL := Lib.hid (listM_len M)
                obtain ⟨n, hn⟩ : ∃ n, n = (listM M).length := ⟨_, rfl⟩
                obtain ⟨A, c, rfl, hrd, -⟩ := S2.out
                have RD := Lib.hid hrd
                rw [← hn]
                have HN := Lib.hid hn
                have hm := HC.out w2 B2.out
                clear ho hb hn hrd S2 cD LDP LIST AT
                by_cases a6 : M = 0
                · have hn0 : n = 0 := by rw [HN.out, a6]; rfl
                  have g6 : ((n : Int) == 0) = true := by rw [hn0]; rfl
                  have g7 : (n == 0) = true := by rw [hn0]; rfl
                  have A6 := Lib.hid a6
                  clear hn0 a6
                  go_wp2_with fail
                  go_ret
                  exact ⟨by rw [RET1.out (by unfold bad6; simp [g1, g2, g3, g4, g5, A6.out])]; rfl, BW.out.trans (B2.out.mono (by have := BW.out.size; omega))⟩
                · have hn0 : ¬ n = 0 := by rw [HN.out]; exact listM_nil HM.out.2 a6
                  have g6 : ((n : Int) == 0) = false := by simp [hn0]
                  have g7 : (n == 0) = false := by simp [hn0]
                  have A6 := Lib.hid a6
                  clear hn0 a6
                  go_wp2_with fail
                  go_loopw [7] (fun i wr => ∃ j : Nat, j ≤ n ∧ i = .int .i64 j ∧ Hid ((∀ t u, t < j → (listM M)[t]? = some u → kd ds u < d) ∧ Below w2.heap.size w2 wr)) (fun i _ => n - (intOf i).toNat)
                  case atStart => exact ⟨0, Nat.zero_le _, rfl, Lib.hid ⟨fun t u h => by omega, Below.refl _ _⟩⟩
                  case round =>
                    obtain ⟨j, hj, rfl, hT2⟩ := hrel
                    by_cases hjn : j < n
                    · have hwj1 : IntKind.i64.wrap ((j : Int) + 1) = (j : Int) + 1 := by have := HN.out; have := HUL.out; rw [IntKind.wrap_i64]; omega
                      have hj0 : (0 : Int) ≤ (j : Int) := by omega
                      have hj7 : (j : Int) < (n : Int) := by omega
                      obtain ⟨u, gU, oU, hu, rfl, hat⟩ := Rd_at RD.out (k := j) (by rw [← HN.out]; exact hjn)
                      have hu8 : u < 128 := listM_lt (List.mem_of_getElem? hu)
                      have hu0 : (0 : Int) ≤ (u : Int) := by omega
                      have hu1 : (u : Int) < 128 := by omega
                      obtain ⟨e, he⟩ : ∃ e, e = kd ds u := ⟨_, rfl⟩
                      have qU : w2.cell? ⟨gU, oU + j, none⟩ = some (.int .i64 (u : Int)) := by
                        have := hat 0 (.int .i64 (u : Int)) rfl
                        rwa [Nat.add_zero, Nat.mul_one] at this
                      have HCC : ∀ w5, Below wr.heap.size wr w5 → w5.cell? ⟨gU, oU + j, none⟩ = some (.int .i64 (u : Int)) ∧ w5.cell? ⟨gd, od + u, none⟩ = some (.int .i64 e) ∧ w5.cell? ⟨z, 1, none⟩ = some (.slice (some ⟨gd, od, none⟩) 128 cd) := fun w5 h5 => by
                        have h6 := bthen B2.out (bthen hT2.out.2 h5)
                        exact ⟨bcell (bthen hT2.out.2 h5) qU, (HDP.out w5 h6).1 u (.int .i64 e) (by simp [dC, kd, he, HH.out.1, hu8]), (HC.out w5 h6).2.1⟩
                      have HU := Lib.hid (And.intro hu he)
                      clear hu he qU hat hu8 hm
                      by_cases hde : d ≤ e
                      · have g9 : decide (d ≤ e) = true := by simp [hde]
                        have HBD : Hid (codeT r ds ps hs = 1) := Lib.hid (BAD.out (fun s => by have h1 := okV_at HD.out HM.out.1 (s k HK.out) HU.out.1; have h2 := HU.out.2; omega))
                        go_wp2_with fail
                        refine Og.walk_lit [[],[0],[],[],[2,3],[4,2,3],[1,5,0,4,2,3],[6,1,5,0,4,2,3],[],[7,8,6,1,5,0,4,2,3]] (fun w2 => Below wr.heap.size wr w2) (fun w1 w2 => Below w1.heap.size w1 w2) (by kernel_rfl) (by kernel_rfl) (bdrew) ?_
                        iterate 10 (refine Og.step_pure (fun _ => Below.refl _ _) ?_; apply Exists.intro; refine And.intro ?_ ?_; focus (intro vs w2 hC hk; have hm := HCC w2 hC; revert hk; simp only [Og.KS, Og.K0, Og.Is, List.getD_cons_zero, List.getD_cons_succ, List.getD_nil, List.contains_cons, List.contains_nil, Nat.reduceAdd, Nat.reduceBEq, Bool.or_false, Bool.false_or, Bool.or_true, Bool.true_or, Bool.false_eq_true, false_implies, true_implies, true_and, and_true, forall_const]; intros; go_simp; rfl))
                        intro vs w2 hC hk
                        have hm := HCC w2 hC
                        simp only [Og.KS, Og.K0, Og.Is, List.getD_cons_zero, List.getD_cons_succ, List.getD_nil, List.contains_cons, List.contains_nil, Nat.reduceAdd, Nat.reduceBEq, Bool.or_false, Bool.false_or, Bool.or_true, Bool.true_or, Bool.false_eq_true, false_implies, true_implies, true_and, and_true, forall_const] at hk
                        simp only [hk, Act.put, List.setIfInBounds_toArray, List.set_cons_zero, List.set_cons_succ]
                        clear hk
                        clear hm HCC
                        have B9 := Lib.hid (bthen B2.out (bthen hT2.out.2 hC))
                        clear hC
                        go_wp2_with fail
                        go_ret
                        exact ⟨by rw [HBD.out]; rfl, BW.out.trans (B9.out.mono (by have := BW.out.size; omega))⟩
                      · have g9 : decide (d ≤ e) = false := by simp [hde]
                        have HLT : Hid (∀ t u', t < j + 1 → (listM M)[t]? = some u' → kd ds u' < d) := Lib.hid (fun t u' ht h => by
                          rcases Nat.lt_or_ge t j with h1 | h1
                          · exact hT2.out.1 t u' h1 h
                          · obtain rfl : t = j := by omega
                            rw [HU.out.1] at h
                            rw [← Option.some.inj h, ← HU.out.2]
                            omega)
                        go_wp2_with fail
                        refine Og.walk_lit [[],[0],[],[],[2,3],[4,2,3],[1,5,0,4,2,3],[6,1,5,0,4,2,3],[],[7,8,6,1,5,0,4,2,3]] (fun w2 => Below wr.heap.size wr w2) (fun w1 w2 => Below w1.heap.size w1 w2) (by kernel_rfl) (by kernel_rfl) (bdrew) ?_
                        iterate 10 (refine Og.step_pure (fun _ => Below.refl _ _) ?_; apply Exists.intro; refine And.intro ?_ ?_; focus (intro vs w2 hC hk; have hm := HCC w2 hC; revert hk; simp only [Og.KS, Og.K0, Og.Is, List.getD_cons_zero, List.getD_cons_succ, List.getD_nil, List.contains_cons, List.contains_nil, Nat.reduceAdd, Nat.reduceBEq, Bool.or_false, Bool.false_or, Bool.or_true, Bool.true_or, Bool.false_eq_true, false_implies, true_implies, true_and, and_true, forall_const]; intros; go_simp; rfl))
                        intro vs w2 hC hk
                        have hm := HCC w2 hC
                        simp only [Og.KS, Og.K0, Og.Is, List.getD_cons_zero, List.getD_cons_succ, List.getD_nil, List.contains_cons, List.contains_nil, Nat.reduceAdd, Nat.reduceBEq, Bool.or_false, Bool.false_or, Bool.or_true, Bool.true_or, Bool.false_eq_true, false_implies, true_implies, true_and, and_true, forall_const] at hk
                        simp only [hk, Act.put, List.setIfInBounds_toArray, List.set_cons_zero, List.set_cons_succ]
                        clear hk
                        clear hm HCC
                        have B9 := Lib.hid (bthen hT2.out.2 hC)
                        clear hC
                        go_wp2_with fail
                        go_roundw
                        case rel => exact ⟨j + 1, by omega, by go_num, Lib.hid ⟨HLT.out, B9.out⟩⟩
                        case measure => simp [intOf]; omega
                    · have hjn' : ¬ (j : Int) < (n : Int) := by omega
                      have hje : j = n := by omega
                      have OKV : Hid (okV r ds ps k) := Lib.hid (okV_mk HD.out HM.out.1 (by unfold bad6; simp [g1, g2, g3, g4, g5, A6.out]) (fun t u h => hT2.out.1 t u (by rw [hje, HN.out]; exact (List.getElem?_eq_some_iff.1 h).1) h))
                      have B9 := Lib.hid (bthen B2.out hT2.out.2)
                      clear hje hj hT2 hm
                      go_wp2_with fail
                      go_roundw
                      case rel => exact ⟨k + 1, by have := HK.out; omega, by go_num, Lib.hid ⟨fun v hv => by
                        rcases Nat.lt_or_ge v k with h | h
                        · exact hT.out.1 v h
                        · obtain rfl : v = k := by omega
                          exact OKV.out, B9.out⟩⟩
                      case measure => have := HK.out; simp [intOf]; omega
    · have hkn : ¬ (k : Int) < 128 := by omega
      have hke : k = 128 := by omega
      have HE : Hid (codeT r ds ps hs = 0) := Lib.hid (GOOD.out (fun v hv => hT.out.1 v (by omega)))
      clear hke hk
      go_wp2_with fail
      go_ret
      exact ⟨by rw [HE.out]; rfl, BW.out.trans (hT.out.2.mono (by have := BW.out.size; omega))⟩

/-- the reference's Check of any tree -/
theorem rChk_ok (w : World) (x : Value) (r : Int) (ds : List Int) (ps hs : List Nat) (X : TV w x r ds ps hs) :
    Calls Tryd.prog 10 #[x] w fun e w' => e = .returned (.int .i64 (codeT r ds ps hs)) ∧ Below w.heap.size w w' := by
  obtain ⟨_, _, _, rfl, ⟨A, c, rfl, h1, n1, -⟩, ⟨B, d, rfl, h2, n2, -⟩, ⟨C, f, rfl, h3, n3, -⟩⟩ := X.e
  by_cases l1 : ds.length = 128
  · by_cases l2 : ps.length = 128
    · by_cases l3 : hs.length = 128
      · obtain ⟨gd, od, rfl, hd⟩ := Rd_all cI_len (by decide) h1 (by omega)
        obtain ⟨gp, op, rfl, hp⟩ := Rd_all cM_len (by decide) h2 (by omega)
        rw [dC_flat] at hd
        rw [l1, l2, l3]
        by_cases hr : r < 0
        · rw [codeT1 (fun g => by have := g.2.2.2.1; omega)]
          exact rchk_e4 r c d f _ _ _ w hr
        · by_cases hr2 : 127 < r
          · rw [codeT1 (fun g => by have := g.2.2.2.2.1; omega)]
            exact rchk_e5 r c d f _ _ _ w hr hr2
          · exact rchk_main r gd od c gp op d f C ds ps hs w hr hr2 l1 l2 l3 hd hp X.pb
      · rw [codeT1 (fun g => l3 g.2.2.1), l1, l2]
        exact rchk_e3 r _ c d f _ _ _ w (by omega)
    · rw [codeT1 (fun g => l2 g.2.1), l1]
      exact rchk_e2 r _ _ c d f _ _ _ w (by omega)
  · rw [codeT1 (fun g => l1 g.1)]
    exact rchk_e1 r _ _ _ c d f _ _ _ w (by omega)

end Go.Proofs.YtjbglifmppilfaaDoor
