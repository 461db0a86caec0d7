/- The ways that stand open: take; conditions as stated. -/
import Derived.Test.YtpklcefiabjplaaR16
namespace Go.Proofs.Ytpklcefiabjplaa
open Go.ChangeShapes Go.WideShapes Go.ChangeAt Go.RowKit
set_option linter.unusedVariables false
set_option linter.unusedSimpArgs false
attribute [local go_sem] Og.Opt Og.OpY

attribute [local go_sem] Og.Opt Og.OpY

theorem Wy.row {b : Nat} {w : World} {v : Value} {xs : List La} (H : Wy b w v xs) (h0 : 0 < xs.length) : ∃ g cap, v = .slice (some ⟨g, 0, none⟩) xs.length cap ∧ b < g ∧ g < w.heap.size ∧ xs.length ≤ cap ∧ AtL w g 0 (xs.flatMap cLa) := by
  rcases H.own.2 with ⟨_, h1⟩ | ⟨g, cap, cur, hv, hb, hg, hnc, hcm, hcs, htk⟩
  · omega
  · refine ⟨g, cap, hv, hb, (Array.getElem?_eq_some_iff.1 hg).1, hnc, fun j u hu => ?_⟩
    rw [Nat.zero_add, cell_of_row w g j _ _ _ hg]
    rw [← htk] at hu
    rw [List.getElem?_take] at hu
    split at hu
    · simpa using hu
    · cases hu
theorem Wy.cut {b g n c : Nat} {w : World} {xs : List La} (H : Wy b w (.slice (some ⟨g, 0, none⟩) n c) xs) (m : Nat) (hm : m ≤ xs.length) :
    Wy b (w.setCell ⟨b, 0, none⟩ (.slice (some ⟨g, 0, none⟩) m c)) (.slice (some ⟨g, 0, none⟩) m c) (xs.take m) := by
  rcases H.own.2 with ⟨h0, _⟩ | ⟨g', cap, cur, hv, hb, hg, hnc, hcm, hcs, htk⟩
  · cases h0
  · simp only [Value.slice.injEq, Option.some.injEq, Addr.mk.injEq, and_true] at hv
    obtain ⟨rfl, hn, rfl⟩ := hv
    have hne : g ≠ b := by omega
    rw [setCell_eq_setRow w b 0 _ 131 (0, 0) _ H.blk]
    have hl : (xs.take m).length = m := by rw [List.length_take]; omega
    refine ⟨?_, ⟨by rw [flat_len cLa 2 cLa_len], .inr ⟨g, c, cur, by rw [hl], hb, ?_, by rw [hl]; omega, hcm, hcs, ?_⟩⟩⟩
    · rw [setRow_heap w b _ _ 131 (0, 0) H.blk]
      rfl
    · rw [setRow_other w b g _ hne]; exact hg
    · rw [hl, ← flat_take cLa 2 cLa_len xs m, ← htk, List.take_take, Nat.min_eq_left (by omega)]
theorem loadLa {xs : List La} {i : Nat} {x : La} {w : World} {g : Nat} (ha : AtL w g 0 (xs.flatMap cLa)) (hx : xs[i]? = some x) : (loadVar 91 ⟨g, i * 2, none⟩).run Try.prog w = .ok (.agg (cLa x).toArray) w := by
  refine run_loadL isAgg91 size91 (cLa_len x) (fun j u hu => ?_)
  have hj : j < 2 := by have := (List.getElem?_eq_some_iff.1 hu).1; rwa [cLa_len] at this
  have := ha (i * 2 + j) u (by rw [flat_get cLa 2 cLa_len (by omega), show (i * 2 + j) / 2 = i by omega, hx, show (i * 2 + j) % 2 = j by omega]; exact hu)
  rwa [Nat.zero_add] at this
def Is91 (wz : World) (v : Value) (w : World) : Prop := ∃ g, v = .pointer (some ⟨g, 0, none⟩) ∧ wz.heap.size ≤ g ∧ w.heap[g]? = some (.cells #[.complex .f64 0 0, .int .i64 0] 91 (0, 0))
theorem Is91.keep {wz : World} (v : Value) (w w2 : World) (hb : Below w.heap.size w w2) (h : Is91 wz v w) : Is91 wz v w2 := by
  obtain ⟨g, h1, h2, h3⟩ := h
  exact ⟨g, h1, h2, heap_keep hb h3⟩
set_option maxRecDepth 100000 in
set_option maxHeartbeats 8000000 in
theorem takeW_none (b : Nat) (v : Value) (w : World) (H : Wy b w v []) :
    Calls Try.prog 79 #[.pointer (some ⟨b, 0, none⟩)] w fun e w' => (∃ u, e = .returned (.tuple #[.agg #[.complex .f64 0 0, .int .i64 u], .bool false])) ∧ Below w.heap.size w w' := by
  obtain ⟨A, c, hv, -⟩ := H.sl
  subst hv
  have b1 : Below w.heap.size w (w.alloc (.cells #[.complex .f64 0 0, .int .i64 0] 91)) := (Below.refl _ _).alloc (Nat.le_refl _) _
  have q0 := (H.below b1).v0
  have KZ := Lib.hid (show (w.alloc (.cells #[.complex .f64 0 0, .int .i64 0] 91)).heap[w.heap.size]? = some (.cells #[.complex .f64 0 0, .int .i64 0] 91 (0, 0)) from heap_at rfl)
  have BA := Lib.hid b1
  clear H b1
  go_enter Try.func79, Try.ntmps79
  go_wp2_with (refine wpList_storeN rfl 91 (.tmp 2) (.tmp 11) rfl rfl w.heap.size #[.complex .f64 0 0, .int .i64 0] rfl rfl 91 _ KZ.out info91s rfl (by simp [Value.oneCell']) ?_; intro w3 hz hb hn hs3; have ZL := Lib.hid hz; have B3 := Lib.hid (BA.out.trans (hb _ (Nat.le_refl _))); clear hz hb hn hs3)
  refine bodyPost_ret (results_cell_tmp1 rfl rfl (run_loadL (cs := [.complex .f64 0 0, .int .i64 0]) isAgg91 size91 rfl (AtL_heap ZL.out))) rfl ?_
  exact ⟨⟨0, rfl⟩, B3.out⟩
set_option maxRecDepth 100000 in
set_option maxHeartbeats 8000000 in
theorem takeW_ok (b : Nat) (v : Value) (w : World) (xs : List La) (l : La) (ln : Nat) (H : Wy b w v xs) (hln : xs.length = ln + 1) (hx : xs[ln]? = some l) (hl : ln ≤ 1000000) :
    Calls Try.prog 79 #[.pointer (some ⟨b, 0, none⟩)] w fun e w' => e = .returned (.tuple #[.agg (cLa l).toArray, .bool true]) ∧ Fr b v w w' ∧ ∃ v', Wy b w' v' (xs.take ln) ∧ v'.ownBlock = v.ownBlock := by
  obtain ⟨g, c, hv, hbg, hgs, hcap, hat⟩ := H.row (by omega)
  subst hv
  rw [hln] at H hcap ⊢
  obtain ⟨z, hz⟩ : ∃ z, z = w.heap.size := ⟨_, rfl⟩
  have HZ := Lib.hid hz
  have b1 : Below w.heap.size w (w.alloc (.cells #[.complex .f64 0 0, .int .i64 0] 91)) := (Below.refl _ _).alloc (Nat.le_refl _) _
  have k0 : (w.alloc (.cells #[.complex .f64 0 0, .int .i64 0] 91)).heap[z]? = some (.cells #[.complex .f64 0 0, .int .i64 0] 91 (0, 0)) := heap_at hz
  have ll := loadLa hat hx
  have LX := Lib.hid hln
  have HB := Lib.hid (And.intro hbg (And.intro hgs H.lt))
  have HH := Lib.hid H
  have hat' := Lib.hid hat
  have HX := Lib.hid hx
  have gw : wrap64 (ln : Int) = ln := by unfold wrap64; omega
  have gw2 : IntKind.i64.wrap (ln : Int) = ln := wrapk (by omega)
  have hl0 : (0 : Int) ≤ (ln : Int) := by omega
  have hl1 : (ln : Int) < (ln : Int) + 1 := by omega
  have hne : ¬ ((ln : Int) + 1 = 0) := by omega
  have hlc : (ln : Int) ≤ (c : Int) := by omega
  have hc0 : ¬ c = 0 := by omega
  have hz2 := hz
  go_enter Try.func79, Try.ntmps79
  clear hz2
  generalize hW : w.alloc (.cells #[.complex .f64 0 0, .int .i64 0] 91) = wa at *
  have HA := Lib.hid (H.below b1)
  have BA := Lib.hid b1
  have KA := Lib.hid k0
  have ATA := Lib.hid (hat.below b1)
  have q0 := HA.out.v0
  clear b1 k0 ll hat hx H hln hbg hgs hcap hz
  go_wp2_with fail
  clear hW
  have HC : ∀ w5, Below wa.heap.size wa w5 → w5.cell? ⟨b, 0, none⟩ = some (.slice (some ⟨g, 0, none⟩) (ln + 1) c) := fun w5 h5 => bcell h5 q0
  have HLD : Hid (∀ w5, Below wa.heap.size wa w5 → (loadVar 91 ⟨g, ln * 2, none⟩).run Try.prog w5 = .ok (.agg (cLa l).toArray) w5) := Lib.hid (fun w5 h5 => loadLa (ATA.out.below h5) HX.out)
  clear q0
  refine Og.Tail.walk_lit 13 [[],[0],[1,0],[2,1,0],[],[4],[5,4],[6,5,4],[7,6,5,4],[8,7,6,5,4],[3,9,2,1,0,8,7,6,5,4],[10,3,9,2,1,0,8,7,6,5,4],[],[12,11,0,1,2,3,4,5,6,7,8,9,10]] (fun w2 => Below wa.heap.size wa w2) (fun w1 w2 => Below w1.heap.size w1 w2) (by kernel_rfl) (by kernel_rfl) (by kernel_rfl) (bdrew) ?_
  simp only [List.take_succ_cons, List.take_zero, List.drop_succ_cons, List.drop_zero]
  refine Og.step_pure (fun _ => Below.refl _ _) ?_; apply Exists.intro; refine And.intro ?_ ?_; focus (intro vs w2 hC hk; have hm := HC w2 hC; revert hk; simp only [Og.KS, Og.K0, Og.Is, List.getD_cons_zero, List.getD_cons_succ, List.getD_nil, List.contains_cons, List.contains_nil, Nat.reduceAdd, Nat.reduceBEq, Bool.or_false, Bool.false_or, Bool.or_true, Bool.true_or, Bool.false_eq_true, false_implies, true_implies, true_and, and_true, forall_const]; intros; go_simp; exact rfl)
  refine Og.step_pure (fun _ => Below.refl _ _) ?_; apply Exists.intro; refine And.intro ?_ ?_; focus (intro vs w2 hC hk; have hm := HC w2 hC; revert hk; simp only [Og.KS, Og.K0, Og.Is, List.getD_cons_zero, List.getD_cons_succ, List.getD_nil, List.contains_cons, List.contains_nil, Nat.reduceAdd, Nat.reduceBEq, Bool.or_false, Bool.false_or, Bool.or_true, Bool.true_or, Bool.false_eq_true, false_implies, true_implies, true_and, and_true, forall_const]; intros; go_simp; exact rfl)
  refine Og.step_pure (fun _ => Below.refl _ _) ?_; apply Exists.intro; refine And.intro ?_ ?_; focus (intro vs w2 hC hk; have hm := HC w2 hC; revert hk; simp only [Og.KS, Og.K0, Og.Is, List.getD_cons_zero, List.getD_cons_succ, List.getD_nil, List.contains_cons, List.contains_nil, Nat.reduceAdd, Nat.reduceBEq, Bool.or_false, Bool.false_or, Bool.or_true, Bool.true_or, Bool.false_eq_true, false_implies, true_implies, true_and, and_true, forall_const]; intros; go_simp; exact rfl)
  refine Og.step_pure (fun _ => Below.refl _ _) ?_; apply Exists.intro; refine And.intro ?_ ?_; focus (intro vs w2 hC hk; have hm := HC w2 hC; revert hk; simp only [Og.KS, Og.K0, Og.Is, List.getD_cons_zero, List.getD_cons_succ, List.getD_nil, List.contains_cons, List.contains_nil, Nat.reduceAdd, Nat.reduceBEq, Bool.or_false, Bool.false_or, Bool.or_true, Bool.true_or, Bool.false_eq_true, false_implies, true_implies, true_and, and_true, forall_const]; intros; go_simp; exact rfl)
  refine Og.step_pure (fun _ => Below.refl _ _) ?_; apply Exists.intro; refine And.intro ?_ ?_; focus (intro vs w2 hC hk; have hm := HC w2 hC; revert hk; simp only [Og.KS, Og.K0, Og.Is, List.getD_cons_zero, List.getD_cons_succ, List.getD_nil, List.contains_cons, List.contains_nil, Nat.reduceAdd, Nat.reduceBEq, Bool.or_false, Bool.false_or, Bool.or_true, Bool.true_or, Bool.false_eq_true, false_implies, true_implies, true_and, and_true, forall_const]; intros; go_simp; exact rfl)
  refine Og.step_pure (fun _ => Below.refl _ _) ?_; apply Exists.intro; refine And.intro ?_ ?_; focus (intro vs w2 hC hk; have hm := HC w2 hC; revert hk; simp only [Og.KS, Og.K0, Og.Is, List.getD_cons_zero, List.getD_cons_succ, List.getD_nil, List.contains_cons, List.contains_nil, Nat.reduceAdd, Nat.reduceBEq, Bool.or_false, Bool.false_or, Bool.or_true, Bool.true_or, Bool.false_eq_true, false_implies, true_implies, true_and, and_true, forall_const]; intros; go_simp; exact rfl)
  refine Og.step_pure (fun _ => Below.refl _ _) ?_; apply Exists.intro; refine And.intro ?_ ?_; focus (intro vs w2 hC hk; have hm := HC w2 hC; revert hk; simp only [Og.KS, Og.K0, Og.Is, List.getD_cons_zero, List.getD_cons_succ, List.getD_nil, List.contains_cons, List.contains_nil, Nat.reduceAdd, Nat.reduceBEq, Bool.or_false, Bool.false_or, Bool.or_true, Bool.true_or, Bool.false_eq_true, false_implies, true_implies, true_and, and_true, forall_const]; intros; go_simp; exact rfl)
  refine Og.step_pure (fun _ => Below.refl _ _) ?_; apply Exists.intro; refine And.intro ?_ ?_; focus (intro vs w2 hC hk; have hm := HC w2 hC; revert hk; simp only [Og.KS, Og.K0, Og.Is, List.getD_cons_zero, List.getD_cons_succ, List.getD_nil, List.contains_cons, List.contains_nil, Nat.reduceAdd, Nat.reduceBEq, Bool.or_false, Bool.false_or, Bool.or_true, Bool.true_or, Bool.false_eq_true, false_implies, true_implies, true_and, and_true, forall_const]; intros; go_simp; exact rfl)
  refine Og.step_pure (fun _ => Below.refl _ _) ?_; apply Exists.intro; refine And.intro ?_ ?_; focus (intro vs w2 hC hk; have hm := HC w2 hC; revert hk; simp only [Og.KS, Og.K0, Og.Is, List.getD_cons_zero, List.getD_cons_succ, List.getD_nil, List.contains_cons, List.contains_nil, Nat.reduceAdd, Nat.reduceBEq, Bool.or_false, Bool.false_or, Bool.or_true, Bool.true_or, Bool.false_eq_true, false_implies, true_implies, true_and, and_true, forall_const]; intros; go_simp; exact rfl)
  refine Og.step_pure (fun _ => Below.refl _ _) ?_; apply Exists.intro; refine And.intro ?_ ?_; focus (intro vs w2 hC hk; have hm := HC w2 hC; revert hk; simp only [Og.KS, Og.K0, Og.Is, List.getD_cons_zero, List.getD_cons_succ, List.getD_nil, List.contains_cons, List.contains_nil, Nat.reduceAdd, Nat.reduceBEq, Bool.or_false, Bool.false_or, Bool.or_true, Bool.true_or, Bool.false_eq_true, false_implies, true_implies, true_and, and_true, forall_const]; intros; go_simp; exact rfl)
  refine Og.step_pure (fun _ => Below.refl _ _) ?_; apply Exists.intro; refine And.intro ?_ ?_; focus (intro vs w2 hC hk; have hm := HC w2 hC; revert hk; simp only [Og.KS, Og.K0, Og.Is, List.getD_cons_zero, List.getD_cons_succ, List.getD_nil, List.contains_cons, List.contains_nil, Nat.reduceAdd, Nat.reduceBEq, Bool.or_false, Bool.false_or, Bool.or_true, Bool.true_or, Bool.false_eq_true, false_implies, true_implies, true_and, and_true, forall_const]; intros; go_simp; exact rfl)
  refine Og.step_pure (fun _ => Below.refl _ _) ?_; apply Exists.intro; refine And.intro ?_ ?_; focus (intro vs w2 hC hk; have hl := HLD.out w2 hC; refine Og.OptB.out ?_; revert hk; simp only [Og.KS, Og.K0, Og.Is, List.getD_cons_zero, List.getD_cons_succ, List.getD_nil, List.contains_cons, List.contains_nil, Nat.reduceAdd, Nat.reduceBEq, Bool.or_false, Bool.false_or, Bool.or_true, Bool.true_or, Bool.false_eq_true, false_implies, true_implies, true_and, and_true, forall_const]; intros; exact optB_loadL (by go_simp) rfl (by go_simp) hl ⟨rfl, rfl⟩)
  refine Og.step_any (Is91 wa) Is91.keep ?_ ?_; focus (intro vs w2 hC hk; go_simp; exact ⟨hC.alloc hC.size _, (Below.refl _ _).alloc (Nat.le_refl _) _, _, rfl, hC.size, heap_at rfl⟩)
  intro vs w2 hC hk
  simp only [Og.KS, Og.K0, Og.Is, List.getD_cons_zero, List.getD_cons_succ, List.getD_nil, List.contains_cons, List.contains_nil, Nat.reduceAdd, Nat.reduceBEq, Bool.or_false, Bool.false_or, Bool.or_true, Bool.true_or, Bool.false_eq_true, false_implies, true_implies, true_and, and_true, forall_const] at hk
  obtain ⟨⟨g4, e4, hg4, k4⟩, hk⟩ := hk
  simp only [hk, e4, Act.put, List.setIfInBounds_toArray, List.set_cons_zero, List.set_cons_succ]
  have H2 := Lib.hid (HA.out.below hC)
  have B2 := Lib.hid (bthen BA.out hC)
  have K42 := Lib.hid k4
  have KZ2 := Lib.hid (heap_keep hC KA.out)
  have G4 : Hid (w.heap.size < g4) := Lib.hid (by have := (Array.getElem?_eq_some_iff.1 KA.out).1; have := HZ.out; omega)
  clear hk e4 k4 hC HC HLD hg4
  go_wp2_with (refine wpList_storeN rfl 91 (.tmp 4) (.tmp 23) rfl rfl g4 (cLa l).toArray rfl rfl 91 _ K42.out info91s rfl (by simp [Value.oneCell', cLa]) ?_; intro w3 hz hb hn hs3; have Z3 := Lib.hid hz; have N3 := Lib.hid hn; have S3 := Lib.hid hs3; have b3 := hb (w.heap.size + 1) G4.out; have B3 := Lib.hid b3; clear hz hb hn hs3)
  have H3 : Hid (Wy b w3 (.slice (some ⟨g, 0, none⟩) (ln + 1) c) xs) := Lib.hid ⟨(B3.out.block b (by have := HB.out; omega)).trans H2.out.blk, ownR_same H2.out.own (fun gg e => by cases e; exact B3.out.block g (by have := HB.out; omega)) (by have := S3.out; omega)⟩
  have F3 := Lib.hid ((Fr.of (v := .slice (some ⟨g, 0, none⟩) (ln + 1) c) (Nat.le_of_lt HB.out.2.2) B2.out).fresh (Nat.le_of_lt HB.out.2.2) (Nat.le_of_lt G4.out) N3.out (B3.out.mono (by omega)))
  have KZ3 := Lib.hid ((N3.out z (by have := HZ.out; have := G4.out; omega)).trans KZ2.out)
  have q0 := H3.out.v0
  have HC : ∀ w5, Below w3.heap.size w3 w5 → w5.cell? ⟨b, 0, none⟩ = some (.slice (some ⟨g, 0, none⟩) (ln + 1) c) := fun w5 h5 => bcell h5 q0
  clear q0 b3 N3 S3 B3 H2 K42 KZ2

  refine Og.Tail.walk_lit 14 [[],[],[1],[2,1],[3,2,1],[],[5],[6,5],[7,6,5],[8,7,6,5],[9,8,7,6,5],[4,10,3,2,1,9,8,7,6,5],[0,1,2,3,4,5,6,7,8,9,10,11],[12,0,1,2,3,4,5,6,7,8,9,10,11],[13,11,0,1,2,3,4,5,6,7,8,9,10,12]] (fun w2 => Below w3.heap.size w3 w2) (fun w1 w2 => Below w1.heap.size w1 w2) (by kernel_rfl) (by kernel_rfl) (by kernel_rfl) (bdrew) ?_
  simp only [List.take_succ_cons, List.take_zero, List.drop_succ_cons, List.drop_zero]
  repeat (first | (refine Og.step_pure (fun _ => Below.refl _ _) ?_; apply Exists.intro; refine And.intro ?_ ?_; focus (intro vs w2 hC hk; have hm := HC w2 hC; revert hk; simp only [Og.KS, Og.K0, Og.Is, List.getD_cons_zero, List.getD_cons_succ, List.getD_nil, List.contains_cons, List.contains_nil, Nat.reduceAdd, Nat.reduceBEq, Bool.or_false, Bool.false_or, Bool.or_true, Bool.true_or, Bool.false_eq_true, false_implies, true_implies, true_and, and_true, forall_const]; intros; go_simp; exact rfl)))
  intro vs w2 hC hk
  have hm := HC w2 hC
  simp only [Og.KS, Og.K0, Og.Is, List.getD_cons_zero, List.getD_cons_succ, List.getD_nil, List.contains_cons, List.contains_nil, Nat.reduceAdd, Nat.reduceBEq, Bool.or_false, Bool.false_or, Bool.or_true, Bool.true_or, Bool.false_eq_true, false_implies, true_implies, true_and, and_true, forall_const] at hk
  simp only [hk, Act.put, List.setIfInBounds_toArray, List.set_cons_zero, List.set_cons_succ]
  clear hk
  have H4 := Lib.hid (H3.out.below hC)
  have F4 := Lib.hid (F3.out.trans (Fr.of (Nat.le_of_lt H3.out.lt) hC))
  have Z4 := Lib.hid (heap_keep hC Z3.out)
  have KZ4 := Lib.hid (heap_keep hC KZ3.out)
  have fz : w2.frozen? ⟨b, 0, none⟩ = false := by simp [World.frozen?, H4.out.blk]
  have q0 := H4.out.v0
  have f5 := Fr.setCell (w := w2) (v := .slice (some ⟨g, 0, none⟩) (ln + 1) c) 0 (.slice (some ⟨g, 0, none⟩) ln c) (Nat.le_refl b) (.inl rfl) ⟨_, _, H4.out.blk⟩
  have H5 := Lib.hid (H4.out.cut ln (by have := LX.out; omega))
  have F5 := Lib.hid (F4.out.trans f5)
  have Z5 := Lib.hid (f5.keep Z4.out (by have := HB.out; have := G4.out; omega) (by simp [Value.ownBlock]; have := HB.out; have := G4.out; omega))
  have KZ5 := Lib.hid (f5.keep KZ4.out (by have := HB.out; have := HZ.out; omega) (by simp [Value.ownBlock]; have := HB.out; have := HZ.out; omega))
  have KZ6 := Lib.hid (by have := KZ5.out; rw [HZ.out] at this; exact this : (w2.setCell ⟨b, 0, none⟩ (.slice (some ⟨g, 0, none⟩) ln c)).heap[w.heap.size]? = some (.cells #[.complex .f64 0 0, .int .i64 0] 91 (0, 0)))
  clear hC hm HC f5 H3 F3 Z3 KZ3
  go_wp2_with (first | (refine wpList_loadL rfl 91 (.tmp 4) rfl g4 0 (.agg (cLa l).toArray) rfl (ldLa Z5.out) ?_) | (refine wpList_storeN rfl 91 (.tmp 2) (.tmp 38) rfl rfl w.heap.size (cLa l).toArray rfl rfl 91 _ KZ6.out info91s rfl (by simp [Value.oneCell', cLa]) ?_; intro w9 hz hb hn hs3; have Z9 := Lib.hid hz; have N9 := Lib.hid hn; have B9 := Lib.hid (hb w.heap.size (Nat.le_refl _)); have S9 := Lib.hid hs3; clear hz hb hn hs3))
  refine bodyPost_ret (results_cell_tmp1 rfl rfl (ldLa Z9.out)) rfl ?_
  refine ⟨rfl, F5.out.fresh (Nat.le_of_lt HB.out.2.2) (Nat.le_refl _) N9.out B9.out, _, ⟨(N9.out b (by have := HB.out; have := HZ.out; omega)).trans H5.out.blk, ownR_same H5.out.own (fun gg e => by cases e; exact N9.out g (by have := HB.out; have := HZ.out; omega)) (by have := S9.out; omega)⟩, rfl⟩

end Go.Proofs.Ytpklcefiabjplaa
