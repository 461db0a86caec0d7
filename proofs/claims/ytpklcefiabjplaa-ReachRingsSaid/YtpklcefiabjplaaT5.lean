/- The reference: Check of a sound graph without pins; conditions as stated. -/
import Derived.Test.YtpklcefiabjplaaT4
import Derived.Test.YtpklcefiabjplaaG4
namespace Go.Proofs.Ytpklcefiabjplaa
open Go.ChangeShapes Go.WideShapes Go.ChangeAt Go.RowKit
set_option linter.unusedVariables false
set_option linter.unusedSimpArgs false
attribute [local go_sem] Og.Opt Og.OpY

attribute [local go_sem] Og.Opt Og.OpY gd_same gd_ne ge_same ge_ne
set_option maxRecDepth 100000 in
set_option maxHeartbeats 16000000 in
theorem rCheck_ok (ns : List Nd) (ls : List Lk) (va vb vc : Value) (w : World) (sa : Sl cNd 3 0 w va ns) (sb : Sl cLk 4 0 w vb ls) (sc : Sl cPn 4 0 w vc []) (hG : SndG ns ls []) (hl : ns.length ≤ 128) :
    Calls Try.prog 53 #[.agg #[va, vb, vc]] w fun e w' => e = .returned (.int .i64 0) ∧ Below w.heap.size w w' := by
  have HFN := Lib.hid (fun w2 (hb : Below w.heap.size w w2) (a : Int) => rFindNode_ok ns ls va vb vc a w2 (sa.below hb) (by omega))
  obtain ⟨A1, c1, rfl, r1, _⟩ := sa
  obtain ⟨A2, c2, rfl, r2, _⟩ := sb
  obtain ⟨A3, c3, rfl, r3, _⟩ := sc
  obtain ⟨n1, hn1⟩ : ∃ n, n = ns.length := ⟨_, rfl⟩
  obtain ⟨n2, hn2⟩ : ∃ n, n = ls.length := ⟨_, rfl⟩
  have hl2 : n2 ≤ 2048 := by rw [hn2]; exact hG.ll
  have hi1 : (n1 : Int) ≤ 128 := by omega
  have hi2 : (n2 : Int) ≤ 2048 := by omega
  have hj1 : decide ((128 : Int) < (n1 : Int)) = false := decide_eq_false (by omega)
  have hj2 : decide ((2048 : Int) < (n2 : Int)) = false := decide_eq_false (by omega)
  rw [← hn1] at hl HFN ⊢
  rw [← hn2] at HFN ⊢
  simp only [List.length_nil] at HFN ⊢
  have N1 := Lib.hid hn1
  have N2 := Lib.hid hn2
  have R1 := Lib.hid r1
  have R2 := Lib.hid r2
  have HG := Lib.hid hG
  obtain ⟨z, hz⟩ : ∃ z, z = w.heap.size := ⟨_, rfl⟩
  have b1 : Below w.heap.size w (w.alloc (.cells #[.slice A1 n1 c1, .slice A2 n2 c2, .slice A3 0 c3] 33)) := (Below.refl _ _).alloc (Nat.le_refl _) _
  have k1 : (w.alloc (.cells #[.slice A1 n1 c1, .slice A2 n2 c2, .slice A3 0 c3] 33)).heap[z]? = some (.cells #[.slice A1 n1 c1, .slice A2 n2 c2, .slice A3 0 c3] 33 (0, 0)) := heap_at hz
  have HZ := Lib.hid hz
  clear hn1 hn2 r1 r2 r3 hG
  go_enter Try.func53, Try.ntmps53
  go_wp2_with fail
  rw [← hz]
  clear hz
  generalize (w.alloc (.cells #[.slice A1 n1 c1, .slice A2 n2 c2, .slice A3 0 c3] 33)) = wa at *
  have BA := Lib.hid b1
  have KA := Lib.hid k1
  clear b1 k1 hi1 hi2 hj1 hj2
  go_loopw [3] (fun i wr => ∃ k : Nat, k ≤ n1 ∧ i = .int .i64 k ∧ Hid (Below wa.heap.size wa wr)) (fun i _ => n1 - (intOf i).toNat)
  case atStart => exact ⟨0, Nat.zero_le _, rfl, Lib.hid (Below.refl _ _)⟩
  case round =>
    obtain ⟨k, hk, rfl, hbo⟩ := hrel
    by_cases hlt : k < n1
    · obtain ⟨x, hx⟩ : ∃ r, ns[k]? = some r := ⟨_, List.getElem?_eq_getElem (by rw [← N1.out]; exact hlt)⟩
      have hru := HG.out.nr k x hx
      obtain ⟨b, o, rfl, hat⟩ := (R1.out.below (bthen BA.out hbo.out)) k _ hx
      have HXX := Lib.hid hx
      have hwk : IntKind.i64.wrap (k : Int) = k := wrapk (by omega)
      have hwk1 : IntKind.i64.wrap ((k : Int) + 1) = (k : Int) + 1 := by rw [IntKind.wrap_i64]; omega
      have hk0 : (0 : Int) ≤ (k : Int) := by omega
      have hkn : (k : Int) < (n1 : Int) := by omega
      clear hx
      rcases k with _ | k
      · simp only [Nat.zero_mul, Nat.add_zero] at hat
        clear hwk hk0 hwk1
        have HX : Hid (AtL wr b (o) [.int .i64 x.i, .bool false, .complex .f64 0 0]) := Lib.hid hat
        have KZ := Lib.hid (heap_keep hbo.out KA.out)
        have q0 : wr.cell? ⟨z, 0, none⟩ = some (.slice (some ⟨b, o, none⟩) n1 c1) := by rw [cell_of_row _ _ 0 _ _ _ KZ.out]; rfl
        clear hat
        go_wp2_with (first | (refine wpList_loadL rfl 41 (.tmp 35) rfl b (o) (.agg #[.int .i64 x.i, .bool false, .complex .f64 0 0]) rfl (run_loadL isAgg41 size41 rfl HX.out) ?_) | (refine wpList_storeN rfl 41 (.tmp 4) (.tmp 36) rfl rfl wr.heap.size #[.int .i64 x.i, .bool false, .complex .f64 0 0] rfl rfl 41 _ (heap_at rfl) info41s rfl (by simp [Value.oneCell']) ?_; intro w1 hz hb ho hs; have HZ1 := Lib.hid (AtL_heap (cs := [.int .i64 x.i, .bool false, .complex .f64 0 0]) hz); have B1 := Lib.hid (below_storeA hb); clear hz hb ho hs))
        have B2 := Lib.hid (bthen BA.out (bthen hbo.out B1.out))
        obtain ⟨gz, hgz⟩ : ∃ gz, gz = wr.heap.size := ⟨_, rfl⟩
        rw [← hgz] at HZ1
        rw [← hgz]
        clear hgz q0
        have HC : ∀ w2, Below w1.heap.size w1 w2 → w2.cell? ⟨gz, 0, none⟩ = some (.int .i64 x.i) ∧ w2.cell? ⟨gz, 1, none⟩ = some (.bool false) ∧ w2.cell? ⟨gz, 2, none⟩ = some (.complex .f64 0 0) ∧ w2.cell? ⟨z, 0, none⟩ = some (.slice (some ⟨b, o, none⟩) n1 c1) := fun w2 h => ⟨bcell h (by have := HZ1.out 0 _ rfl; simpa using this), bcell h (by have := HZ1.out 1 _ rfl; simpa using this), bcell h (by have := HZ1.out 2 _ rfl; simpa using this), bcell h (by rw [cell_of_row _ _ 0 _ _ _ (heap_keep B1.out KZ.out)]; rfl)⟩
        have HIN : Hid (∀ w, Calls Try.prog 54 #[.int .i64 x.i] w fun e w' => e = .returned (.bool true) ∧ Below w.heap.size w w') := Lib.hid (fun w => by have := rIn_ok x.i w; rwa [hru] at this)
        refine abs_act fun a0 ha0 => ?_
        have es : a0.tmps.size = 165 := by rw [ha0]; rfl
        have e4 : a0.tmps.getD 4 undef = .pointer (some ⟨gz, 0, none⟩) := by rw [ha0]; rfl
        have f4 : ∀ h : 4 < a0.tmps.size, a0.tmps[4] = .pointer (some ⟨gz, 0, none⟩) := by subst ha0; exact fun _ => rfl
        have e1 : a0.tmps.getD 1 undef = .pointer (some ⟨z, 0, none⟩) := by rw [ha0]; rfl
        have f1 : ∀ h : 1 < a0.tmps.size, a0.tmps[1] = .pointer (some ⟨z, 0, none⟩) := by subst ha0; exact fun _ => rfl
        have e3 : a0.tmps.getD 3 undef = .int .i64 (0) := by rw [ha0]; rfl
        have f3 : ∀ h : 3 < a0.tmps.size, a0.tmps[3] = .int .i64 (0) := by subst ha0; exact fun _ => rfl
        have HA0 := Lib.hid ha0
        clear ha0
        refine Og.walk_lit [[],[0],[1,0],[2,1,0],[3,2,1,0],[4,3,2,1,0],[5,4,3,2,1,0],[6,4,5,3,2,1,0],[7,4,6,5,3,2,1,0],[4,8,3,2,1,0,7,6,5],[9,7,4,8,3,2,1,0,6,5],[10,9,7,4,8,3,2,1,0,6,5],[11,10,9,7,4,8,3,2,1,0,6,5],[12,10,11,9,7,4,8,3,2,1,0,6,5],[13,12,10,11,9,7,4,8,3,2,1,0,6,5],[14,13,12,10,11,9,7,4,8,3,2,1,0,6,5],[13,12,10,11,9,7,4,8,3,2,1,0,6,5],[16,13,12,10,11,9,7,4,8,3,2,1,0,6,5],[15,17,13,14,12,10,11,9,7,4,8,3,2,1,0,6,5,16],[18,13,15,17,14,12,10,11,9,7,4,8,3,2,1,0,6,5,16],[19,13,18,15,17,14,12,10,11,9,7,4,8,3,2,1,0,6,5,16],[13,12,10,11,9,7,4,8,3,2,1,0,6,5],[21,13,12,10,11,9,7,4,8,3,2,1,0,6,5],[20,22,13,19,18,15,17,14,12,10,11,9,7,4,8,3,2,1,0,6,5,16,21],[13,23,10,12,11,9,7,4,8,3,2,1,0,6,5,20,22,19,18,15,17,14,16,21],[10,24,9,7,4,8,3,2,1,0,6,5,13,23,12,11,20,22,19,18,15,17,14,16,21]] (fun w2 => Below w1.heap.size w1 w2) (fun w1 w2 => Below w1.heap.size w1 w2) (by kernel_rfl) (by kernel_rfl) (bdrew) ?_
        repeat (first | (refine Og.step_pure (fun _ => Below.refl _ _) ?_; apply Exists.intro; refine And.intro ?_ ?_; focus (intro vs w2 hC hk; have hm := HC w2 hC; revert hk; simp only [Og.KS, Og.K0, Og.Is, List.getD_cons_zero, List.getD_cons_succ, List.getD_nil, List.contains_cons, List.contains_nil, Nat.reduceAdd, Nat.reduceBEq, Bool.or_false, Bool.false_or, Bool.or_true, Bool.true_or, Bool.false_eq_true, false_implies, true_implies, true_and, and_true, forall_const]; intros; go_simp; rfl)) | (refine Og.step_one ?_; apply Exists.intro; refine And.intro ?_ ?_; focus (intro vs w2 hC hk; have hm := HC w2 hC; revert hk; simp only [Og.KS, Og.K0, Og.Is, List.getD_cons_zero, List.getD_cons_succ, List.getD_nil, List.contains_cons, List.contains_nil, Nat.reduceAdd, Nat.reduceBEq, Bool.or_false, Bool.false_or, Bool.or_true, Bool.true_or, Bool.false_eq_true, false_implies, true_implies, true_and, and_true, forall_const]; intros; go_simp; with_reducible refine (HIN.out _).mono ?_; rintro e w3 ⟨rfl, hb⟩; exact Og.RetV.mk ⟨bthen hC hb, hb, rfl⟩)) | (refine Og.step_one ?_; apply Exists.intro; refine And.intro ?_ ?_; focus (intro vs w2 hC hk; have hm := HC w2 hC; revert hk; simp only [Og.KS, Og.K0, Og.Is, List.getD_cons_zero, List.getD_cons_succ, List.getD_nil, List.contains_cons, List.contains_nil, Nat.reduceAdd, Nat.reduceBEq, Bool.or_false, Bool.false_or, Bool.or_true, Bool.true_or, Bool.false_eq_true, false_implies, true_implies, true_and, and_true, forall_const]; intros; go_simp; with_reducible refine (rOk_ok _).mono ?_; rintro e w3 ⟨rfl, hb⟩; exact Og.RetV.mk ⟨bthen hC hb, hb, rfl⟩)))
        intro vs w2 hC hk
        have hm := HC w2 hC
        simp only [Og.KS, Og.K0, Og.Is, List.getD_cons_zero, List.getD_cons_succ, List.getD_nil, List.contains_cons, List.contains_nil, Nat.reduceAdd, Nat.reduceBEq, Bool.or_false, Bool.false_or, Bool.or_true, Bool.true_or, Bool.false_eq_true, false_implies, true_implies, true_and, and_true, forall_const] at hk
        have ha0 := HA0.out
        subst ha0
        clear HA0 es e4 f4 e1 f1 e3 f3
        simp only [hk, Act.put, List.setIfInBounds_toArray, List.set_cons_zero, List.set_cons_succ]
        clear hk
        have B3 := Lib.hid (bthen hbo.out (bthen B1.out hC))
        clear hC hm HC
        go_wp2_with fail
        go_roundw
        case rel => exact ⟨0 + 1, by omega, by go_num, B3⟩
        case measure => simp [intOf]; omega
      · obtain ⟨y, hy⟩ : ∃ r, ns[k]? = some r := ⟨_, List.getElem?_eq_getElem (by rw [← N1.out]; omega)⟩
        obtain ⟨b', o', hA', hat'⟩ := (R1.out.below (bthen BA.out hbo.out)) k y hy
        injection hA' with hA'
        injection hA' with hb' ho' _
        subst hb' ho'
        clear hwk hk0 hkn hwk1
        have hwk : IntKind.i64.wrap (k : Int) = k := wrapk (by omega)
        have hwk1 : IntKind.i64.wrap ((k : Int) + 1) = (k : Int) + 1 := by rw [IntKind.wrap_i64]; omega
        have hk0 : (0 : Int) ≤ (k : Int) := by omega
        have hk1 : (0 : Int) ≤ (k : Int) + 1 := by omega
        have hk2 : decide ((0 : Int) < (k : Int) + 1) = true := decide_eq_true (by omega)
        have hkn : (k : Int) < (n1 : Int) := by omega
        have hkn1 : (k : Int) + 1 < (n1 : Int) := by omega
        have hwk2 : IntKind.i64.wrap ((k : Int) + 1 + 1) = (k : Int) + 1 + 1 := by rw [IntKind.wrap_i64]; omega
        have HX : Hid (AtL wr b (o + (k + 1) * 3) [.int .i64 x.i, .bool false, .complex .f64 0 0]) := Lib.hid hat
        have hpy : y.i < x.i := HG.out.na k _ _ hy HXX.out
        have ty1 : decide (x.i ≤ y.i) = false := decide_eq_false (by omega)
        have HPC : Hid (AtL wr b (o + k * 3) [.int .i64 y.i, .bool false, .complex .f64 0 0]) := Lib.hid hat'
        clear hy hat'
        have KZ := Lib.hid (heap_keep hbo.out KA.out)
        have q0 : wr.cell? ⟨z, 0, none⟩ = some (.slice (some ⟨b, o, none⟩) n1 c1) := by rw [cell_of_row _ _ 0 _ _ _ KZ.out]; rfl
        clear hat
        go_wp2_with (first | (refine wpList_loadL rfl 41 (.tmp 35) rfl b (o + (k + 1) * 3) (.agg #[.int .i64 x.i, .bool false, .complex .f64 0 0]) rfl (run_loadL isAgg41 size41 rfl HX.out) ?_) | (refine wpList_storeN rfl 41 (.tmp 4) (.tmp 36) rfl rfl wr.heap.size #[.int .i64 x.i, .bool false, .complex .f64 0 0] rfl rfl 41 _ (heap_at rfl) info41s rfl (by simp [Value.oneCell']) ?_; intro w1 hz hb ho hs; have HZ1 := Lib.hid (AtL_heap (cs := [.int .i64 x.i, .bool false, .complex .f64 0 0]) hz); have B1 := Lib.hid (below_storeA hb); clear hz hb ho hs))
        have B2 := Lib.hid (bthen BA.out (bthen hbo.out B1.out))
        obtain ⟨gz, hgz⟩ : ∃ gz, gz = wr.heap.size := ⟨_, rfl⟩
        rw [← hgz] at HZ1
        rw [← hgz]
        clear hgz q0
        have HC : ∀ w2, Below w1.heap.size w1 w2 → w2.cell? ⟨gz, 0, none⟩ = some (.int .i64 x.i) ∧ w2.cell? ⟨gz, 1, none⟩ = some (.bool false) ∧ w2.cell? ⟨gz, 2, none⟩ = some (.complex .f64 0 0) ∧ w2.cell? ⟨z, 0, none⟩ = some (.slice (some ⟨b, o, none⟩) n1 c1) ∧ w2.cell? ⟨b, o + k * 3, none⟩ = some (.int .i64 y.i) := fun w2 h => ⟨bcell h (by have := HZ1.out 0 _ rfl; simpa using this), bcell h (by have := HZ1.out 1 _ rfl; simpa using this), bcell h (by have := HZ1.out 2 _ rfl; simpa using this), bcell h (by rw [cell_of_row _ _ 0 _ _ _ (heap_keep B1.out KZ.out)]; rfl), bcell h (bcell B1.out (by have := HPC.out 0 _ rfl; simpa using this))⟩
        have HIN : Hid (∀ w, Calls Try.prog 54 #[.int .i64 x.i] w fun e w' => e = .returned (.bool true) ∧ Below w.heap.size w w') := Lib.hid (fun w => by have := rIn_ok x.i w; rwa [hru] at this)
        refine abs_act fun a0 ha0 => ?_
        have es : a0.tmps.size = 165 := by rw [ha0]; rfl
        have e4 : a0.tmps.getD 4 undef = .pointer (some ⟨gz, 0, none⟩) := by rw [ha0]; rfl
        have f4 : ∀ h : 4 < a0.tmps.size, a0.tmps[4] = .pointer (some ⟨gz, 0, none⟩) := by subst ha0; exact fun _ => rfl
        have e1 : a0.tmps.getD 1 undef = .pointer (some ⟨z, 0, none⟩) := by rw [ha0]; rfl
        have f1 : ∀ h : 1 < a0.tmps.size, a0.tmps[1] = .pointer (some ⟨z, 0, none⟩) := by subst ha0; exact fun _ => rfl
        have e3 : a0.tmps.getD 3 undef = .int .i64 ((k : Int) + 1) := by rw [ha0]; rfl
        have f3 : ∀ h : 3 < a0.tmps.size, a0.tmps[3] = .int .i64 ((k : Int) + 1) := by subst ha0; exact fun _ => rfl
        have HA0 := Lib.hid ha0
        clear ha0
        refine Og.walk_lit [[],[0],[1,0],[2,1,0],[3,2,1,0],[4,3,2,1,0],[5,4,3,2,1,0],[6,4,5,3,2,1,0],[7,4,6,5,3,2,1,0],[4,8,3,2,1,0,7,6,5],[9,7,4,8,3,2,1,0,6,5],[10,9,7,4,8,3,2,1,0,6,5],[11,10,9,7,4,8,3,2,1,0,6,5],[12,10,11,9,7,4,8,3,2,1,0,6,5],[13,12,10,11,9,7,4,8,3,2,1,0,6,5],[14,13,12,10,11,9,7,4,8,3,2,1,0,6,5],[13,12,10,11,9,7,4,8,3,2,1,0,6,5],[16,13,12,10,11,9,7,4,8,3,2,1,0,6,5],[15,17,13,14,12,10,11,9,7,4,8,3,2,1,0,6,5,16],[18,13,15,17,14,12,10,11,9,7,4,8,3,2,1,0,6,5,16],[19,13,18,15,17,14,12,10,11,9,7,4,8,3,2,1,0,6,5,16],[13,12,10,11,9,7,4,8,3,2,1,0,6,5],[21,13,12,10,11,9,7,4,8,3,2,1,0,6,5],[20,22,13,19,18,15,17,14,12,10,11,9,7,4,8,3,2,1,0,6,5,16,21],[13,23,10,12,11,9,7,4,8,3,2,1,0,6,5,20,22,19,18,15,17,14,16,21],[10,24,9,7,4,8,3,2,1,0,6,5,13,23,12,11,20,22,19,18,15,17,14,16,21]] (fun w2 => Below w1.heap.size w1 w2) (fun w1 w2 => Below w1.heap.size w1 w2) (by kernel_rfl) (by kernel_rfl) (bdrew) ?_
        repeat (first | (refine Og.step_pure (fun _ => Below.refl _ _) ?_; apply Exists.intro; refine And.intro ?_ ?_; focus (intro vs w2 hC hk; have hm := HC w2 hC; revert hk; simp only [Og.KS, Og.K0, Og.Is, List.getD_cons_zero, List.getD_cons_succ, List.getD_nil, List.contains_cons, List.contains_nil, Nat.reduceAdd, Nat.reduceBEq, Bool.or_false, Bool.false_or, Bool.or_true, Bool.true_or, Bool.false_eq_true, false_implies, true_implies, true_and, and_true, forall_const]; intros; go_simp; rfl)) | (refine Og.step_one ?_; apply Exists.intro; refine And.intro ?_ ?_; focus (intro vs w2 hC hk; have hm := HC w2 hC; revert hk; simp only [Og.KS, Og.K0, Og.Is, List.getD_cons_zero, List.getD_cons_succ, List.getD_nil, List.contains_cons, List.contains_nil, Nat.reduceAdd, Nat.reduceBEq, Bool.or_false, Bool.false_or, Bool.or_true, Bool.true_or, Bool.false_eq_true, false_implies, true_implies, true_and, and_true, forall_const]; intros; go_simp; with_reducible refine (HIN.out _).mono ?_; rintro e w3 ⟨rfl, hb⟩; exact Og.RetV.mk ⟨bthen hC hb, hb, rfl⟩)) | (refine Og.step_one ?_; apply Exists.intro; refine And.intro ?_ ?_; focus (intro vs w2 hC hk; have hm := HC w2 hC; revert hk; simp only [Og.KS, Og.K0, Og.Is, List.getD_cons_zero, List.getD_cons_succ, List.getD_nil, List.contains_cons, List.contains_nil, Nat.reduceAdd, Nat.reduceBEq, Bool.or_false, Bool.false_or, Bool.or_true, Bool.true_or, Bool.false_eq_true, false_implies, true_implies, true_and, and_true, forall_const]; intros; go_simp; with_reducible refine (rOk_ok _).mono ?_; rintro e w3 ⟨rfl, hb⟩; exact Og.RetV.mk ⟨bthen hC hb, hb, rfl⟩)))
        intro vs w2 hC hk
        have hm := HC w2 hC
        simp only [Og.KS, Og.K0, Og.Is, List.getD_cons_zero, List.getD_cons_succ, List.getD_nil, List.contains_cons, List.contains_nil, Nat.reduceAdd, Nat.reduceBEq, Bool.or_false, Bool.false_or, Bool.or_true, Bool.true_or, Bool.false_eq_true, false_implies, true_implies, true_and, and_true, forall_const] at hk
        have ha0 := HA0.out
        subst ha0
        clear HA0 es e4 f4 e1 f1 e3 f3
        simp only [hk, Act.put, List.setIfInBounds_toArray, List.set_cons_zero, List.set_cons_succ]
        clear hk
        have B3 := Lib.hid (bthen hbo.out (bthen B1.out hC))
        clear hC hm HC
        go_wp2_with fail
        go_roundw
        case rel => exact ⟨(k + 1) + 1, by omega, by go_num, B3⟩
        case measure => simp [intOf]; omega
    · have hkn : k = n1 := by omega
      subst hkn
      have hq0 : wr.cell? ⟨z, 0, none⟩ = some (.slice A1 k c1) := by rw [cell_of_row _ _ 0 _ _ _ (heap_keep hbo.out KA.out)]; rfl
      obtain ⟨n1, rfl⟩ : ∃ n1 : Nat, n1 = k := ⟨_, rfl⟩
      have hkf : ¬ ((n1 : Int) < (n1 : Int)) := by omega
      obtain ⟨wo, rfl⟩ : ∃ wo : World, wo = wr := ⟨_, rfl⟩
      have BO := Lib.hid hbo.out
      clear hbo hlt hk
      go_wp2_with fail
      clear hq0 hkf
      go_loopw [5] (fun i wr => ∃ k : Nat, k ≤ n2 ∧ i = .int .i64 k ∧ Hid (Below wa.heap.size wa wr)) (fun i _ => n2 - (intOf i).toNat)
      case atStart => exact ⟨0, Nat.zero_le _, rfl, BO⟩
      case round =>
        clear BO
        obtain ⟨k, hk, rfl, hbo⟩ := hrel
        by_cases hlt : k < n2
        · obtain ⟨x, hx⟩ : ∃ r, ls[k]? = some r := ⟨_, List.getElem?_eq_getElem (by rw [← N2.out]; exact hlt)⟩
          obtain ⟨hmf, hmt, hne, hrc, hrd⟩ := HG.out.lr k x hx
          have hft : (x.f == x.t) = false := by simpa using hne
          have hff : ¬ x.f = x.t := hne
          obtain ⟨kf, hkf⟩ : ∃ kf : Nat, fndN ns x.f = (kf : Int) := ⟨(fndN ns x.f).toNat, by have := fndN_nn hmf; omega⟩
          obtain ⟨kt, hkt⟩ : ∃ kt : Nat, fndN ns x.t = (kt : Int) := ⟨(fndN ns x.t).toNat, by have := fndN_nn hmt; omega⟩
          have dkf : decide ((kf : Int) < 0) = false := decide_eq_false (by omega)
          have dkt : decide ((kt : Int) < 0) = false := decide_eq_false (by omega)
          clear hmf hmt hne
          obtain ⟨b, o, rfl, hat⟩ := (R2.out.below (bthen BA.out hbo.out)) k _ hx
          have HXX := Lib.hid hx
          have hwk : IntKind.i64.wrap (k : Int) = k := wrapk (by omega)
          have hwk1 : IntKind.i64.wrap ((k : Int) + 1) = (k : Int) + 1 := by rw [IntKind.wrap_i64]; omega
          have hk0 : (0 : Int) ≤ (k : Int) := by omega
          have hkn : (k : Int) < (n2 : Int) := by omega
          clear hx
          rcases k with _ | k
          · simp only [Nat.zero_mul, Nat.add_zero] at hat
            clear hwk hk0 hwk1
            have HX : Hid (AtL wr b (o) [.int .i64 x.f, .int .i64 x.t, .int .i64 x.c, .int .i64 x.d]) := Lib.hid hat
            have KZ := Lib.hid (heap_keep hbo.out KA.out)
            have q0 : wr.cell? ⟨z, 1, none⟩ = some (.slice (some ⟨b, o, none⟩) n2 c2) := by rw [cell_of_row _ _ 1 _ _ _ KZ.out]; rfl
            clear hat
            go_wp2_with (first | (refine wpList_loadL rfl 43 (.tmp 73) rfl b (o) (.agg #[.int .i64 x.f, .int .i64 x.t, .int .i64 x.c, .int .i64 x.d]) rfl (run_loadL isAgg43 size43 rfl HX.out) ?_) | (refine wpList_storeN rfl 43 (.tmp 6) (.tmp 74) rfl rfl wr.heap.size #[.int .i64 x.f, .int .i64 x.t, .int .i64 x.c, .int .i64 x.d] rfl rfl 43 _ (heap_at rfl) info43s rfl (by simp [Value.oneCell']) ?_; intro w1 hz hb ho hs; have HZ1 := Lib.hid (AtL_heap (cs := [.int .i64 x.f, .int .i64 x.t, .int .i64 x.c, .int .i64 x.d]) hz); have B1 := Lib.hid (below_storeA hb); clear hz hb ho hs))
            have B2 := Lib.hid (bthen BA.out (bthen hbo.out B1.out))
            obtain ⟨gz, hgz⟩ : ∃ gz, gz = wr.heap.size := ⟨_, rfl⟩
            rw [← hgz] at HZ1
            rw [← hgz]
            clear hgz q0
            have HC : ∀ w2, Below w1.heap.size w1 w2 → w2.cell? ⟨gz, 0, none⟩ = some (.int .i64 x.f) ∧ w2.cell? ⟨gz, 1, none⟩ = some (.int .i64 x.t) ∧ w2.cell? ⟨gz, 2, none⟩ = some (.int .i64 x.c) ∧ w2.cell? ⟨gz, 3, none⟩ = some (.int .i64 x.d) ∧ w2.cell? ⟨z, 1, none⟩ = some (.slice (some ⟨b, o, none⟩) n2 c2) := fun w2 h => ⟨bcell h (by have := HZ1.out 0 _ rfl; simpa using this), bcell h (by have := HZ1.out 1 _ rfl; simpa using this), bcell h (by have := HZ1.out 2 _ rfl; simpa using this), bcell h (by have := HZ1.out 3 _ rfl; simpa using this), bcell h (by rw [cell_of_row _ _ 1 _ _ _ (heap_keep B1.out KZ.out)]; rfl)⟩
            have HFf : Hid (∀ w2, Below w1.heap.size w1 w2 → Calls Try.prog 55 #[.agg #[.slice A1 n1 c1, .slice (some ⟨b, o, none⟩) n2 c2, .slice A3 0 c3], .int .i64 x.f] w2 fun e w' => e = .returned (.int .i64 (kf : Int)) ∧ Below w2.heap.size w2 w') := Lib.hid (fun w2 hb => by have := HFN.out w2 (bthen B2.out hb) x.f; rwa [hkf] at this)
            have HFt : Hid (∀ w2, Below w1.heap.size w1 w2 → Calls Try.prog 55 #[.agg #[.slice A1 n1 c1, .slice (some ⟨b, o, none⟩) n2 c2, .slice A3 0 c3], .int .i64 x.t] w2 fun e w' => e = .returned (.int .i64 (kt : Int)) ∧ Below w2.heap.size w2 w') := Lib.hid (fun w2 hb => by have := HFN.out w2 (bthen B2.out hb) x.t; rwa [hkt] at this)
            have HCO : Hid (∀ w, Calls Try.prog 90 #[.int .i64 x.c] w fun e w' => e = .returned (.bool true) ∧ Below w.heap.size w w') := Lib.hid (fun w => by have := rcost_ok x.c w; rwa [hrc] at this)
            have HSM : Hid (∀ w, Calls Try.prog 91 #[.int .i64 x.d] w fun e w' => e = .returned (.bool true) ∧ Below w.heap.size w w') := Lib.hid (fun w => by have := rsmall_ok x.d w; rwa [hrd] at this)
            have HLG : Hid (∀ w2, Below w1.heap.size w1 w2 → (loadVar 33 ⟨z, 0, none⟩).run Try.prog w2 = .ok (.agg #[.slice A1 n1 c1, .slice (some ⟨b, o, none⟩) n2 c2, .slice A3 0 c3]) w2) := Lib.hid fun w2 h => run_loadL (cs := [.slice A1 n1 c1, .slice (some ⟨b, o, none⟩) n2 c2, .slice A3 0 c3]) isAgg33 size33 rfl (AtL_heap (heap_keep h (heap_keep B1.out KZ.out)))
            refine abs_act fun a0 ha0 => ?_
            have es : a0.tmps.size = 165 := by rw [ha0]; rfl
            have e6 : a0.tmps.getD 6 undef = .pointer (some ⟨gz, 0, none⟩) := by rw [ha0]; rfl
            have f6 : ∀ h : 6 < a0.tmps.size, a0.tmps[6] = .pointer (some ⟨gz, 0, none⟩) := by subst ha0; exact fun _ => rfl
            have e1 : a0.tmps.getD 1 undef = .pointer (some ⟨z, 0, none⟩) := by rw [ha0]; rfl
            have f1 : ∀ h : 1 < a0.tmps.size, a0.tmps[1] = .pointer (some ⟨z, 0, none⟩) := by subst ha0; exact fun _ => rfl
            have e5 : a0.tmps.getD 5 undef = .int .i64 (0) := by rw [ha0]; rfl
            have f5 : ∀ h : 5 < a0.tmps.size, a0.tmps[5] = .int .i64 (0) := by subst ha0; exact fun _ => rfl
            have HA0 := Lib.hid ha0
            clear ha0
            refine Og.walk_lit [[],[0],[],[2],[1,3,0,2],[4,1,3,0,2],[5,4,1,3,0,2],[5,4,1,3,0,2],[7,5,4,1,3,0,2],[6,8,5,4,1,3,0,2,7],[9,5,6,8,4,1,3,0,2,7],[5,10,4,1,3,0,2,9,6,8,7],[11,9,5,10,4,1,3,0,2,6,8,7],[12,11,9,5,10,4,1,3,0,2,6,8,7],[12,11,9,5,10,4,1,3,0,2,6,8,7],[14,12,11,9,5,10,4,1,3,0,2,6,8,7],[13,15,12,11,9,5,10,4,1,3,0,2,6,8,7,14],[16,12,13,15,11,9,5,10,4,1,3,0,2,6,8,7,14],[12,17,11,9,5,10,4,1,3,0,2,6,8,7,16,13,15,14],[18,16,12,17,11,9,5,10,4,1,3,0,2,6,8,7,13,15,14],[19,18,16,12,17,11,9,5,10,4,1,3,0,2,6,8,7,13,15,14],[20,19,18,16,12,17,11,9,5,10,4,1,3,0,2,6,8,7,13,15,14],[21,19,20,18,16,12,17,11,9,5,10,4,1,3,0,2,6,8,7,13,15,14],[22,19,21,20,18,16,12,17,11,9,5,10,4,1,3,0,2,6,8,7,13,15,14],[19,23,18,16,12,17,11,9,5,10,4,1,3,0,2,6,8,7,13,15,14,22,21,20],[24,22,19,23,18,16,12,17,11,9,5,10,4,1,3,0,2,6,8,7,13,15,14,21,20],[25,24,22,19,23,18,16,12,17,11,9,5,10,4,1,3,0,2,6,8,7,13,15,14,21,20],[26,25,24,22,19,23,18,16,12,17,11,9,5,10,4,1,3,0,2,6,8,7,13,15,14,21,20],[27,25,26,24,22,19,23,18,16,12,17,11,9,5,10,4,1,3,0,2,6,8,7,13,15,14,21,20],[28,25,27,26,24,22,19,23,18,16,12,17,11,9,5,10,4,1,3,0,2,6,8,7,13,15,14,21,20],[25,29,24,22,19,23,18,16,12,17,11,9,5,10,4,1,3,0,2,6,8,7,13,15,14,21,20,28,27,26],[30,28,25,29,24,22,19,23,18,16,12,17,11,9,5,10,4,1,3,0,2,6,8,7,13,15,14,21,20,27,26],[31,30,28,25,29,24,22,19,23,18,16,12,17,11,9,5,10,4,1,3,0,2,6,8,7,13,15,14,21,20,27,26],[32,31,30,28,25,29,24,22,19,23,18,16,12,17,11,9,5,10,4,1,3,0,2,6,8,7,13,15,14,21,20,27,26],[33,31,32,30,28,25,29,24,22,19,23,18,16,12,17,11,9,5,10,4,1,3,0,2,6,8,7,13,15,14,21,20,27,26],[34,33,31,32,30,28,25,29,24,22,19,23,18,16,12,17,11,9,5,10,4,1,3,0,2,6,8,7,13,15,14,21,20,27,26],[35,34,33,31,32,30,28,25,29,24,22,19,23,18,16,12,17,11,9,5,10,4,1,3,0,2,6,8,7,13,15,14,21,20,27,26],[34,33,31,32,30,28,25,29,24,22,19,23,18,16,12,17,11,9,5,10,4,1,3,0,2,6,8,7,13,15,14,21,20,27,26],[37,34,33,31,32,30,28,25,29,24,22,19,23,18,16,12,17,11,9,5,10,4,1,3,0,2,6,8,7,13,15,14,21,20,27,26],[36,38,34,35,33,31,32,30,28,25,29,24,22,19,23,18,16,12,17,11,9,5,10,4,1,3,0,2,6,8,7,13,15,14,21,20,27,26,37],[39,34,36,38,35,33,31,32,30,28,25,29,24,22,19,23,18,16,12,17,11,9,5,10,4,1,3,0,2,6,8,7,13,15,14,21,20,27,26,37],[34,33,31,32,30,28,25,29,24,22,19,23,18,16,12,17,11,9,5,10,4,1,3,0,2,6,8,7,13,15,14,21,20,27,26],[40,41,34,39,36,38,35,33,31,32,30,28,25,29,24,22,19,23,18,16,12,17,11,9,5,10,4,1,3,0,2,6,8,7,13,15,14,21,20,27,26,37],[42,34,40,41,39,36,38,35,33,31,32,30,28,25,29,24,22,19,23,18,16,12,17,11,9,5,10,4,1,3,0,2,6,8,7,13,15,14,21,20,27,26,37],[34,43,31,33,32,30,28,25,29,24,22,19,23,18,16,12,17,11,9,5,10,4,1,3,0,2,6,8,7,13,15,14,21,20,27,26,42,40,41,39,36,38,35,37],[31,44,30,28,25,29,24,22,19,23,18,16,12,17,11,9,5,10,4,1,3,0,2,6,8,7,13,15,14,21,20,27,26,34,43,33,32,42,40,41,39,36,38,35,37]] (fun w2 => Below w1.heap.size w1 w2) (fun w1 w2 => Below w1.heap.size w1 w2) (by kernel_rfl) (by kernel_rfl) (bdrew) ?_
            repeat (first | (refine Og.step_pure (fun _ => Below.refl _ _) ?_; apply Exists.intro; refine And.intro ?_ ?_; focus (intro vs w2 hC hk; have hm := HC w2 hC; revert hk; simp only [Og.KS, Og.K0, Og.Is, List.getD_cons_zero, List.getD_cons_succ, List.getD_nil, List.contains_cons, List.contains_nil, Nat.reduceAdd, Nat.reduceBEq, Bool.or_false, Bool.false_or, Bool.or_true, Bool.true_or, Bool.false_eq_true, false_implies, true_implies, true_and, and_true, forall_const]; intros; go_simp; rfl)) | (refine Og.step_pure (fun _ => Below.refl _ _) ?_; apply Exists.intro; refine And.intro ?_ ?_; focus (intro vs w2 hC hk; have hl := HLG.out w2 hC; refine Og.OptB.out ?_; revert hk; simp only [Og.KS, Og.K0, Og.Is, List.getD_cons_zero, List.getD_cons_succ, List.getD_nil, List.contains_cons, List.contains_nil, Nat.reduceAdd, Nat.reduceBEq, Bool.or_false, Bool.false_or, Bool.or_true, Bool.true_or, Bool.false_eq_true, false_implies, true_implies, true_and, and_true, forall_const]; intros; exact optB_loadL (by go_simp) rfl (by go_simp) hl ⟨rfl, rfl⟩)) | (refine Og.step_one ?_; apply Exists.intro; refine And.intro ?_ ?_; focus (intro vs w2 hC hk; have hm := HC w2 hC; revert hk; simp only [Og.KS, Og.K0, Og.Is, List.getD_cons_zero, List.getD_cons_succ, List.getD_nil, List.contains_cons, List.contains_nil, Nat.reduceAdd, Nat.reduceBEq, Bool.or_false, Bool.false_or, Bool.or_true, Bool.true_or, Bool.false_eq_true, false_implies, true_implies, true_and, and_true, forall_const]; intros; go_simp; with_reducible refine (HFf.out _ hC).mono ?_; rintro e w3 ⟨rfl, hb⟩; exact Og.RetV.mk ⟨bthen hC hb, hb, rfl⟩)) | (refine Og.step_one ?_; apply Exists.intro; refine And.intro ?_ ?_; focus (intro vs w2 hC hk; have hm := HC w2 hC; revert hk; simp only [Og.KS, Og.K0, Og.Is, List.getD_cons_zero, List.getD_cons_succ, List.getD_nil, List.contains_cons, List.contains_nil, Nat.reduceAdd, Nat.reduceBEq, Bool.or_false, Bool.false_or, Bool.or_true, Bool.true_or, Bool.false_eq_true, false_implies, true_implies, true_and, and_true, forall_const]; intros; go_simp; with_reducible refine (HFt.out _ hC).mono ?_; rintro e w3 ⟨rfl, hb⟩; exact Og.RetV.mk ⟨bthen hC hb, hb, rfl⟩)) | (refine Og.step_one ?_; apply Exists.intro; refine And.intro ?_ ?_; focus (intro vs w2 hC hk; have hm := HC w2 hC; revert hk; simp only [Og.KS, Og.K0, Og.Is, List.getD_cons_zero, List.getD_cons_succ, List.getD_nil, List.contains_cons, List.contains_nil, Nat.reduceAdd, Nat.reduceBEq, Bool.or_false, Bool.false_or, Bool.or_true, Bool.true_or, Bool.false_eq_true, false_implies, true_implies, true_and, and_true, forall_const]; intros; go_simp; with_reducible refine (HCO.out _).mono ?_; rintro e w3 ⟨rfl, hb⟩; exact Og.RetV.mk ⟨bthen hC hb, hb, rfl⟩)) | (refine Og.step_one ?_; apply Exists.intro; refine And.intro ?_ ?_; focus (intro vs w2 hC hk; have hm := HC w2 hC; revert hk; simp only [Og.KS, Og.K0, Og.Is, List.getD_cons_zero, List.getD_cons_succ, List.getD_nil, List.contains_cons, List.contains_nil, Nat.reduceAdd, Nat.reduceBEq, Bool.or_false, Bool.false_or, Bool.or_true, Bool.true_or, Bool.false_eq_true, false_implies, true_implies, true_and, and_true, forall_const]; intros; go_simp; with_reducible refine (HSM.out _).mono ?_; rintro e w3 ⟨rfl, hb⟩; exact Og.RetV.mk ⟨bthen hC hb, hb, rfl⟩)))
            intro vs w2 hC hk
            have hm := HC w2 hC
            simp only [Og.KS, Og.K0, Og.Is, List.getD_cons_zero, List.getD_cons_succ, List.getD_nil, List.contains_cons, List.contains_nil, Nat.reduceAdd, Nat.reduceBEq, Bool.or_false, Bool.false_or, Bool.or_true, Bool.true_or, Bool.false_eq_true, false_implies, true_implies, true_and, and_true, forall_const] at hk
            have ha0 := HA0.out
            subst ha0
            clear HA0 es e6 f6 e1 f1 e5 f5
            simp only [hk, Act.put, List.setIfInBounds_toArray, List.set_cons_zero, List.set_cons_succ]
            clear hk
            have B3 := Lib.hid (bthen hbo.out (bthen B1.out hC))
            clear hC hm HC
            go_wp2_with fail
            go_roundw
            case rel => exact ⟨0 + 1, by omega, by go_num, B3⟩
            case measure => simp [intOf]; omega
          · obtain ⟨y, hy⟩ : ∃ r, ls[k]? = some r := ⟨_, List.getElem?_eq_getElem (by rw [← N2.out]; omega)⟩
            obtain ⟨b', o', hA', hat'⟩ := (R2.out.below (bthen BA.out hbo.out)) k y hy
            injection hA' with hA'
            injection hA' with hb' ho' _
            subst hb' ho'
            clear hwk hk0 hkn hwk1
            have hwk : IntKind.i64.wrap (k : Int) = k := wrapk (by omega)
            have hwk1 : IntKind.i64.wrap ((k : Int) + 1) = (k : Int) + 1 := by rw [IntKind.wrap_i64]; omega
            have hk0 : (0 : Int) ≤ (k : Int) := by omega
            have hk1 : (0 : Int) ≤ (k : Int) + 1 := by omega
            have hk2 : decide ((0 : Int) < (k : Int) + 1) = true := decide_eq_true (by omega)
            have hkn : (k : Int) < (n2 : Int) := by omega
            have hkn1 : (k : Int) + 1 < (n2 : Int) := by omega
            have hwk2 : IntKind.i64.wrap ((k : Int) + 1 + 1) = (k : Int) + 1 + 1 := by rw [IntKind.wrap_i64]; omega
            have HX : Hid (AtL wr b (o + (k + 1) * 4) [.int .i64 x.f, .int .i64 x.t, .int .i64 x.c, .int .i64 x.d]) := Lib.hid hat
            have hah : ahd y x = true := ahd_of (HG.out.la k _ _ hy HXX.out)
            have HAH : Hid (∀ w, Calls Try.prog 92 #[.agg #[.int .i64 y.f, .int .i64 y.t, .int .i64 y.c, .int .i64 y.d], .agg #[.int .i64 x.f, .int .i64 x.t, .int .i64 x.c, .int .i64 x.d]] w fun e w' => e = .returned (.bool true) ∧ Below w.heap.size w w') := Lib.hid (fun w => by have := rahead_ok y x w; rwa [hah] at this)
            have HPC : Hid (AtL wr b (o + k * 4) [.int .i64 y.f, .int .i64 y.t, .int .i64 y.c, .int .i64 y.d]) := Lib.hid hat'
            clear hy hat' hah
            have KZ := Lib.hid (heap_keep hbo.out KA.out)
            have q0 : wr.cell? ⟨z, 1, none⟩ = some (.slice (some ⟨b, o, none⟩) n2 c2) := by rw [cell_of_row _ _ 1 _ _ _ KZ.out]; rfl
            clear hat
            go_wp2_with (first | (refine wpList_loadL rfl 43 (.tmp 73) rfl b (o + (k + 1) * 4) (.agg #[.int .i64 x.f, .int .i64 x.t, .int .i64 x.c, .int .i64 x.d]) rfl (run_loadL isAgg43 size43 rfl HX.out) ?_) | (refine wpList_storeN rfl 43 (.tmp 6) (.tmp 74) rfl rfl wr.heap.size #[.int .i64 x.f, .int .i64 x.t, .int .i64 x.c, .int .i64 x.d] rfl rfl 43 _ (heap_at rfl) info43s rfl (by simp [Value.oneCell']) ?_; intro w1 hz hb ho hs; have HZ1 := Lib.hid (AtL_heap (cs := [.int .i64 x.f, .int .i64 x.t, .int .i64 x.c, .int .i64 x.d]) hz); have B1 := Lib.hid (below_storeA hb); clear hz hb ho hs))
            have B2 := Lib.hid (bthen BA.out (bthen hbo.out B1.out))
            obtain ⟨gz, hgz⟩ : ∃ gz, gz = wr.heap.size := ⟨_, rfl⟩
            rw [← hgz] at HZ1
            rw [← hgz]
            clear hgz q0
            have HC : ∀ w2, Below w1.heap.size w1 w2 → w2.cell? ⟨gz, 0, none⟩ = some (.int .i64 x.f) ∧ w2.cell? ⟨gz, 1, none⟩ = some (.int .i64 x.t) ∧ w2.cell? ⟨gz, 2, none⟩ = some (.int .i64 x.c) ∧ w2.cell? ⟨gz, 3, none⟩ = some (.int .i64 x.d) ∧ w2.cell? ⟨z, 1, none⟩ = some (.slice (some ⟨b, o, none⟩) n2 c2) := fun w2 h => ⟨bcell h (by have := HZ1.out 0 _ rfl; simpa using this), bcell h (by have := HZ1.out 1 _ rfl; simpa using this), bcell h (by have := HZ1.out 2 _ rfl; simpa using this), bcell h (by have := HZ1.out 3 _ rfl; simpa using this), bcell h (by rw [cell_of_row _ _ 1 _ _ _ (heap_keep B1.out KZ.out)]; rfl)⟩
            have HFf : Hid (∀ w2, Below w1.heap.size w1 w2 → Calls Try.prog 55 #[.agg #[.slice A1 n1 c1, .slice (some ⟨b, o, none⟩) n2 c2, .slice A3 0 c3], .int .i64 x.f] w2 fun e w' => e = .returned (.int .i64 (kf : Int)) ∧ Below w2.heap.size w2 w') := Lib.hid (fun w2 hb => by have := HFN.out w2 (bthen B2.out hb) x.f; rwa [hkf] at this)
            have HFt : Hid (∀ w2, Below w1.heap.size w1 w2 → Calls Try.prog 55 #[.agg #[.slice A1 n1 c1, .slice (some ⟨b, o, none⟩) n2 c2, .slice A3 0 c3], .int .i64 x.t] w2 fun e w' => e = .returned (.int .i64 (kt : Int)) ∧ Below w2.heap.size w2 w') := Lib.hid (fun w2 hb => by have := HFN.out w2 (bthen B2.out hb) x.t; rwa [hkt] at this)
            have HCO : Hid (∀ w, Calls Try.prog 90 #[.int .i64 x.c] w fun e w' => e = .returned (.bool true) ∧ Below w.heap.size w w') := Lib.hid (fun w => by have := rcost_ok x.c w; rwa [hrc] at this)
            have HSM : Hid (∀ w, Calls Try.prog 91 #[.int .i64 x.d] w fun e w' => e = .returned (.bool true) ∧ Below w.heap.size w w') := Lib.hid (fun w => by have := rsmall_ok x.d w; rwa [hrd] at this)
            have HLG : Hid (∀ w2, Below w1.heap.size w1 w2 → (loadVar 33 ⟨z, 0, none⟩).run Try.prog w2 = .ok (.agg #[.slice A1 n1 c1, .slice (some ⟨b, o, none⟩) n2 c2, .slice A3 0 c3]) w2) := Lib.hid fun w2 h => run_loadL (cs := [.slice A1 n1 c1, .slice (some ⟨b, o, none⟩) n2 c2, .slice A3 0 c3]) isAgg33 size33 rfl (AtL_heap (heap_keep h (heap_keep B1.out KZ.out)))
            have HLX : Hid (∀ w2, Below w1.heap.size w1 w2 → (loadVar 43 ⟨gz, 0, none⟩).run Try.prog w2 = .ok (.agg #[.int .i64 x.f, .int .i64 x.t, .int .i64 x.c, .int .i64 x.d]) w2) := Lib.hid fun w2 h => run_loadL (cs := [.int .i64 x.f, .int .i64 x.t, .int .i64 x.c, .int .i64 x.d]) isAgg43 size43 rfl (HZ1.out.below h)
            have HLY : Hid (∀ w2, Below w1.heap.size w1 w2 → (loadVar 43 ⟨b, o + k * 4, none⟩).run Try.prog w2 = .ok (.agg #[.int .i64 y.f, .int .i64 y.t, .int .i64 y.c, .int .i64 y.d]) w2) := Lib.hid fun w2 h => run_loadL (cs := [.int .i64 y.f, .int .i64 y.t, .int .i64 y.c, .int .i64 y.d]) isAgg43 size43 rfl ((HPC.out.below B1.out).below h)
            refine abs_act fun a0 ha0 => ?_
            have es : a0.tmps.size = 165 := by rw [ha0]; rfl
            have e6 : a0.tmps.getD 6 undef = .pointer (some ⟨gz, 0, none⟩) := by rw [ha0]; rfl
            have f6 : ∀ h : 6 < a0.tmps.size, a0.tmps[6] = .pointer (some ⟨gz, 0, none⟩) := by subst ha0; exact fun _ => rfl
            have e1 : a0.tmps.getD 1 undef = .pointer (some ⟨z, 0, none⟩) := by rw [ha0]; rfl
            have f1 : ∀ h : 1 < a0.tmps.size, a0.tmps[1] = .pointer (some ⟨z, 0, none⟩) := by subst ha0; exact fun _ => rfl
            have e5 : a0.tmps.getD 5 undef = .int .i64 ((k : Int) + 1) := by rw [ha0]; rfl
            have f5 : ∀ h : 5 < a0.tmps.size, a0.tmps[5] = .int .i64 ((k : Int) + 1) := by subst ha0; exact fun _ => rfl
            have HA0 := Lib.hid ha0
            clear ha0
            refine Og.walk_lit [[],[0],[],[2],[1,3,0,2],[4,1,3,0,2],[5,4,1,3,0,2],[5,4,1,3,0,2],[7,5,4,1,3,0,2],[6,8,5,4,1,3,0,2,7],[9,5,6,8,4,1,3,0,2,7],[5,10,4,1,3,0,2,9,6,8,7],[11,9,5,10,4,1,3,0,2,6,8,7],[12,11,9,5,10,4,1,3,0,2,6,8,7],[12,11,9,5,10,4,1,3,0,2,6,8,7],[14,12,11,9,5,10,4,1,3,0,2,6,8,7],[13,15,12,11,9,5,10,4,1,3,0,2,6,8,7,14],[16,12,13,15,11,9,5,10,4,1,3,0,2,6,8,7,14],[12,17,11,9,5,10,4,1,3,0,2,6,8,7,16,13,15,14],[18,16,12,17,11,9,5,10,4,1,3,0,2,6,8,7,13,15,14],[19,18,16,12,17,11,9,5,10,4,1,3,0,2,6,8,7,13,15,14],[20,19,18,16,12,17,11,9,5,10,4,1,3,0,2,6,8,7,13,15,14],[21,19,20,18,16,12,17,11,9,5,10,4,1,3,0,2,6,8,7,13,15,14],[22,19,21,20,18,16,12,17,11,9,5,10,4,1,3,0,2,6,8,7,13,15,14],[19,23,18,16,12,17,11,9,5,10,4,1,3,0,2,6,8,7,13,15,14,22,21,20],[24,22,19,23,18,16,12,17,11,9,5,10,4,1,3,0,2,6,8,7,13,15,14,21,20],[25,24,22,19,23,18,16,12,17,11,9,5,10,4,1,3,0,2,6,8,7,13,15,14,21,20],[26,25,24,22,19,23,18,16,12,17,11,9,5,10,4,1,3,0,2,6,8,7,13,15,14,21,20],[27,25,26,24,22,19,23,18,16,12,17,11,9,5,10,4,1,3,0,2,6,8,7,13,15,14,21,20],[28,25,27,26,24,22,19,23,18,16,12,17,11,9,5,10,4,1,3,0,2,6,8,7,13,15,14,21,20],[25,29,24,22,19,23,18,16,12,17,11,9,5,10,4,1,3,0,2,6,8,7,13,15,14,21,20,28,27,26],[30,28,25,29,24,22,19,23,18,16,12,17,11,9,5,10,4,1,3,0,2,6,8,7,13,15,14,21,20,27,26],[31,30,28,25,29,24,22,19,23,18,16,12,17,11,9,5,10,4,1,3,0,2,6,8,7,13,15,14,21,20,27,26],[32,31,30,28,25,29,24,22,19,23,18,16,12,17,11,9,5,10,4,1,3,0,2,6,8,7,13,15,14,21,20,27,26],[33,31,32,30,28,25,29,24,22,19,23,18,16,12,17,11,9,5,10,4,1,3,0,2,6,8,7,13,15,14,21,20,27,26],[34,33,31,32,30,28,25,29,24,22,19,23,18,16,12,17,11,9,5,10,4,1,3,0,2,6,8,7,13,15,14,21,20,27,26],[35,34,33,31,32,30,28,25,29,24,22,19,23,18,16,12,17,11,9,5,10,4,1,3,0,2,6,8,7,13,15,14,21,20,27,26],[34,33,31,32,30,28,25,29,24,22,19,23,18,16,12,17,11,9,5,10,4,1,3,0,2,6,8,7,13,15,14,21,20,27,26],[37,34,33,31,32,30,28,25,29,24,22,19,23,18,16,12,17,11,9,5,10,4,1,3,0,2,6,8,7,13,15,14,21,20,27,26],[36,38,34,35,33,31,32,30,28,25,29,24,22,19,23,18,16,12,17,11,9,5,10,4,1,3,0,2,6,8,7,13,15,14,21,20,27,26,37],[39,34,36,38,35,33,31,32,30,28,25,29,24,22,19,23,18,16,12,17,11,9,5,10,4,1,3,0,2,6,8,7,13,15,14,21,20,27,26,37],[34,33,31,32,30,28,25,29,24,22,19,23,18,16,12,17,11,9,5,10,4,1,3,0,2,6,8,7,13,15,14,21,20,27,26],[40,41,34,39,36,38,35,33,31,32,30,28,25,29,24,22,19,23,18,16,12,17,11,9,5,10,4,1,3,0,2,6,8,7,13,15,14,21,20,27,26,37],[42,34,40,41,39,36,38,35,33,31,32,30,28,25,29,24,22,19,23,18,16,12,17,11,9,5,10,4,1,3,0,2,6,8,7,13,15,14,21,20,27,26,37],[34,43,31,33,32,30,28,25,29,24,22,19,23,18,16,12,17,11,9,5,10,4,1,3,0,2,6,8,7,13,15,14,21,20,27,26,42,40,41,39,36,38,35,37],[31,44,30,28,25,29,24,22,19,23,18,16,12,17,11,9,5,10,4,1,3,0,2,6,8,7,13,15,14,21,20,27,26,34,43,33,32,42,40,41,39,36,38,35,37]] (fun w2 => Below w1.heap.size w1 w2) (fun w1 w2 => Below w1.heap.size w1 w2) (by kernel_rfl) (by kernel_rfl) (bdrew) ?_
            repeat (first | (refine Og.step_pure (fun _ => Below.refl _ _) ?_; apply Exists.intro; refine And.intro ?_ ?_; focus (intro vs w2 hC hk; have hm := HC w2 hC; revert hk; simp only [Og.KS, Og.K0, Og.Is, List.getD_cons_zero, List.getD_cons_succ, List.getD_nil, List.contains_cons, List.contains_nil, Nat.reduceAdd, Nat.reduceBEq, Bool.or_false, Bool.false_or, Bool.or_true, Bool.true_or, Bool.false_eq_true, false_implies, true_implies, true_and, and_true, forall_const]; intros; go_simp; rfl)) | (refine Og.step_pure (fun _ => Below.refl _ _) ?_; apply Exists.intro; refine And.intro ?_ ?_; focus (intro vs w2 hC hk; have hl := HLG.out w2 hC; refine Og.OptB.out ?_; revert hk; simp only [Og.KS, Og.K0, Og.Is, List.getD_cons_zero, List.getD_cons_succ, List.getD_nil, List.contains_cons, List.contains_nil, Nat.reduceAdd, Nat.reduceBEq, Bool.or_false, Bool.false_or, Bool.or_true, Bool.true_or, Bool.false_eq_true, false_implies, true_implies, true_and, and_true, forall_const]; intros; exact optB_loadL (by go_simp) rfl (by go_simp) hl ⟨rfl, rfl⟩)) | (refine Og.step_pure (fun _ => Below.refl _ _) ?_; apply Exists.intro; refine And.intro ?_ ?_; focus (intro vs w2 hC hk; have hl := HLY.out w2 hC; refine Og.OptB.out ?_; revert hk; simp only [Og.KS, Og.K0, Og.Is, List.getD_cons_zero, List.getD_cons_succ, List.getD_nil, List.contains_cons, List.contains_nil, Nat.reduceAdd, Nat.reduceBEq, Bool.or_false, Bool.false_or, Bool.or_true, Bool.true_or, Bool.false_eq_true, false_implies, true_implies, true_and, and_true, forall_const]; intros; exact optB_loadL (by go_simp) rfl (by go_simp) hl ⟨rfl, rfl⟩)) | (refine Og.step_pure (fun _ => Below.refl _ _) ?_; apply Exists.intro; refine And.intro ?_ ?_; focus (intro vs w2 hC hk; have hl := HLX.out w2 hC; refine Og.OptB.out ?_; revert hk; simp only [Og.KS, Og.K0, Og.Is, List.getD_cons_zero, List.getD_cons_succ, List.getD_nil, List.contains_cons, List.contains_nil, Nat.reduceAdd, Nat.reduceBEq, Bool.or_false, Bool.false_or, Bool.or_true, Bool.true_or, Bool.false_eq_true, false_implies, true_implies, true_and, and_true, forall_const]; intros; exact optB_loadL (by go_simp) rfl (by go_simp) hl ⟨rfl, rfl⟩)) | (refine Og.step_one ?_; apply Exists.intro; refine And.intro ?_ ?_; focus (intro vs w2 hC hk; have hm := HC w2 hC; revert hk; simp only [Og.KS, Og.K0, Og.Is, List.getD_cons_zero, List.getD_cons_succ, List.getD_nil, List.contains_cons, List.contains_nil, Nat.reduceAdd, Nat.reduceBEq, Bool.or_false, Bool.false_or, Bool.or_true, Bool.true_or, Bool.false_eq_true, false_implies, true_implies, true_and, and_true, forall_const]; intros; go_simp; with_reducible refine (HFf.out _ hC).mono ?_; rintro e w3 ⟨rfl, hb⟩; exact Og.RetV.mk ⟨bthen hC hb, hb, rfl⟩)) | (refine Og.step_one ?_; apply Exists.intro; refine And.intro ?_ ?_; focus (intro vs w2 hC hk; have hm := HC w2 hC; revert hk; simp only [Og.KS, Og.K0, Og.Is, List.getD_cons_zero, List.getD_cons_succ, List.getD_nil, List.contains_cons, List.contains_nil, Nat.reduceAdd, Nat.reduceBEq, Bool.or_false, Bool.false_or, Bool.or_true, Bool.true_or, Bool.false_eq_true, false_implies, true_implies, true_and, and_true, forall_const]; intros; go_simp; with_reducible refine (HFt.out _ hC).mono ?_; rintro e w3 ⟨rfl, hb⟩; exact Og.RetV.mk ⟨bthen hC hb, hb, rfl⟩)) | (refine Og.step_one ?_; apply Exists.intro; refine And.intro ?_ ?_; focus (intro vs w2 hC hk; have hm := HC w2 hC; revert hk; simp only [Og.KS, Og.K0, Og.Is, List.getD_cons_zero, List.getD_cons_succ, List.getD_nil, List.contains_cons, List.contains_nil, Nat.reduceAdd, Nat.reduceBEq, Bool.or_false, Bool.false_or, Bool.or_true, Bool.true_or, Bool.false_eq_true, false_implies, true_implies, true_and, and_true, forall_const]; intros; go_simp; with_reducible refine (HCO.out _).mono ?_; rintro e w3 ⟨rfl, hb⟩; exact Og.RetV.mk ⟨bthen hC hb, hb, rfl⟩)) | (refine Og.step_one ?_; apply Exists.intro; refine And.intro ?_ ?_; focus (intro vs w2 hC hk; have hm := HC w2 hC; revert hk; simp only [Og.KS, Og.K0, Og.Is, List.getD_cons_zero, List.getD_cons_succ, List.getD_nil, List.contains_cons, List.contains_nil, Nat.reduceAdd, Nat.reduceBEq, Bool.or_false, Bool.false_or, Bool.or_true, Bool.true_or, Bool.false_eq_true, false_implies, true_implies, true_and, and_true, forall_const]; intros; go_simp; with_reducible refine (HSM.out _).mono ?_; rintro e w3 ⟨rfl, hb⟩; exact Og.RetV.mk ⟨bthen hC hb, hb, rfl⟩)) | (refine Og.step_one ?_; apply Exists.intro; refine And.intro ?_ ?_; focus (intro vs w2 hC hk; have hm := HC w2 hC; revert hk; simp only [Og.KS, Og.K0, Og.Is, List.getD_cons_zero, List.getD_cons_succ, List.getD_nil, List.contains_cons, List.contains_nil, Nat.reduceAdd, Nat.reduceBEq, Bool.or_false, Bool.false_or, Bool.or_true, Bool.true_or, Bool.false_eq_true, false_implies, true_implies, true_and, and_true, forall_const]; intros; go_simp; with_reducible refine (HAH.out _).mono ?_; rintro e w3 ⟨rfl, hb⟩; exact Og.RetV.mk ⟨bthen hC hb, hb, rfl⟩)))
            intro vs w2 hC hk
            have hm := HC w2 hC
            simp only [Og.KS, Og.K0, Og.Is, List.getD_cons_zero, List.getD_cons_succ, List.getD_nil, List.contains_cons, List.contains_nil, Nat.reduceAdd, Nat.reduceBEq, Bool.or_false, Bool.false_or, Bool.or_true, Bool.true_or, Bool.false_eq_true, false_implies, true_implies, true_and, and_true, forall_const] at hk
            have ha0 := HA0.out
            subst ha0
            clear HA0 es e6 f6 e1 f1 e5 f5
            simp only [hk, Act.put, List.setIfInBounds_toArray, List.set_cons_zero, List.set_cons_succ]
            clear hk
            have B3 := Lib.hid (bthen hbo.out (bthen B1.out hC))
            clear hC hm HC
            go_wp2_with fail
            go_roundw
            case rel => exact ⟨(k + 1) + 1, by omega, by go_num, B3⟩
            case measure => simp [intOf]; omega
        · have hkn : k = n2 := by omega
          subst hkn
          have hq0 : wr.cell? ⟨z, 1, none⟩ = some (.slice A2 k c2) := by rw [cell_of_row _ _ 1 _ _ _ (heap_keep hbo.out KA.out)]; rfl
          obtain ⟨n2, rfl⟩ : ∃ n2 : Nat, n2 = k := ⟨_, rfl⟩
          have hkf : ¬ ((n2 : Int) < (n2 : Int)) := by omega
          obtain ⟨wp, rfl⟩ : ∃ wp : World, wp = wr := ⟨_, rfl⟩
          have BO := Lib.hid hbo.out
          clear hbo hlt hk
          go_wp2_with fail
          clear hq0 hkf
          go_loopw [7] (fun i wr => i = .int .i64 0 ∧ Hid (Below wa.heap.size wa wr)) (fun i _ => 0)
          case atStart => exact ⟨rfl, BO⟩
          case round =>
            clear BO
            obtain ⟨rfl, hbo⟩ := hrel
            have hq0 : wr.cell? ⟨z, 2, none⟩ = some (.slice A3 0 c3) := by rw [cell_of_row _ _ 2 _ _ _ (heap_keep hbo.out KA.out)]; rfl
            have BF := Lib.hid (bthen BA.out hbo.out)
            clear hbo
            go_wp2_with fail
            go_ret
            exact ⟨rfl, BF.out⟩

end Go.Proofs.Ytpklcefiabjplaa
