/- The reference: choose, Or, And, Len; conditions as stated. -/
import Derived.Test.YtjbglifmppilfaaDoorS9
namespace Go.Proofs.YtjbglifmppilfaaDoor
open Go.ChangeShapes Go.WideShapes Go.ChangeAt Go.RowKit
set_option linter.unusedVariables false
set_option linter.unusedSimpArgs false
attribute [local go_sem] Og.Opt Og.OpY

attribute [local go_sem] Og.Opt Og.OpY
theorem AtL.two {w : World} {g o : Nat} {M : Nat} {cs : List Value} (k : Nat) (h : AtL w g o cs) (hd : (cs.drop k).take 2 = cM M) : (loadVar 35 ⟨g, o + k, none⟩).run Tryd.prog w = .ok (mV M) w := run_loadL (cs := cM M) cisAgg25 csize25 rfl (h.sub k hd)
theorem results_cell1' {fn : Func} {p : Tmp} {ty : TypeId} {tmps : Array Value} {P : Program} {w : World} {a : Addr} {v : Value} (h : fn.results = #[.cell p ty]) (ha : tmps.getD p undef = .pointer (some a)) (hr : (loadVar ty a).run P w = .ok v w) :
    (results fn tmps).run P w = .ok v w := by
  have e : (asAddr (.pointer (some a))).run P w = .ok a w := rfl
  simp only [results, h]
  simp [ha, e, hr, Sem.run_bind, Result.andThen, -Array.getD_eq_getD_getElem?]
def lkP (p : Nat → Bool) (k : Nat) : List Nat := (List.range k).filter p
theorem lkP_s (p : Nat → Bool) (k : Nat) : lkP p (k + 1) = lkP p k ++ (if p k = true then [k] else []) := by
  unfold lkP
  rw [List.range_succ, List.filter_append]
  congr 1
  cases h : p k <;> simp [h]
theorem lkP_len (p : Nat → Bool) (k : Nat) : (lkP p k).length ≤ k := by
  unfold lkP
  exact Nat.le_trans (List.length_filter_le ..) (by simp)
theorem lkP_lt {p : Nat → Bool} {k x : Nat} (h : x ∈ lkP p k) : x < k := by
  unfold lkP at h
  simpa using (List.mem_filter.1 h).1

set_option maxRecDepth 100000 in
set_option maxHeartbeats 4000000 in
theorem rchoose2_ok (A B : Nat) (hA : A < 2 ^ 128) (hB : B < 2 ^ 128) (w : World) :
    Calls Tryd.prog 40 #[.agg #[.int .u64 (loM A), .int .u64 (hiM A), .int .u64 (loM B), .int .u64 (hiM B), .int .i64 0, .int .i64 2]] w fun e w' => e = .returned (mV (A ||| B)) ∧ Below w.heap.size w w' := by
  have HA := Lib.hid (fun (k : Nat) (hk : k < 128) (w2 : World) => rHas_ok A k hA hk w2)
  have HB := Lib.hid (fun (k : Nat) (hk : k < 128) (w2 : World) => rHas_ok B k hB hk w2)
  obtain ⟨p, hp⟩ : ∃ p : Nat → Bool, p = fun n => A.testBit n || B.testBit n := ⟨_, rfl⟩
  have HE : Hid (ofM (lkP p 128) = A ||| B) := Lib.hid (by rw [hp]; exact ofM_or hA hB)
  have HP := Lib.hid hp
  have HO : Hid (∀ v w2, Sl cN 1 0 w2 v (lkP p 128) → Calls Tryd.prog 20 #[v] w2 fun e w' => e = .returned (.tuple #[mV (A ||| B), .int .i64 0]) ∧ Below w2.heap.size w2 w') := Lib.hid (fun v w2 hs => by
    rw [← HE.out]
    exact rOf_ok _ v w2 hs (fun x hx => lkP_lt hx) (Nat.le_trans (lkP_len p 128) (by omega)))
  obtain ⟨C, hC0⟩ : ∃ C, C = A ||| B := ⟨_, rfl⟩
  rw [← hC0] at HO HE ⊢
  clear hA hB hp hC0
  unfold mV at HA HB HO ⊢
  obtain ⟨cs, hcs⟩ : ∃ cs : List Value, cs = [.int .u64 (loM A), .int .u64 (hiM A), .int .u64 (loM B), .int .u64 (hiM B), .int .i64 0, .int .i64 2] := ⟨_, rfl⟩
  obtain ⟨z, hz⟩ : ∃ z, z = w.heap.size := ⟨_, rfl⟩
  have b1 : Below w.heap.size w ((w.alloc (.cells #[.int .u64 (loM A), .int .u64 (hiM A), .int .u64 (loM B), .int .u64 (hiM B), .int .i64 0, .int .i64 2] 85)).alloc (.cells #[.int .u64 0, .int .u64 0] 35)) := ((Below.refl _ _).alloc (Nat.le_refl _) _).alloc (by simp) _
  have k0 : ((w.alloc (.cells #[.int .u64 (loM A), .int .u64 (hiM A), .int .u64 (loM B), .int .u64 (hiM B), .int .i64 0, .int .i64 2] 85)).alloc (.cells #[.int .u64 0, .int .u64 0] 35)).heap[z]? = some (.cells cs.toArray 85 (0, 0)) := heap_keep ((Below.refl _ _).alloc (Nat.le_refl _) _) (by rw [hcs]; exact heap_at hz)
  have k1 : ((w.alloc (.cells #[.int .u64 (loM A), .int .u64 (hiM A), .int .u64 (loM B), .int .u64 (hiM B), .int .i64 0, .int .i64 2] 85)).alloc (.cells #[.int .u64 0, .int .u64 0] 35)).heap[z + 1]? = some (.cells #[.int .u64 0, .int .u64 0] 35 (0, 0)) := heap_at (by rw [hz]; simp)
  have s1 : ((w.alloc (.cells #[.int .u64 (loM A), .int .u64 (hiM A), .int .u64 (loM B), .int .u64 (hiM B), .int .i64 0, .int .i64 2] 85)).alloc (.cells #[.int .u64 0, .int .u64 0] 35)).heap.size = z + 2 := by rw [hz]; simp
  go_enter Tryd.func40, Tryd.ntmps40
  go_wp2_with fail
  rw [← hz]
  generalize ((w.alloc (.cells #[.int .u64 (loM A), .int .u64 (hiM A), .int .u64 (loM B), .int .u64 (hiM B), .int .i64 0, .int .i64 2] 85)).alloc (.cells #[.int .u64 0, .int .u64 0] 35)) = wa at *
  have B2 : Hid (Below w.heap.size w (wa.alloc (.cells #[] 3))) := Lib.hid (b1.alloc (by omega) _)
  have K0 : Hid ((wa.alloc (.cells #[] 3)).heap[z]? = some (.cells cs.toArray 85 (0, 0))) := Lib.hid (heap_keep ((Below.refl _ _).alloc (Nat.le_refl _) _) k0)
  have K1 : Hid ((wa.alloc (.cells #[] 3)).heap[z + 1]? = some (.cells #[.int .u64 0, .int .u64 0] 35 (0, 0))) := Lib.hid (heap_keep ((Below.refl _ _).alloc (Nat.le_refl _) _) k1)
  have O2 : Hid ((wa.alloc (.cells #[] 3)).ownsRow (z + 2) 3 1 (.slice (some ⟨z + 2, 0, none⟩) 0 0) 0 []) := Lib.hid (by have := fresh_row wa 3 1 (z + 2) (by omega); rw [s1] at this; exact this)
  have S2 : Hid (z + 2 ≤ (wa.alloc (.cells #[] 3)).heap.size) := Lib.hid (by simp; omega)
  generalize (wa.alloc (.cells #[] 3)) = wc at *
  have HZ := Lib.hid hz
  have HCS := Lib.hid hcs
  clear b1 k0 k1 s1 hz hcs
  go_loopw [3, 4] (fun u i wr => ∃ (k : Nat) (o : Value), k ≤ 128 ∧ o = u ∧ i = .int .i64 k ∧ Hid (wr.ownsRow (z + 2) 3 1 o (lkP p k).length ((lkP p k).flatMap cN)) ∧ Hid (Below (z + 2) wc wr)) (fun _ i _ => 128 - (intOf i).toNat)
  case atStart => exact ⟨0, _, Nat.zero_le _, rfl, rfl, O2, Lib.hid (Below.refl _ _)⟩
  case round =>
    obtain ⟨k, o, hk, rfl, rfl, ho, hbw⟩ := hrel
    by_cases hlt : k < 128
    · have hwk1 : IntKind.i64.wrap ((k : Int) + 1) = (k : Int) + 1 := by rw [IntKind.wrap_i64]; omega
      have hk7 : (k : Int) ≤ 127 := by omega
      have KR := Lib.hid ((hbw.out.block z (by omega)).trans K0.out)
      have HL : Hid ((lkP p k).length ≤ 1172812402926) := Lib.hid (Nat.le_trans (lkP_len p k) (by omega))
      have HKA := Lib.hid (HA.out k hlt)
      have HKB := Lib.hid (HB.out k hlt)
      obtain ⟨x, hx⟩ : ∃ x, x = A.testBit k := ⟨_, rfl⟩
      obtain ⟨y, hy⟩ : ∃ y, y = B.testBit k := ⟨_, rfl⟩
      rw [← hx] at HKA
      rw [← hy] at HKB
      have hpk : p k = (x || y) := by rw [HP.out, hx, hy]
      have HE2 := Lib.hid (lkP_s p k)
      rw [hpk] at HE2
      have HLA : Hid (∀ w5, Below wr.heap.size wr w5 → (loadVar 35 ⟨z, 0, none⟩).run Tryd.prog w5 = .ok (mV A) w5) := Lib.hid fun w5 h5 => AtL.two 0 (AtL_heap (heap_keep h5 KR.out)) (by rw [HCS.out]; rfl)
      have HLB : Hid (∀ w5, Below wr.heap.size wr w5 → (loadVar 35 ⟨z, 2, none⟩).run Tryd.prog w5 = .ok (mV B) w5) := Lib.hid fun w5 h5 => AtL.two 2 (AtL_heap (heap_keep h5 KR.out)) (by rw [HCS.out]; rfl)
      have q5 : wr.cell? ⟨z, 5, none⟩ = some (.int .i64 2) := by rw [cell_of_row _ _ 5 _ _ _ KR.out, HCS.out]; rfl
      have q4 : wr.cell? ⟨z, 4, none⟩ = some (.int .i64 0) := by rw [cell_of_row _ _ 4 _ _ _ KR.out, HCS.out]; rfl
      have Q5 := Lib.hid q5
      have Q4 := Lib.hid q4
      unfold mV at HLA HLB
      clear hlt hx hy hpk q5 q4
      go_wp2_with fail
      refine Og.walk_lit [[],[0],[],[1,2,0],[],[4],[],[5,6,3,4,1,2,0],[3,7,0,1,2,5,6,4],[7,8,0,1,2,3,4,5,6]] (fun w2 => Below wr.heap.size wr w2) (fun w1 w2 => Below w1.heap.size w1 w2) (by kernel_rfl) (by kernel_rfl) (bdrew) ?_
      refine Og.step_pure (fun _ => Below.refl _ _) ?_; apply Exists.intro; refine And.intro ?_ ?_; focus (intro vs w2 hC hk; revert hk; simp only [Og.KS, Og.K0, Og.Is, List.getD_cons_zero, List.getD_cons_succ, List.getD_nil, List.contains_cons, List.contains_nil, Nat.reduceAdd, Nat.reduceBEq, Bool.or_false, Bool.false_or, Bool.or_true, Bool.true_or, Bool.false_eq_true, false_implies, true_implies, true_and, and_true, forall_const]; intros; go_simp; rfl)
      refine Og.step_pure (fun _ => Below.refl _ _) ?_; apply Exists.intro; refine And.intro ?_ ?_; focus (intro vs w2 hC hk; have hl := HLA.out w2 hC; refine Og.OptB.out ?_; revert hk; simp only [Og.KS, Og.K0, Og.Is, List.getD_cons_zero, List.getD_cons_succ, List.getD_nil, List.contains_cons, List.contains_nil, Nat.reduceAdd, Nat.reduceBEq, Bool.or_false, Bool.false_or, Bool.or_true, Bool.true_or, Bool.false_eq_true, false_implies, true_implies, true_and, and_true, forall_const]; intros; exact optB_loadL (by go_simp) rfl (by go_simp) hl ⟨rfl, rfl⟩)
      refine Og.step_pure (fun _ => Below.refl _ _) ?_; apply Exists.intro; refine And.intro ?_ ?_; focus (intro vs w2 hC hk; revert hk; simp only [Og.KS, Og.K0, Og.Is, List.getD_cons_zero, List.getD_cons_succ, List.getD_nil, List.contains_cons, List.contains_nil, Nat.reduceAdd, Nat.reduceBEq, Bool.or_false, Bool.false_or, Bool.or_true, Bool.true_or, Bool.false_eq_true, false_implies, true_implies, true_and, and_true, forall_const]; intros; go_simp; rfl)
      refine Og.step_one ?_; apply Exists.intro; refine And.intro ?_ ?_; focus (intro vs w2 hC hk; revert hk; simp only [Og.KS, Og.K0, Og.Is, List.getD_cons_zero, List.getD_cons_succ, List.getD_nil, List.contains_cons, List.contains_nil, Nat.reduceAdd, Nat.reduceBEq, Bool.or_false, Bool.false_or, Bool.or_true, Bool.true_or, Bool.false_eq_true, false_implies, true_implies, true_and, and_true, forall_const]; intros; go_simp; with_reducible refine (HKA.out _).mono ?_; rintro e w3 ⟨rfl, hb⟩; exact Og.RetV.mk ⟨bthen hC hb, hb, rfl⟩)
      refine Og.step_pure (fun _ => Below.refl _ _) ?_; apply Exists.intro; refine And.intro ?_ ?_; focus (intro vs w2 hC hk; revert hk; simp only [Og.KS, Og.K0, Og.Is, List.getD_cons_zero, List.getD_cons_succ, List.getD_nil, List.contains_cons, List.contains_nil, Nat.reduceAdd, Nat.reduceBEq, Bool.or_false, Bool.false_or, Bool.or_true, Bool.true_or, Bool.false_eq_true, false_implies, true_implies, true_and, and_true, forall_const]; intros; go_simp; rfl)
      refine Og.step_pure (fun _ => Below.refl _ _) ?_; apply Exists.intro; refine And.intro ?_ ?_; focus (intro vs w2 hC hk; have hl := HLB.out w2 hC; refine Og.OptB.out ?_; revert hk; simp only [Og.KS, Og.K0, Og.Is, List.getD_cons_zero, List.getD_cons_succ, List.getD_nil, List.contains_cons, List.contains_nil, Nat.reduceAdd, Nat.reduceBEq, Bool.or_false, Bool.false_or, Bool.or_true, Bool.true_or, Bool.false_eq_true, false_implies, true_implies, true_and, and_true, forall_const]; intros; exact optB_loadL (by go_simp) rfl (by go_simp) hl ⟨rfl, rfl⟩)
      refine Og.step_pure (fun _ => Below.refl _ _) ?_; apply Exists.intro; refine And.intro ?_ ?_; focus (intro vs w2 hC hk; revert hk; simp only [Og.KS, Og.K0, Og.Is, List.getD_cons_zero, List.getD_cons_succ, List.getD_nil, List.contains_cons, List.contains_nil, Nat.reduceAdd, Nat.reduceBEq, Bool.or_false, Bool.false_or, Bool.or_true, Bool.true_or, Bool.false_eq_true, false_implies, true_implies, true_and, and_true, forall_const]; intros; go_simp; rfl)
      refine Og.step_one ?_; apply Exists.intro; refine And.intro ?_ ?_; focus (intro vs w2 hC hk; revert hk; simp only [Og.KS, Og.K0, Og.Is, List.getD_cons_zero, List.getD_cons_succ, List.getD_nil, List.contains_cons, List.contains_nil, Nat.reduceAdd, Nat.reduceBEq, Bool.or_false, Bool.false_or, Bool.or_true, Bool.true_or, Bool.false_eq_true, false_implies, true_implies, true_and, and_true, forall_const]; intros; go_simp; with_reducible refine (HKB.out _).mono ?_; rintro e w3 ⟨rfl, hb⟩; exact Og.RetV.mk ⟨bthen hC hb, hb, rfl⟩)
      iterate 2 (refine Og.step_pure (fun _ => Below.refl _ _) ?_; apply Exists.intro; refine And.intro ?_ ?_; focus (intro vs w2 hC hk; revert hk; simp only [Og.KS, Og.K0, Og.Is, List.getD_cons_zero, List.getD_cons_succ, List.getD_nil, List.contains_cons, List.contains_nil, Nat.reduceAdd, Nat.reduceBEq, Bool.or_false, Bool.false_or, Bool.or_true, Bool.true_or, Bool.false_eq_true, false_implies, true_implies, true_and, and_true, forall_const]; intros; go_simp; rfl))
      intro vs wb hC hk
      simp only [Og.KS, Og.K0, Og.Is, List.getD_cons_zero, List.getD_cons_succ, List.getD_nil, List.contains_cons, List.contains_nil, Nat.reduceAdd, Nat.reduceBEq, Bool.or_false, Bool.false_or, Bool.or_true, Bool.true_or, Bool.false_eq_true, false_implies, true_implies, true_and, and_true, forall_const] at hk
      simp only [hk, Act.put, List.setIfInBounds_toArray, List.set_cons_zero, List.set_cons_succ]
      clear hk
      have q5 := bcell hC Q5.out
      have q4 := bcell hC Q4.out
      have OB := Lib.hid (own_below ho.out hC)
      have BB := Lib.hid (hbw.out.trans (below_low hC S2.out hbw.out))
      have SB := Lib.hid (Nat.le_trans (Nat.le_trans S2.out hbw.out.size) hC.size)
      clear hC HLA HLB HKA HKB ho hbw KR Q4 Q5
      cases x <;> cases y
      · go_wp2_with fail
        go_roundw
        case rel => exact ⟨k + 1, _, by omega, rfl, by go_num, by rw [HE2.out]; exact Lib.hid (by simpa using OB.out), BB⟩
        case measure => simp [intOf]; omega
      · go_wp2_with (at_builtin; refine wpList_appG cN 1 22 3 8 cN_len cN_one (by omega) Tryd.underlying22 cinfo3 rfl (by omega) rfl (.tmp 52) (.tmp 54) rfl (z + 2) _ o (lkP p k) k rfl rfl (own_below OB.out ((Below.refl _ _).alloc (Nat.le_refl _) _)) (heap_at rfl) HL.out (alloc_le' SB.out) ?_; intro v5 w5 ho5 hg5; have b5 := app_below OB.out SB.out hg5; have O5 := Lib.hid ho5; have B5 := Lib.hid (BB.out.trans b5); clear ho5 hg5 b5)
        go_roundw
        case rel => exact ⟨k + 1, _, by omega, rfl, by go_num, by rw [HE2.out]; exact O5, B5⟩
        case measure => simp [intOf]; omega
      · go_wp2_with (at_builtin; refine wpList_appG cN 1 22 3 8 cN_len cN_one (by omega) Tryd.underlying22 cinfo3 rfl (by omega) rfl (.tmp 52) (.tmp 54) rfl (z + 2) _ o (lkP p k) k rfl rfl (own_below OB.out ((Below.refl _ _).alloc (Nat.le_refl _) _)) (heap_at rfl) HL.out (alloc_le' SB.out) ?_; intro v5 w5 ho5 hg5; have b5 := app_below OB.out SB.out hg5; have O5 := Lib.hid ho5; have B5 := Lib.hid (BB.out.trans b5); clear ho5 hg5 b5)
        go_roundw
        case rel => exact ⟨k + 1, _, by omega, rfl, by go_num, by rw [HE2.out]; exact O5, B5⟩
        case measure => simp [intOf]; omega
      · go_wp2_with (at_builtin; refine wpList_appG cN 1 22 3 8 cN_len cN_one (by omega) Tryd.underlying22 cinfo3 rfl (by omega) rfl (.tmp 52) (.tmp 54) rfl (z + 2) _ o (lkP p k) k rfl rfl (own_below OB.out ((Below.refl _ _).alloc (Nat.le_refl _) _)) (heap_at rfl) HL.out (alloc_le' SB.out) ?_; intro v5 w5 ho5 hg5; have b5 := app_below OB.out SB.out hg5; have O5 := Lib.hid ho5; have B5 := Lib.hid (BB.out.trans b5); clear ho5 hg5 b5)
        go_roundw
        case rel => exact ⟨k + 1, _, by omega, rfl, by go_num, by rw [HE2.out]; exact O5, B5⟩
        case measure => simp [intOf]; omega
    · have hk8 : k = 128 := by omega
      have hk9 : ¬ (k : Int) ≤ 127 := by omega
      subst hk8
      have SB := Lib.hid (Nat.le_trans S2.out hbw.out.size)
      have KR1 := Lib.hid ((hbw.out.block (z + 1) (by omega)).trans K1.out)
      have hs := Sl_of_row cN_len (by omega) (own_lower ho.out (Nat.zero_le _)) rfl
      have hco := (HO.out _ _ hs)
      have HCO := Lib.hid hco
      have BW : Hid (Below w.heap.size w wr) := Lib.hid (B2.out.trans (hbw.out.mono (by rw [HZ.out]; omega)))
      clear hlt hk hs hco
      go_wp2_with fail
      with_reducible refine (HCO.out).mono ?_
      rintro e w3 ⟨rfl, hb3⟩
      have B3 := Lib.hid (bthen BW.out hb3)
      have K3 := Lib.hid (heap_keep hb3 KR1.out)
      have S3 := Lib.hid (Nat.le_trans SB.out hb3.size)
      clear hb3
      go_wp2_with (first | (refine wpList_storeN rfl 35 (.tmp 8) (.tmp 59) rfl rfl w3.heap.size (cM C).toArray rfl rfl 35 _ (heap_at rfl) cinfo25s rfl (by simp [Value.oneCell', cM]) ?_; intro w4 hz4 hb4 hn4 hs4; have Z4 := Lib.hid hz4; have B4 := Lib.hid (bthen B3.out (below_storeA hb4)); have K4 := Lib.hid (heap_keep (below_storeA hb4) K3.out); clear hz4 hb4 hn4 hs4) | (refine wpList_loadL rfl 35 (.tmp 8) rfl w3.heap.size 0 (.agg (cM C).toArray) rfl (cldM Z4.out) ?_) | (refine wpList_storeN rfl 35 (.tmp 2) (.tmp 61) rfl rfl (z + 1) (cM C).toArray rfl rfl 35 _ K4.out cinfo25s rfl (by simp [Value.oneCell', cM]) ?_; intro w9 hz9 hb9 hn9 hs9; have Z9 := Lib.hid hz9; have D9 := Lib.hid (B4.out.trans (hb9 _ (by have := HZ.out; omega))); clear hz9 hb9 hn9 hs9))
      refine bodyPost_ret (results_cell1' rfl rfl (cldM Z9.out)) rfl ?_
      exact ⟨rfl, D9.out⟩

set_option maxRecDepth 100000 in
set_option maxHeartbeats 4000000 in
theorem rchoose3_ok (A B : Nat) (hA : A < 2 ^ 128) (hB : B < 2 ^ 128) (w : World) :
    Calls Tryd.prog 40 #[.agg #[.int .u64 (loM A), .int .u64 (hiM A), .int .u64 (loM B), .int .u64 (hiM B), .int .i64 0, .int .i64 3]] w fun e w' => e = .returned (mV (A &&& B)) ∧ Below w.heap.size w w' := by
  have HA := Lib.hid (fun (k : Nat) (hk : k < 128) (w2 : World) => rHas_ok A k hA hk w2)
  have HB := Lib.hid (fun (k : Nat) (hk : k < 128) (w2 : World) => rHas_ok B k hB hk w2)
  obtain ⟨p, hp⟩ : ∃ p : Nat → Bool, p = fun n => A.testBit n && B.testBit n := ⟨_, rfl⟩
  have HE : Hid (ofM (lkP p 128) = A &&& B) := Lib.hid (by rw [hp]; exact ofM_and hA)
  have HP := Lib.hid hp
  have HO : Hid (∀ v w2, Sl cN 1 0 w2 v (lkP p 128) → Calls Tryd.prog 20 #[v] w2 fun e w' => e = .returned (.tuple #[mV (A &&& B), .int .i64 0]) ∧ Below w2.heap.size w2 w') := Lib.hid (fun v w2 hs => by
    rw [← HE.out]
    exact rOf_ok _ v w2 hs (fun x hx => lkP_lt hx) (Nat.le_trans (lkP_len p 128) (by omega)))
  obtain ⟨C, hC0⟩ : ∃ C, C = A &&& B := ⟨_, rfl⟩
  rw [← hC0] at HO HE ⊢
  clear hA hB hp hC0
  unfold mV at HA HB HO ⊢
  obtain ⟨cs, hcs⟩ : ∃ cs : List Value, cs = [.int .u64 (loM A), .int .u64 (hiM A), .int .u64 (loM B), .int .u64 (hiM B), .int .i64 0, .int .i64 3] := ⟨_, rfl⟩
  obtain ⟨z, hz⟩ : ∃ z, z = w.heap.size := ⟨_, rfl⟩
  have b1 : Below w.heap.size w ((w.alloc (.cells #[.int .u64 (loM A), .int .u64 (hiM A), .int .u64 (loM B), .int .u64 (hiM B), .int .i64 0, .int .i64 3] 85)).alloc (.cells #[.int .u64 0, .int .u64 0] 35)) := ((Below.refl _ _).alloc (Nat.le_refl _) _).alloc (by simp) _
  have k0 : ((w.alloc (.cells #[.int .u64 (loM A), .int .u64 (hiM A), .int .u64 (loM B), .int .u64 (hiM B), .int .i64 0, .int .i64 3] 85)).alloc (.cells #[.int .u64 0, .int .u64 0] 35)).heap[z]? = some (.cells cs.toArray 85 (0, 0)) := heap_keep ((Below.refl _ _).alloc (Nat.le_refl _) _) (by rw [hcs]; exact heap_at hz)
  have k1 : ((w.alloc (.cells #[.int .u64 (loM A), .int .u64 (hiM A), .int .u64 (loM B), .int .u64 (hiM B), .int .i64 0, .int .i64 3] 85)).alloc (.cells #[.int .u64 0, .int .u64 0] 35)).heap[z + 1]? = some (.cells #[.int .u64 0, .int .u64 0] 35 (0, 0)) := heap_at (by rw [hz]; simp)
  have s1 : ((w.alloc (.cells #[.int .u64 (loM A), .int .u64 (hiM A), .int .u64 (loM B), .int .u64 (hiM B), .int .i64 0, .int .i64 3] 85)).alloc (.cells #[.int .u64 0, .int .u64 0] 35)).heap.size = z + 2 := by rw [hz]; simp
  go_enter Tryd.func40, Tryd.ntmps40
  go_wp2_with fail
  rw [← hz]
  generalize ((w.alloc (.cells #[.int .u64 (loM A), .int .u64 (hiM A), .int .u64 (loM B), .int .u64 (hiM B), .int .i64 0, .int .i64 3] 85)).alloc (.cells #[.int .u64 0, .int .u64 0] 35)) = wa at *
  have B2 : Hid (Below w.heap.size w (wa.alloc (.cells #[] 3))) := Lib.hid (b1.alloc (by omega) _)
  have K0 : Hid ((wa.alloc (.cells #[] 3)).heap[z]? = some (.cells cs.toArray 85 (0, 0))) := Lib.hid (heap_keep ((Below.refl _ _).alloc (Nat.le_refl _) _) k0)
  have K1 : Hid ((wa.alloc (.cells #[] 3)).heap[z + 1]? = some (.cells #[.int .u64 0, .int .u64 0] 35 (0, 0))) := Lib.hid (heap_keep ((Below.refl _ _).alloc (Nat.le_refl _) _) k1)
  have O2 : Hid ((wa.alloc (.cells #[] 3)).ownsRow (z + 2) 3 1 (.slice (some ⟨z + 2, 0, none⟩) 0 0) 0 []) := Lib.hid (by have := fresh_row wa 3 1 (z + 2) (by omega); rw [s1] at this; exact this)
  have S2 : Hid (z + 2 ≤ (wa.alloc (.cells #[] 3)).heap.size) := Lib.hid (by simp; omega)
  generalize (wa.alloc (.cells #[] 3)) = wc at *
  have HZ := Lib.hid hz
  have HCS := Lib.hid hcs
  clear b1 k0 k1 s1 hz hcs
  go_loopw [3, 4] (fun u i wr => ∃ (k : Nat) (o : Value), k ≤ 128 ∧ o = u ∧ i = .int .i64 k ∧ Hid (wr.ownsRow (z + 2) 3 1 o (lkP p k).length ((lkP p k).flatMap cN)) ∧ Hid (Below (z + 2) wc wr)) (fun _ i _ => 128 - (intOf i).toNat)
  case atStart => exact ⟨0, _, Nat.zero_le _, rfl, rfl, O2, Lib.hid (Below.refl _ _)⟩
  case round =>
    obtain ⟨k, o, hk, rfl, rfl, ho, hbw⟩ := hrel
    by_cases hlt : k < 128
    · have hwk1 : IntKind.i64.wrap ((k : Int) + 1) = (k : Int) + 1 := by rw [IntKind.wrap_i64]; omega
      have hk7 : (k : Int) ≤ 127 := by omega
      have KR := Lib.hid ((hbw.out.block z (by omega)).trans K0.out)
      have HL : Hid ((lkP p k).length ≤ 1172812402926) := Lib.hid (Nat.le_trans (lkP_len p k) (by omega))
      have HKA := Lib.hid (HA.out k hlt)
      have HKB := Lib.hid (HB.out k hlt)
      obtain ⟨x, hx⟩ : ∃ x, x = A.testBit k := ⟨_, rfl⟩
      obtain ⟨y, hy⟩ : ∃ y, y = B.testBit k := ⟨_, rfl⟩
      rw [← hx] at HKA
      rw [← hy] at HKB
      have hpk : p k = (x && y) := by rw [HP.out, hx, hy]
      have HE2 := Lib.hid (lkP_s p k)
      rw [hpk] at HE2
      have HLA : Hid (∀ w5, Below wr.heap.size wr w5 → (loadVar 35 ⟨z, 0, none⟩).run Tryd.prog w5 = .ok (mV A) w5) := Lib.hid fun w5 h5 => AtL.two 0 (AtL_heap (heap_keep h5 KR.out)) (by rw [HCS.out]; rfl)
      have HLB : Hid (∀ w5, Below wr.heap.size wr w5 → (loadVar 35 ⟨z, 2, none⟩).run Tryd.prog w5 = .ok (mV B) w5) := Lib.hid fun w5 h5 => AtL.two 2 (AtL_heap (heap_keep h5 KR.out)) (by rw [HCS.out]; rfl)
      have q5 : wr.cell? ⟨z, 5, none⟩ = some (.int .i64 3) := by rw [cell_of_row _ _ 5 _ _ _ KR.out, HCS.out]; rfl
      have q4 : wr.cell? ⟨z, 4, none⟩ = some (.int .i64 0) := by rw [cell_of_row _ _ 4 _ _ _ KR.out, HCS.out]; rfl
      have Q5 := Lib.hid q5
      have Q4 := Lib.hid q4
      unfold mV at HLA HLB
      clear hlt hx hy hpk q5 q4
      go_wp2_with fail
      refine Og.walk_lit [[],[0],[],[1,2,0],[],[4],[],[5,6,3,4,1,2,0],[3,7,0,1,2,5,6,4],[7,8,0,1,2,3,4,5,6]] (fun w2 => Below wr.heap.size wr w2) (fun w1 w2 => Below w1.heap.size w1 w2) (by kernel_rfl) (by kernel_rfl) (bdrew) ?_
      refine Og.step_pure (fun _ => Below.refl _ _) ?_; apply Exists.intro; refine And.intro ?_ ?_; focus (intro vs w2 hC hk; revert hk; simp only [Og.KS, Og.K0, Og.Is, List.getD_cons_zero, List.getD_cons_succ, List.getD_nil, List.contains_cons, List.contains_nil, Nat.reduceAdd, Nat.reduceBEq, Bool.or_false, Bool.false_or, Bool.or_true, Bool.true_or, Bool.false_eq_true, false_implies, true_implies, true_and, and_true, forall_const]; intros; go_simp; rfl)
      refine Og.step_pure (fun _ => Below.refl _ _) ?_; apply Exists.intro; refine And.intro ?_ ?_; focus (intro vs w2 hC hk; have hl := HLA.out w2 hC; refine Og.OptB.out ?_; revert hk; simp only [Og.KS, Og.K0, Og.Is, List.getD_cons_zero, List.getD_cons_succ, List.getD_nil, List.contains_cons, List.contains_nil, Nat.reduceAdd, Nat.reduceBEq, Bool.or_false, Bool.false_or, Bool.or_true, Bool.true_or, Bool.false_eq_true, false_implies, true_implies, true_and, and_true, forall_const]; intros; exact optB_loadL (by go_simp) rfl (by go_simp) hl ⟨rfl, rfl⟩)
      refine Og.step_pure (fun _ => Below.refl _ _) ?_; apply Exists.intro; refine And.intro ?_ ?_; focus (intro vs w2 hC hk; revert hk; simp only [Og.KS, Og.K0, Og.Is, List.getD_cons_zero, List.getD_cons_succ, List.getD_nil, List.contains_cons, List.contains_nil, Nat.reduceAdd, Nat.reduceBEq, Bool.or_false, Bool.false_or, Bool.or_true, Bool.true_or, Bool.false_eq_true, false_implies, true_implies, true_and, and_true, forall_const]; intros; go_simp; rfl)
      refine Og.step_one ?_; apply Exists.intro; refine And.intro ?_ ?_; focus (intro vs w2 hC hk; revert hk; simp only [Og.KS, Og.K0, Og.Is, List.getD_cons_zero, List.getD_cons_succ, List.getD_nil, List.contains_cons, List.contains_nil, Nat.reduceAdd, Nat.reduceBEq, Bool.or_false, Bool.false_or, Bool.or_true, Bool.true_or, Bool.false_eq_true, false_implies, true_implies, true_and, and_true, forall_const]; intros; go_simp; with_reducible refine (HKA.out _).mono ?_; rintro e w3 ⟨rfl, hb⟩; exact Og.RetV.mk ⟨bthen hC hb, hb, rfl⟩)
      refine Og.step_pure (fun _ => Below.refl _ _) ?_; apply Exists.intro; refine And.intro ?_ ?_; focus (intro vs w2 hC hk; revert hk; simp only [Og.KS, Og.K0, Og.Is, List.getD_cons_zero, List.getD_cons_succ, List.getD_nil, List.contains_cons, List.contains_nil, Nat.reduceAdd, Nat.reduceBEq, Bool.or_false, Bool.false_or, Bool.or_true, Bool.true_or, Bool.false_eq_true, false_implies, true_implies, true_and, and_true, forall_const]; intros; go_simp; rfl)
      refine Og.step_pure (fun _ => Below.refl _ _) ?_; apply Exists.intro; refine And.intro ?_ ?_; focus (intro vs w2 hC hk; have hl := HLB.out w2 hC; refine Og.OptB.out ?_; revert hk; simp only [Og.KS, Og.K0, Og.Is, List.getD_cons_zero, List.getD_cons_succ, List.getD_nil, List.contains_cons, List.contains_nil, Nat.reduceAdd, Nat.reduceBEq, Bool.or_false, Bool.false_or, Bool.or_true, Bool.true_or, Bool.false_eq_true, false_implies, true_implies, true_and, and_true, forall_const]; intros; exact optB_loadL (by go_simp) rfl (by go_simp) hl ⟨rfl, rfl⟩)
      refine Og.step_pure (fun _ => Below.refl _ _) ?_; apply Exists.intro; refine And.intro ?_ ?_; focus (intro vs w2 hC hk; revert hk; simp only [Og.KS, Og.K0, Og.Is, List.getD_cons_zero, List.getD_cons_succ, List.getD_nil, List.contains_cons, List.contains_nil, Nat.reduceAdd, Nat.reduceBEq, Bool.or_false, Bool.false_or, Bool.or_true, Bool.true_or, Bool.false_eq_true, false_implies, true_implies, true_and, and_true, forall_const]; intros; go_simp; rfl)
      refine Og.step_one ?_; apply Exists.intro; refine And.intro ?_ ?_; focus (intro vs w2 hC hk; revert hk; simp only [Og.KS, Og.K0, Og.Is, List.getD_cons_zero, List.getD_cons_succ, List.getD_nil, List.contains_cons, List.contains_nil, Nat.reduceAdd, Nat.reduceBEq, Bool.or_false, Bool.false_or, Bool.or_true, Bool.true_or, Bool.false_eq_true, false_implies, true_implies, true_and, and_true, forall_const]; intros; go_simp; with_reducible refine (HKB.out _).mono ?_; rintro e w3 ⟨rfl, hb⟩; exact Og.RetV.mk ⟨bthen hC hb, hb, rfl⟩)
      iterate 2 (refine Og.step_pure (fun _ => Below.refl _ _) ?_; apply Exists.intro; refine And.intro ?_ ?_; focus (intro vs w2 hC hk; revert hk; simp only [Og.KS, Og.K0, Og.Is, List.getD_cons_zero, List.getD_cons_succ, List.getD_nil, List.contains_cons, List.contains_nil, Nat.reduceAdd, Nat.reduceBEq, Bool.or_false, Bool.false_or, Bool.or_true, Bool.true_or, Bool.false_eq_true, false_implies, true_implies, true_and, and_true, forall_const]; intros; go_simp; rfl))
      intro vs wb hC hk
      simp only [Og.KS, Og.K0, Og.Is, List.getD_cons_zero, List.getD_cons_succ, List.getD_nil, List.contains_cons, List.contains_nil, Nat.reduceAdd, Nat.reduceBEq, Bool.or_false, Bool.false_or, Bool.or_true, Bool.true_or, Bool.false_eq_true, false_implies, true_implies, true_and, and_true, forall_const] at hk
      simp only [hk, Act.put, List.setIfInBounds_toArray, List.set_cons_zero, List.set_cons_succ]
      clear hk
      have q5 := bcell hC Q5.out
      have q4 := bcell hC Q4.out
      have OB := Lib.hid (own_below ho.out hC)
      have BB := Lib.hid (hbw.out.trans (below_low hC S2.out hbw.out))
      have SB := Lib.hid (Nat.le_trans (Nat.le_trans S2.out hbw.out.size) hC.size)
      clear hC HLA HLB HKA HKB ho hbw KR Q4 Q5
      cases x <;> cases y
      · go_wp2_with fail
        go_roundw
        case rel => exact ⟨k + 1, _, by omega, rfl, by go_num, by rw [HE2.out]; exact Lib.hid (by simpa using OB.out), BB⟩
        case measure => simp [intOf]; omega
      · go_wp2_with fail
        go_roundw
        case rel => exact ⟨k + 1, _, by omega, rfl, by go_num, by rw [HE2.out]; exact Lib.hid (by simpa using OB.out), BB⟩
        case measure => simp [intOf]; omega
      · go_wp2_with fail
        go_roundw
        case rel => exact ⟨k + 1, _, by omega, rfl, by go_num, by rw [HE2.out]; exact Lib.hid (by simpa using OB.out), BB⟩
        case measure => simp [intOf]; omega
      · go_wp2_with (at_builtin; refine wpList_appG cN 1 22 3 8 cN_len cN_one (by omega) Tryd.underlying22 cinfo3 rfl (by omega) rfl (.tmp 52) (.tmp 54) rfl (z + 2) _ o (lkP p k) k rfl rfl (own_below OB.out ((Below.refl _ _).alloc (Nat.le_refl _) _)) (heap_at rfl) HL.out (alloc_le' SB.out) ?_; intro v5 w5 ho5 hg5; have b5 := app_below OB.out SB.out hg5; have O5 := Lib.hid ho5; have B5 := Lib.hid (BB.out.trans b5); clear ho5 hg5 b5)
        go_roundw
        case rel => exact ⟨k + 1, _, by omega, rfl, by go_num, by rw [HE2.out]; exact O5, B5⟩
        case measure => simp [intOf]; omega
    · have hk8 : k = 128 := by omega
      have hk9 : ¬ (k : Int) ≤ 127 := by omega
      subst hk8
      have SB := Lib.hid (Nat.le_trans S2.out hbw.out.size)
      have KR1 := Lib.hid ((hbw.out.block (z + 1) (by omega)).trans K1.out)
      have hs := Sl_of_row cN_len (by omega) (own_lower ho.out (Nat.zero_le _)) rfl
      have hco := (HO.out _ _ hs)
      have HCO := Lib.hid hco
      have BW : Hid (Below w.heap.size w wr) := Lib.hid (B2.out.trans (hbw.out.mono (by rw [HZ.out]; omega)))
      clear hlt hk hs hco
      go_wp2_with fail
      with_reducible refine (HCO.out).mono ?_
      rintro e w3 ⟨rfl, hb3⟩
      have B3 := Lib.hid (bthen BW.out hb3)
      have K3 := Lib.hid (heap_keep hb3 KR1.out)
      have S3 := Lib.hid (Nat.le_trans SB.out hb3.size)
      clear hb3
      go_wp2_with (first | (refine wpList_storeN rfl 35 (.tmp 8) (.tmp 59) rfl rfl w3.heap.size (cM C).toArray rfl rfl 35 _ (heap_at rfl) cinfo25s rfl (by simp [Value.oneCell', cM]) ?_; intro w4 hz4 hb4 hn4 hs4; have Z4 := Lib.hid hz4; have B4 := Lib.hid (bthen B3.out (below_storeA hb4)); have K4 := Lib.hid (heap_keep (below_storeA hb4) K3.out); clear hz4 hb4 hn4 hs4) | (refine wpList_loadL rfl 35 (.tmp 8) rfl w3.heap.size 0 (.agg (cM C).toArray) rfl (cldM Z4.out) ?_) | (refine wpList_storeN rfl 35 (.tmp 2) (.tmp 61) rfl rfl (z + 1) (cM C).toArray rfl rfl 35 _ K4.out cinfo25s rfl (by simp [Value.oneCell', cM]) ?_; intro w9 hz9 hb9 hn9 hs9; have Z9 := Lib.hid hz9; have D9 := Lib.hid (B4.out.trans (hb9 _ (by have := HZ.out; omega))); clear hz9 hb9 hn9 hs9))
      refine bodyPost_ret (results_cell1' rfl rfl (cldM Z9.out)) rfl ?_
      exact ⟨rfl, D9.out⟩

set_option maxRecDepth 100000 in
set_option maxHeartbeats 4000000 in
theorem rOr_ok (A B : Nat) (hA : A < 2 ^ 128) (hB : B < 2 ^ 128) (w : World) : Calls Tryd.prog 21 #[mV A, mV B] w fun e w' => e = .returned (mV (A ||| B)) ∧ Below w.heap.size w w' := by
  have HCH := Lib.hid (fun w2 => rchoose2_ok A B hA hB w2)
  obtain ⟨z, hz⟩ : ∃ z, z = w.heap.size := ⟨_, rfl⟩
  obtain ⟨C, hC0⟩ : ∃ C, C = A ||| B := ⟨_, rfl⟩
  rw [← hC0] at HCH ⊢
  clear hA hB hC0
  unfold mV at HCH ⊢
  have b1 : Below w.heap.size w (((w.alloc (.cells #[.int .u64 (loM A), .int .u64 (hiM A)] 35)).alloc (.cells #[.int .u64 (loM B), .int .u64 (hiM B)] 35)).alloc (.cells #[.int .u64 0, .int .u64 0] 35)) := (((Below.refl _ _).alloc (Nat.le_refl _) _).alloc (by simp) _).alloc (by simp; omega) _
  have k0 : (((w.alloc (.cells #[.int .u64 (loM A), .int .u64 (hiM A)] 35)).alloc (.cells #[.int .u64 (loM B), .int .u64 (hiM B)] 35)).alloc (.cells #[.int .u64 0, .int .u64 0] 35)).heap[z]? = some (.cells (cM A).toArray 35 (0, 0)) := heap_keep ((Below.refl _ _).alloc (Nat.le_refl _) _) (heap_keep ((Below.refl _ _).alloc (Nat.le_refl _) _) (heap_at hz))
  have k1 : (((w.alloc (.cells #[.int .u64 (loM A), .int .u64 (hiM A)] 35)).alloc (.cells #[.int .u64 (loM B), .int .u64 (hiM B)] 35)).alloc (.cells #[.int .u64 0, .int .u64 0] 35)).heap[z + 1]? = some (.cells (cM B).toArray 35 (0, 0)) := heap_keep ((Below.refl _ _).alloc (Nat.le_refl _) _) (heap_at (by rw [hz]; simp))
  have k2 : (((w.alloc (.cells #[.int .u64 (loM A), .int .u64 (hiM A)] 35)).alloc (.cells #[.int .u64 (loM B), .int .u64 (hiM B)] 35)).alloc (.cells #[.int .u64 0, .int .u64 0] 35)).heap[z + 1 + 1]? = some (.cells #[.int .u64 0, .int .u64 0] 35 (0, 0)) := heap_at (by rw [hz]; simp)
  go_enter Tryd.func21, Tryd.ntmps21
  have HZ := Lib.hid hz
  have K0 := Lib.hid k0
  have K1 := Lib.hid k1
  have K2 := Lib.hid k2
  have B1 := Lib.hid b1
  clear b1 k0 k1 k2
  go_wp2_with (first | (refine wpList_loadL rfl 35 (.tmp 2) rfl w.heap.size 0 (.agg #[.int .u64 (loM A), .int .u64 (hiM A)]) rfl (cldM (by rw [← HZ.out]; exact K0.out)) ?_) | (refine wpList_loadL rfl 35 (.tmp 3) rfl (w.heap.size + 1) 0 (.agg #[.int .u64 (loM B), .int .u64 (hiM B)]) rfl (cldM (by rw [← HZ.out]; exact K1.out)) ?_))
  rw [← hz]
  clear hz
  with_reducible refine (HCH.out _).mono ?_
  rintro e w3 ⟨rfl, hb3⟩
  have B3 := Lib.hid (bthen B1.out hb3)
  have K3 := Lib.hid (heap_keep hb3 K2.out)
  clear hb3
  go_wp2_with (first | (refine wpList_storeN rfl 35 (.tmp 4) (.tmp 8) rfl rfl (z + 1 + 1) (cM C).toArray rfl rfl 35 _ K3.out cinfo25s rfl (by simp [Value.oneCell', cM]) ?_; intro w9 hz9 hb9 hn9 hs9; have Z9 := Lib.hid hz9; have D9 := Lib.hid (B3.out.trans (hb9 _ (by have := HZ.out; omega))); clear hz9 hb9 hn9 hs9))
  refine bodyPost_ret (results_cell1' rfl rfl (cldM Z9.out)) rfl ?_
  exact ⟨rfl, D9.out⟩

end Go.Proofs.YtjbglifmppilfaaDoor
