/- The reference: choose, Or, And, Len; conditions as stated. Contracts of the small functions: limits, comparisons, places; conditions as stated. Leaves for the distances: clamp, Sum, Less, and 'is it a node's number'. -/
import Derived.Test.YtjbglifmppilfaaDoorK2
import Derived.Test.YtjbglifmppilfaaDoorK1
import Derived.Laws.ComplexArith
import Derived.BigQuiet
namespace Go.Proofs.YtjbglifmppilfaaDoor
open Go.ChangeShapes Go.WideShapes Go.ChangeAt Go.RowKit
set_option linter.unusedVariables false
set_option linter.unusedSimpArgs false
attribute [local go_sem] Og.Opt Og.OpY

attribute [local go_sem] Og.Opt Og.OpY
theorem AtL.two {w : World} {g o : Nat} {M : Nat} {cs : List Value} (k : Nat) (h : AtL w g o cs) (hd : (cs.drop k).take 2 = cM M) : (loadVar 35 ⟨g, o + k, none⟩).run Tryd.prog w = .ok (mV M) w := run_loadL (cs := cM M) cisAgg25 csize25 rfl (h.sub k hd)
theorem results_cell1' {fn : Func} {p : Tmp} {ty : TypeId} {tmps : Array Value} {P : Program} {w : World} {a : Addr} {v : Value} (h : fn.results = #[.cell p ty]) (ha : tmps.getD p undef = .pointer (some a)) (hr : (loadVar ty a).run P w = .ok v w) :
    (results fn tmps).run P w = .ok v w := by
  have e : (asAddr (.pointer (some a))).run P w = .ok a w := rfl
  simp only [results, h]
  simp [ha, e, hr, Sem.run_bind, Result.andThen, -Array.getD_eq_getD_getElem?]
def lkP (p : Nat → Bool) (k : Nat) : List Nat := (List.range k).filter p
theorem lkP_s (p : Nat → Bool) (k : Nat) : lkP p (k + 1) = lkP p k ++ (if p k = true then [k] else []) := by
  unfold lkP
  rw [List.range_succ, List.filter_append]
  congr 1
  cases h : p k <;> simp [h]
theorem lkP_len (p : Nat → Bool) (k : Nat) : (lkP p k).length ≤ k := by
  unfold lkP
  exact Nat.le_trans (List.length_filter_le ..) (by simp)
theorem lkP_lt {p : Nat → Bool} {k x : Nat} (h : x ∈ lkP p k) : x < k := by
  unfold lkP at h
  simpa using (List.mem_filter.1 h).1

set_option maxRecDepth 100000 in
set_option maxHeartbeats 4000000 in
theorem rchoose2_ok (A B : Nat) (hA : A < 2 ^ 128) (hB : B < 2 ^ 128) (w : World) :
    Calls Tryd.prog 40 #[.agg #[.int .u64 (loM A), .int .u64 (hiM A), .int .u64 (loM B), .int .u64 (hiM B), .int .i64 0, .int .i64 2]] w fun e w' => e = .returned (mV (A ||| B)) ∧ Below w.heap.size w w' := by
  have HA := Lib.hid (fun (k : Nat) (hk : k < 128) (w2 : World) => rHas_ok A k hA hk w2)
  have HB := Lib.hid (fun (k : Nat) (hk : k < 128) (w2 : World) => rHas_ok B k hB hk w2)
  obtain ⟨p, hp⟩ : ∃ p : Nat → Bool, p = fun n => A.testBit n || B.testBit n := ⟨_, rfl⟩
  have HE : Hid (ofM (lkP p 128) = A ||| B) := Lib.hid (by rw [hp]; exact ofM_or hA hB)
  have HP := Lib.hid hp
  have HO : Hid (∀ v w2, Sl cN 1 0 w2 v (lkP p 128) → Calls Tryd.prog 20 #[v] w2 fun e w' => e = .returned (.tuple #[mV (A ||| B), .int .i64 0]) ∧ Below w2.heap.size w2 w') := Lib.hid (fun v w2 hs => by
    rw [← HE.out]
    exact rOf_ok _ v w2 hs (fun x hx => lkP_lt hx) (Nat.le_trans (lkP_len p 128) (by omega)))
  obtain ⟨C, hC0⟩ : ∃ C, C = A ||| B := ⟨_, rfl⟩
  rw [← hC0] at HO HE ⊢
  clear hA hB hp hC0
  unfold mV at HA HB HO ⊢
  obtain ⟨cs, hcs⟩ : ∃ cs : List Value, cs = [.int .u64 (loM A), .int .u64 (hiM A), .int .u64 (loM B), .int .u64 (hiM B), .int .i64 0, .int .i64 2] := ⟨_, rfl⟩
  obtain ⟨z, hz⟩ : ∃ z, z = w.heap.size := ⟨_, rfl⟩
  have b1 : Below w.heap.size w ((w.alloc (.cells #[.int .u64 (loM A), .int .u64 (hiM A), .int .u64 (loM B), .int .u64 (hiM B), .int .i64 0, .int .i64 2] 85)).alloc (.cells #[.int .u64 0, .int .u64 0] 35)) := ((Below.refl _ _).alloc (Nat.le_refl _) _).alloc (by simp) _
  have k0 : ((w.alloc (.cells #[.int .u64 (loM A), .int .u64 (hiM A), .int .u64 (loM B), .int .u64 (hiM B), .int .i64 0, .int .i64 2] 85)).alloc (.cells #[.int .u64 0, .int .u64 0] 35)).heap[z]? = some (.cells cs.toArray 85 (0, 0)) := heap_keep ((Below.refl _ _).alloc (Nat.le_refl _) _) (by rw [hcs]; exact heap_at hz)
  have k1 : ((w.alloc (.cells #[.int .u64 (loM A), .int .u64 (hiM A), .int .u64 (loM B), .int .u64 (hiM B), .int .i64 0, .int .i64 2] 85)).alloc (.cells #[.int .u64 0, .int .u64 0] 35)).heap[z + 1]? = some (.cells #[.int .u64 0, .int .u64 0] 35 (0, 0)) := heap_at (by rw [hz]; simp)
  have s1 : ((w.alloc (.cells #[.int .u64 (loM A), .int .u64 (hiM A), .int .u64 (loM B), .int .u64 (hiM B), .int .i64 0, .int .i64 2] 85)).alloc (.cells #[.int .u64 0, .int .u64 0] 35)).heap.size = z + 2 := by rw [hz]; simp
  go_enter Tryd.func40, Tryd.ntmps40
  go_wp2_with fail
  rw [← hz]
  generalize ((w.alloc (.cells #[.int .u64 (loM A), .int .u64 (hiM A), .int .u64 (loM B), .int .u64 (hiM B), .int .i64 0, .int .i64 2] 85)).alloc (.cells #[.int .u64 0, .int .u64 0] 35)) = wa at *
  have B2 : Hid (Below w.heap.size w (wa.alloc (.cells #[] 3))) := Lib.hid (b1.alloc (by omega) _)
  have K0 : Hid ((wa.alloc (.cells #[] 3)).heap[z]? = some (.cells cs.toArray 85 (0, 0))) := Lib.hid (heap_keep ((Below.refl _ _).alloc (Nat.le_refl _) _) k0)
  have K1 : Hid ((wa.alloc (.cells #[] 3)).heap[z + 1]? = some (.cells #[.int .u64 0, .int .u64 0] 35 (0, 0))) := Lib.hid (heap_keep ((Below.refl _ _).alloc (Nat.le_refl _) _) k1)
  have O2 : Hid ((wa.alloc (.cells #[] 3)).ownsRow (z + 2) 3 1 (.slice (some ⟨z + 2, 0, none⟩) 0 0) 0 []) := Lib.hid (by have := fresh_row wa 3 1 (z + 2) (by omega); rw [s1] at this; exact this)
  have S2 : Hid (z + 2 ≤ (wa.alloc (.cells #[] 3)).heap.size) := Lib.hid (by simp; omega)
  generalize (wa.alloc (.cells #[] 3)) = wc at *
  have HZ := Lib.hid hz
  have HCS := Lib.hid hcs
  clear b1 k0 k1 s1 hz hcs
  go_loopw [3, 4] (fun u i wr => ∃ (k : Nat) (o : Value), k ≤ 128 ∧ o = u ∧ i = .int .i64 k ∧ Hid (wr.ownsRow (z + 2) 3 1 o (lkP p k).length ((lkP p k).flatMap cN)) ∧ Hid (Below (z + 2) wc wr)) (fun _ i _ => 128 - (intOf i).toNat)
  case atStart => exact ⟨0, _, Nat.zero_le _, rfl, rfl, O2, Lib.hid (Below.refl _ _)⟩
  case round =>
    obtain ⟨k, o, hk, rfl, rfl, ho, hbw⟩ := hrel
    by_cases hlt : k < 128
    · have hwk1 : IntKind.i64.wrap ((k : Int) + 1) = (k : Int) + 1 := by rw [IntKind.wrap_i64]; omega
      have hk7 : (k : Int) ≤ 127 := by omega
      have KR := Lib.hid ((hbw.out.block z (by omega)).trans K0.out)
      have HL : Hid ((lkP p k).length ≤ 1172812402926) := Lib.hid (Nat.le_trans (lkP_len p k) (by omega))
      have HKA := Lib.hid (HA.out k hlt)
      have HKB := Lib.hid (HB.out k hlt)
      obtain ⟨x, hx⟩ : ∃ x, x = A.testBit k := ⟨_, rfl⟩
      obtain ⟨y, hy⟩ : ∃ y, y = B.testBit k := ⟨_, rfl⟩
      rw [← hx] at HKA
      rw [← hy] at HKB
      have hpk : p k = (x || y) := by rw [HP.out, hx, hy]
      have HE2 := Lib.hid (lkP_s p k)
      rw [hpk] at HE2
      have HLA : Hid (∀ w5, Below wr.heap.size wr w5 → (loadVar 35 ⟨z, 0, none⟩).run Tryd.prog w5 = .ok (mV A) w5) := Lib.hid fun w5 h5 => AtL.two 0 (AtL_heap (heap_keep h5 KR.out)) (by rw [HCS.out]; rfl)
      have HLB : Hid (∀ w5, Below wr.heap.size wr w5 → (loadVar 35 ⟨z, 2, none⟩).run Tryd.prog w5 = .ok (mV B) w5) := Lib.hid fun w5 h5 => AtL.two 2 (AtL_heap (heap_keep h5 KR.out)) (by rw [HCS.out]; rfl)
      have q5 : wr.cell? ⟨z, 5, none⟩ = some (.int .i64 2) := by rw [cell_of_row _ _ 5 _ _ _ KR.out, HCS.out]; rfl
      have q4 : wr.cell? ⟨z, 4, none⟩ = some (.int .i64 0) := by rw [cell_of_row _ _ 4 _ _ _ KR.out, HCS.out]; rfl
      have Q5 := Lib.hid q5
      have Q4 := Lib.hid q4
      unfold mV at HLA HLB
      clear hlt hx hy hpk q5 q4
      go_wp2_with fail
      refine Og.walk_lit [[],[0],[],[1,2,0],[],[4],[],[5,6,3,4,1,2,0],[3,7,0,1,2,5,6,4],[7,8,0,1,2,3,4,5,6]] (fun w2 => Below wr.heap.size wr w2) (fun w1 w2 => Below w1.heap.size w1 w2) (by kernel_rfl) (by kernel_rfl) (bdrew) ?_
      refine Og.step_pure (fun _ => Below.refl _ _) ?_; apply Exists.intro; refine And.intro ?_ ?_; focus (intro vs w2 hC hk; revert hk; simp only [Og.KS, Og.K0, Og.Is, List.getD_cons_zero, List.getD_cons_succ, List.getD_nil, List.contains_cons, List.contains_nil, Nat.reduceAdd, Nat.reduceBEq, Bool.or_false, Bool.false_or, Bool.or_true, Bool.true_or, Bool.false_eq_true, false_implies, true_implies, true_and, and_true, forall_const]; intros; go_simp; rfl)
      refine Og.step_pure (fun _ => Below.refl _ _) ?_; apply Exists.intro; refine And.intro ?_ ?_; focus (intro vs w2 hC hk; have hl := HLA.out w2 hC; refine Og.OptB.out ?_; revert hk; simp only [Og.KS, Og.K0, Og.Is, List.getD_cons_zero, List.getD_cons_succ, List.getD_nil, List.contains_cons, List.contains_nil, Nat.reduceAdd, Nat.reduceBEq, Bool.or_false, Bool.false_or, Bool.or_true, Bool.true_or, Bool.false_eq_true, false_implies, true_implies, true_and, and_true, forall_const]; intros; exact optB_loadL (by go_simp) rfl (by go_simp) hl ⟨rfl, rfl⟩)
      refine Og.step_pure (fun _ => Below.refl _ _) ?_; apply Exists.intro; refine And.intro ?_ ?_; focus (intro vs w2 hC hk; revert hk; simp only [Og.KS, Og.K0, Og.Is, List.getD_cons_zero, List.getD_cons_succ, List.getD_nil, List.contains_cons, List.contains_nil, Nat.reduceAdd, Nat.reduceBEq, Bool.or_false, Bool.false_or, Bool.or_true, Bool.true_or, Bool.false_eq_true, false_implies, true_implies, true_and, and_true, forall_const]; intros; go_simp; rfl)
      refine Og.step_one ?_; apply Exists.intro; refine And.intro ?_ ?_; focus (intro vs w2 hC hk; revert hk; simp only [Og.KS, Og.K0, Og.Is, List.getD_cons_zero, List.getD_cons_succ, List.getD_nil, List.contains_cons, List.contains_nil, Nat.reduceAdd, Nat.reduceBEq, Bool.or_false, Bool.false_or, Bool.or_true, Bool.true_or, Bool.false_eq_true, false_implies, true_implies, true_and, and_true, forall_const]; intros; go_simp; with_reducible refine (HKA.out _).mono ?_; rintro e w3 ⟨rfl, hb⟩; exact Og.RetV.mk ⟨bthen hC hb, hb, rfl⟩)
      refine Og.step_pure (fun _ => Below.refl _ _) ?_; apply Exists.intro; refine And.intro ?_ ?_; focus (intro vs w2 hC hk; revert hk; simp only [Og.KS, Og.K0, Og.Is, List.getD_cons_zero, List.getD_cons_succ, List.getD_nil, List.contains_cons, List.contains_nil, Nat.reduceAdd, Nat.reduceBEq, Bool.or_false, Bool.false_or, Bool.or_true, Bool.true_or, Bool.false_eq_true, false_implies, true_implies, true_and, and_true, forall_const]; intros; go_simp; rfl)
      refine Og.step_pure (fun _ => Below.refl _ _) ?_; apply Exists.intro; refine And.intro ?_ ?_; focus (intro vs w2 hC hk; have hl := HLB.out w2 hC; refine Og.OptB.out ?_; revert hk; simp only [Og.KS, Og.K0, Og.Is, List.getD_cons_zero, List.getD_cons_succ, List.getD_nil, List.contains_cons, List.contains_nil, Nat.reduceAdd, Nat.reduceBEq, Bool.or_false, Bool.false_or, Bool.or_true, Bool.true_or, Bool.false_eq_true, false_implies, true_implies, true_and, and_true, forall_const]; intros; exact optB_loadL (by go_simp) rfl (by go_simp) hl ⟨rfl, rfl⟩)
      refine Og.step_pure (fun _ => Below.refl _ _) ?_; apply Exists.intro; refine And.intro ?_ ?_; focus (intro vs w2 hC hk; revert hk; simp only [Og.KS, Og.K0, Og.Is, List.getD_cons_zero, List.getD_cons_succ, List.getD_nil, List.contains_cons, List.contains_nil, Nat.reduceAdd, Nat.reduceBEq, Bool.or_false, Bool.false_or, Bool.or_true, Bool.true_or, Bool.false_eq_true, false_implies, true_implies, true_and, and_true, forall_const]; intros; go_simp; rfl)
      refine Og.step_one ?_; apply Exists.intro; refine And.intro ?_ ?_; focus (intro vs w2 hC hk; revert hk; simp only [Og.KS, Og.K0, Og.Is, List.getD_cons_zero, List.getD_cons_succ, List.getD_nil, List.contains_cons, List.contains_nil, Nat.reduceAdd, Nat.reduceBEq, Bool.or_false, Bool.false_or, Bool.or_true, Bool.true_or, Bool.false_eq_true, false_implies, true_implies, true_and, and_true, forall_const]; intros; go_simp; with_reducible refine (HKB.out _).mono ?_; rintro e w3 ⟨rfl, hb⟩; exact Og.RetV.mk ⟨bthen hC hb, hb, rfl⟩)
      iterate 2 (refine Og.step_pure (fun _ => Below.refl _ _) ?_; apply Exists.intro; refine And.intro ?_ ?_; focus (intro vs w2 hC hk; revert hk; simp only [Og.KS, Og.K0, Og.Is, List.getD_cons_zero, List.getD_cons_succ, List.getD_nil, List.contains_cons, List.contains_nil, Nat.reduceAdd, Nat.reduceBEq, Bool.or_false, Bool.false_or, Bool.or_true, Bool.true_or, Bool.false_eq_true, false_implies, true_implies, true_and, and_true, forall_const]; intros; go_simp; rfl))
      intro vs wb hC hk
      simp only [Og.KS, Og.K0, Og.Is, List.getD_cons_zero, List.getD_cons_succ, List.getD_nil, List.contains_cons, List.contains_nil, Nat.reduceAdd, Nat.reduceBEq, Bool.or_false, Bool.false_or, Bool.or_true, Bool.true_or, Bool.false_eq_true, false_implies, true_implies, true_and, and_true, forall_const] at hk
      simp only [hk, Act.put, List.setIfInBounds_toArray, List.set_cons_zero, List.set_cons_succ]
      clear hk
      have q5 := bcell hC Q5.out
      have q4 := bcell hC Q4.out
      have OB := Lib.hid (own_below ho.out hC)
      have BB := Lib.hid (hbw.out.trans (below_low hC S2.out hbw.out))
      have SB := Lib.hid (Nat.le_trans (Nat.le_trans S2.out hbw.out.size) hC.size)
      clear hC HLA HLB HKA HKB ho hbw KR Q4 Q5
      cases x <;> cases y
      · go_wp2_with fail
        go_roundw
        case rel => exact ⟨k + 1, _, by omega, rfl, by go_num, by rw [HE2.out]; exact Lib.hid (by simpa using OB.out), BB⟩
        case measure => simp [intOf]; omega
      · go_wp2_with (at_builtin; refine wpList_appG cN 1 22 3 8 cN_len cN_one (by omega) Tryd.underlying22 cinfo3 rfl (by omega) rfl (.tmp 52) (.tmp 54) rfl (z + 2) _ o (lkP p k) k rfl rfl (own_below OB.out ((Below.refl _ _).alloc (Nat.le_refl _) _)) (heap_at rfl) HL.out (alloc_le' SB.out) ?_; intro v5 w5 ho5 hg5; have b5 := app_below OB.out SB.out hg5; have O5 := Lib.hid ho5; have B5 := Lib.hid (BB.out.trans b5); clear ho5 hg5 b5)
        go_roundw
        case rel => exact ⟨k + 1, _, by omega, rfl, by go_num, by rw [HE2.out]; exact O5, B5⟩
        case measure => simp [intOf]; omega
      · go_wp2_with (at_builtin; refine wpList_appG cN 1 22 3 8 cN_len cN_one (by omega) Tryd.underlying22 cinfo3 rfl (by omega) rfl (.tmp 52) (.tmp 54) rfl (z + 2) _ o (lkP p k) k rfl rfl (own_below OB.out ((Below.refl _ _).alloc (Nat.le_refl _) _)) (heap_at rfl) HL.out (alloc_le' SB.out) ?_; intro v5 w5 ho5 hg5; have b5 := app_below OB.out SB.out hg5; have O5 := Lib.hid ho5; have B5 := Lib.hid (BB.out.trans b5); clear ho5 hg5 b5)
        go_roundw
        case rel => exact ⟨k + 1, _, by omega, rfl, by go_num, by rw [HE2.out]; exact O5, B5⟩
        case measure => simp [intOf]; omega
      · go_wp2_with (at_builtin; refine wpList_appG cN 1 22 3 8 cN_len cN_one (by omega) Tryd.underlying22 cinfo3 rfl (by omega) rfl (.tmp 52) (.tmp 54) rfl (z + 2) _ o (lkP p k) k rfl rfl (own_below OB.out ((Below.refl _ _).alloc (Nat.le_refl _) _)) (heap_at rfl) HL.out (alloc_le' SB.out) ?_; intro v5 w5 ho5 hg5; have b5 := app_below OB.out SB.out hg5; have O5 := Lib.hid ho5; have B5 := Lib.hid (BB.out.trans b5); clear ho5 hg5 b5)
        go_roundw
        case rel => exact ⟨k + 1, _, by omega, rfl, by go_num, by rw [HE2.out]; exact O5, B5⟩
        case measure => simp [intOf]; omega
    · have hk8 : k = 128 := by omega
      have hk9 : ¬ (k : Int) ≤ 127 := by omega
      subst hk8
      have SB := Lib.hid (Nat.le_trans S2.out hbw.out.size)
      have KR1 := Lib.hid ((hbw.out.block (z + 1) (by omega)).trans K1.out)
      have hs := Sl_of_row cN_len (by omega) (own_lower ho.out (Nat.zero_le _)) rfl
      have hco := (HO.out _ _ hs)
      have HCO := Lib.hid hco
      have BW : Hid (Below w.heap.size w wr) := Lib.hid (B2.out.trans (hbw.out.mono (by rw [HZ.out]; omega)))
      clear hlt hk hs hco
      go_wp2_with fail
      with_reducible refine (HCO.out).mono ?_
      rintro e w3 ⟨rfl, hb3⟩
      have B3 := Lib.hid (bthen BW.out hb3)
      have K3 := Lib.hid (heap_keep hb3 KR1.out)
      have S3 := Lib.hid (Nat.le_trans SB.out hb3.size)
      clear hb3
      go_wp2_with (first | (refine wpList_storeN rfl 35 (.tmp 8) (.tmp 59) rfl rfl w3.heap.size (cM C).toArray rfl rfl 35 _ (heap_at rfl) cinfo25s rfl (by simp [Value.oneCell', cM]) ?_; intro w4 hz4 hb4 hn4 hs4; have Z4 := Lib.hid hz4; have B4 := Lib.hid (bthen B3.out (below_storeA hb4)); have K4 := Lib.hid (heap_keep (below_storeA hb4) K3.out); clear hz4 hb4 hn4 hs4) | (refine wpList_loadL rfl 35 (.tmp 8) rfl w3.heap.size 0 (.agg (cM C).toArray) rfl (cldM Z4.out) ?_) | (refine wpList_storeN rfl 35 (.tmp 2) (.tmp 61) rfl rfl (z + 1) (cM C).toArray rfl rfl 35 _ K4.out cinfo25s rfl (by simp [Value.oneCell', cM]) ?_; intro w9 hz9 hb9 hn9 hs9; have Z9 := Lib.hid hz9; have D9 := Lib.hid (B4.out.trans (hb9 _ (by have := HZ.out; omega))); clear hz9 hb9 hn9 hs9))
      refine bodyPost_ret (results_cell1' rfl rfl (cldM Z9.out)) rfl ?_
      exact ⟨rfl, D9.out⟩

set_option maxRecDepth 100000 in
set_option maxHeartbeats 4000000 in
theorem rchoose3_ok (A B : Nat) (hA : A < 2 ^ 128) (hB : B < 2 ^ 128) (w : World) :
    Calls Tryd.prog 40 #[.agg #[.int .u64 (loM A), .int .u64 (hiM A), .int .u64 (loM B), .int .u64 (hiM B), .int .i64 0, .int .i64 3]] w fun e w' => e = .returned (mV (A &&& B)) ∧ Below w.heap.size w w' := by
  have HA := Lib.hid (fun (k : Nat) (hk : k < 128) (w2 : World) => rHas_ok A k hA hk w2)
  have HB := Lib.hid (fun (k : Nat) (hk : k < 128) (w2 : World) => rHas_ok B k hB hk w2)
  obtain ⟨p, hp⟩ : ∃ p : Nat → Bool, p = fun n => A.testBit n && B.testBit n := ⟨_, rfl⟩
  have HE : Hid (ofM (lkP p 128) = A &&& B) := Lib.hid (by rw [hp]; exact ofM_and hA)
  have HP := Lib.hid hp
  have HO : Hid (∀ v w2, Sl cN 1 0 w2 v (lkP p 128) → Calls Tryd.prog 20 #[v] w2 fun e w' => e = .returned (.tuple #[mV (A &&& B), .int .i64 0]) ∧ Below w2.heap.size w2 w') := Lib.hid (fun v w2 hs => by
    rw [← HE.out]
    exact rOf_ok _ v w2 hs (fun x hx => lkP_lt hx) (Nat.le_trans (lkP_len p 128) (by omega)))
  obtain ⟨C, hC0⟩ : ∃ C, C = A &&& B := ⟨_, rfl⟩
  rw [← hC0] at HO HE ⊢
  clear hA hB hp hC0
  unfold mV at HA HB HO ⊢
  obtain ⟨cs, hcs⟩ : ∃ cs : List Value, cs = [.int .u64 (loM A), .int .u64 (hiM A), .int .u64 (loM B), .int .u64 (hiM B), .int .i64 0, .int .i64 3] := ⟨_, rfl⟩
  obtain ⟨z, hz⟩ : ∃ z, z = w.heap.size := ⟨_, rfl⟩
  have b1 : Below w.heap.size w ((w.alloc (.cells #[.int .u64 (loM A), .int .u64 (hiM A), .int .u64 (loM B), .int .u64 (hiM B), .int .i64 0, .int .i64 3] 85)).alloc (.cells #[.int .u64 0, .int .u64 0] 35)) := ((Below.refl _ _).alloc (Nat.le_refl _) _).alloc (by simp) _
  have k0 : ((w.alloc (.cells #[.int .u64 (loM A), .int .u64 (hiM A), .int .u64 (loM B), .int .u64 (hiM B), .int .i64 0, .int .i64 3] 85)).alloc (.cells #[.int .u64 0, .int .u64 0] 35)).heap[z]? = some (.cells cs.toArray 85 (0, 0)) := heap_keep ((Below.refl _ _).alloc (Nat.le_refl _) _) (by rw [hcs]; exact heap_at hz)
  have k1 : ((w.alloc (.cells #[.int .u64 (loM A), .int .u64 (hiM A), .int .u64 (loM B), .int .u64 (hiM B), .int .i64 0, .int .i64 3] 85)).alloc (.cells #[.int .u64 0, .int .u64 0] 35)).heap[z + 1]? = some (.cells #[.int .u64 0, .int .u64 0] 35 (0, 0)) := heap_at (by rw [hz]; simp)
  have s1 : ((w.alloc (.cells #[.int .u64 (loM A), .int .u64 (hiM A), .int .u64 (loM B), .int .u64 (hiM B), .int .i64 0, .int .i64 3] 85)).alloc (.cells #[.int .u64 0, .int .u64 0] 35)).heap.size = z + 2 := by rw [hz]; simp
  go_enter Tryd.func40, Tryd.ntmps40
  go_wp2_with fail
  rw [← hz]
  generalize ((w.alloc (.cells #[.int .u64 (loM A), .int .u64 (hiM A), .int .u64 (loM B), .int .u64 (hiM B), .int .i64 0, .int .i64 3] 85)).alloc (.cells #[.int .u64 0, .int .u64 0] 35)) = wa at *
  have B2 : Hid (Below w.heap.size w (wa.alloc (.cells #[] 3))) := Lib.hid (b1.alloc (by omega) _)
  have K0 : Hid ((wa.alloc (.cells #[] 3)).heap[z]? = some (.cells cs.toArray 85 (0, 0))) := Lib.hid (heap_keep ((Below.refl _ _).alloc (Nat.le_refl _) _) k0)
  have K1 : Hid ((wa.alloc (.cells #[] 3)).heap[z + 1]? = some (.cells #[.int .u64 0, .int .u64 0] 35 (0, 0))) := Lib.hid (heap_keep ((Below.refl _ _).alloc (Nat.le_refl _) _) k1)
  have O2 : Hid ((wa.alloc (.cells #[] 3)).ownsRow (z + 2) 3 1 (.slice (some ⟨z + 2, 0, none⟩) 0 0) 0 []) := Lib.hid (by have := fresh_row wa 3 1 (z + 2) (by omega); rw [s1] at this; exact this)
  have S2 : Hid (z + 2 ≤ (wa.alloc (.cells #[] 3)).heap.size) := Lib.hid (by simp; omega)
  generalize (wa.alloc (.cells #[] 3)) = wc at *
  have HZ := Lib.hid hz
  have HCS := Lib.hid hcs
  clear b1 k0 k1 s1 hz hcs
  go_loopw [3, 4] (fun u i wr => ∃ (k : Nat) (o : Value), k ≤ 128 ∧ o = u ∧ i = .int .i64 k ∧ Hid (wr.ownsRow (z + 2) 3 1 o (lkP p k).length ((lkP p k).flatMap cN)) ∧ Hid (Below (z + 2) wc wr)) (fun _ i _ => 128 - (intOf i).toNat)
  case atStart => exact ⟨0, _, Nat.zero_le _, rfl, rfl, O2, Lib.hid (Below.refl _ _)⟩
  case round =>
    obtain ⟨k, o, hk, rfl, rfl, ho, hbw⟩ := hrel
    by_cases hlt : k < 128
    · have hwk1 : IntKind.i64.wrap ((k : Int) + 1) = (k : Int) + 1 := by rw [IntKind.wrap_i64]; omega
      have hk7 : (k : Int) ≤ 127 := by omega
      have KR := Lib.hid ((hbw.out.block z (by omega)).trans K0.out)
      have HL : Hid ((lkP p k).length ≤ 1172812402926) := Lib.hid (Nat.le_trans (lkP_len p k) (by omega))
      have HKA := Lib.hid (HA.out k hlt)
      have HKB := Lib.hid (HB.out k hlt)
      obtain ⟨x, hx⟩ : ∃ x, x = A.testBit k := ⟨_, rfl⟩
      obtain ⟨y, hy⟩ : ∃ y, y = B.testBit k := ⟨_, rfl⟩
      rw [← hx] at HKA
      rw [← hy] at HKB
      have hpk : p k = (x && y) := by rw [HP.out, hx, hy]
      have HE2 := Lib.hid (lkP_s p k)
      rw [hpk] at HE2
      have HLA : Hid (∀ w5, Below wr.heap.size wr w5 → (loadVar 35 ⟨z, 0, none⟩).run Tryd.prog w5 = .ok (mV A) w5) := Lib.hid fun w5 h5 => AtL.two 0 (AtL_heap (heap_keep h5 KR.out)) (by rw [HCS.out]; rfl)
      have HLB : Hid (∀ w5, Below wr.heap.size wr w5 → (loadVar 35 ⟨z, 2, none⟩).run Tryd.prog w5 = .ok (mV B) w5) := Lib.hid fun w5 h5 => AtL.two 2 (AtL_heap (heap_keep h5 KR.out)) (by rw [HCS.out]; rfl)
      have q5 : wr.cell? ⟨z, 5, none⟩ = some (.int .i64 3) := by rw [cell_of_row _ _ 5 _ _ _ KR.out, HCS.out]; rfl
      have q4 : wr.cell? ⟨z, 4, none⟩ = some (.int .i64 0) := by rw [cell_of_row _ _ 4 _ _ _ KR.out, HCS.out]; rfl
      have Q5 := Lib.hid q5
      have Q4 := Lib.hid q4
      unfold mV at HLA HLB
      clear hlt hx hy hpk q5 q4
      go_wp2_with fail
      refine Og.walk_lit [[],[0],[],[1,2,0],[],[4],[],[5,6,3,4,1,2,0],[3,7,0,1,2,5,6,4],[7,8,0,1,2,3,4,5,6]] (fun w2 => Below wr.heap.size wr w2) (fun w1 w2 => Below w1.heap.size w1 w2) (by kernel_rfl) (by kernel_rfl) (bdrew) ?_
      refine Og.step_pure (fun _ => Below.refl _ _) ?_; apply Exists.intro; refine And.intro ?_ ?_; focus (intro vs w2 hC hk; revert hk; simp only [Og.KS, Og.K0, Og.Is, List.getD_cons_zero, List.getD_cons_succ, List.getD_nil, List.contains_cons, List.contains_nil, Nat.reduceAdd, Nat.reduceBEq, Bool.or_false, Bool.false_or, Bool.or_true, Bool.true_or, Bool.false_eq_true, false_implies, true_implies, true_and, and_true, forall_const]; intros; go_simp; rfl)
      refine Og.step_pure (fun _ => Below.refl _ _) ?_; apply Exists.intro; refine And.intro ?_ ?_; focus (intro vs w2 hC hk; have hl := HLA.out w2 hC; refine Og.OptB.out ?_; revert hk; simp only [Og.KS, Og.K0, Og.Is, List.getD_cons_zero, List.getD_cons_succ, List.getD_nil, List.contains_cons, List.contains_nil, Nat.reduceAdd, Nat.reduceBEq, Bool.or_false, Bool.false_or, Bool.or_true, Bool.true_or, Bool.false_eq_true, false_implies, true_implies, true_and, and_true, forall_const]; intros; exact optB_loadL (by go_simp) rfl (by go_simp) hl ⟨rfl, rfl⟩)
      refine Og.step_pure (fun _ => Below.refl _ _) ?_; apply Exists.intro; refine And.intro ?_ ?_; focus (intro vs w2 hC hk; revert hk; simp only [Og.KS, Og.K0, Og.Is, List.getD_cons_zero, List.getD_cons_succ, List.getD_nil, List.contains_cons, List.contains_nil, Nat.reduceAdd, Nat.reduceBEq, Bool.or_false, Bool.false_or, Bool.or_true, Bool.true_or, Bool.false_eq_true, false_implies, true_implies, true_and, and_true, forall_const]; intros; go_simp; rfl)
      refine Og.step_one ?_; apply Exists.intro; refine And.intro ?_ ?_; focus (intro vs w2 hC hk; revert hk; simp only [Og.KS, Og.K0, Og.Is, List.getD_cons_zero, List.getD_cons_succ, List.getD_nil, List.contains_cons, List.contains_nil, Nat.reduceAdd, Nat.reduceBEq, Bool.or_false, Bool.false_or, Bool.or_true, Bool.true_or, Bool.false_eq_true, false_implies, true_implies, true_and, and_true, forall_const]; intros; go_simp; with_reducible refine (HKA.out _).mono ?_; rintro e w3 ⟨rfl, hb⟩; exact Og.RetV.mk ⟨bthen hC hb, hb, rfl⟩)
      refine Og.step_pure (fun _ => Below.refl _ _) ?_; apply Exists.intro; refine And.intro ?_ ?_; focus (intro vs w2 hC hk; revert hk; simp only [Og.KS, Og.K0, Og.Is, List.getD_cons_zero, List.getD_cons_succ, List.getD_nil, List.contains_cons, List.contains_nil, Nat.reduceAdd, Nat.reduceBEq, Bool.or_false, Bool.false_or, Bool.or_true, Bool.true_or, Bool.false_eq_true, false_implies, true_implies, true_and, and_true, forall_const]; intros; go_simp; rfl)
      refine Og.step_pure (fun _ => Below.refl _ _) ?_; apply Exists.intro; refine And.intro ?_ ?_; focus (intro vs w2 hC hk; have hl := HLB.out w2 hC; refine Og.OptB.out ?_; revert hk; simp only [Og.KS, Og.K0, Og.Is, List.getD_cons_zero, List.getD_cons_succ, List.getD_nil, List.contains_cons, List.contains_nil, Nat.reduceAdd, Nat.reduceBEq, Bool.or_false, Bool.false_or, Bool.or_true, Bool.true_or, Bool.false_eq_true, false_implies, true_implies, true_and, and_true, forall_const]; intros; exact optB_loadL (by go_simp) rfl (by go_simp) hl ⟨rfl, rfl⟩)
      refine Og.step_pure (fun _ => Below.refl _ _) ?_; apply Exists.intro; refine And.intro ?_ ?_; focus (intro vs w2 hC hk; revert hk; simp only [Og.KS, Og.K0, Og.Is, List.getD_cons_zero, List.getD_cons_succ, List.getD_nil, List.contains_cons, List.contains_nil, Nat.reduceAdd, Nat.reduceBEq, Bool.or_false, Bool.false_or, Bool.or_true, Bool.true_or, Bool.false_eq_true, false_implies, true_implies, true_and, and_true, forall_const]; intros; go_simp; rfl)
      refine Og.step_one ?_; apply Exists.intro; refine And.intro ?_ ?_; focus (intro vs w2 hC hk; revert hk; simp only [Og.KS, Og.K0, Og.Is, List.getD_cons_zero, List.getD_cons_succ, List.getD_nil, List.contains_cons, List.contains_nil, Nat.reduceAdd, Nat.reduceBEq, Bool.or_false, Bool.false_or, Bool.or_true, Bool.true_or, Bool.false_eq_true, false_implies, true_implies, true_and, and_true, forall_const]; intros; go_simp; with_reducible refine (HKB.out _).mono ?_; rintro e w3 ⟨rfl, hb⟩; exact Og.RetV.mk ⟨bthen hC hb, hb, rfl⟩)
      iterate 2 (refine Og.step_pure (fun _ => Below.refl _ _) ?_; apply Exists.intro; refine And.intro ?_ ?_; focus (intro vs w2 hC hk; revert hk; simp only [Og.KS, Og.K0, Og.Is, List.getD_cons_zero, List.getD_cons_succ, List.getD_nil, List.contains_cons, List.contains_nil, Nat.reduceAdd, Nat.reduceBEq, Bool.or_false, Bool.false_or, Bool.or_true, Bool.true_or, Bool.false_eq_true, false_implies, true_implies, true_and, and_true, forall_const]; intros; go_simp; rfl))
      intro vs wb hC hk
      simp only [Og.KS, Og.K0, Og.Is, List.getD_cons_zero, List.getD_cons_succ, List.getD_nil, List.contains_cons, List.contains_nil, Nat.reduceAdd, Nat.reduceBEq, Bool.or_false, Bool.false_or, Bool.or_true, Bool.true_or, Bool.false_eq_true, false_implies, true_implies, true_and, and_true, forall_const] at hk
      simp only [hk, Act.put, List.setIfInBounds_toArray, List.set_cons_zero, List.set_cons_succ]
      clear hk
      have q5 := bcell hC Q5.out
      have q4 := bcell hC Q4.out
      have OB := Lib.hid (own_below ho.out hC)
      have BB := Lib.hid (hbw.out.trans (below_low hC S2.out hbw.out))
      have SB := Lib.hid (Nat.le_trans (Nat.le_trans S2.out hbw.out.size) hC.size)
      clear hC HLA HLB HKA HKB ho hbw KR Q4 Q5
      cases x <;> cases y
      · go_wp2_with fail
        go_roundw
        case rel => exact ⟨k + 1, _, by omega, rfl, by go_num, by rw [HE2.out]; exact Lib.hid (by simpa using OB.out), BB⟩
        case measure => simp [intOf]; omega
      · go_wp2_with fail
        go_roundw
        case rel => exact ⟨k + 1, _, by omega, rfl, by go_num, by rw [HE2.out]; exact Lib.hid (by simpa using OB.out), BB⟩
        case measure => simp [intOf]; omega
      · go_wp2_with fail
        go_roundw
        case rel => exact ⟨k + 1, _, by omega, rfl, by go_num, by rw [HE2.out]; exact Lib.hid (by simpa using OB.out), BB⟩
        case measure => simp [intOf]; omega
      · go_wp2_with (at_builtin; refine wpList_appG cN 1 22 3 8 cN_len cN_one (by omega) Tryd.underlying22 cinfo3 rfl (by omega) rfl (.tmp 52) (.tmp 54) rfl (z + 2) _ o (lkP p k) k rfl rfl (own_below OB.out ((Below.refl _ _).alloc (Nat.le_refl _) _)) (heap_at rfl) HL.out (alloc_le' SB.out) ?_; intro v5 w5 ho5 hg5; have b5 := app_below OB.out SB.out hg5; have O5 := Lib.hid ho5; have B5 := Lib.hid (BB.out.trans b5); clear ho5 hg5 b5)
        go_roundw
        case rel => exact ⟨k + 1, _, by omega, rfl, by go_num, by rw [HE2.out]; exact O5, B5⟩
        case measure => simp [intOf]; omega
    · have hk8 : k = 128 := by omega
      have hk9 : ¬ (k : Int) ≤ 127 := by omega
      subst hk8
      have SB := Lib.hid (Nat.le_trans S2.out hbw.out.size)
      have KR1 := Lib.hid ((hbw.out.block (z + 1) (by omega)).trans K1.out)
      have hs := Sl_of_row cN_len (by omega) (own_lower ho.out (Nat.zero_le _)) rfl
      have hco := (HO.out _ _ hs)
      have HCO := Lib.hid hco
      have BW : Hid (Below w.heap.size w wr) := Lib.hid (B2.out.trans (hbw.out.mono (by rw [HZ.out]; omega)))
      clear hlt hk hs hco
      go_wp2_with fail
      with_reducible refine (HCO.out).mono ?_
      rintro e w3 ⟨rfl, hb3⟩
      have B3 := Lib.hid (bthen BW.out hb3)
      have K3 := Lib.hid (heap_keep hb3 KR1.out)
      have S3 := Lib.hid (Nat.le_trans SB.out hb3.size)
      clear hb3
      go_wp2_with (first | (refine wpList_storeN rfl 35 (.tmp 8) (.tmp 59) rfl rfl w3.heap.size (cM C).toArray rfl rfl 35 _ (heap_at rfl) cinfo25s rfl (by simp [Value.oneCell', cM]) ?_; intro w4 hz4 hb4 hn4 hs4; have Z4 := Lib.hid hz4; have B4 := Lib.hid (bthen B3.out (below_storeA hb4)); have K4 := Lib.hid (heap_keep (below_storeA hb4) K3.out); clear hz4 hb4 hn4 hs4) | (refine wpList_loadL rfl 35 (.tmp 8) rfl w3.heap.size 0 (.agg (cM C).toArray) rfl (cldM Z4.out) ?_) | (refine wpList_storeN rfl 35 (.tmp 2) (.tmp 61) rfl rfl (z + 1) (cM C).toArray rfl rfl 35 _ K4.out cinfo25s rfl (by simp [Value.oneCell', cM]) ?_; intro w9 hz9 hb9 hn9 hs9; have Z9 := Lib.hid hz9; have D9 := Lib.hid (B4.out.trans (hb9 _ (by have := HZ.out; omega))); clear hz9 hb9 hn9 hs9))
      refine bodyPost_ret (results_cell1' rfl rfl (cldM Z9.out)) rfl ?_
      exact ⟨rfl, D9.out⟩

set_option maxRecDepth 100000 in
set_option maxHeartbeats 4000000 in
theorem rOr_ok (A B : Nat) (hA : A < 2 ^ 128) (hB : B < 2 ^ 128) (w : World) : Calls Tryd.prog 21 #[mV A, mV B] w fun e w' => e = .returned (mV (A ||| B)) ∧ Below w.heap.size w w' := by
  have HCH := Lib.hid (fun w2 => rchoose2_ok A B hA hB w2)
  obtain ⟨z, hz⟩ : ∃ z, z = w.heap.size := ⟨_, rfl⟩
  obtain ⟨C, hC0⟩ : ∃ C, C = A ||| B := ⟨_, rfl⟩
  rw [← hC0] at HCH ⊢
  clear hA hB hC0
  unfold mV at HCH ⊢
  have b1 : Below w.heap.size w (((w.alloc (.cells #[.int .u64 (loM A), .int .u64 (hiM A)] 35)).alloc (.cells #[.int .u64 (loM B), .int .u64 (hiM B)] 35)).alloc (.cells #[.int .u64 0, .int .u64 0] 35)) := (((Below.refl _ _).alloc (Nat.le_refl _) _).alloc (by simp) _).alloc (by simp; omega) _
  have k0 : (((w.alloc (.cells #[.int .u64 (loM A), .int .u64 (hiM A)] 35)).alloc (.cells #[.int .u64 (loM B), .int .u64 (hiM B)] 35)).alloc (.cells #[.int .u64 0, .int .u64 0] 35)).heap[z]? = some (.cells (cM A).toArray 35 (0, 0)) := heap_keep ((Below.refl _ _).alloc (Nat.le_refl _) _) (heap_keep ((Below.refl _ _).alloc (Nat.le_refl _) _) (heap_at hz))
  have k1 : (((w.alloc (.cells #[.int .u64 (loM A), .int .u64 (hiM A)] 35)).alloc (.cells #[.int .u64 (loM B), .int .u64 (hiM B)] 35)).alloc (.cells #[.int .u64 0, .int .u64 0] 35)).heap[z + 1]? = some (.cells (cM B).toArray 35 (0, 0)) := heap_keep ((Below.refl _ _).alloc (Nat.le_refl _) _) (heap_at (by rw [hz]; simp))
  have k2 : (((w.alloc (.cells #[.int .u64 (loM A), .int .u64 (hiM A)] 35)).alloc (.cells #[.int .u64 (loM B), .int .u64 (hiM B)] 35)).alloc (.cells #[.int .u64 0, .int .u64 0] 35)).heap[z + 1 + 1]? = some (.cells #[.int .u64 0, .int .u64 0] 35 (0, 0)) := heap_at (by rw [hz]; simp)
  go_enter Tryd.func21, Tryd.ntmps21
  have HZ := Lib.hid hz
  have K0 := Lib.hid k0
  have K1 := Lib.hid k1
  have K2 := Lib.hid k2
  have B1 := Lib.hid b1
  clear b1 k0 k1 k2
  go_wp2_with (first | (refine wpList_loadL rfl 35 (.tmp 2) rfl w.heap.size 0 (.agg #[.int .u64 (loM A), .int .u64 (hiM A)]) rfl (cldM (by rw [← HZ.out]; exact K0.out)) ?_) | (refine wpList_loadL rfl 35 (.tmp 3) rfl (w.heap.size + 1) 0 (.agg #[.int .u64 (loM B), .int .u64 (hiM B)]) rfl (cldM (by rw [← HZ.out]; exact K1.out)) ?_))
  rw [← hz]
  clear hz
  with_reducible refine (HCH.out _).mono ?_
  rintro e w3 ⟨rfl, hb3⟩
  have B3 := Lib.hid (bthen B1.out hb3)
  have K3 := Lib.hid (heap_keep hb3 K2.out)
  clear hb3
  go_wp2_with (first | (refine wpList_storeN rfl 35 (.tmp 4) (.tmp 8) rfl rfl (z + 1 + 1) (cM C).toArray rfl rfl 35 _ K3.out cinfo25s rfl (by simp [Value.oneCell', cM]) ?_; intro w9 hz9 hb9 hn9 hs9; have Z9 := Lib.hid hz9; have D9 := Lib.hid (B3.out.trans (hb9 _ (by have := HZ.out; omega))); clear hz9 hb9 hn9 hs9))
  refine bodyPost_ret (results_cell1' rfl rfl (cldM Z9.out)) rfl ?_
  exact ⟨rfl, D9.out⟩

end Go.Proofs.YtjbglifmppilfaaDoor
namespace Go.Proofs.YtjbglifmppilfaaDoor
open Go.ChangeShapes Go.WideShapes Go.ChangeAt Go.RowKit
set_option linter.unusedVariables false
set_option linter.unusedSimpArgs false
attribute [local go_sem] Og.Opt Og.OpY

/-- lo ≤ n ≤ hi -/
def rng (lo hi n : Int) : Bool := decide (lo ≤ n) && decide (n ≤ hi)
theorem rng_of {lo hi n : Int} (h : rng lo hi n = true) : lo ≤ n ∧ n ≤ hi := by unfold rng at h; simpa using h
theorem rng_mk {lo hi n : Int} (h1 : lo ≤ n) (h2 : n ≤ hi) : rng lo hi n = true := by unfold rng; simp [h1, h2]
def sg (a b : Int) : Int := if a < b then -1 else if b < a then 1 else 0
def orz (a b : Int) : Int := if a ≠ 0 then a else b

theorem in_ok (n : Int) (w : World) : Calls Tryd.prog 57 #[.int .i64 n] w fun e w' => e = .returned (.bool (rng 0 127 n)) ∧ Below w.heap.size w w' := by
  have E := Lib.hid (show rng 0 127 n = (decide (0 ≤ n) && decide (n ≤ 127)) from rfl)
  cases h1 : decide ((0 : Int) ≤ n) with
  | true =>
    rw [h1, Bool.true_and] at E
    go_enter Tryd.func57, Tryd.ntmps57
    go_wp2_with fail
    go_ret
    exact ⟨by rw [E.out]; rfl, Below.refl _ _⟩
  | false =>
    rw [h1, Bool.false_and] at E
    go_enter Tryd.func57, Tryd.ntmps57
    go_wp2_with fail
    go_ret
    exact ⟨by rw [E.out]; rfl, Below.refl _ _⟩

theorem cost_ok (n : Int) (w : World) : Calls Tryd.prog 68 #[.int .i64 n] w fun e w' => e = .returned (.bool (rng 1 65535 n)) ∧ Below w.heap.size w w' := by
  have E := Lib.hid (show rng 1 65535 n = (decide (1 ≤ n) && decide (n ≤ 65535)) from rfl)
  cases h1 : decide ((1 : Int) ≤ n) with
  | true =>
    rw [h1, Bool.true_and] at E
    go_enter Tryd.func68, Tryd.ntmps68
    go_wp2_with fail
    go_ret
    exact ⟨by rw [E.out]; rfl, Below.refl _ _⟩
  | false =>
    rw [h1, Bool.false_and] at E
    go_enter Tryd.func68, Tryd.ntmps68
    go_wp2_with fail
    go_ret
    exact ⟨by rw [E.out]; rfl, Below.refl _ _⟩

theorem delay_ok (n : Int) (w : World) : Calls Tryd.prog 69 #[.int .i64 n] w fun e w' => e = .returned (.bool (rng 0 65535 n)) ∧ Below w.heap.size w w' := by
  have E := Lib.hid (show rng 0 65535 n = (decide (0 ≤ n) && decide (n ≤ 65535)) from rfl)
  cases h1 : decide ((0 : Int) ≤ n) with
  | true =>
    rw [h1, Bool.true_and] at E
    go_enter Tryd.func69, Tryd.ntmps69
    go_wp2_with fail
    go_ret
    exact ⟨by rw [E.out]; rfl, Below.refl _ _⟩
  | false =>
    rw [h1, Bool.false_and] at E
    go_enter Tryd.func69, Tryd.ntmps69
    go_wp2_with fail
    go_ret
    exact ⟨by rw [E.out]; rfl, Below.refl _ _⟩

theorem metric_ok (n : Int) (w : World) : Calls Tryd.prog 72 #[.int .i64 n] w fun e w' => e = .returned (.bool (rng 0 65535 n)) ∧ Below w.heap.size w w' := by
  have E := Lib.hid (show rng 0 65535 n = (decide (0 ≤ n) && decide (n ≤ 65535)) from rfl)
  cases h1 : decide ((0 : Int) ≤ n) with
  | true =>
    rw [h1, Bool.true_and] at E
    go_enter Tryd.func72, Tryd.ntmps72
    go_wp2_with fail
    go_ret
    exact ⟨by rw [E.out]; rfl, Below.refl _ _⟩
  | false =>
    rw [h1, Bool.false_and] at E
    go_enter Tryd.func72, Tryd.ntmps72
    go_wp2_with fail
    go_ret
    exact ⟨by rw [E.out]; rfl, Below.refl _ _⟩

set_option maxHeartbeats 400000 in
theorem cmpU (a b : Int) (w : World) :
    Calls Tryd.prog 89 #[.int .u32 a, .int .u32 b] w fun e w' => e = .returned (.int .i64 (sg a b)) ∧ Below w.heap.size w w' := by
  have h1 : (a != a) = false := by simp
  have h2 : (b != b) = false := by simp
  rcases Int.lt_trichotomy a b with h | h | h
  · have e : sg a b = -1 := by unfold sg; rw [if_pos h]
    have E := Lib.hid e
    clear e
    go_enter Tryd.func89, Tryd.ntmps89
    go_wp2
    go_ret
    exact ⟨by rw [E.out]; rfl, Below.refl _ _⟩
  · subst h
    have e : sg a a = 0 := by unfold sg; rw [if_neg (by omega), if_neg (by omega)]
    have E := Lib.hid e
    clear e
    go_enter Tryd.func89, Tryd.ntmps89
    go_wp2
    go_ret
    exact ⟨by rw [E.out]; rfl, Below.refl _ _⟩
  · have e : sg a b = 1 := by unfold sg; rw [if_neg (by omega), if_pos h]
    have E := Lib.hid e
    clear e
    go_enter Tryd.func89, Tryd.ntmps89
    go_wp2
    go_ret
    exact ⟨by rw [E.out]; rfl, Below.refl _ _⟩

set_option maxHeartbeats 400000 in
theorem cmpI (a b : Int) (w : World) :
    Calls Tryd.prog 74 #[.int .i64 a, .int .i64 b] w fun e w' => e = .returned (.int .i64 (sg a b)) ∧ Below w.heap.size w w' := by
  have h1 : (a != a) = false := by simp
  have h2 : (b != b) = false := by simp
  rcases Int.lt_trichotomy a b with h | h | h
  · have e : sg a b = -1 := by unfold sg; rw [if_pos h]
    have E := Lib.hid e
    clear e
    go_enter Tryd.func74, Tryd.ntmps74
    go_wp2
    go_ret
    exact ⟨by rw [E.out]; rfl, Below.refl _ _⟩
  · subst h
    have e : sg a a = 0 := by unfold sg; rw [if_neg (by omega), if_neg (by omega)]
    have E := Lib.hid e
    clear e
    go_enter Tryd.func74, Tryd.ntmps74
    go_wp2
    go_ret
    exact ⟨by rw [E.out]; rfl, Below.refl _ _⟩
  · have e : sg a b = 1 := by unfold sg; rw [if_neg (by omega), if_pos h]
    have E := Lib.hid e
    clear e
    go_enter Tryd.func74, Tryd.ntmps74
    go_wp2
    go_ret
    exact ⟨by rw [E.out]; rfl, Below.refl _ _⟩

set_option maxHeartbeats 400000 in
theorem or_ok (x y : Int) (b : Nat) (w : World) (h0 : w.cell? ⟨b, 0, none⟩ = some (.int .i64 x)) (h1 : w.cell? ⟨b, 1, none⟩ = some (.int .i64 y)) :
    Calls Tryd.prog 81 #[.slice (some ⟨b, 0, none⟩) 2 2] w fun e w' => e = .returned (.int .i64 (orz x y)) ∧ Below w.heap.size w w' := by
  have hx : x ≠ 0 → orz x y = x := fun h => by unfold orz; rw [if_pos h]
  have hy : x = 0 → orz x y = y := fun h => by unfold orz; rw [if_neg (by omega)]
  have HX := Lib.hid hx
  have HY := Lib.hid hy
  clear hx hy
  go_enter Tryd.func81, Tryd.ntmps81
  go_wp2_with fail
  go_loop [5, 8] (fun u i => (i = .int .i64 0) ∨ (i = .int .i64 1 ∧ Hid (x = 0)) ∨ (i = .int .i64 2 ∧ Hid (x = 0) ∧ Hid (y = 0))) (fun _ i => 2 - (intOf i).toNat)
  case atStart => exact .inl rfl
  case round =>
    rcases hrel with rfl | ⟨rfl, hz⟩ | ⟨rfl, hz, hz'⟩
    · by_cases hx0 : x = 0
      · have X0 := Lib.hid hx0
        have hb : (x != 0) = false := by simpa using hx0
        clear hx0
        go_wp2_with fail
        go_round
        case rel => exact .inr (.inl ⟨rfl, X0⟩)
        case measure => simp [intOf]
      · have X0 := Lib.hid hx0
        have hb : (x != 0) = true := by simpa using hx0
        clear hx0
        go_wp2_with fail
        go_ret
        exact ⟨by rw [HX.out X0.out]; rfl, Below.refl _ _⟩
    · by_cases hy0 : y = 0
      · have Y0 := Lib.hid hy0
        have hb : (y != 0) = false := by simpa using hy0
        clear hy0
        go_wp2_with fail
        go_round
        case rel => exact .inr (.inr ⟨rfl, hz, Y0⟩)
        case measure => simp [intOf]
      · have Y0 := Lib.hid hy0
        have hb : (y != 0) = true := by simpa using hy0
        clear hy0
        go_wp2_with fail
        go_ret
        exact ⟨by rw [HY.out hz.out]; rfl, Below.refl _ _⟩
    · go_wp2_with fail
      go_ret
      exact ⟨by rw [HY.out hz.out, hz'.out]; rfl, Below.refl _ _⟩
theorem or_heap (x y : Int) (b : Nat) (w : World) (h : w.heap[b]? = some (.cells #[.int .i64 x, .int .i64 y] 3 (0, 0))) :
    Calls Tryd.prog 81 #[.slice (some ⟨b, 0, none⟩) 2 2] w fun e w' => e = .returned (.int .i64 (orz x y)) ∧ Below w.heap.size w w' := or_ok x y b w (by simp [World.cell?, h]) (by simp [World.cell?, h])

def cmpP (p q : Pf) : Int := orz (sg p.a q.a) (sg p.l q.l)
def cmpL (p q : Lk) : Int := orz (sg p.f q.f) (sg p.t q.t)
def cmpN (p q : Pn) : Int := orz (cmpP p.p q.p) (sg p.n q.n)

set_option maxRecDepth 100000 in
set_option maxHeartbeats 4000000 in
theorem cmpP_ok (p q : Pf) (w : World) : Calls Tryd.prog 83 #[.agg #[.int .u32 p.a, .int .i64 p.l], .agg #[.int .u32 q.a, .int .i64 q.l]] w fun e w' => e = .returned (.int .i64 (cmpP p q)) ∧ Below w.heap.size w w' := by
  go_enter Tryd.func83, Tryd.ntmps83
  go_wp2_with fail
  obtain ⟨W, hW⟩ : ∃ W, (w.alloc (Obj.cells #[.int .u32 p.a, .int .i64 p.l] 122)).alloc (Obj.cells #[.int .u32 q.a, .int .i64 q.l] 122) = W := ⟨_, rfl⟩
  have hB : Below w.heap.size w W := by rw [← hW]; exact ((Below.refl _ _).alloc (Nat.le_refl _) _).alloc (by simp) _
  have h0 : W.cell? ⟨w.heap.size, 0, none⟩ = some (.int .u32 p.a) ∧ W.cell? ⟨w.heap.size, 1, none⟩ = some (.int .i64 p.l) ∧ W.cell? ⟨w.heap.size + 1, 0, none⟩ = some (.int .u32 q.a) ∧ W.cell? ⟨w.heap.size + 1, 1, none⟩ = some (.int .i64 q.l) := by rw [← hW]; simp
  have HC : ∀ w2, Below W.heap.size W w2 → w2.cell? ⟨w.heap.size, 0, none⟩ = some (.int .u32 p.a) ∧ w2.cell? ⟨w.heap.size, 1, none⟩ = some (.int .i64 p.l) ∧ w2.cell? ⟨w.heap.size + 1, 0, none⟩ = some (.int .u32 q.a) ∧ w2.cell? ⟨w.heap.size + 1, 1, none⟩ = some (.int .i64 q.l) := fun w2 h => by
    obtain ⟨c0, c1, c2, c3⟩ := h0
    exact ⟨bcell h c0, bcell h c1, bcell h c2, bcell h c3⟩
  rw [hW]
  clear hW h0
  refine Og.Tail.walk_lit 10 [[],[0],[],[2],[1,3,0,2],[],[5],[],[7],[6,8,4,5,7,1,3,0,2],[4,9,1,3,0,2,6,8,5,7],[10,9,4,1,3,0,2,6,8,5,7],[11,0,1,2,3,4,5,6,7,8,9,10]] (fun w2 => Below W.heap.size W w2) (fun w1 w2 => Below w1.heap.size w1 w2) (by kernel_rfl) (by kernel_rfl) (by kernel_rfl) (bdrew) ?_
  simp only [List.take_succ_cons, List.take_zero, List.drop_succ_cons, List.drop_zero]
  repeat (first | (refine Og.step_pure (fun _ => Below.refl _ _) ?_; apply Exists.intro; refine And.intro ?_ ?_; focus (intro vs w2 hC hk; have hm := HC w2 hC; revert hk; simp only [Og.KS, Og.K0, Og.Is, List.getD_cons_zero, List.getD_cons_succ, List.getD_nil, List.contains_cons, List.contains_nil, Nat.reduceAdd, Nat.reduceBEq, Bool.or_false, Bool.false_or, Bool.or_true, Bool.true_or, Bool.false_eq_true, false_implies, true_implies, true_and, and_true, forall_const]; intros; go_simp; rfl)) | (refine Og.step_one ?_; apply Exists.intro; refine And.intro ?_ ?_; focus (intro vs w2 hC hk; have hm := HC w2 hC; revert hk; simp only [Og.KS, Og.K0, Og.Is, List.getD_cons_zero, List.getD_cons_succ, List.getD_nil, List.contains_cons, List.contains_nil, Nat.reduceAdd, Nat.reduceBEq, Bool.or_false, Bool.false_or, Bool.or_true, Bool.true_or, Bool.false_eq_true, false_implies, true_implies, true_and, and_true, forall_const]; intros; go_simp; with_reducible refine (cmpU _ _ _).mono ?_; rintro e w3 ⟨rfl, hb⟩; exact Og.RetV.mk ⟨bthen hC hb, hb, rfl⟩)) | (refine Og.step_one ?_; apply Exists.intro; refine And.intro ?_ ?_; focus (intro vs w2 hC hk; have hm := HC w2 hC; revert hk; simp only [Og.KS, Og.K0, Og.Is, List.getD_cons_zero, List.getD_cons_succ, List.getD_nil, List.contains_cons, List.contains_nil, Nat.reduceAdd, Nat.reduceBEq, Bool.or_false, Bool.false_or, Bool.or_true, Bool.true_or, Bool.false_eq_true, false_implies, true_implies, true_and, and_true, forall_const]; intros; go_simp; with_reducible refine (cmpI _ _ _).mono ?_; rintro e w3 ⟨rfl, hb⟩; exact Og.RetV.mk ⟨bthen hC hb, hb, rfl⟩)))
  intro vs w2 hC hk
  have hm := HC w2 hC
  simp only [Og.KS, Og.K0, Og.Is, List.getD_cons_zero, List.getD_cons_succ, List.getD_nil, List.contains_cons, List.contains_nil, Nat.reduceAdd, Nat.reduceBEq, Bool.or_false, Bool.false_or, Bool.or_true, Bool.true_or, Bool.false_eq_true, false_implies, true_implies, true_and, and_true, forall_const] at hk
  simp only [hk, Act.put, List.setIfInBounds_toArray, List.set_cons_zero, List.set_cons_succ]
  clear hk
  have B2 := Lib.hid (bthen' hB hB.size hC)
  clear hC hm HC hB
  go_wp2_with fail
  refine (or_heap _ _ w2.heap.size _ (heap_at rfl)).mono ?_
  rintro e w3 ⟨rfl, hb⟩
  have B3 := Lib.hid (bthen' (B2.out.alloc B2.out.size _) (by have := B2.out.size; simp; omega) hb)
  clear hb
  go_wp2_with fail
  go_ret
  exact ⟨rfl, B3.out⟩

set_option maxRecDepth 100000 in
set_option maxHeartbeats 4000000 in
theorem cmpL_ok (p q : Lk) (w : World) : Calls Tryd.prog 70 #[.agg #[.int .i64 p.f, .int .i64 p.t, .int .i64 p.c, .int .i64 p.d], .agg #[.int .i64 q.f, .int .i64 q.t, .int .i64 q.c, .int .i64 q.d]] w fun e w' => e = .returned (.int .i64 (cmpL p q)) ∧ Below w.heap.size w w' := by
  go_enter Tryd.func70, Tryd.ntmps70
  go_wp2_with fail
  obtain ⟨W, hW⟩ : ∃ W, (w.alloc (Obj.cells #[.int .i64 p.f, .int .i64 p.t, .int .i64 p.c, .int .i64 p.d] 45)).alloc (Obj.cells #[.int .i64 q.f, .int .i64 q.t, .int .i64 q.c, .int .i64 q.d] 45) = W := ⟨_, rfl⟩
  have hB : Below w.heap.size w W := by rw [← hW]; exact ((Below.refl _ _).alloc (Nat.le_refl _) _).alloc (by simp) _
  have h0 : W.cell? ⟨w.heap.size, 0, none⟩ = some (.int .i64 p.f) ∧ W.cell? ⟨w.heap.size, 1, none⟩ = some (.int .i64 p.t) ∧ W.cell? ⟨w.heap.size, 2, none⟩ = some (.int .i64 p.c) ∧ W.cell? ⟨w.heap.size, 3, none⟩ = some (.int .i64 p.d) ∧ W.cell? ⟨w.heap.size + 1, 0, none⟩ = some (.int .i64 q.f) ∧ W.cell? ⟨w.heap.size + 1, 1, none⟩ = some (.int .i64 q.t) ∧ W.cell? ⟨w.heap.size + 1, 2, none⟩ = some (.int .i64 q.c) ∧ W.cell? ⟨w.heap.size + 1, 3, none⟩ = some (.int .i64 q.d) := by rw [← hW]; simp
  have HC : ∀ w2, Below W.heap.size W w2 → w2.cell? ⟨w.heap.size, 0, none⟩ = some (.int .i64 p.f) ∧ w2.cell? ⟨w.heap.size, 1, none⟩ = some (.int .i64 p.t) ∧ w2.cell? ⟨w.heap.size, 2, none⟩ = some (.int .i64 p.c) ∧ w2.cell? ⟨w.heap.size, 3, none⟩ = some (.int .i64 p.d) ∧ w2.cell? ⟨w.heap.size + 1, 0, none⟩ = some (.int .i64 q.f) ∧ w2.cell? ⟨w.heap.size + 1, 1, none⟩ = some (.int .i64 q.t) ∧ w2.cell? ⟨w.heap.size + 1, 2, none⟩ = some (.int .i64 q.c) ∧ w2.cell? ⟨w.heap.size + 1, 3, none⟩ = some (.int .i64 q.d) := fun w2 h => by
    obtain ⟨c0, c1, c2, c3, c4, c5, c6, c7⟩ := h0
    exact ⟨bcell h c0, bcell h c1, bcell h c2, bcell h c3, bcell h c4, bcell h c5, bcell h c6, bcell h c7⟩
  rw [hW]
  clear hW h0
  refine Og.Tail.walk_lit 10 [[],[0],[],[2],[1,3,0,2],[],[5],[],[7],[6,8,4,5,7,1,3,0,2],[4,9,1,3,0,2,6,8,5,7],[10,9,4,1,3,0,2,6,8,5,7],[11,0,1,2,3,4,5,6,7,8,9,10]] (fun w2 => Below W.heap.size W w2) (fun w1 w2 => Below w1.heap.size w1 w2) (by kernel_rfl) (by kernel_rfl) (by kernel_rfl) (bdrew) ?_
  simp only [List.take_succ_cons, List.take_zero, List.drop_succ_cons, List.drop_zero]
  repeat (first | (refine Og.step_pure (fun _ => Below.refl _ _) ?_; apply Exists.intro; refine And.intro ?_ ?_; focus (intro vs w2 hC hk; have hm := HC w2 hC; revert hk; simp only [Og.KS, Og.K0, Og.Is, List.getD_cons_zero, List.getD_cons_succ, List.getD_nil, List.contains_cons, List.contains_nil, Nat.reduceAdd, Nat.reduceBEq, Bool.or_false, Bool.false_or, Bool.or_true, Bool.true_or, Bool.false_eq_true, false_implies, true_implies, true_and, and_true, forall_const]; intros; go_simp; rfl)) | (refine Og.step_one ?_; apply Exists.intro; refine And.intro ?_ ?_; focus (intro vs w2 hC hk; have hm := HC w2 hC; revert hk; simp only [Og.KS, Og.K0, Og.Is, List.getD_cons_zero, List.getD_cons_succ, List.getD_nil, List.contains_cons, List.contains_nil, Nat.reduceAdd, Nat.reduceBEq, Bool.or_false, Bool.false_or, Bool.or_true, Bool.true_or, Bool.false_eq_true, false_implies, true_implies, true_and, and_true, forall_const]; intros; go_simp; with_reducible refine (cmpI _ _ _).mono ?_; rintro e w3 ⟨rfl, hb⟩; exact Og.RetV.mk ⟨bthen hC hb, hb, rfl⟩)))
  intro vs w2 hC hk
  have hm := HC w2 hC
  simp only [Og.KS, Og.K0, Og.Is, List.getD_cons_zero, List.getD_cons_succ, List.getD_nil, List.contains_cons, List.contains_nil, Nat.reduceAdd, Nat.reduceBEq, Bool.or_false, Bool.false_or, Bool.or_true, Bool.true_or, Bool.false_eq_true, false_implies, true_implies, true_and, and_true, forall_const] at hk
  simp only [hk, Act.put, List.setIfInBounds_toArray, List.set_cons_zero, List.set_cons_succ]
  clear hk
  have B2 := Lib.hid (bthen' hB hB.size hC)
  clear hC hm HC hB
  go_wp2_with fail
  refine (or_heap _ _ w2.heap.size _ (heap_at rfl)).mono ?_
  rintro e w3 ⟨rfl, hb⟩
  have B3 := Lib.hid (bthen' (B2.out.alloc B2.out.size _) (by have := B2.out.size; simp; omega) hb)
  clear hb
  go_wp2_with fail
  go_ret
  exact ⟨rfl, B3.out⟩

set_option maxRecDepth 100000 in
set_option maxHeartbeats 4000000 in
theorem cmpN_ok (p q : Pn) (w : World) : Calls Tryd.prog 73 #[.agg #[.int .u32 p.p.a, .int .i64 p.p.l, .int .i64 p.n, .int .i64 p.m], .agg #[.int .u32 q.p.a, .int .i64 q.p.l, .int .i64 q.n, .int .i64 q.m]] w fun e w' => e = .returned (.int .i64 (cmpN p q)) ∧ Below w.heap.size w w' := by
  go_enter Tryd.func73, Tryd.ntmps73
  go_wp2_with fail
  obtain ⟨W, hW⟩ : ∃ W, (w.alloc (Obj.cells #[.int .u32 p.p.a, .int .i64 p.p.l, .int .i64 p.n, .int .i64 p.m] 124)).alloc (Obj.cells #[.int .u32 q.p.a, .int .i64 q.p.l, .int .i64 q.n, .int .i64 q.m] 124) = W := ⟨_, rfl⟩
  have hB : Below w.heap.size w W := by rw [← hW]; exact ((Below.refl _ _).alloc (Nat.le_refl _) _).alloc (by simp) _
  have h0 : W.cell? ⟨w.heap.size, 0, none⟩ = some (.int .u32 p.p.a) ∧ W.cell? ⟨w.heap.size, 1, none⟩ = some (.int .i64 p.p.l) ∧ W.cell? ⟨w.heap.size, 2, none⟩ = some (.int .i64 p.n) ∧ W.cell? ⟨w.heap.size, 3, none⟩ = some (.int .i64 p.m) ∧ W.cell? ⟨w.heap.size + 1, 0, none⟩ = some (.int .u32 q.p.a) ∧ W.cell? ⟨w.heap.size + 1, 1, none⟩ = some (.int .i64 q.p.l) ∧ W.cell? ⟨w.heap.size + 1, 2, none⟩ = some (.int .i64 q.n) ∧ W.cell? ⟨w.heap.size + 1, 3, none⟩ = some (.int .i64 q.m) := by rw [← hW]; simp
  have HC : ∀ w2, Below W.heap.size W w2 → w2.cell? ⟨w.heap.size, 0, none⟩ = some (.int .u32 p.p.a) ∧ w2.cell? ⟨w.heap.size, 1, none⟩ = some (.int .i64 p.p.l) ∧ w2.cell? ⟨w.heap.size, 2, none⟩ = some (.int .i64 p.n) ∧ w2.cell? ⟨w.heap.size, 3, none⟩ = some (.int .i64 p.m) ∧ w2.cell? ⟨w.heap.size + 1, 0, none⟩ = some (.int .u32 q.p.a) ∧ w2.cell? ⟨w.heap.size + 1, 1, none⟩ = some (.int .i64 q.p.l) ∧ w2.cell? ⟨w.heap.size + 1, 2, none⟩ = some (.int .i64 q.n) ∧ w2.cell? ⟨w.heap.size + 1, 3, none⟩ = some (.int .i64 q.m) := fun w2 h => by
    obtain ⟨c0, c1, c2, c3, c4, c5, c6, c7⟩ := h0
    exact ⟨bcell h c0, bcell h c1, bcell h c2, bcell h c3, bcell h c4, bcell h c5, bcell h c6, bcell h c7⟩
  rw [hW]
  clear hW h0
  refine Og.Tail.walk_lit 10 [[],[0],[],[2],[1,3,0,2],[],[5],[],[7],[6,8,4,5,7,1,3,0,2],[4,9,1,3,0,2,6,8,5,7],[10,9,4,1,3,0,2,6,8,5,7],[11,0,1,2,3,4,5,6,7,8,9,10]] (fun w2 => Below W.heap.size W w2) (fun w1 w2 => Below w1.heap.size w1 w2) (by kernel_rfl) (by kernel_rfl) (by kernel_rfl) (bdrew) ?_
  simp only [List.take_succ_cons, List.take_zero, List.drop_succ_cons, List.drop_zero]
  repeat (first | (refine Og.step_pure (fun _ => Below.refl _ _) ?_; apply Exists.intro; refine And.intro ?_ ?_; focus (intro vs w2 hC hk; have hm := HC w2 hC; revert hk; simp only [Og.KS, Og.K0, Og.Is, List.getD_cons_zero, List.getD_cons_succ, List.getD_nil, List.contains_cons, List.contains_nil, Nat.reduceAdd, Nat.reduceBEq, Bool.or_false, Bool.false_or, Bool.or_true, Bool.true_or, Bool.false_eq_true, false_implies, true_implies, true_and, and_true, forall_const]; intros; go_simp; rfl)) | (refine Og.step_one ?_; apply Exists.intro; refine And.intro ?_ ?_; focus (intro vs w2 hC hk; have hm := HC w2 hC; revert hk; simp only [Og.KS, Og.K0, Og.Is, List.getD_cons_zero, List.getD_cons_succ, List.getD_nil, List.contains_cons, List.contains_nil, Nat.reduceAdd, Nat.reduceBEq, Bool.or_false, Bool.false_or, Bool.or_true, Bool.true_or, Bool.false_eq_true, false_implies, true_implies, true_and, and_true, forall_const]; intros; go_simp; with_reducible refine (cmpP_ok p.p q.p _).mono ?_; rintro e w3 ⟨rfl, hb⟩; exact Og.RetV.mk ⟨bthen hC hb, hb, rfl⟩)) | (refine Og.step_one ?_; apply Exists.intro; refine And.intro ?_ ?_; focus (intro vs w2 hC hk; have hm := HC w2 hC; revert hk; simp only [Og.KS, Og.K0, Og.Is, List.getD_cons_zero, List.getD_cons_succ, List.getD_nil, List.contains_cons, List.contains_nil, Nat.reduceAdd, Nat.reduceBEq, Bool.or_false, Bool.false_or, Bool.or_true, Bool.true_or, Bool.false_eq_true, false_implies, true_implies, true_and, and_true, forall_const]; intros; go_simp; with_reducible refine (cmpI _ _ _).mono ?_; rintro e w3 ⟨rfl, hb⟩; exact Og.RetV.mk ⟨bthen hC hb, hb, rfl⟩)))
  intro vs w2 hC hk
  have hm := HC w2 hC
  simp only [Og.KS, Og.K0, Og.Is, List.getD_cons_zero, List.getD_cons_succ, List.getD_nil, List.contains_cons, List.contains_nil, Nat.reduceAdd, Nat.reduceBEq, Bool.or_false, Bool.false_or, Bool.or_true, Bool.true_or, Bool.false_eq_true, false_implies, true_implies, true_and, and_true, forall_const] at hk
  simp only [hk, Act.put, List.setIfInBounds_toArray, List.set_cons_zero, List.set_cons_succ]
  clear hk
  have B2 := Lib.hid (bthen' hB hB.size hC)
  clear hC hm HC hB
  go_wp2_with fail
  refine (or_heap _ _ w2.heap.size _ (heap_at rfl)).mono ?_
  rintro e w3 ⟨rfl, hb⟩
  have B3 := Lib.hid (bthen' (B2.out.alloc B2.out.size _) (by have := B2.out.size; simp; omega) hb)
  clear hb
  go_wp2_with fail
  go_ret
  exact ⟨rfl, B3.out⟩

set_option maxHeartbeats 400000 in
theorem cmpD_ok (p : Nd) (n : Int) (w : World) : Calls Tryd.prog 59 #[.agg #[.int .i64 p.i, .bool false, .complex .f64 0 0], .int .i64 n] w fun e w' => e = .returned (.int .i64 (sg p.i n)) ∧ Below w.heap.size w w' := by
  go_enter Tryd.func59, Tryd.ntmps59
  go_wp2_with fail
  refine (cmpI _ _ _).mono ?_
  rintro e w3 ⟨rfl, hb⟩
  have B := Lib.hid (bthen' ((Below.refl w.heap.size w).alloc (Nat.le_refl _) _) (by simp) hb)
  clear hb
  go_wp2_with fail
  go_ret
  exact ⟨rfl, B.out⟩

set_option maxHeartbeats 400000 in
theorem whole_ok (w : World) : Calls Tryd.prog 80 #[.float .f64 0] w fun e w' => e = .returned (.bool true) ∧ Below w.heap.size w w' := by
  have e1 : (FloatKind.f64.format.order 0 13920626448202203136 == some .gt || FloatKind.f64.format.order 0 13920626448202203136 == some .eq) = true := by decide +kernel
  have e2 : (FloatKind.f64.format.order 0 4697254411347427328 == some .lt || FloatKind.f64.format.order 0 4697254411347427328 == some .eq) = true := by decide +kernel
  have hc : ∀ w, (convert 110 3 (.float .f64 0)).run Tryd.prog w = .ok (.int .i64 0) w := fun w => run_convert_float_int w 110 3 .f64 .i64 0 0 (by rw [Tryd.underlying110]; rfl) Tryd.underlying3 (by decide +kernel)
  have hd : ∀ w, (convert 3 110 (.int .i64 0)).run Tryd.prog w = .ok (.float .f64 (floatOfInt .f64 0)) w := fun w => run_convert_int_float w 3 110 .i64 .f64 0 (by rw [Tryd.underlying3]; rfl) Tryd.underlying110
  have e0 : floatOfInt .f64 0 = 0 := by decide +kernel
  rw [e0] at hd
  have e3 : (FloatKind.f64.format.order 0 0 == some .eq) = true := by decide +kernel
  go_enter Tryd.func80, Tryd.ntmps80
  go_wp2_with (first | simp only [hc] | simp only [hd])
  go_ret
  exact ⟨rfl, Below.refl _ _⟩
set_option maxHeartbeats 400000 in
theorem Ok_ok (w : World) : Calls Tryd.prog 67 #[.complex .f64 0 0] w fun e w' => e = .returned (.bool true) ∧ Below w.heap.size w w' := by
  go_enter Tryd.func67, Tryd.ntmps67
  go_wp2_with fail
  refine (whole_ok _).mono ?_
  rintro e w1 ⟨rfl, h1⟩
  go_wp2_with fail
  refine (whole_ok _).mono ?_
  rintro e w2 ⟨rfl, h2⟩
  have B := Lib.hid (bthen h1 h2)
  clear h1 h2
  go_wp2_with fail
  go_ret
  exact ⟨rfl, B.out⟩
set_option maxHeartbeats 400000 in
theorem plain_ok (w : World) : Calls Tryd.prog 46 #[.complex .f64 0 0] w fun e w' => e = .returned (.complex .f64 0 0) ∧ Below w.heap.size w w' := by
  have hadd : ∀ w, (binOp .add 110 (.float .f64 0) (.float .f64 0)).run Tryd.prog w = .ok (.float .f64 0) w := fun w => by kernel_rfl
  go_enter Tryd.func46, Tryd.ntmps46
  go_wp2_with (simp only [hadd])
  go_ret
  exact ⟨rfl, Below.refl _ _⟩
/-- a prefix of 24 bits, or of none -/
def pfS (p : Pf) : Prop := p = ⟨0, 0⟩ ∨ (p.l = 24 ∧ (bits .andNot .u32 p.a 4294967040 == 0) = true)
set_option maxHeartbeats 400000 in
theorem mask_ok (w : World) : Calls Tryd.prog 82 #[.int .i64 24] w fun e w' => e = .returned (.int .u32 4294967040) ∧ Below w.heap.size w w' := by
  go_enter Tryd.func82, Tryd.ntmps82
  go_wp2_with fail
  go_ret
  exact ⟨rfl, Below.refl _ _⟩

set_option maxRecDepth 100000 in
set_option maxHeartbeats 2000000 in
theorem pok_z (w : World) : Calls Tryd.prog 71 #[.agg #[.int .u32 0, .int .i64 0]] w fun e w' => e = .returned (.bool true) ∧ Below w.heap.size w w' := by
  go_enter Tryd.func71, Tryd.ntmps71
  go_wp2_with fail
  obtain ⟨W, hW⟩ : ∃ W, w.alloc (Obj.cells #[.int .u32 0, .int .i64 0] 122) = W := ⟨_, rfl⟩
  have hB : Below w.heap.size w W := by rw [← hW]; exact (Below.refl _ _).alloc (Nat.le_refl _) _
  have h0 : W.cell? ⟨w.heap.size, 0, none⟩ = some (.int .u32 0) ∧ W.cell? ⟨w.heap.size, 1, none⟩ = some (.int .i64 0) := by rw [← hW]; simp
  have HC : ∀ w2, Below W.heap.size W w2 → w2.cell? ⟨w.heap.size, 0, none⟩ = some (.int .u32 0) ∧ w2.cell? ⟨w.heap.size, 1, none⟩ = some (.int .i64 0) := fun w2 h => ⟨bcell h h0.1, bcell h h0.2⟩
  rw [hW]
  clear hW h0
  refine Og.walk_lit [[],[0],[1,0],[2,1,0],[3,2,1,0],[4,3,2,1,0],[5,3,4,2,1,0],[3,6,2,1,0,5,4],[7,3,6,2,1,0,5,4],[8,7,3,6,2,1,0,5,4],[9,8,7,3,6,2,1,0,5,4],[10,8,9,7,3,6,2,1,0,5,4],[11,8,10,9,7,3,6,2,1,0,5,4],[12,11,8,10,9,7,3,6,2,1,0,5,4],[13,12,11,8,10,9,7,3,6,2,1,0,5,4],[14,12,13,11,8,10,9,7,3,6,2,1,0,5,4],[12,15,8,11,10,9,7,3,6,2,1,0,5,4,14,13],[16,12,8,15,11,10,9,7,3,6,2,1,0,5,4,14,13],[17,16,12,8,15,11,10,9,7,3,6,2,1,0,5,4,14,13],[18,17,16,12,8,15,11,10,9,7,3,6,2,1,0,5,4,14,13],[19,17,18,16,12,8,15,11,10,9,7,3,6,2,1,0,5,4,14,13],[20,17,19,18,16,12,8,15,11,10,9,7,3,6,2,1,0,5,4,14,13],[21,20,17,19,18,16,12,8,15,11,10,9,7,3,6,2,1,0,5,4,14,13],[22,21,20,17,19,18,16,12,8,15,11,10,9,7,3,6,2,1,0,5,4,14,13],[21,20,17,19,18,16,12,8,15,11,10,9,7,3,6,2,1,0,5,4,14,13],[24,21,20,17,19,18,16,12,8,15,11,10,9,7,3,6,2,1,0,5,4,14,13],[25,21,24,20,17,19,18,16,12,8,15,11,10,9,7,3,6,2,1,0,5,4,14,13],[23,26,21,22,20,17,19,18,16,12,8,15,11,10,9,7,3,6,2,1,0,5,4,14,13,25,24],[27,21,23,26,22,20,17,19,18,16,12,8,15,11,10,9,7,3,6,2,1,0,5,4,14,13,25,24],[21,28,17,20,19,18,16,12,8,15,11,10,9,7,3,6,2,1,0,5,4,14,13,27,23,26,22,25,24],[17,29,8,16,12,15,11,10,9,7,3,6,2,1,0,5,4,14,13,21,28,20,19,18,27,23,26,22,25,24],[8,30,7,3,6,2,1,0,5,4,17,29,16,12,15,11,10,9,14,13,21,28,20,19,18,27,23,26,22,25,24],[31,26,0,1,2,3,4,5,6,7,8,9,10,11,12,13,14,15,16,17,18,19,20,21,22,23,24,25,27,28,29,30]] (fun w2 => Below W.heap.size W w2) (fun w1 w2 => Below w1.heap.size w1 w2) (by kernel_rfl) (by kernel_rfl) (bdrew) ?_
  repeat (first | (refine Og.step_pure (fun _ => Below.refl _ _) ?_; apply Exists.intro; refine And.intro ?_ ?_; focus (intro vs w2 hC hk; have hm := HC w2 hC; revert hk; simp only [Og.KS, Og.K0, Og.Is, List.getD_cons_zero, List.getD_cons_succ, List.getD_nil, List.contains_cons, List.contains_nil, Nat.reduceAdd, Nat.reduceBEq, Bool.or_false, Bool.false_or, Bool.or_true, Bool.true_or, Bool.false_eq_true, false_implies, true_implies, true_and, and_true, forall_const]; intros; go_simp; rfl)) | (refine Og.step_one ?_; apply Exists.intro; refine And.intro ?_ ?_; focus (intro vs w2 hC hk; have hm := HC w2 hC; revert hk; simp only [Og.KS, Og.K0, Og.Is, List.getD_cons_zero, List.getD_cons_succ, List.getD_nil, List.contains_cons, List.contains_nil, Nat.reduceAdd, Nat.reduceBEq, Bool.or_false, Bool.false_or, Bool.or_true, Bool.true_or, Bool.false_eq_true, false_implies, true_implies, true_and, and_true, forall_const]; intros; go_simp; with_reducible refine (mask_ok _).mono ?_; rintro e w3 ⟨rfl, hb⟩; exact Og.RetV.mk ⟨bthen hC hb, hb, rfl⟩)))
  intro vs w2 hC hk
  have hm := HC w2 hC
  simp only [Og.KS, Og.K0, Og.Is, List.getD_cons_zero, List.getD_cons_succ, List.getD_nil, List.contains_cons, List.contains_nil, Nat.reduceAdd, Nat.reduceBEq, Bool.or_false, Bool.false_or, Bool.or_true, Bool.true_or, Bool.false_eq_true, false_implies, true_implies, true_and, and_true, forall_const] at hk
  simp only [hk, Act.put, List.setIfInBounds_toArray, List.set_cons_zero, List.set_cons_succ]
  clear hk
  have B2 := Lib.hid (bthen' hB hB.size hC)
  clear hC hm HC hB
  go_wp2_with fail
  go_ret
  exact ⟨rfl, B2.out⟩

set_option maxRecDepth 100000 in
set_option maxHeartbeats 2000000 in
theorem pok_24 (a : Int) (h : (bits .andNot .u32 a 4294967040 == 0) = true) (w : World) : Calls Tryd.prog 71 #[.agg #[.int .u32 a, .int .i64 24]] w fun e w' => e = .returned (.bool true) ∧ Below w.heap.size w w' := by
  go_enter Tryd.func71, Tryd.ntmps71
  go_wp2_with fail
  obtain ⟨W, hW⟩ : ∃ W, w.alloc (Obj.cells #[.int .u32 a, .int .i64 24] 122) = W := ⟨_, rfl⟩
  have hB : Below w.heap.size w W := by rw [← hW]; exact (Below.refl _ _).alloc (Nat.le_refl _) _
  have h0 : W.cell? ⟨w.heap.size, 0, none⟩ = some (.int .u32 a) ∧ W.cell? ⟨w.heap.size, 1, none⟩ = some (.int .i64 24) := by rw [← hW]; simp
  have HC : ∀ w2, Below W.heap.size W w2 → w2.cell? ⟨w.heap.size, 0, none⟩ = some (.int .u32 a) ∧ w2.cell? ⟨w.heap.size, 1, none⟩ = some (.int .i64 24) := fun w2 h => ⟨bcell h h0.1, bcell h h0.2⟩
  rw [hW]
  clear hW h0
  refine Og.walk_lit [[],[0],[1,0],[2,1,0],[3,2,1,0],[4,3,2,1,0],[5,3,4,2,1,0],[3,6,2,1,0,5,4],[7,3,6,2,1,0,5,4],[8,7,3,6,2,1,0,5,4],[9,8,7,3,6,2,1,0,5,4],[10,8,9,7,3,6,2,1,0,5,4],[11,8,10,9,7,3,6,2,1,0,5,4],[12,11,8,10,9,7,3,6,2,1,0,5,4],[13,12,11,8,10,9,7,3,6,2,1,0,5,4],[14,12,13,11,8,10,9,7,3,6,2,1,0,5,4],[12,15,8,11,10,9,7,3,6,2,1,0,5,4,14,13],[16,12,8,15,11,10,9,7,3,6,2,1,0,5,4,14,13],[17,16,12,8,15,11,10,9,7,3,6,2,1,0,5,4,14,13],[18,17,16,12,8,15,11,10,9,7,3,6,2,1,0,5,4,14,13],[19,17,18,16,12,8,15,11,10,9,7,3,6,2,1,0,5,4,14,13],[20,17,19,18,16,12,8,15,11,10,9,7,3,6,2,1,0,5,4,14,13],[21,20,17,19,18,16,12,8,15,11,10,9,7,3,6,2,1,0,5,4,14,13],[22,21,20,17,19,18,16,12,8,15,11,10,9,7,3,6,2,1,0,5,4,14,13],[21,20,17,19,18,16,12,8,15,11,10,9,7,3,6,2,1,0,5,4,14,13],[24,21,20,17,19,18,16,12,8,15,11,10,9,7,3,6,2,1,0,5,4,14,13],[25,21,24,20,17,19,18,16,12,8,15,11,10,9,7,3,6,2,1,0,5,4,14,13],[23,26,21,22,20,17,19,18,16,12,8,15,11,10,9,7,3,6,2,1,0,5,4,14,13,25,24],[27,21,23,26,22,20,17,19,18,16,12,8,15,11,10,9,7,3,6,2,1,0,5,4,14,13,25,24],[21,28,17,20,19,18,16,12,8,15,11,10,9,7,3,6,2,1,0,5,4,14,13,27,23,26,22,25,24],[17,29,8,16,12,15,11,10,9,7,3,6,2,1,0,5,4,14,13,21,28,20,19,18,27,23,26,22,25,24],[8,30,7,3,6,2,1,0,5,4,17,29,16,12,15,11,10,9,14,13,21,28,20,19,18,27,23,26,22,25,24],[31,26,0,1,2,3,4,5,6,7,8,9,10,11,12,13,14,15,16,17,18,19,20,21,22,23,24,25,27,28,29,30]] (fun w2 => Below W.heap.size W w2) (fun w1 w2 => Below w1.heap.size w1 w2) (by kernel_rfl) (by kernel_rfl) (bdrew) ?_
  repeat (first | (refine Og.step_pure (fun _ => Below.refl _ _) ?_; apply Exists.intro; refine And.intro ?_ ?_; focus (intro vs w2 hC hk; have hm := HC w2 hC; revert hk; simp only [Og.KS, Og.K0, Og.Is, List.getD_cons_zero, List.getD_cons_succ, List.getD_nil, List.contains_cons, List.contains_nil, Nat.reduceAdd, Nat.reduceBEq, Bool.or_false, Bool.false_or, Bool.or_true, Bool.true_or, Bool.false_eq_true, false_implies, true_implies, true_and, and_true, forall_const]; intros; go_simp; rfl)) | (refine Og.step_one ?_; apply Exists.intro; refine And.intro ?_ ?_; focus (intro vs w2 hC hk; have hm := HC w2 hC; revert hk; simp only [Og.KS, Og.K0, Og.Is, List.getD_cons_zero, List.getD_cons_succ, List.getD_nil, List.contains_cons, List.contains_nil, Nat.reduceAdd, Nat.reduceBEq, Bool.or_false, Bool.false_or, Bool.or_true, Bool.true_or, Bool.false_eq_true, false_implies, true_implies, true_and, and_true, forall_const]; intros; go_simp; with_reducible refine (mask_ok _).mono ?_; rintro e w3 ⟨rfl, hb⟩; exact Og.RetV.mk ⟨bthen hC hb, hb, rfl⟩)))
  intro vs w2 hC hk
  have hm := HC w2 hC
  simp only [Og.KS, Og.K0, Og.Is, List.getD_cons_zero, List.getD_cons_succ, List.getD_nil, List.contains_cons, List.contains_nil, Nat.reduceAdd, Nat.reduceBEq, Bool.or_false, Bool.false_or, Bool.or_true, Bool.true_or, Bool.false_eq_true, false_implies, true_implies, true_and, and_true, forall_const] at hk
  simp only [hk, Act.put, List.setIfInBounds_toArray, List.set_cons_zero, List.set_cons_succ]
  clear hk
  have B2 := Lib.hid (bthen' hB hB.size hC)
  clear hC hm HC hB
  go_wp2_with fail
  go_ret
  exact ⟨rfl, B2.out⟩

theorem pok_ok (p : Pf) (h : pfS p) (w : World) : Calls Tryd.prog 71 #[.agg #[.int .u32 p.a, .int .i64 p.l]] w fun e w' => e = .returned (.bool true) ∧ Below w.heap.size w w' := by
  rcases h with rfl | ⟨h1, h2⟩
  · exact pok_z w
  · rw [h1]
    exact pok_24 p.a h2 w

end Go.Proofs.YtjbglifmppilfaaDoor
namespace Go.Proofs.YtjbglifmppilfaaDoor
open Go.ChangeShapes Go.WideShapes Go.ChangeAt Go.RowKit
set_option linter.unusedVariables false
/-- a distance kept in its bounds -/
def clp (n : Int) : Int := min (max n 0) 1073741824
def dsum (a b : Int) : Int := min (clp a + clp b) 1073741824
theorem clp_ge (n : Int) : 0 ≤ clp n := by unfold clp; omega
theorem clp_le (n : Int) : clp n ≤ 1073741824 := by unfold clp; omega
theorem clp_id {n : Int} (h0 : 0 ≤ n) (h1 : n ≤ 1073741824) : clp n = n := by unfold clp; omega
set_option maxRecDepth 100000 in
theorem clamp_ok (n : Int) (w : World) : Calls Tryd.prog 60 #[.int .i64 n] w fun e w' => e = .returned (.int .i64 (clp n)) ∧ Below w.heap.size w w' := by
  go_enter Tryd.func60, Tryd.ntmps60
  go_wp2_with fail
  go_ret
  exact ⟨by first | rfl | (unfold clp; congr 2; simp only [Int.max_def, Int.min_def]; repeat' split <;> omega), Below.refl _ _⟩
set_option maxRecDepth 100000 in
theorem Sum_ok (a b : Int) (w : World) : Calls Tryd.prog 50 #[.int .i64 a, .int .i64 b] w fun e w' => e = .returned (.int .i64 (dsum a b)) ∧ Below w.heap.size w w' := by
  have ha := clp_ge a
  have ha2 := clp_le a
  have hb := clp_ge b
  have hb2 := clp_le b
  have hw : IntKind.i64.wrap (clp a + clp b) = clp a + clp b := by rw [IntKind.wrap_i64]; omega
  clear ha ha2 hb hb2
  go_enter Tryd.func50, Tryd.ntmps50
  go_wp2_with fail
  refine (clamp_ok a _).mono ?_
  rintro e w1 ⟨rfl, hb1⟩
  go_wp2_with fail
  refine (clamp_ok b _).mono ?_
  rintro e w2 ⟨rfl, hb2⟩
  have B := Lib.hid (bthen hb1 hb2)
  clear hb1 hb2
  go_wp2_with fail
  go_ret
  exact ⟨by first | rfl | (unfold dsum; congr 2; simp only [Int.min_def]; repeat' split <;> omega), B.out⟩
set_option maxRecDepth 100000 in
theorem Less_ok (a b : Int) (w : World) : Calls Tryd.prog 48 #[.int .i64 a, .int .i64 b] w fun e w' => e = .returned (.bool (decide (clp a < clp b))) ∧ Below w.heap.size w w' := by
  go_enter Tryd.func48, Tryd.ntmps48
  go_wp2_with fail
  refine (clamp_ok a _).mono ?_
  rintro e w1 ⟨rfl, hb1⟩
  go_wp2_with fail
  refine (clamp_ok b _).mono ?_
  rintro e w2 ⟨rfl, hb2⟩
  have B := Lib.hid (bthen hb1 hb2)
  clear hb1 hb2
  go_wp2_with fail
  go_ret
  exact ⟨rfl, B.out⟩
set_option maxRecDepth 100000 in
theorem hin_ok (n : Int) (w : World) : Calls Tryd.prog 75 #[.int .i64 n] w fun e w' => e = .returned (.bool (rng 0 127 n)) ∧ Below w.heap.size w w' := by
  cases t0 : decide (0 ≤ n) <;> cases t1 : decide (n ≤ 127) <;>
  · go_enter Tryd.func75, Tryd.ntmps75
    go_wp2_with fail
    go_ret
    exact ⟨by simp [rng, t0, t1], Below.refl _ _⟩
set_option maxRecDepth 100000 in
theorem bin_ok (n : Int) (w : World) : Calls Tryd.prog 55 #[.int .i64 n] w fun e w' => e = .returned (.bool (rng 0 127 n)) ∧ Below w.heap.size w w' := by
  cases t0 : decide (0 ≤ n) <;> cases t1 : decide (n ≤ 127) <;>
  · go_enter Tryd.func55, Tryd.ntmps55
    go_wp2_with fail
    go_ret
    exact ⟨by simp [rng, t0, t1], Below.refl _ _⟩
theorem dsum_eq (a b : Int) : clp (clp a + clp b) = dsum a b := by
  have := clp_ge a
  have := clp_ge b
  unfold dsum
  generalize clp a = x at *
  generalize clp b = y at *
  unfold clp
  omega
end Go.Proofs.YtjbglifmppilfaaDoor
