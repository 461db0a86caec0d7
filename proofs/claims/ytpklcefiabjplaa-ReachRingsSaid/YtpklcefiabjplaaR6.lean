/- Sets of nodes: one more node, asking for one; conditions as stated. -/
import Derived.Test.YtpklcefiabjplaaR5
import Derived.Laws.ResultCell
namespace Go.Proofs.Ytpklcefiabjplaa
open Go.ChangeShapes Go.WideShapes Go.ChangeAt Go.RowKit
set_option linter.unusedVariables false
set_option linter.unusedSimpArgs false
attribute [local go_sem] Og.Opt Og.OpY

theorem info25s : (Try.prog.info? 25).map (·.size) = some 2 := by kernel_rfl
theorem size25 (w : World) : (sizeOf 25).run Try.prog w = .ok 2 w := by kernel_rfl
theorem isAgg25 (w : World) : (isAgg 25).run Try.prog w = .ok true w := by kernel_rfl
/-- a set as one value -/
def bV (p : Int × Int) : Value := .agg #[.int .u64 p.1, .int .u64 p.2]
def bCs (p : Int × Int) : Array Value := #[.int .u64 p.1, .int .u64 p.2]
def ofB (n : Nat) : Int × Int := if n < 64 then (bits .or .u64 0 (IntKind.u64.wrap (2 ^ n)), 0) else (0, bits .or .u64 0 (IntKind.u64.wrap (2 ^ (n - 64))))
def orB (p q : Int × Int) : Int × Int := (bits .or .u64 p.1 q.1, bits .or .u64 p.2 q.2)
def hasB (p : Int × Int) (n : Nat) : Bool := if n < 64 then bits .and .u64 (p.1 / 2 ^ n) 1 == 1 else bits .and .u64 (p.2 / 2 ^ (n - 64)) 1 == 1
def withB (p : Int × Int) (n : Nat) : Int × Int := orB p (ofB n)
theorem ldB {w : World} {b : Nat} {p : Int × Int} (h : w.heap[b]? = some (.cells (bCs p) 25 (0, 0))) : (loadVar 25 ⟨b, 0, none⟩).run Try.prog w = .ok (bV p) w := run_loadL (cs := [.int .u64 p.1, .int .u64 p.2]) isAgg25 size25 rfl (AtL_heap h)
set_option maxRecDepth 100000 in
set_option maxHeartbeats 4000000 in
theorem Or_ok (p q : Int × Int) (w : World) : Calls Try.prog 88 #[bV p, bV q] w fun e w' => e = .returned (bV (orB p q)) ∧ Below w.heap.size w w' := by
  unfold bV
  go_enter Try.func88, Try.ntmps88
  go_wp2_with fail
  refine bodyPost_ret (results_cell1 rfl rfl (ldB (p := orB p q) (heap_at (by simp)))) rfl ?_
  exact ⟨rfl, (((Below.refl _ _).alloc (Nat.le_refl _) _).alloc (by simp) _).alloc (by simp; omega) _⟩
theorem results_cell_tmp1 {fn : Func} {p u : Tmp} {ty : TypeId} {tmps : Array Value} {P : Program} {w : World} {a : Addr} {v : Value} (h : fn.results = #[.cell p ty, .tmp u]) (ha : tmps.getD p undef = .pointer (some a)) (hr : (loadVar ty a).run P w = .ok v w) :
    (results fn tmps).run P w = .ok (.tuple #[v, tmps.getD u undef]) w := by
  have e : (asAddr (.pointer (some a))).run P w = .ok a w := rfl
  rw [results_cell_tmp h, ha, e]
  simp only [Result.andThen_ok, hr]
set_option maxRecDepth 100000 in
set_option maxHeartbeats 4000000 in
theorem Of_ok (b n : Nat) (hn : n < 128) (w : World) (h0 : w.cell? ⟨b, 0, none⟩ = some (.int .i64 n)) :
    Calls Try.prog 87 #[.slice (some ⟨b, 0, none⟩) 1 1] w fun e w' => e = .returned (.tuple #[bV (ofB n), .int .i64 0]) ∧ Below w.heap.size w w' := by
  have hr : rng 0 127 (n : Int) = true := by simp [rng]; omega
  have h0' := Lib.hid h0
  clear h0
  obtain ⟨g, hg⟩ : ∃ g, g = w.heap.size := ⟨_, rfl⟩
  have HG := Lib.hid hg
  go_enter Try.func87, Try.ntmps87
  go_wp2_with fail
  rw [← hg]
  clear hg
  go_loopw [9] (fun i wr => ∃ k : Nat, k ≤ 1 ∧ i = .int .i64 k ∧ Hid (Below w.heap.size w wr) ∧ Hid (wr.heap[g]? = some (.cells (bCs (0, 0)) 25 (0, 0)) ∧ wr.heap[g + 1]? = some (.cells (bCs (if k = 0 then (0, 0) else ofB n)) 25 (0, 0)))) (fun i _ => 1 - (intOf i).toNat)
  case atStart =>
    refine ⟨0, by omega, rfl, Lib.hid (((Below.refl _ _).alloc (Nat.le_refl _) _).alloc (by simp) _), Lib.hid ⟨?_, heap_at (by rw [HG.out]; simp)⟩⟩
    exact heap_keep ((Below.refl _ _).alloc (Nat.le_refl _) _) (heap_at HG.out)
  case round =>
    obtain ⟨k, hk, rfl, hb, hh⟩ := hrel
    by_cases hlt : k < 1
    · have hk0 : k = 0 := by omega
      subst hk0
      have q0 := bcell hb.out h0'.out
      have BI := Lib.hid (fun w2 => bin_ok (n : Int) w2)
      go_wp2_with fail
      with_reducible refine (BI.out _).mono ?_
      rintro e ws ⟨rfl, b1⟩
      rw [hr]
      have BS := Lib.hid (bthen hb.out b1)
      have K0 := Lib.hid (heap_keep b1 hh.out.1)
      have K1 := Lib.hid (heap_keep b1 hh.out.2)
      have c0 : ws.cell? ⟨g + 1, 0, none⟩ = some (.int .u64 0) := by rw [cell_of_row ws _ 0 _ _ _ K1.out]; rfl
      have c1 : ws.cell? ⟨g + 1, 1, none⟩ = some (.int .u64 0) := by rw [cell_of_row ws _ 1 _ _ _ K1.out]; rfl
      have HC : ∀ w5, Below ws.heap.size ws w5 → w5.cell? ⟨g + 1, 0, none⟩ = some (.int .u64 0) ∧ w5.cell? ⟨g + 1, 1, none⟩ = some (.int .u64 0) := fun w5 hb => ⟨bcell hb c0, bcell hb c1⟩
      clear b1 q0 hb hh c0 c1
      go_wp2_with fail
      by_cases h64 : n < 64
      · have gq : IntKind.i64.wrap ((n : Int) / 64) = 0 := by rw [show (n : Int) / 64 = 0 by omega]; rfl
        have gq2 : Int.tdiv (n : Int) 64 = 0 := by rw [Int.tdiv_eq_ediv_of_nonneg (by omega)]; omega
        have gm : Int.tmod (n : Int) 64 = n := by rw [Int.tmod_eq_emod_of_nonneg (by omega)]; omega
        have gw : IntKind.i64.wrap (n : Int) = n := wrapk (by omega)
        have gn : (0 : Int) ≤ (n : Int) := by omega
        have gz : IntKind.i64.wrap 0 = 0 := rfl
        have EQ : Hid (ofB n = (bits .or .u64 0 (IntKind.u64.wrap (2 ^ n)), 0)) := Lib.hid (by unfold ofB; rw [if_pos h64])
        have gmin : min n 64 = n := by omega
        refine Og.Tail.walk_lit 9 [[],[0],[1,0],[2,1,0],[],[4],[5,4],[3,6,2,1,0,5,4],[1,0,2,3,4,5,6,7],[8,7,0,1,2,3,4,5,6]] (fun w2 => Below ws.heap.size ws w2) (fun w1 w2 => Below w1.heap.size w1 w2) (by kernel_rfl) (by kernel_rfl) (by kernel_rfl) (bdrew) ?_
        simp only [List.take_succ_cons, List.take_zero, List.drop_succ_cons, List.drop_zero]
        repeat (first | (refine Og.step_pure (fun _ => Below.refl _ _) ?_; apply Exists.intro; refine And.intro ?_ ?_; focus (intro vs w2 hC hk; have hm := HC w2 hC; revert hk; simp only [Og.KS, Og.K0, Og.Is, List.getD_cons_zero, List.getD_cons_succ, List.getD_nil, List.contains_cons, List.contains_nil, Nat.reduceAdd, Nat.reduceBEq, Bool.or_false, Bool.false_or, Bool.or_true, Bool.true_or, Bool.false_eq_true, false_implies, true_implies, true_and, and_true, forall_const]; intros; go_simp; rfl)))
        intro vs w2 hC hk
        have hm := HC w2 hC
        simp only [Og.KS, Og.K0, Og.Is, List.getD_cons_zero, List.getD_cons_succ, List.getD_nil, List.contains_cons, List.contains_nil, Nat.reduceAdd, Nat.reduceBEq, Bool.or_false, Bool.false_or, Bool.or_true, Bool.true_or, Bool.false_eq_true, false_implies, true_implies, true_and, and_true, forall_const] at hk
        simp only [hk, Act.put, List.setIfInBounds_toArray, List.set_cons_zero, List.set_cons_succ]
        clear hk
        have B5 := Lib.hid (bthen BS.out hC)
        have K05 := Lib.hid (heap_keep hC K0.out)
        have K15 := Lib.hid (heap_keep hC K1.out)
        have fz : w2.frozen? ⟨g + 1, 0, none⟩ = false := by simp [World.frozen?, K15.out]
        have q0 := hm.1
        have q1 := hm.2
        clear hC hm HC
        go_wp2_with fail
        go_roundw
        case rel =>
          refine ⟨1, by omega, rfl, Lib.hid ?_, Lib.hid ⟨?_, ?_⟩⟩
          · rw [setCell_eq_setRow w2 (g + 1) 0 _ 25 (0, 0) _ K15.out]
            exact B5.out.trans ⟨rfl, rfl, rfl, by simp [World.setRow], fun j hj => setRow_other w2 (g + 1) j _ (by have := HG.out; omega)⟩
          · rw [setCell_eq_setRow w2 (g + 1) 0 _ 25 (0, 0) _ K15.out, setRow_other w2 (g + 1) g _ (by omega)]
            exact K05.out
          · rw [setCell_cells K15.out]
            show _ = some (Obj.cells (bCs (ofB n)) 25 (0, 0))
            rw [EQ.out]
            rfl
        case measure => simp [intOf]
      · obtain ⟨m, hm⟩ : ∃ m, n = 64 + m := ⟨n - 64, by omega⟩
        have gq : IntKind.i64.wrap ((n : Int) / 64) = 1 := by rw [show (n : Int) / 64 = 1 by omega]; rfl
        have gq2 : Int.tdiv (n : Int) 64 = 1 := by rw [Int.tdiv_eq_ediv_of_nonneg (by omega)]; omega
        have gm : Int.tmod (n : Int) 64 = m := by rw [Int.tmod_eq_emod_of_nonneg (by omega)]; omega
        have gw : IntKind.i64.wrap (m : Int) = m := wrapk (by omega)
        have gn : (0 : Int) ≤ (m : Int) := by omega
        have gz : IntKind.i64.wrap 1 = 1 := rfl
        have EQ : Hid (ofB n = (0, bits .or .u64 0 (IntKind.u64.wrap (2 ^ m)))) := Lib.hid (by unfold ofB; rw [if_neg h64, show n - 64 = m by omega])
        have gmin : min m 64 = m := by omega
        clear hm
        refine Og.Tail.walk_lit 9 [[],[0],[1,0],[2,1,0],[],[4],[5,4],[3,6,2,1,0,5,4],[1,0,2,3,4,5,6,7],[8,7,0,1,2,3,4,5,6]] (fun w2 => Below ws.heap.size ws w2) (fun w1 w2 => Below w1.heap.size w1 w2) (by kernel_rfl) (by kernel_rfl) (by kernel_rfl) (bdrew) ?_
        simp only [List.take_succ_cons, List.take_zero, List.drop_succ_cons, List.drop_zero]
        repeat (first | (refine Og.step_pure (fun _ => Below.refl _ _) ?_; apply Exists.intro; refine And.intro ?_ ?_; focus (intro vs w2 hC hk; have hm := HC w2 hC; revert hk; simp only [Og.KS, Og.K0, Og.Is, List.getD_cons_zero, List.getD_cons_succ, List.getD_nil, List.contains_cons, List.contains_nil, Nat.reduceAdd, Nat.reduceBEq, Bool.or_false, Bool.false_or, Bool.or_true, Bool.true_or, Bool.false_eq_true, false_implies, true_implies, true_and, and_true, forall_const]; intros; go_simp; rfl)))
        intro vs w2 hC hk
        have hm := HC w2 hC
        simp only [Og.KS, Og.K0, Og.Is, List.getD_cons_zero, List.getD_cons_succ, List.getD_nil, List.contains_cons, List.contains_nil, Nat.reduceAdd, Nat.reduceBEq, Bool.or_false, Bool.false_or, Bool.or_true, Bool.true_or, Bool.false_eq_true, false_implies, true_implies, true_and, and_true, forall_const] at hk
        simp only [hk, Act.put, List.setIfInBounds_toArray, List.set_cons_zero, List.set_cons_succ]
        clear hk
        have B5 := Lib.hid (bthen BS.out hC)
        have K05 := Lib.hid (heap_keep hC K0.out)
        have K15 := Lib.hid (heap_keep hC K1.out)
        have fz : w2.frozen? ⟨g + 1, 1, none⟩ = false := by simp [World.frozen?, K15.out]
        have q0 := hm.1
        have q1 := hm.2
        clear hC hm HC
        go_wp2_with fail
        go_roundw
        case rel =>
          refine ⟨1, by omega, rfl, Lib.hid ?_, Lib.hid ⟨?_, ?_⟩⟩
          · rw [setCell_eq_setRow w2 (g + 1) 1 _ 25 (0, 0) _ K15.out]
            exact B5.out.trans ⟨rfl, rfl, rfl, by simp [World.setRow], fun j hj => setRow_other w2 (g + 1) j _ (by have := HG.out; omega)⟩
          · rw [setCell_eq_setRow w2 (g + 1) 1 _ 25 (0, 0) _ K15.out, setRow_other w2 (g + 1) g _ (by omega)]
            exact K05.out
          · rw [setCell_cells K15.out]
            show _ = some (Obj.cells (bCs (ofB n)) 25 (0, 0))
            rw [EQ.out]
            rfl
        case measure => simp [intOf]
    · have hk1 : k = 1 := by omega
      subst hk1
      have K0 := hh.out.1
      have K1 := hh.out.2
      rw [if_neg (by decide)] at K1
      have K0' := Lib.hid K0
      have K1' := Lib.hid K1
      clear K0 K1
      go_wp2_with (first | (refine wpList_loadL rfl 25 (.tmp 4) rfl (g + 1) 0 (bV (ofB n)) rfl (ldB K1'.out) ?_) | (refine wpList_storeN rfl 25 (.tmp 2) (.tmp 27) rfl rfl g (bCs (ofB n)) rfl rfl 25 _ K0'.out info25s rfl (by simp [Value.oneCell', bCs]) ?_; intro w9 hz hbb hn9 hs3; have Z9 := Lib.hid hz; have D9 := Lib.hid (hb.out.trans (hbb _ (by have := HG.out; omega))); clear hz hbb hn9 hs3))
      refine bodyPost_ret (results_cell_tmp1 rfl rfl (ldB Z9.out)) rfl ?_
      exact ⟨rfl, D9.out⟩

set_option maxRecDepth 100000 in
set_option maxHeartbeats 4000000 in
theorem With_ok (p : Int × Int) (n : Nat) (hn : n < 128) (w : World) : Calls Try.prog 51 #[bV p, .int .i64 n] w fun e w' => e = .returned (.tuple #[bV (withB p n), .int .i64 0]) ∧ Below w.heap.size w w' := by
  have HO := Lib.hid (fun b w2 h0 => Of_ok b n hn w2 h0)
  have HR := Lib.hid (fun w2 => Or_ok p (ofB n) w2)
  unfold bV at HO HR ⊢
  obtain ⟨g, hg⟩ : ∃ g, g = w.heap.size := ⟨_, rfl⟩
  have HG := Lib.hid hg
  go_enter Try.func51, Try.ntmps51
  go_wp2_with fail
  rw [← hg]
  have ba : Below w.heap.size w (w.alloc (.cells #[.int .u64 p.1, .int .u64 p.2] 25)) := (Below.refl _ _).alloc (Nat.le_refl _) _
  have b1 : Below w.heap.size w (((w.alloc (.cells #[.int .u64 p.1, .int .u64 p.2] 25)).alloc (.cells #[.int .u64 0, .int .u64 0] 25)).alloc (.cells #[.int .i64 n] 3)) := (ba.alloc (by simp) _).alloc (by simp; omega) _
  have k0 : (((w.alloc (.cells #[.int .u64 p.1, .int .u64 p.2] 25)).alloc (.cells #[.int .u64 0, .int .u64 0] 25)).alloc (.cells #[.int .i64 n] 3)).heap[g]? = some (.cells (bCs p) 25 (0, 0)) := heap_keep ((Below.refl _ _).alloc (Nat.le_refl _) _) (heap_keep ((Below.refl _ _).alloc (Nat.le_refl _) _) (heap_at hg))
  have k1 : (((w.alloc (.cells #[.int .u64 p.1, .int .u64 p.2] 25)).alloc (.cells #[.int .u64 0, .int .u64 0] 25)).alloc (.cells #[.int .i64 n] 3)).heap[g + 1]? = some (.cells (bCs (0, 0)) 25 (0, 0)) := heap_keep ((Below.refl _ _).alloc (Nat.le_refl _) _) (heap_at (by rw [hg]; simp))
  have k2 : (((w.alloc (.cells #[.int .u64 p.1, .int .u64 p.2] 25)).alloc (.cells #[.int .u64 0, .int .u64 0] 25)).alloc (.cells #[.int .i64 n] 3)).cell? ⟨g + 1 + 1, 0, none⟩ = some (.int .i64 n) := by
    have : (((w.alloc (.cells #[.int .u64 p.1, .int .u64 p.2] 25)).alloc (.cells #[.int .u64 0, .int .u64 0] 25)).alloc (.cells #[.int .i64 n] 3)).heap[g + 1 + 1]? = some (.cells #[.int .i64 n] 3 (0, 0)) := heap_at (by rw [hg]; simp)
    rw [cell_of_row _ _ 0 _ _ _ this]; rfl
  generalize (((w.alloc (.cells #[.int .u64 p.1, .int .u64 p.2] 25)).alloc (.cells #[.int .u64 0, .int .u64 0] 25)).alloc (.cells #[.int .i64 n] 3)) = wa at *
  with_reducible refine (HO.out _ _ k2).mono ?_
  rintro e wb ⟨rfl, b2⟩
  have B2 := Lib.hid (bthen b1 b2)
  have K0 := Lib.hid (heap_keep b2 k0)
  have K1 := Lib.hid (heap_keep b2 k1)
  clear ba b1 b2 k0 k1 k2 hg
  go_wp2_with (first | (refine wpList_loadL rfl 25 (.tmp 2) rfl g 0 (.agg #[.int .u64 p.1, .int .u64 p.2]) rfl (ldB (p := p) (heap_keep ((Below.refl _ _).alloc (Nat.le_refl _) _) K0.out)) ?_) | (refine wpList_loadL rfl 25 (.tmp 6) rfl wb.heap.size 0 (.agg #[.int .u64 (ofB n).1, .int .u64 (ofB n).2]) rfl (ldB (p := ofB n) (heap_at rfl)) ?_))
  with_reducible refine (HR.out _).mono ?_
  rintro e wc ⟨rfl, b3⟩
  have b4 : Below wb.heap.size wb wc := bthen ((Below.refl _ _).alloc (Nat.le_refl _) _) b3
  have B3 := Lib.hid (bthen B2.out b4)
  have K13 := Lib.hid (heap_keep b4 K1.out)
  clear b3 b4 K0 K1
  go_wp2_with (refine wpList_storeN rfl 25 (.tmp 4) (.tmp 20) rfl rfl (g + 1) (bCs (withB p n)) rfl rfl 25 _ K13.out info25s rfl (by simp [Value.oneCell', bCs]) ?_; intro w9 hz hbb hn9 hs3; have Z9 := Lib.hid hz; have D9 := Lib.hid (B3.out.trans (hbb _ (by have := HG.out; omega))); clear hz hbb hn9 hs3)
  refine bodyPost_ret (results_cell_tmp1 rfl rfl (ldB Z9.out)) rfl ?_
  exact ⟨rfl, D9.out⟩
set_option maxRecDepth 100000 in
set_option maxHeartbeats 4000000 in
theorem Has_ok (p : Int × Int) (n : Nat) (hn : n < 128) (w : World) : Calls Try.prog 23 #[bV p, .int .i64 n] w fun e w' => e = .returned (.bool (hasB p n)) ∧ Below w.heap.size w w' := by
  unfold bV
  have BI := Lib.hid (fun w2 => bin_ok (n : Int) w2)
  have hr : rng 0 127 (n : Int) = true := by simp [rng]; omega
  obtain ⟨g, hg⟩ : ∃ g, g = w.heap.size := ⟨_, rfl⟩
  go_enter Try.func23, Try.ntmps23
  go_wp2_with fail
  rw [← hg]
  have b1 : Below w.heap.size w (w.alloc (.cells #[.int .u64 p.1, .int .u64 p.2] 25)) := (Below.refl _ _).alloc (Nat.le_refl _) _
  have k0 : (w.alloc (.cells #[.int .u64 p.1, .int .u64 p.2] 25)).heap[g]? = some (.cells (bCs p) 25 (0, 0)) := heap_at hg
  generalize (w.alloc (.cells #[.int .u64 p.1, .int .u64 p.2] 25)) = wa at *
  with_reducible refine (BI.out _).mono ?_
  rintro e wb ⟨rfl, b2⟩
  rw [hr]
  have B2 := Lib.hid (bthen b1 b2)
  have K0 := heap_keep b2 k0
  have c0 : wb.cell? ⟨g, 0, none⟩ = some (.int .u64 p.1) := by rw [cell_of_row wb _ 0 _ _ _ K0]; rfl
  have c1 : wb.cell? ⟨g, 1, none⟩ = some (.int .u64 p.2) := by rw [cell_of_row wb _ 1 _ _ _ K0]; rfl
  clear b1 b2 k0 K0 hg
  by_cases h64 : n < 64
  · have gq : wrap64 ((n : Int) / 64) = 0 := by unfold wrap64; omega
    have gq2 : Int.tdiv (n : Int) 64 = 0 := by rw [Int.tdiv_eq_ediv_of_nonneg (by omega)]; omega
    have gm : Int.tmod (n : Int) 64 = n := by rw [Int.tmod_eq_emod_of_nonneg (by omega)]; omega
    have gw : wrap64 (n : Int) = n := by unfold wrap64; omega
    have gn : (0 : Int) ≤ (n : Int) := by omega
    have gmin : min n 64 = n := by omega
    have EQ : Hid (hasB p n = (bits .and .u64 (p.1 / 2 ^ n) 1 == 1)) := Lib.hid (by unfold hasB; rw [if_pos h64])
    go_wp2_with fail
    go_ret
    exact ⟨by rw [EQ.out]; rfl, B2.out⟩
  · obtain ⟨m, hm⟩ : ∃ m, n = 64 + m := ⟨n - 64, by omega⟩
    have gq : wrap64 ((n : Int) / 64) = 1 := by unfold wrap64; omega
    have gq2 : Int.tdiv (n : Int) 64 = 1 := by rw [Int.tdiv_eq_ediv_of_nonneg (by omega)]; omega
    have gm : Int.tmod (n : Int) 64 = m := by rw [Int.tmod_eq_emod_of_nonneg (by omega)]; omega
    have gw : wrap64 (m : Int) = m := by unfold wrap64; omega
    have gn : (0 : Int) ≤ (m : Int) := by omega
    have gmin : min m 64 = m := by omega
    have EQ : Hid (hasB p n = (bits .and .u64 (p.2 / 2 ^ m) 1 == 1)) := Lib.hid (by unfold hasB; rw [if_neg h64, show n - 64 = m by omega])
    clear hm
    go_wp2_with fail
    go_ret
    exact ⟨by rw [EQ.out]; rfl, B2.out⟩

end Go.Proofs.Ytpklcefiabjplaa
