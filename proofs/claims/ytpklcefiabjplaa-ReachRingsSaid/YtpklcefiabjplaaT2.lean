/- The reference makes a set of a list; conditions as stated. -/
import Derived.Test.YtpklcefiabjplaaT1
namespace Go.Proofs.Ytpklcefiabjplaa
open Go.ChangeShapes Go.WideShapes Go.ChangeAt Go.RowKit
set_option linter.unusedVariables false
set_option linter.unusedSimpArgs false
attribute [local go_sem] Og.Opt Og.OpY

attribute [local go_sem] Og.Opt Og.OpY
theorem ofM_take {xs : List Nat} {k x : Nat} (h : xs[k]? = some x) : ofM (xs.take (k + 1)) = putM (ofM (xs.take k)) x := by
  unfold ofM
  rw [List.take_add_one, h, List.foldl_append]
  rfl
theorem shl_add {a b n : Nat} (h : a + 2 ^ b = n) (hn : n < 18446744073709551616) : IntKind.u64.wrap ((a : Int) + IntKind.u64.wrap ((2 : Int) ^ b)) = (n : Int) := by
  have e : (2 : Int) ^ b = ((2 ^ b : Nat) : Int) := by simp [Int.natCast_pow]
  rw [e]
  generalize 2 ^ b = q at h
  rw [IntKind.wrap_u64, IntKind.wrap_u64]
  omega
theorem putM_same {M n : Nat} (h : M.testBit n = true) : putM M n = M := by
  apply Nat.eq_of_testBit_eq
  intro k
  rw [putM_bit]
  by_cases e : n = k
  · subst e; simp [h]
  · simp [e]
theorem results_cell_tmp1' {fn : Func} {p u : Tmp} {ty : TypeId} {tmps : Array Value} {P : Program} {w : World} {a : Addr} {v : Value} (h : fn.results = #[.cell p ty, .tmp u]) (ha : tmps.getD p undef = .pointer (some a)) (hr : (loadVar ty a).run P w = .ok v w) :
    (results fn tmps).run P w = .ok (.tuple #[v, tmps.getD u undef]) w := by
  have e : (asAddr (.pointer (some a))).run P w = .ok a w := rfl
  rw [results_cell_tmp h, ha, e]
  simp only [Result.andThen_ok, hr]
set_option maxRecDepth 100000 in
set_option maxHeartbeats 4000000 in
theorem rOf_ok (xs : List Nat) (v : Value) (w : World) (hs : Sl cN 1 0 w v xs) (hx : ∀ x ∈ xs, x < 128) (hl : xs.length ≤ 100000) :
    Calls Try.prog 31 #[v] w fun e w' => e = .returned (.tuple #[mV (ofM xs), .int .i64 0]) ∧ Below w.heap.size w w' := by
  obtain ⟨A, c, rfl, hr, -⟩ := hs
  obtain ⟨n, hn⟩ : ∃ n, n = xs.length := ⟨_, rfl⟩
  rw [← hn]
  have HN := Lib.hid hn
  have HR := Lib.hid hr
  have HX := Lib.hid hx
  have hl' : n ≤ 100000 := by omega
  obtain ⟨z, hz⟩ : ∃ z, z = w.heap.size := ⟨_, rfl⟩
  have b2 : Below w.heap.size w ((w.alloc (.cells #[.int .u64 0, .int .u64 0] 25)).alloc (.cells #[.int .u64 0, .int .u64 0] 25)) := ((Below.refl _ _).alloc (Nat.le_refl _) _).alloc (by simp) _
  have k1 : ((w.alloc (.cells #[.int .u64 0, .int .u64 0] 25)).alloc (.cells #[.int .u64 0, .int .u64 0] 25)).heap[z]? = some (.cells #[.int .u64 0, .int .u64 0] 25 (0, 0)) := heap_keep ((Below.refl _ _).alloc (Nat.le_refl _) _) (heap_at hz)
  have k2 : ((w.alloc (.cells #[.int .u64 0, .int .u64 0] 25)).alloc (.cells #[.int .u64 0, .int .u64 0] 25)).heap[z + 1]? = some (.cells #[.int .u64 0, .int .u64 0] 25 (0, 0)) := heap_at (by rw [hz]; simp)
  clear hn hr hx hl
  go_enter Try.func31, Try.ntmps31
  go_wp2_with fail
  rw [← hz]
  generalize ((w.alloc (.cells #[.int .u64 0, .int .u64 0] 25)).alloc (.cells #[.int .u64 0, .int .u64 0] 25)) = wa at *
  have B2 := Lib.hid b2
  have K1 := Lib.hid k1
  have K2 := Lib.hid k2
  have HZ := Lib.hid hz
  clear b2 k1 k2 hz
  go_loopw [5] (fun i wr => ∃ k : Nat, k ≤ n ∧ i = .int .i64 k ∧ Hid (Below w.heap.size w wr) ∧ Hid (wr.heap[z]? = some (.cells #[.int .u64 0, .int .u64 0] 25 (0, 0))) ∧ Hid (wr.heap[z + 1]? = some (.cells (cM (ofM (xs.take k))).toArray 25 (0, 0)))) (fun i _ => n - (intOf i).toNat)
  case atStart => exact ⟨0, Nat.zero_le _, rfl, B2, K1, Lib.hid (by have e : cM (ofM (xs.take 0)) = [.int .u64 0, .int .u64 0] := (by simp [cM, ofM, loM, hiM]); rw [e]; exact K2.out)⟩
  case round =>
    clear B2 K1 K2
    obtain ⟨k, hk, rfl, hb, k1, k2⟩ := hrel
    by_cases hlt : k < n
    · have hwk1 : IntKind.i64.wrap ((k : Int) + 1) = (k : Int) + 1 := by rw [IntKind.wrap_i64]; omega
      have hk0 : (0 : Int) ≤ (k : Int) := by omega
      have hkn : (k : Int) < (n : Int) := by omega
      obtain ⟨x, hxk⟩ : ∃ x, xs[k]? = some x := ⟨_, List.getElem?_eq_getElem (by rw [← HN.out]; exact hlt)⟩
      obtain ⟨b0, o0, rfl, hat⟩ := HR.out k x hxk
      have hx8 := HX.out x (List.mem_of_getElem? hxk)
      have q0 : w.cell? ⟨b0, o0 + k, none⟩ = some (.int .i64 (x : Int)) := by
        have := hat 0 (.int .i64 (x : Int)) rfl
        rwa [Nat.add_zero, Nat.mul_one] at this
      have q1 := bcell hb.out q0
      have hx0 : ¬ (x : Int) < 0 := by omega
      have hx1 : ¬ (127 : Int) < (x : Int) := by omega
      have HE := Lib.hid (ofM_take hxk)
      obtain ⟨M, hM⟩ : ∃ M, M = ofM (xs.take k) := ⟨_, rfl⟩
      have hM8 : M < 2 ^ 128 := by rw [hM]; exact ofM_lt fun y hy => HX.out y (List.mem_of_mem_take hy)
      rw [← hM] at HE k2
      have HH := Lib.hid (fun w2 => rHas_ok M x hM8 hx8 w2)
      have X8 := Lib.hid hx8
      have M8 := Lib.hid hM8
      have HC : ∀ w5, Below wr.heap.size wr w5 → w5.cell? ⟨b0, o0 + k, none⟩ = some (.int .i64 (x : Int)) := fun w5 h5 => bcell h5 q1
      have HLD : Hid (∀ w5, Below wr.heap.size wr w5 → (loadVar 25 ⟨z + 1, 0, none⟩).run Try.prog w5 = .ok (mV M) w5) := Lib.hid fun w5 h5 => cldM (heap_keep h5 k2.out)
      unfold mV at HH HLD
      clear hxk hat hx8 hM hM8 q0
      go_wp2_with fail
      clear q1
      refine Og.walk_lit [[],[],[],[1,2],[3,1,2],[0,4,3,1,2],[5,0,4,3,1,2]] (fun w2 => Below wr.heap.size wr w2) (fun w1 w2 => Below w1.heap.size w1 w2) (by kernel_rfl) (by kernel_rfl) (bdrew) ?_
      refine Og.step_pure (fun _ => Below.refl _ _) ?_; apply Exists.intro; refine And.intro ?_ ?_; focus (intro vs w2 hC hk; have hl := HLD.out w2 hC; refine Og.OptB.out ?_; revert hk; simp only [Og.KS, Og.K0, Og.Is, List.getD_cons_zero, List.getD_cons_succ, List.getD_nil, List.contains_cons, List.contains_nil, Nat.reduceAdd, Nat.reduceBEq, Bool.or_false, Bool.false_or, Bool.or_true, Bool.true_or, Bool.false_eq_true, false_implies, true_implies, true_and, and_true, forall_const]; intros; exact optB_loadL (by go_simp) rfl (by go_simp) hl ⟨rfl, rfl⟩)
      iterate 3 (refine Og.step_pure (fun _ => Below.refl _ _) ?_; apply Exists.intro; refine And.intro ?_ ?_; focus (intro vs w2 hC hk; revert hk; simp only [Og.KS, Og.K0, Og.Is, List.getD_cons_zero, List.getD_cons_succ, List.getD_nil, List.contains_cons, List.contains_nil, Nat.reduceAdd, Nat.reduceBEq, Bool.or_false, Bool.false_or, Bool.or_true, Bool.true_or, Bool.false_eq_true, false_implies, true_implies, true_and, and_true, forall_const]; intros; go_simp; rfl))
      refine Og.step_pure (fun _ => Below.refl _ _) ?_; apply Exists.intro; refine And.intro ?_ ?_; focus (intro vs w2 hC hk; have hm := HC w2 hC; revert hk; simp only [Og.KS, Og.K0, Og.Is, List.getD_cons_zero, List.getD_cons_succ, List.getD_nil, List.contains_cons, List.contains_nil, Nat.reduceAdd, Nat.reduceBEq, Bool.or_false, Bool.false_or, Bool.or_true, Bool.true_or, Bool.false_eq_true, false_implies, true_implies, true_and, and_true, forall_const]; intros; go_simp; rfl)
      refine Og.step_one ?_; apply Exists.intro; refine And.intro ?_ ?_; focus (intro vs w2 hC hk; revert hk; simp only [Og.KS, Og.K0, Og.Is, List.getD_cons_zero, List.getD_cons_succ, List.getD_nil, List.contains_cons, List.contains_nil, Nat.reduceAdd, Nat.reduceBEq, Bool.or_false, Bool.false_or, Bool.or_true, Bool.true_or, Bool.false_eq_true, false_implies, true_implies, true_and, and_true, forall_const]; intros; go_simp; with_reducible refine (HH.out _).mono ?_; rintro e w3 ⟨rfl, hb⟩; exact Og.RetV.mk ⟨bthen hC hb, hb, rfl⟩)
      refine Og.step_pure (fun _ => Below.refl _ _) ?_; apply Exists.intro; refine And.intro ?_ ?_; focus (intro vs w2 hC hk; revert hk; simp only [Og.KS, Og.K0, Og.Is, List.getD_cons_zero, List.getD_cons_succ, List.getD_nil, List.contains_cons, List.contains_nil, Nat.reduceAdd, Nat.reduceBEq, Bool.or_false, Bool.false_or, Bool.or_true, Bool.true_or, Bool.false_eq_true, false_implies, true_implies, true_and, and_true, forall_const]; intros; go_simp; rfl)
      intro vs wb hC hk
      have hm := HC wb hC
      simp only [Og.KS, Og.K0, Og.Is, List.getD_cons_zero, List.getD_cons_succ, List.getD_nil, List.contains_cons, List.contains_nil, Nat.reduceAdd, Nat.reduceBEq, Bool.or_false, Bool.false_or, Bool.or_true, Bool.true_or, Bool.false_eq_true, false_implies, true_implies, true_and, and_true, forall_const] at hk
      simp only [hk, Act.put, List.setIfInBounds_toArray, List.set_cons_zero, List.set_cons_succ]
      clear hk
      have B5 := Lib.hid (bthen hb.out hC)
      have K15 := Lib.hid (heap_keep hC k1.out)
      have K25 := Lib.hid (heap_keep hC k2.out)
      have q2 := HC wb hC
      clear hC HC HLD HH k1 k2 hb hm
      cases hbt : M.testBit x with
      | true =>
        have HM := Lib.hid (putM_same hbt)
        clear hbt q2
        go_wp2_with fail
        go_roundw
        case rel => exact ⟨k + 1, by omega, by go_num, B5, K15, by rw [HE.out, HM.out]; exact K25⟩
        case measure => simp [intOf]; omega
      | false =>
        obtain ⟨lo, hlo⟩ : ∃ lo : Nat, lo = M % 2 ^ 64 := ⟨_, rfl⟩
        obtain ⟨hi, hhi⟩ : ∃ hi : Nat, hi = M / 2 ^ 64 := ⟨_, rfl⟩
        have ec : (cM M).toArray = #[.int .u64 (lo : Int), .int .u64 (hi : Int)] := by rw [hlo, hhi]; rfl
        rw [ec] at K25
        have c0 : wb.cell? ⟨z + 1, 0, none⟩ = some (.int .u64 (lo : Int)) := by rw [cell_of_row wb _ 0 _ _ _ K25.out]; rfl
        have c1 : wb.cell? ⟨z + 1, 1, none⟩ = some (.int .u64 (hi : Int)) := by rw [cell_of_row wb _ 1 _ _ _ K25.out]; rfl
        have HC : ∀ w5, Below wb.heap.size wb w5 → w5.cell? ⟨b0, o0 + k, none⟩ = some (.int .i64 (x : Int)) ∧ w5.cell? ⟨z + 1, 0, none⟩ = some (.int .u64 (lo : Int)) ∧ w5.cell? ⟨z + 1, 1, none⟩ = some (.int .u64 (hi : Int)) := fun w5 h5 => ⟨bcell h5 q2, bcell h5 c0, bcell h5 c1⟩
        have hlo64 : lo < 18446744073709551616 := by rw [hlo]; exact Nat.mod_lt _ (by omega)
        have hhi64 : hi < 18446744073709551616 := by have := M8.out; rw [hhi]; omega
        clear q2 c0 c1
        by_cases h64 : x < 64
        · have gq : IntKind.i64.wrap ((x : Int) / 64) = 0 := by rw [show (x : Int) / 64 = 0 by omega]; rfl
          have gq2 : Int.tdiv (x : Int) 64 = 0 := by rw [Int.tdiv_eq_ediv_of_nonneg (by omega)]; omega
          have gm : Int.tmod (x : Int) 64 = x := by rw [Int.tmod_eq_emod_of_nonneg (by omega)]; omega
          have gw : IntKind.i64.wrap (x : Int) = x := wrapk (by omega)
          have gn : (0 : Int) ≤ (x : Int) := by omega
          have gz : IntKind.i64.wrap 0 = 0 := rfl
          have gmin : min x 64 = x := by omega
          have HP := Lib.hid (put_lo hbt h64)
          rw [← hlo, ← hhi] at HP
          clear hlo hhi ec hbt
          go_wp2_with fail
          refine Og.Tail.walk_lit 14 [[],[],[0,1],[2,0,1],[3,2,0,1],[4,3,2,0,1],[5,4,3,2,0,1],[],[],[7,8],[9,7,8],[10,9,7,8],[11,10,9,7,8],[6,12,5,4,3,2,0,1,11,10,9,7,8],[4,0,1,2,3,5,6,7,8,9,10,11,12,13],[14,13,0,1,2,3,4,5,6,7,8,9,10,11,12]] (fun w2 => Below wb.heap.size wb w2) (fun w1 w2 => Below w1.heap.size w1 w2) (by kernel_rfl) (by kernel_rfl) (by kernel_rfl) (bdrew) ?_
          simp only [List.take_succ_cons, List.take_zero, List.drop_succ_cons, List.drop_zero]
          repeat (first | (refine Og.step_pure (fun _ => Below.refl _ _) ?_; apply Exists.intro; refine And.intro ?_ ?_; focus (intro vs w2 hC hk; have hm := HC w2 hC; revert hk; simp only [Og.KS, Og.K0, Og.Is, List.getD_cons_zero, List.getD_cons_succ, List.getD_nil, List.contains_cons, List.contains_nil, Nat.reduceAdd, Nat.reduceBEq, Bool.or_false, Bool.false_or, Bool.or_true, Bool.true_or, Bool.false_eq_true, false_implies, true_implies, true_and, and_true, forall_const]; intros; go_simp; rfl)))
          intro vs w3 hC hk
          have hm := HC w3 hC
          simp only [Og.KS, Og.K0, Og.Is, List.getD_cons_zero, List.getD_cons_succ, List.getD_nil, List.contains_cons, List.contains_nil, Nat.reduceAdd, Nat.reduceBEq, Bool.or_false, Bool.false_or, Bool.or_true, Bool.true_or, Bool.false_eq_true, false_implies, true_implies, true_and, and_true, forall_const] at hk
          simp only [hk, Act.put, List.setIfInBounds_toArray, List.set_cons_zero, List.set_cons_succ]
          clear hk
          have B6 := Lib.hid (bthen B5.out hC)
          have K16 := Lib.hid (heap_keep hC K15.out)
          have K26 := Lib.hid (heap_keep hC K25.out)
          have fz : w3.frozen? ⟨z + 1, 0, none⟩ = false := by simp [World.frozen?, K26.out]
          obtain ⟨q0, q1, q2⟩ := hm
          clear hC HC B5 K15 K25
          go_wp2_with fail
          go_roundw
          case rel =>
            have hv := shl_add HP.out.1 (Nat.mod_lt _ (by omega))
            rw [setCell_eq_setRow w3 (z + 1) 0 _ 25 (0, 0) _ K26.out, hv]
            have hH := setRow_heap w3 (z + 1) _ (#[.int .u64 (lo : Int), .int .u64 (hi : Int)].setIfInBounds 0 (.int .u64 ((putM M x % 2 ^ 64 : Nat) : Int))) 25 (0, 0) K26.out
            refine ⟨k + 1, by omega, by go_num, Lib.hid ?_, Lib.hid ?_, Lib.hid ?_⟩
            · exact B6.out.trans ⟨rfl, rfl, rfl, by simp [World.setRow], fun j hj => setRow_other w3 (z + 1) j _ (by have := HZ.out; omega)⟩
            · rw [setRow_other w3 (z + 1) z _ (by omega)]
              exact K16.out
            · rw [HE.out]
              have e : (cM (putM M x)).toArray = #[.int .u64 (lo : Int), .int .u64 (hi : Int)].setIfInBounds 0 (.int .u64 ((putM M x % 2 ^ 64 : Nat) : Int)) := by
                rw [HP.out.2]; rfl
              rw [e]
              exact hH
          case measure => simp [intOf]; omega
        · obtain ⟨m, hxm⟩ : ∃ m, x = 64 + m := ⟨x - 64, by omega⟩
          have hm64 : m < 64 := by have := X8.out; omega
          have gq : IntKind.i64.wrap ((x : Int) / 64) = 1 := by rw [show (x : Int) / 64 = 1 by omega]; rfl
          have gq2 : Int.tdiv (x : Int) 64 = 1 := by rw [Int.tdiv_eq_ediv_of_nonneg (by omega)]; omega
          have gm : Int.tmod (x : Int) 64 = m := by rw [Int.tmod_eq_emod_of_nonneg (by omega)]; omega
          have gw : IntKind.i64.wrap (m : Int) = m := wrapk (by omega)
          have gn : (0 : Int) ≤ (m : Int) := by omega
          have gz : IntKind.i64.wrap 1 = 1 := rfl
          have gmin : min m 64 = m := by omega
          have HP := Lib.hid (put_hi hbt (show 64 ≤ x by omega))
          rw [← hlo, ← hhi, show x - 64 = m by omega] at HP
          have M28 : Hid (putM M x / 2 ^ 64 < 18446744073709551616) := Lib.hid (by have := putM_lt M8.out X8.out; omega)
          clear hlo hhi ec hbt hxm
          go_wp2_with fail
          refine Og.Tail.walk_lit 14 [[],[],[0,1],[2,0,1],[3,2,0,1],[4,3,2,0,1],[5,4,3,2,0,1],[],[],[7,8],[9,7,8],[10,9,7,8],[11,10,9,7,8],[6,12,5,4,3,2,0,1,11,10,9,7,8],[4,0,1,2,3,5,6,7,8,9,10,11,12,13],[14,13,0,1,2,3,4,5,6,7,8,9,10,11,12]] (fun w2 => Below wb.heap.size wb w2) (fun w1 w2 => Below w1.heap.size w1 w2) (by kernel_rfl) (by kernel_rfl) (by kernel_rfl) (bdrew) ?_
          simp only [List.take_succ_cons, List.take_zero, List.drop_succ_cons, List.drop_zero]
          repeat (first | (refine Og.step_pure (fun _ => Below.refl _ _) ?_; apply Exists.intro; refine And.intro ?_ ?_; focus (intro vs w2 hC hk; have hm := HC w2 hC; revert hk; simp only [Og.KS, Og.K0, Og.Is, List.getD_cons_zero, List.getD_cons_succ, List.getD_nil, List.contains_cons, List.contains_nil, Nat.reduceAdd, Nat.reduceBEq, Bool.or_false, Bool.false_or, Bool.or_true, Bool.true_or, Bool.false_eq_true, false_implies, true_implies, true_and, and_true, forall_const]; intros; go_simp; rfl)))
          intro vs w3 hC hk
          have hm := HC w3 hC
          simp only [Og.KS, Og.K0, Og.Is, List.getD_cons_zero, List.getD_cons_succ, List.getD_nil, List.contains_cons, List.contains_nil, Nat.reduceAdd, Nat.reduceBEq, Bool.or_false, Bool.false_or, Bool.or_true, Bool.true_or, Bool.false_eq_true, false_implies, true_implies, true_and, and_true, forall_const] at hk
          simp only [hk, Act.put, List.setIfInBounds_toArray, List.set_cons_zero, List.set_cons_succ]
          clear hk
          have B6 := Lib.hid (bthen B5.out hC)
          have K16 := Lib.hid (heap_keep hC K15.out)
          have K26 := Lib.hid (heap_keep hC K25.out)
          have fz : w3.frozen? ⟨z + 1, 1, none⟩ = false := by simp [World.frozen?, K26.out]
          obtain ⟨q0, q1, q2⟩ := hm
          clear hC HC B5 K15 K25
          go_wp2_with fail
          go_roundw
          case rel =>
            have hv := shl_add HP.out.1 M28.out
            rw [setCell_eq_setRow w3 (z + 1) 1 _ 25 (0, 0) _ K26.out, hv]
            have hH := setRow_heap w3 (z + 1) _ (#[.int .u64 (lo : Int), .int .u64 (hi : Int)].setIfInBounds 1 (.int .u64 ((putM M x / 2 ^ 64 : Nat) : Int))) 25 (0, 0) K26.out
            refine ⟨k + 1, by omega, by go_num, Lib.hid ?_, Lib.hid ?_, Lib.hid ?_⟩
            · exact B6.out.trans ⟨rfl, rfl, rfl, by simp [World.setRow], fun j hj => setRow_other w3 (z + 1) j _ (by have := HZ.out; omega)⟩
            · rw [setRow_other w3 (z + 1) z _ (by omega)]
              exact K16.out
            · rw [HE.out]
              have e : (cM (putM M x)).toArray = #[.int .u64 (lo : Int), .int .u64 (hi : Int)].setIfInBounds 1 (.int .u64 ((putM M x / 2 ^ 64 : Nat) : Int)) := by
                rw [HP.out.2]; rfl
              rw [e]
              exact hH
          case measure => simp [intOf]; omega
    · have hkn : k = n := by omega
      have hkf : ¬ (k : Int) < (n : Int) := by omega
      have HF : Hid (ofM xs = ofM (xs.take k)) := Lib.hid (by rw [List.take_of_length_le (by rw [hkn]; exact Nat.le_of_eq HN.out.symm)])
      clear hkn hlt
      go_wp2_with (first | (refine wpList_loadL rfl 25 (.tmp 4) rfl (z + 1) 0 (.agg (cM (ofM (xs.take k))).toArray) rfl (cldM k2.out) ?_) | (refine wpList_storeN rfl 25 (.tmp 2) (.tmp 47) rfl rfl z (cM (ofM (xs.take k))).toArray rfl rfl 25 _ k1.out cinfo25s rfl (by simp [Value.oneCell', cM]) ?_; intro w9 hz9 hb9 hn9 hs9; have Z9 := Lib.hid hz9; have D9 := Lib.hid (hb.out.trans (hb9 _ (by have := HZ.out; omega))); clear hz9 hb9 hn9 hs9))
      refine bodyPost_ret (results_cell_tmp1' rfl rfl (cldM Z9.out)) rfl ?_
      exact ⟨by rw [HF.out]; rfl, D9.out⟩

end Go.Proofs.Ytpklcefiabjplaa
