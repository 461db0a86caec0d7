/- The reference: Nodes of a sound graph; conditions as stated. -/
import Derived.Test.YtpklcefiabjplaaT5
import Derived.Test.YtpklcefiabjplaaR12
namespace Go.Proofs.Ytpklcefiabjplaa
open Go.ChangeShapes Go.WideShapes Go.ChangeAt Go.RowKit
set_option linter.unusedVariables false
set_option linter.unusedSimpArgs false
attribute [local go_sem] Og.Opt Og.OpY

attribute [local go_sem] Og.Opt Og.OpY
set_option maxRecDepth 100000 in
set_option maxHeartbeats 8000000 in
theorem rNodes_ok (xs : List Int) (v : Value) (ns : List Nd) (ls : List Lk) (va vb vc : Value) (w : World) (g : GX w va vb vc ns ls) (hs : Sl cI 1 0 w v xs) (hl : xs.length ≤ 1000) (hx : ∀ x ∈ xs, ∃ n ∈ ns, n.i = x) :
    Calls Try.prog 24 #[.agg #[va, vb, vc], v] w fun e w' => e = .returned (.int .i64 0) ∧ Below w.heap.size w w' := by
  have HCK := Lib.hid (fun w2 (hb : Below w.heap.size w w2) => rCheck_ok ns ls va vb vc w2 (g.sa.below hb) (g.sb.below hb) (g.sc.below hb) g.snd g.len)
  have HFN := Lib.hid (fun w2 (hb : Below w.heap.size w w2) (a : Int) => rFindNode_ok ns ls va vb vc a w2 (g.sa.below hb) (by have := g.len; omega))
  obtain ⟨A, c, rfl, hr, -⟩ := hs
  obtain ⟨n, hn⟩ : ∃ n, n = xs.length := ⟨_, rfl⟩
  rw [← hn] at hl ⊢
  have HN := Lib.hid hn
  have HR := Lib.hid hr
  have HX : Hid (∀ x ∈ xs, rng 0 127 x = true ∧ ¬ fndN ns x < 0) := Lib.hid fun x hm => by
    refine ⟨?_, fndN_nn (hx x hm)⟩
    exact g.snd.at (hx x hm)
  obtain ⟨z, hz⟩ : ∃ z, z = w.heap.size := ⟨_, rfl⟩
  have b1 : Below w.heap.size w (w.alloc (.cells #[va, vb, vc] 33)) := (Below.refl _ _).alloc (Nat.le_refl _) _
  have k1 : (w.alloc (.cells #[va, vb, vc] 33)).heap[z]? = some (.cells #[va, vb, vc] 33 (0, 0)) := heap_at hz
  clear hn hr hx g
  go_enter Try.func24, Try.ntmps24
  have HZ := Lib.hid hz
  clear hz
  have K1 := Lib.hid k1
  have B1 := Lib.hid b1
  clear k1 b1
  go_wp2_with (refine wpList_loadL rfl 33 (.tmp 2) rfl w.heap.size 0 (.agg #[va, vb, vc]) rfl (run_loadL (cs := [va, vb, vc]) isAgg33 size33 rfl (AtL_heap (by rw [← HZ.out]; exact K1.out))) ?_)
  rw [← HZ.out]
  with_reducible refine (HCK.out _ B1.out).mono ?_
  rintro e wa ⟨rfl, hb⟩
  have BA := Lib.hid (bthen B1.out hb)
  have KA := Lib.hid (heap_keep hb K1.out)
  clear hb B1 K1 HCK
  go_wp2_with fail
  go_loopw [5] (fun i wr => ∃ k : Nat, k ≤ n ∧ i = .int .i64 k ∧ Hid (Below wa.heap.size wa wr)) (fun i _ => n - (intOf i).toNat)
  case atStart => exact ⟨0, Nat.zero_le _, rfl, Lib.hid (Below.refl _ _)⟩
  case round =>
    obtain ⟨k, hk, rfl, hbo⟩ := hrel
    by_cases hlt : k < n
    · have hwk1 : IntKind.i64.wrap ((k : Int) + 1) = (k : Int) + 1 := by rw [IntKind.wrap_i64]; omega
      have hk0 : (0 : Int) ≤ (k : Int) := by omega
      have hkn : (k : Int) < (n : Int) := by omega
      obtain ⟨x, hxk⟩ : ∃ x, xs[k]? = some x := ⟨_, List.getElem?_eq_getElem (by rw [← HN.out]; exact hlt)⟩
      obtain ⟨b0, o0, rfl, hat⟩ := HR.out k x hxk
      have hx8 := (HX.out x (List.mem_of_getElem? hxk)).1
      have q0 : w.cell? ⟨b0, o0 + k, none⟩ = some (.int .i64 x) := by
        have := hat 0 (.int .i64 x) rfl
        rwa [Nat.add_zero, Nat.mul_one] at this
      have q1 := bcell (bthen BA.out hbo.out) q0
      have HIN : Hid (∀ w, Calls Try.prog 54 #[.int .i64 x] w fun e w' => e = .returned (.bool true) ∧ Below w.heap.size w w') := Lib.hid (fun w => by have := rIn_ok x w; rwa [hx8] at this)
      clear hxk hat q0 hx8
      go_wp2_with fail
      with_reducible refine (HIN.out _).mono ?_
      rintro e w3 ⟨rfl, hb3⟩
      have B3 := Lib.hid (bthen hbo.out hb3)
      clear hb3 q1
      go_wp2_with fail
      go_roundw
      case rel => exact ⟨k + 1, by omega, by go_num, B3⟩
      case measure => simp [intOf]; omega
    · have hkn : k = n := by omega
      subst hkn
      have hkf : ¬ ((k : Int) < (k : Int)) := by omega
      have BO := Lib.hid hbo.out
      obtain ⟨n, rfl⟩ : ∃ n : Nat, n = k := ⟨_, rfl⟩
      clear hbo hlt hk
      go_wp2_with fail
      clear hkf
      go_loopw [6] (fun i wr => ∃ k : Nat, k ≤ n ∧ i = .int .i64 k ∧ Hid (Below wa.heap.size wa wr)) (fun i _ => n - (intOf i).toNat)
      case atStart => exact ⟨0, Nat.zero_le _, rfl, BO⟩
      case round =>
        clear BO
        obtain ⟨k, hk, rfl, hbo⟩ := hrel
        by_cases hlt : k < n
        · have hwk1 : IntKind.i64.wrap ((k : Int) + 1) = (k : Int) + 1 := by rw [IntKind.wrap_i64]; omega
          have hk0 : (0 : Int) ≤ (k : Int) := by omega
          have hkn : (k : Int) < (n : Int) := by omega
          obtain ⟨x, hxk⟩ : ∃ x, xs[k]? = some x := ⟨_, List.getElem?_eq_getElem (by rw [← HN.out]; exact hlt)⟩
          obtain ⟨b0, o0, rfl, hat⟩ := HR.out k x hxk
          have hxf := (HX.out x (List.mem_of_getElem? hxk)).2
          have q0 : w.cell? ⟨b0, o0 + k, none⟩ = some (.int .i64 x) := by
            have := hat 0 (.int .i64 x) rfl
            rwa [Nat.add_zero, Nat.mul_one] at this
          have q1 := bcell (bthen BA.out hbo.out) q0
          have HC : ∀ w2, Below wr.heap.size wr w2 → w2.cell? ⟨b0, o0 + k, none⟩ = some (.int .i64 x) := fun w2 h => bcell h q1
          obtain ⟨kf, hkf⟩ : ∃ kf : Nat, fndN ns x = (kf : Int) := ⟨(fndN ns x).toNat, by omega⟩
          have dkf : decide ((kf : Int) < 0) = false := decide_eq_false (by omega)
          have KR := Lib.hid (heap_keep hbo.out KA.out)
          have HF : Hid (∀ w2, Below wr.heap.size wr w2 → Calls Try.prog 55 #[.agg #[va, vb, vc], .int .i64 x] w2 fun e w' => e = .returned (.int .i64 (kf : Int)) ∧ Below w2.heap.size w2 w') := Lib.hid (fun w2 hb => by have := HFN.out w2 (bthen BA.out (bthen hbo.out hb)) x; rwa [hkf] at this)
          have HLG : Hid (∀ w2, Below wr.heap.size wr w2 → (loadVar 33 ⟨z, 0, none⟩).run Try.prog w2 = .ok (.agg #[va, vb, vc]) w2) := Lib.hid fun w2 h => run_loadL (cs := [va, vb, vc]) isAgg33 size33 rfl (AtL_heap (heap_keep h KR.out))
          clear hxk hat q0 hxf hkf q1
          go_wp2_with fail
          refine Og.walk_lit [[],[],[],[1,2],[3,1,2],[0,4,3,1,2],[5,0,4,3,1,2]] (fun w2 => Below wr.heap.size wr w2) (fun w1 w2 => Below w1.heap.size w1 w2) (by kernel_rfl) (by kernel_rfl) (bdrew) ?_
          refine Og.step_pure (fun _ => Below.refl _ _) ?_; apply Exists.intro; refine And.intro ?_ ?_; focus (intro vs w2 hC hk; have hl := HLG.out w2 hC; refine Og.OptB.out ?_; revert hk; simp only [Og.KS, Og.K0, Og.Is, List.getD_cons_zero, List.getD_cons_succ, List.getD_nil, List.contains_cons, List.contains_nil, Nat.reduceAdd, Nat.reduceBEq, Bool.or_false, Bool.false_or, Bool.or_true, Bool.true_or, Bool.false_eq_true, false_implies, true_implies, true_and, and_true, forall_const]; intros; exact optB_loadL (by go_simp) rfl (by go_simp) hl ⟨rfl, rfl⟩)
          iterate 4 (refine Og.step_pure (fun _ => Below.refl _ _) ?_; apply Exists.intro; refine And.intro ?_ ?_; focus (intro vs w2 hC hk; have hm := HC w2 hC; revert hk; simp only [Og.KS, Og.K0, Og.Is, List.getD_cons_zero, List.getD_cons_succ, List.getD_nil, List.contains_cons, List.contains_nil, Nat.reduceAdd, Nat.reduceBEq, Bool.or_false, Bool.false_or, Bool.or_true, Bool.true_or, Bool.false_eq_true, false_implies, true_implies, true_and, and_true, forall_const]; intros; go_simp; rfl))
          refine Og.step_one ?_; apply Exists.intro; refine And.intro ?_ ?_; focus (intro vs w2 hC hk; have hm := HC w2 hC; revert hk; simp only [Og.KS, Og.K0, Og.Is, List.getD_cons_zero, List.getD_cons_succ, List.getD_nil, List.contains_cons, List.contains_nil, Nat.reduceAdd, Nat.reduceBEq, Bool.or_false, Bool.false_or, Bool.or_true, Bool.true_or, Bool.false_eq_true, false_implies, true_implies, true_and, and_true, forall_const]; intros; go_simp; with_reducible refine (HF.out _ hC).mono ?_; rintro e w3 ⟨rfl, hb⟩; exact Og.RetV.mk ⟨bthen hC hb, hb, rfl⟩)
          refine Og.step_pure (fun _ => Below.refl _ _) ?_; apply Exists.intro; refine And.intro ?_ ?_; focus (intro vs w2 hC hk; have hm := HC w2 hC; revert hk; simp only [Og.KS, Og.K0, Og.Is, List.getD_cons_zero, List.getD_cons_succ, List.getD_nil, List.contains_cons, List.contains_nil, Nat.reduceAdd, Nat.reduceBEq, Bool.or_false, Bool.false_or, Bool.or_true, Bool.true_or, Bool.false_eq_true, false_implies, true_implies, true_and, and_true, forall_const]; intros; go_simp; rfl)
          intro vs w2 hC hk
          have hm := HC w2 hC
          simp only [Og.KS, Og.K0, Og.Is, List.getD_cons_zero, List.getD_cons_succ, List.getD_nil, List.contains_cons, List.contains_nil, Nat.reduceAdd, Nat.reduceBEq, Bool.or_false, Bool.false_or, Bool.or_true, Bool.true_or, Bool.false_eq_true, false_implies, true_implies, true_and, and_true, forall_const] at hk
          simp only [hk, Act.put, List.setIfInBounds_toArray, List.set_cons_zero, List.set_cons_succ]
          clear hk
          have B3 := Lib.hid (bthen hbo.out hC)
          clear hC HC hm
          go_wp2_with fail
          go_roundw
          case rel => exact ⟨k + 1, by omega, by go_num, B3⟩
          case measure => simp [intOf]; omega
        · have hkn : k = n := by omega
          have hkf : ¬ ((k : Int) < (n : Int)) := by omega
          have BF := Lib.hid (bthen BA.out hbo.out)
          go_wp2_with fail
          go_ret
          exact ⟨rfl, BF.out⟩

end Go.Proofs.Ytpklcefiabjplaa
