/- Rings: whether a way goes by a link; a link of a sound graph; conditions as stated. -/
import Derived.Test.YtpklcefiabjplaaR12
namespace Go.Proofs.Ytpklcefiabjplaa
open Go.ChangeShapes Go.WideShapes Go.ChangeAt Go.RowKit
set_option linter.unusedVariables false
set_option linter.unusedSimpArgs false
attribute [local go_sem] Og.Opt Og.OpY

attribute [local go_sem] Og.Opt Og.OpY
def takesP (c ab af tb : Int) : Bool := !decide (clp ab < clp (dsum (dsum af c) tb))
set_option maxRecDepth 100000 in
set_option maxHeartbeats 8000000 in
theorem takes_ok (V : Nat) (vs : List Value) (xss : List (List Lk)) (f t : Nat) (c d a b ab af tb : Int) (w : World) (H : Vw V w vs xss) (hf : f < 128) (ht : t < 128) :
    Calls Try.prog 49 #[.pointer (some ⟨V, 0, none⟩), .agg #[.int .i64 f, .int .i64 t, .int .i64 c, .int .i64 d], .int .i64 a, .int .i64 b, .int .i64 ab, .int .i64 af, .int .i64 tb] w fun e w' => e = .returned (.bool (takesP c ab af tb)) ∧ Below w.heap.size w w' := by
  have HS1 := Lib.hid (fun w => Sum_ok af c w)
  have HS2 := Lib.hid (fun w => Sum_ok (dsum af c) tb w)
  have HLS := Lib.hid (fun w => Less_ok ab (dsum (dsum af c) tb) w)
  have hf0 : (0 : Int) ≤ (f : Int) := by omega
  have hf1 : (f : Int) < 128 := by omega
  have ht0 : (0 : Int) ≤ (t : Int) := by omega
  have ht1 : (t : Int) < 128 := by omega
  have ba : Below w.heap.size w (w.alloc (.cells #[.int .i64 f, .int .i64 t, .int .i64 c, .int .i64 d] 43)) := (Below.refl _ _).alloc (Nat.le_refl _) _
  have q0 : ∀ j u, [Value.int .i64 f, .int .i64 t, .int .i64 c, .int .i64 d][j]? = some u → (w.alloc (.cells #[.int .i64 f, .int .i64 t, .int .i64 c, .int .i64 d] 43)).cell? ⟨w.heap.size, j, none⟩ = some u := fun j u hu => by
    rw [cell_of_row _ _ j _ _ _ (heap_at rfl)]; simpa using hu
  have c0 := q0 0 _ rfl
  have c1 := q0 1 _ rfl
  have c2 := q0 2 _ rfl
  have o0 := bcell ba (H.over hf)
  have o1 := bcell ba (H.over ht)
  have BA := Lib.hid ba
  clear q0 ba H hf ht
  go_enter Try.func49, Try.ntmps49
  go_wp2_with fail
  generalize hW : w.alloc (.cells #[.int .i64 f, .int .i64 t, .int .i64 c, .int .i64 d] 43) = wa at *
  have HC : ∀ w5, Below wa.heap.size wa w5 → w5.cell? ⟨w.heap.size, 0, none⟩ = some (.int .i64 f) ∧ w5.cell? ⟨w.heap.size, 1, none⟩ = some (.int .i64 t) ∧ w5.cell? ⟨w.heap.size, 2, none⟩ = some (.int .i64 c) ∧ w5.cell? ⟨V, f, none⟩ = some (.bool false) ∧ w5.cell? ⟨V, t, none⟩ = some (.bool false) := fun w5 h5 => ⟨bcell h5 c0, bcell h5 c1, bcell h5 c2, bcell h5 o0, bcell h5 o1⟩
  clear hW c0 c1 c2 o0 o1
  by_cases h1 : a = (f : Int) <;> by_cases h2 : b = (t : Int)
  · have hb1 : ((f : Int) = a) = True := eq_true (by omega)
    have hb2 : ((t : Int) = b) = True := eq_true (by omega)
    clear h1 h2
    refine Og.walk_lit [[],[0],[],[1,2,0],[3,1,2,0],[4,3,1,2,0],[4,3,1,2,0],[6,4,3,1,2,0],[5,4,3,1,2,0],[8,4,5,3,1,2,0],[9,7,4,8,5,3,1,2,0,6],[10,4,9,7,8,5,3,1,2,0,6],[4,11,3,1,2,0,10,9,7,8,5,6],[12,4,11,3,1,2,0,10,9,7,8,5,6],[13,12,4,11,3,1,2,0,10,9,7,8,5,6],[14,13,12,4,11,3,1,2,0,10,9,7,8,5,6],[13,12,4,11,3,1,2,0,10,9,7,8,5,6],[15,16,13,14,12,4,11,3,1,2,0,10,9,7,8,5,6],[17,13,15,16,14,12,4,11,3,1,2,0,10,9,7,8,5,6],[18,17,13,15,16,14,12,4,11,3,1,2,0,10,9,7,8,5,6],[18,17,13,15,16,14,12,4,11,3,1,2,0,10,9,7,8,5,6],[20,18,17,13,15,16,14,12,4,11,3,1,2,0,10,9,7,8,5,6],[19,18,17,13,15,16,14,12,4,11,3,1,2,0,10,9,7,8,5,6],[22,18,19,17,13,15,16,14,12,4,11,3,1,2,0,10,9,7,8,5,6],[23,21,18,22,19,17,13,15,16,14,12,4,11,3,1,2,0,10,9,7,8,5,6,20],[24,18,23,21,22,19,17,13,15,16,14,12,4,11,3,1,2,0,10,9,7,8,5,6,20],[18,25,13,17,15,16,14,12,4,11,3,1,2,0,10,9,7,8,5,6,24,23,21,22,19,20],[13,26,12,4,11,3,1,2,0,10,9,7,8,5,6,18,25,17,15,16,14,24,23,21,22,19,20]] (fun w2 => Below wa.heap.size wa w2) (fun w1 w2 => Below w1.heap.size w1 w2) (by kernel_rfl) (by kernel_rfl) (bdrew) ?_
    iterate 28 (refine Og.step_pure (fun _ => Below.refl _ _) ?_; apply Exists.intro; refine And.intro ?_ ?_; focus (intro vs w2 hC hk; have hm := HC w2 hC; revert hk; simp only [Og.KS, Og.K0, Og.Is, List.getD_cons_zero, List.getD_cons_succ, List.getD_nil, List.contains_cons, List.contains_nil, Nat.reduceAdd, Nat.reduceBEq, Bool.or_false, Bool.false_or, Bool.or_true, Bool.true_or, Bool.false_eq_true, false_implies, true_implies, true_and, and_true, forall_const]; intros; go_simp; exact rfl))
    intro vS wb hC hk
    have hm := HC wb hC
    simp only [Og.KS, Og.K0, Og.Is, List.getD_cons_zero, List.getD_cons_succ, List.getD_nil, List.contains_cons, List.contains_nil, Nat.reduceAdd, Nat.reduceBEq, Bool.or_false, Bool.false_or, Bool.or_true, Bool.true_or, Bool.false_eq_true, false_implies, true_implies, true_and, and_true, forall_const] at hk
    simp only [hk, Act.put, List.setIfInBounds_toArray, List.set_cons_zero, List.set_cons_succ]
    obtain ⟨-, -, m2, -, -⟩ := hm
    have BB := Lib.hid (bthen BA.out hC)
    clear hk hC HC hb1 hb2
    go_wp2_with fail
    with_reducible refine (HS1.out _).mono ?_
    rintro e w3 ⟨rfl, hb⟩
    have B3 := Lib.hid (bthen BB.out hb)
    clear hb m2
    go_wp2_with fail
    with_reducible refine (HS2.out _).mono ?_
    rintro e w4 ⟨rfl, hb⟩
    have B4 := Lib.hid (bthen B3.out hb)
    clear hb
    go_wp2_with fail
    with_reducible refine (HLS.out _).mono ?_
    rintro e w5 ⟨rfl, hb⟩
    have B5 := Lib.hid (bthen B4.out hb)
    clear hb
    go_wp2_with fail
    go_ret
    exact ⟨rfl, B5.out⟩
  · have hb1 : ((f : Int) = a) = True := eq_true (by omega)
    have hb2 : ((t : Int) = b) = False := eq_false (by omega)
    clear h1 h2
    refine Og.walk_lit [[],[0],[],[1,2,0],[3,1,2,0],[4,3,1,2,0],[4,3,1,2,0],[6,4,3,1,2,0],[5,4,3,1,2,0],[8,4,5,3,1,2,0],[9,7,4,8,5,3,1,2,0,6],[10,4,9,7,8,5,3,1,2,0,6],[4,11,3,1,2,0,10,9,7,8,5,6],[12,4,11,3,1,2,0,10,9,7,8,5,6],[13,12,4,11,3,1,2,0,10,9,7,8,5,6],[14,13,12,4,11,3,1,2,0,10,9,7,8,5,6],[13,12,4,11,3,1,2,0,10,9,7,8,5,6],[15,16,13,14,12,4,11,3,1,2,0,10,9,7,8,5,6],[17,13,15,16,14,12,4,11,3,1,2,0,10,9,7,8,5,6],[18,17,13,15,16,14,12,4,11,3,1,2,0,10,9,7,8,5,6],[18,17,13,15,16,14,12,4,11,3,1,2,0,10,9,7,8,5,6],[20,18,17,13,15,16,14,12,4,11,3,1,2,0,10,9,7,8,5,6],[19,18,17,13,15,16,14,12,4,11,3,1,2,0,10,9,7,8,5,6],[22,18,19,17,13,15,16,14,12,4,11,3,1,2,0,10,9,7,8,5,6],[23,21,18,22,19,17,13,15,16,14,12,4,11,3,1,2,0,10,9,7,8,5,6,20],[24,18,23,21,22,19,17,13,15,16,14,12,4,11,3,1,2,0,10,9,7,8,5,6,20],[18,25,13,17,15,16,14,12,4,11,3,1,2,0,10,9,7,8,5,6,24,23,21,22,19,20],[13,26,12,4,11,3,1,2,0,10,9,7,8,5,6,18,25,17,15,16,14,24,23,21,22,19,20]] (fun w2 => Below wa.heap.size wa w2) (fun w1 w2 => Below w1.heap.size w1 w2) (by kernel_rfl) (by kernel_rfl) (bdrew) ?_
    iterate 28 (refine Og.step_pure (fun _ => Below.refl _ _) ?_; apply Exists.intro; refine And.intro ?_ ?_; focus (intro vs w2 hC hk; have hm := HC w2 hC; revert hk; simp only [Og.KS, Og.K0, Og.Is, List.getD_cons_zero, List.getD_cons_succ, List.getD_nil, List.contains_cons, List.contains_nil, Nat.reduceAdd, Nat.reduceBEq, Bool.or_false, Bool.false_or, Bool.or_true, Bool.true_or, Bool.false_eq_true, false_implies, true_implies, true_and, and_true, forall_const]; intros; go_simp; exact rfl))
    intro vS wb hC hk
    have hm := HC wb hC
    simp only [Og.KS, Og.K0, Og.Is, List.getD_cons_zero, List.getD_cons_succ, List.getD_nil, List.contains_cons, List.contains_nil, Nat.reduceAdd, Nat.reduceBEq, Bool.or_false, Bool.false_or, Bool.or_true, Bool.true_or, Bool.false_eq_true, false_implies, true_implies, true_and, and_true, forall_const] at hk
    simp only [hk, Act.put, List.setIfInBounds_toArray, List.set_cons_zero, List.set_cons_succ]
    obtain ⟨-, -, m2, -, -⟩ := hm
    have BB := Lib.hid (bthen BA.out hC)
    clear hk hC HC hb1 hb2
    go_wp2_with fail
    with_reducible refine (HS1.out _).mono ?_
    rintro e w3 ⟨rfl, hb⟩
    have B3 := Lib.hid (bthen BB.out hb)
    clear hb m2
    go_wp2_with fail
    with_reducible refine (HS2.out _).mono ?_
    rintro e w4 ⟨rfl, hb⟩
    have B4 := Lib.hid (bthen B3.out hb)
    clear hb
    go_wp2_with fail
    with_reducible refine (HLS.out _).mono ?_
    rintro e w5 ⟨rfl, hb⟩
    have B5 := Lib.hid (bthen B4.out hb)
    clear hb
    go_wp2_with fail
    go_ret
    exact ⟨rfl, B5.out⟩
  · have hb1 : ((f : Int) = a) = False := eq_false (by omega)
    have hb2 : ((t : Int) = b) = True := eq_true (by omega)
    clear h1 h2
    refine Og.walk_lit [[],[0],[],[1,2,0],[3,1,2,0],[4,3,1,2,0],[4,3,1,2,0],[6,4,3,1,2,0],[5,4,3,1,2,0],[8,4,5,3,1,2,0],[9,7,4,8,5,3,1,2,0,6],[10,4,9,7,8,5,3,1,2,0,6],[4,11,3,1,2,0,10,9,7,8,5,6],[12,4,11,3,1,2,0,10,9,7,8,5,6],[13,12,4,11,3,1,2,0,10,9,7,8,5,6],[14,13,12,4,11,3,1,2,0,10,9,7,8,5,6],[13,12,4,11,3,1,2,0,10,9,7,8,5,6],[15,16,13,14,12,4,11,3,1,2,0,10,9,7,8,5,6],[17,13,15,16,14,12,4,11,3,1,2,0,10,9,7,8,5,6],[18,17,13,15,16,14,12,4,11,3,1,2,0,10,9,7,8,5,6],[18,17,13,15,16,14,12,4,11,3,1,2,0,10,9,7,8,5,6],[20,18,17,13,15,16,14,12,4,11,3,1,2,0,10,9,7,8,5,6],[19,18,17,13,15,16,14,12,4,11,3,1,2,0,10,9,7,8,5,6],[22,18,19,17,13,15,16,14,12,4,11,3,1,2,0,10,9,7,8,5,6],[23,21,18,22,19,17,13,15,16,14,12,4,11,3,1,2,0,10,9,7,8,5,6,20],[24,18,23,21,22,19,17,13,15,16,14,12,4,11,3,1,2,0,10,9,7,8,5,6,20],[18,25,13,17,15,16,14,12,4,11,3,1,2,0,10,9,7,8,5,6,24,23,21,22,19,20],[13,26,12,4,11,3,1,2,0,10,9,7,8,5,6,18,25,17,15,16,14,24,23,21,22,19,20]] (fun w2 => Below wa.heap.size wa w2) (fun w1 w2 => Below w1.heap.size w1 w2) (by kernel_rfl) (by kernel_rfl) (bdrew) ?_
    iterate 28 (refine Og.step_pure (fun _ => Below.refl _ _) ?_; apply Exists.intro; refine And.intro ?_ ?_; focus (intro vs w2 hC hk; have hm := HC w2 hC; revert hk; simp only [Og.KS, Og.K0, Og.Is, List.getD_cons_zero, List.getD_cons_succ, List.getD_nil, List.contains_cons, List.contains_nil, Nat.reduceAdd, Nat.reduceBEq, Bool.or_false, Bool.false_or, Bool.or_true, Bool.true_or, Bool.false_eq_true, false_implies, true_implies, true_and, and_true, forall_const]; intros; go_simp; exact rfl))
    intro vS wb hC hk
    have hm := HC wb hC
    simp only [Og.KS, Og.K0, Og.Is, List.getD_cons_zero, List.getD_cons_succ, List.getD_nil, List.contains_cons, List.contains_nil, Nat.reduceAdd, Nat.reduceBEq, Bool.or_false, Bool.false_or, Bool.or_true, Bool.true_or, Bool.false_eq_true, false_implies, true_implies, true_and, and_true, forall_const] at hk
    simp only [hk, Act.put, List.setIfInBounds_toArray, List.set_cons_zero, List.set_cons_succ]
    obtain ⟨-, -, m2, -, -⟩ := hm
    have BB := Lib.hid (bthen BA.out hC)
    clear hk hC HC hb1 hb2
    go_wp2_with fail
    with_reducible refine (HS1.out _).mono ?_
    rintro e w3 ⟨rfl, hb⟩
    have B3 := Lib.hid (bthen BB.out hb)
    clear hb m2
    go_wp2_with fail
    with_reducible refine (HS2.out _).mono ?_
    rintro e w4 ⟨rfl, hb⟩
    have B4 := Lib.hid (bthen B3.out hb)
    clear hb
    go_wp2_with fail
    with_reducible refine (HLS.out _).mono ?_
    rintro e w5 ⟨rfl, hb⟩
    have B5 := Lib.hid (bthen B4.out hb)
    clear hb
    go_wp2_with fail
    go_ret
    exact ⟨rfl, B5.out⟩
  · have hb1 : ((f : Int) = a) = False := eq_false (by omega)
    have hb2 : ((t : Int) = b) = False := eq_false (by omega)
    clear h1 h2
    refine Og.walk_lit [[],[0],[],[1,2,0],[3,1,2,0],[4,3,1,2,0],[4,3,1,2,0],[6,4,3,1,2,0],[5,4,3,1,2,0],[8,4,5,3,1,2,0],[9,7,4,8,5,3,1,2,0,6],[10,4,9,7,8,5,3,1,2,0,6],[4,11,3,1,2,0,10,9,7,8,5,6],[12,4,11,3,1,2,0,10,9,7,8,5,6],[13,12,4,11,3,1,2,0,10,9,7,8,5,6],[14,13,12,4,11,3,1,2,0,10,9,7,8,5,6],[13,12,4,11,3,1,2,0,10,9,7,8,5,6],[15,16,13,14,12,4,11,3,1,2,0,10,9,7,8,5,6],[17,13,15,16,14,12,4,11,3,1,2,0,10,9,7,8,5,6],[18,17,13,15,16,14,12,4,11,3,1,2,0,10,9,7,8,5,6],[18,17,13,15,16,14,12,4,11,3,1,2,0,10,9,7,8,5,6],[20,18,17,13,15,16,14,12,4,11,3,1,2,0,10,9,7,8,5,6],[19,18,17,13,15,16,14,12,4,11,3,1,2,0,10,9,7,8,5,6],[22,18,19,17,13,15,16,14,12,4,11,3,1,2,0,10,9,7,8,5,6],[23,21,18,22,19,17,13,15,16,14,12,4,11,3,1,2,0,10,9,7,8,5,6,20],[24,18,23,21,22,19,17,13,15,16,14,12,4,11,3,1,2,0,10,9,7,8,5,6,20],[18,25,13,17,15,16,14,12,4,11,3,1,2,0,10,9,7,8,5,6,24,23,21,22,19,20],[13,26,12,4,11,3,1,2,0,10,9,7,8,5,6,18,25,17,15,16,14,24,23,21,22,19,20]] (fun w2 => Below wa.heap.size wa w2) (fun w1 w2 => Below w1.heap.size w1 w2) (by kernel_rfl) (by kernel_rfl) (bdrew) ?_
    iterate 28 (refine Og.step_pure (fun _ => Below.refl _ _) ?_; apply Exists.intro; refine And.intro ?_ ?_; focus (intro vs w2 hC hk; have hm := HC w2 hC; revert hk; simp only [Og.KS, Og.K0, Og.Is, List.getD_cons_zero, List.getD_cons_succ, List.getD_nil, List.contains_cons, List.contains_nil, Nat.reduceAdd, Nat.reduceBEq, Bool.or_false, Bool.false_or, Bool.or_true, Bool.true_or, Bool.false_eq_true, false_implies, true_implies, true_and, and_true, forall_const]; intros; go_simp; exact rfl))
    intro vS wb hC hk
    have hm := HC wb hC
    simp only [Og.KS, Og.K0, Og.Is, List.getD_cons_zero, List.getD_cons_succ, List.getD_nil, List.contains_cons, List.contains_nil, Nat.reduceAdd, Nat.reduceBEq, Bool.or_false, Bool.false_or, Bool.or_true, Bool.true_or, Bool.false_eq_true, false_implies, true_implies, true_and, and_true, forall_const] at hk
    simp only [hk, Act.put, List.setIfInBounds_toArray, List.set_cons_zero, List.set_cons_succ]
    obtain ⟨-, -, m2, -, -⟩ := hm
    have BB := Lib.hid (bthen BA.out hC)
    clear hk hC HC hb1 hb2
    go_wp2_with fail
    with_reducible refine (HS1.out _).mono ?_
    rintro e w3 ⟨rfl, hb⟩
    have B3 := Lib.hid (bthen BB.out hb)
    clear hb m2
    go_wp2_with fail
    with_reducible refine (HS2.out _).mono ?_
    rintro e w4 ⟨rfl, hb⟩
    have B4 := Lib.hid (bthen B3.out hb)
    clear hb
    go_wp2_with fail
    with_reducible refine (HLS.out _).mono ?_
    rintro e w5 ⟨rfl, hb⟩
    have B5 := Lib.hid (bthen B4.out hb)
    clear hb
    go_wp2_with fail
    go_ret
    exact ⟨rfl, B5.out⟩
set_option maxRecDepth 100000 in
set_option maxHeartbeats 8000000 in
theorem Link_ok (f t : Int) (k0 ka kb : Nat) (c d : Int) (ns : List Nd) (ls : List Lk) (va vb vc : Value) (w : World) (g : GX w va vb vc ns ls) (hk : ls[k0]? = some ⟨f, t, c, d⟩) (hat : At (fun x => cmpL x ⟨f, t, 0, 0⟩) ls k0 true) (hka : ns[ka]? = some ⟨f⟩) (hkb : ns[kb]? = some ⟨t⟩) :
    Calls Try.prog 46 #[.agg #[va, vb, vc], .int .i64 f, .int .i64 t] w fun e w' => e = .returned (.tuple #[.agg #[.int .i64 f, .int .i64 t, .int .i64 c, .int .i64 d], .int .i64 0]) ∧ Below w.heap.size w w' := by
  obtain ⟨z, hz⟩ : ∃ z, z = w.heap.size := ⟨_, rfl⟩
  have GG := Lib.hid g
  have HK := Lib.hid hk
  have HKA := Lib.hid hka
  have HKB := Lib.hid hkb
  have HL := Lib.hid (fun w2 (g2 : GX w2 va vb vc ns ls) => linkAt_ok ls f t va vb vc w2 g2.sb (by have := g2.snd.ll; omega) hat.mo)
  have HCU := Lib.hid hat
  obtain ⟨A, ca, hvb, hrd, -⟩ := g.sb
  obtain ⟨n1, hn1⟩ : ∃ n, n = ls.length := ⟨_, rfl⟩
  rw [← hn1] at hvb
  subst hvb
  obtain ⟨b0, o0, rfl, hat2⟩ := hrd k0 _ hk
  have HAT := Lib.hid hat2
  have hkn : (k0 : Int) < (n1 : Int) := by have := (List.getElem?_eq_some_iff.1 hk).1; omega
  have hk0 : (0 : Int) ≤ (k0 : Int) := by omega
  have HZ := Lib.hid hz
  clear hrd hat hat2 hk g hn1 hka hkb
  go_enter Try.func46, Try.ntmps46
  go_wp2_with fail
  rw [← hz]
  clear hz
  have b1 : Below w.heap.size w (((w.alloc (.cells #[va, .slice (some ⟨b0, o0, none⟩) n1 ca, vc] 33)).alloc (.cells #[.int .i64 0, .int .i64 0, .int .i64 0, .int .i64 0] 43)).alloc (.cells #[.int .i64 f, .int .i64 t] 3)) := (((Below.refl _ _).alloc (Nat.le_refl _) _).alloc (by simp) _).alloc (by simp; omega) _
  have k0' : (((w.alloc (.cells #[va, .slice (some ⟨b0, o0, none⟩) n1 ca, vc] 33)).alloc (.cells #[.int .i64 0, .int .i64 0, .int .i64 0, .int .i64 0] 43)).alloc (.cells #[.int .i64 f, .int .i64 t] 3)).heap[z]? = some (.cells #[va, .slice (some ⟨b0, o0, none⟩) n1 ca, vc] 33 (0, 0)) := heap_keep ((Below.refl _ _).alloc (Nat.le_refl _) _) (heap_keep ((Below.refl _ _).alloc (Nat.le_refl _) _) (heap_at HZ.out))
  have k1 : (((w.alloc (.cells #[va, .slice (some ⟨b0, o0, none⟩) n1 ca, vc] 33)).alloc (.cells #[.int .i64 0, .int .i64 0, .int .i64 0, .int .i64 0] 43)).alloc (.cells #[.int .i64 f, .int .i64 t] 3)).heap[z + 1]? = some (.cells #[.int .i64 0, .int .i64 0, .int .i64 0, .int .i64 0] 43 (0, 0)) := heap_keep ((Below.refl _ _).alloc (Nat.le_refl _) _) (heap_at (by rw [HZ.out]; simp))
  have k2 : AtL (((w.alloc (.cells #[va, .slice (some ⟨b0, o0, none⟩) n1 ca, vc] 33)).alloc (.cells #[.int .i64 0, .int .i64 0, .int .i64 0, .int .i64 0] 43)).alloc (.cells #[.int .i64 f, .int .i64 t] 3)) (z + 1 + 1) 0 (dC [f, t]) := AtL_heap (heap_at (by rw [HZ.out]; simp))
  generalize (((w.alloc (.cells #[va, .slice (some ⟨b0, o0, none⟩) n1 ca, vc] 33)).alloc (.cells #[.int .i64 0, .int .i64 0, .int .i64 0, .int .i64 0] 43)).alloc (.cells #[.int .i64 f, .int .i64 t] 3)) = wa at *
  refine (gnodes_ok [f, t] ns ls va _ vc _ wa (GG.out.below b1) k2 (by simp) (fun x hx => by
    simp only [List.mem_cons, List.not_mem_nil, or_false] at hx
    rcases hx with rfl | rfl
    · exact ⟨ka, HKA.out⟩
    · exact ⟨kb, HKB.out⟩)).mono ?_
  rintro e w2 ⟨rfl, hb⟩
  have B2 := Lib.hid (bthen b1 hb)
  have K0 := Lib.hid (heap_keep hb k0')
  have K1 := Lib.hid (heap_keep hb k1)
  have HI := Lib.hid (HL.out w2 (GG.out.below B2.out))
  have c0 : w2.cell? ⟨z, 0, none⟩ = some va := by rw [cell_of_row w2 _ 0 _ _ _ K0.out]; rfl
  have c1 : w2.cell? ⟨z, 1, none⟩ = some (.slice (some ⟨b0, o0, none⟩) n1 ca) := by rw [cell_of_row w2 _ 1 _ _ _ K0.out]; rfl
  have c2 : w2.cell? ⟨z, 2, none⟩ = some vc := by rw [cell_of_row w2 _ 2 _ _ _ K0.out]; rfl
  clear b1 k0' k1 k2 hb HL
  go_wp2_with fail
  with_reducible refine (HI.out).mono ?_
  rintro e w3 ⟨⟨k', rfl, hc'⟩, hb3⟩
  rw [cut_unique hc' HCU.out.cu, HCU.out.hi]
  have B3 := Lib.hid (bthen B2.out hb3)
  have K13 := Lib.hid (heap_keep hb3 K1.out)
  have d1 := bcell hb3 c1
  have r1 := Lib.hid (run_loadL isAgg43 size43 (cLk_len ⟨f, t, c, d⟩) (HAT.out.below B3.out))
  clear c0 c1 c2 hb3 B2 K0 K1 HI hc'
  go_wp2_with (first | (refine wpList_loadL rfl 43 (.tmp 33) rfl b0 (o0 + k0 * 4) (.agg (cLk ⟨f, t, c, d⟩).toArray) rfl r1.out ?_) | (refine wpList_storeN rfl 43 (.tmp 6) (.tmp 34) rfl rfl (z + 1) (cLk ⟨f, t, c, d⟩).toArray rfl rfl 43 _ K13.out info43s rfl (by simp [Value.oneCell', cLk]) ?_; intro w6 hz hbb hn9 hs4; have Z6 := Lib.hid hz; have B6 := Lib.hid (B3.out.trans (hbb _ (by have := HZ.out; omega))); clear hz hbb hn9 hs4))
  refine bodyPost_ret (results_cell_tmp1 rfl rfl (run_loadL isAgg43 size43 (cLk_len ⟨f, t, c, d⟩) (AtL_heap Z6.out))) rfl ?_
  exact ⟨rfl, B6.out⟩

end Go.Proofs.Ytpklcefiabjplaa
