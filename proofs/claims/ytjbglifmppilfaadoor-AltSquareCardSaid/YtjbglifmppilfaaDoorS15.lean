/- One number merged into a sorted range; conditions as stated. One number merged into a sorted range ahead of it; conditions as stated. Two sorted ranges of a row merged: what comes behind the cut; conditions as stated. -/
import Derived.Test.YtjbglifmppilfaaDoorS14
namespace Go.Proofs.YtjbglifmppilfaaDoor
open Go.ChangeShapes Go.WideShapes Go.ChangeAt Go.RowKit
set_option linter.unusedVariables false
set_option linter.unusedSimpArgs false
attribute [local go_sem] Og.Opt Og.OpY

section
variable {k : Nat → Int} {xs ys : List Nat} {a b m : Nat}
/-- the number at a has gone on to place i, those between have come down by one -/
def ShL (xs ys : List Nat) (a i : Nat) : Prop := ∀ t, gt ys t = if a ≤ t ∧ t < i then gt xs (t + 1) else if t = i then gt xs a else gt xs t
theorem ShL.zero (xs : List Nat) (a : Nat) : ShL xs xs a a := fun t => by
  rw [if_neg (by omega)]
  by_cases e : t = a
  · rw [if_pos e, e]
  · rw [if_neg e]
theorem ShL.succ {i : Nat} (h : ShL xs ys a i) (ha : a ≤ i) (hi : i + 1 < ys.length) : ShL xs (swp ys i (i + 1)) a (i + 1) := fun t => by
  rw [swp_gt (by omega) (by omega), h i, h (i + 1), h t, if_neg (show ¬ (a ≤ i ∧ i < i) by omega), if_pos rfl, if_neg (show ¬ (a ≤ i + 1 ∧ i + 1 < i) by omega), if_neg (show ¬ i + 1 = i by omega)]
  by_cases e : t = i + 1
  · rw [if_pos e, if_neg (by omega), if_pos e]
  · rw [if_neg e]
    by_cases e2 : t = i
    · rw [if_pos e2, if_pos (by omega), e2]
    · rw [if_neg e2]
      by_cases e3 : a ≤ t ∧ t < i
      · rw [if_pos e3, if_pos (by omega)]
      · rw [if_neg e3, if_neg e2, if_neg (by omega), if_neg e]
theorem ShL.up {i : Nat} (h : ShL xs ys a i) (hai : a ≤ i) (hib : i < b) (hu : Up k xs (a + 1) b) (hlo : ∀ t, a + 1 ≤ t → t < i + 1 → ky k xs t < ky k xs a) (hhi : ∀ t, i + 1 ≤ t → t < b → ky k xs a ≤ ky k xs t) : Up k ys a b := by
  have g : ∀ t, ky k ys t = if a ≤ t ∧ t < i then ky k xs (t + 1) else if t = i then ky k xs a else ky k xs t := fun t => by
    unfold ky; rw [h t]; split
    · rfl
    · split <;> rfl
  intro p q h1 h2 h3
  rw [g p, g q]
  by_cases c1 : p < i
  · rw [if_pos (by omega)]
    by_cases c2 : q < i
    · rw [if_pos (by omega)]; exact hu _ _ (by omega) (by omega) (by omega)
    · rw [if_neg (by omega)]
      by_cases c3 : q = i
      · rw [if_pos c3]; exact Int.le_of_lt (hlo _ (by omega) (by omega))
      · rw [if_neg c3]; exact hu _ _ (by omega) (by omega) (by omega)
  · rw [if_neg (by omega), if_neg (show ¬ (a ≤ q ∧ q < i) by omega), if_neg (show ¬ q = i by omega)]
    by_cases c3 : p = i
    · rw [if_pos c3]; exact hhi _ (by omega) h3
    · rw [if_neg c3]; exact hu _ _ (by omega) (by omega) (by omega)
/-- the number at m has come down to place i, those between have gone on by one -/
def ShR (xs ys : List Nat) (m i : Nat) : Prop := ∀ t, gt ys t = if i < t ∧ t ≤ m then gt xs (t - 1) else if t = i then gt xs m else gt xs t
theorem ShR.zero (xs : List Nat) (m : Nat) : ShR xs xs m m := fun t => by
  rw [if_neg (by omega)]
  by_cases e : t = m
  · rw [if_pos e, e]
  · rw [if_neg e]
theorem ShR.succ {i : Nat} (h : ShR xs ys m i) (h0 : 0 < i) (hi : i ≤ m) (hl : m < ys.length) : ShR xs (swp ys i (i - 1)) m (i - 1) := fun t => by
  rw [swp_gt (by omega) (by omega), h i, h (i - 1), h t, if_neg (show ¬ (i < i ∧ i ≤ m) by omega), if_pos rfl, if_neg (show ¬ (i < i - 1 ∧ i - 1 ≤ m) by omega), if_neg (show ¬ i - 1 = i by omega)]
  by_cases e : t = i - 1
  · rw [if_pos e, if_neg (by omega), if_pos e]
  · rw [if_neg e]
    by_cases e2 : t = i
    · rw [if_pos e2, if_pos (by omega), e2]
    · rw [if_neg e2]
      by_cases e3 : i < t ∧ t ≤ m
      · rw [if_pos e3, if_pos (by omega)]
      · rw [if_neg e3, if_neg e2, if_neg (by omega), if_neg e]
theorem ShR.up {i : Nat} (h : ShR xs ys m i) (hai : a ≤ i) (him : i ≤ m) (hu : Up k xs a m) (hlo : ∀ t, a ≤ t → t < i → ky k xs t ≤ ky k xs m) (hhi : ∀ t, i ≤ t → t < m → ky k xs m < ky k xs t) : Up k ys a (m + 1) := by
  have g : ∀ t, ky k ys t = if i < t ∧ t ≤ m then ky k xs (t - 1) else if t = i then ky k xs m else ky k xs t := fun t => by
    unfold ky; rw [h t]; split
    · rfl
    · split <;> rfl
  intro p q h1 h2 h3
  rw [g p, g q]
  by_cases c1 : i < p
  · rw [if_pos (by omega), if_pos (by omega)]; exact hu _ _ (by omega) (by omega) (by omega)
  · rw [if_neg (by omega)]
    by_cases c3 : p = i
    · rw [if_pos c3, if_pos (by omega)]; exact Int.le_of_lt (hhi _ (by omega) (by omega))
    · rw [if_neg c3]
      by_cases c2 : i < q
      · rw [if_pos (by omega)]; exact hu.le h1 (by omega) (by omega)
      · rw [if_neg (by omega)]
        by_cases c4 : q = i
        · rw [if_pos c4]; exact hlo _ h1 (by omega)
        · rw [if_neg c4]; exact hu _ _ h1 h2 (by omega)
end
set_option maxRecDepth 100000 in
set_option maxHeartbeats 8000000 in
theorem sym1_ok (B gd od cd : Nat) (ds : List Int) (g : Nat) (tl : List Value) (c a m b : Nat) (xs : List Nat) (w : World) (h : SW B gd od cd ds g tl w xs) (ham : m = a + 1) (hmb : m < b) (hb : b ≤ xs.length) (hl : xs.length ≤ 1000) (hu : Up (kd ds) xs m b) :
    Calls Tryd.prog 66 #[.slice (some ⟨g, 0, none⟩) xs.length c, .int .i64 a, .int .i64 m, .int .i64 b, .func (.func 33) #[] #[.pointer (some ⟨B, 0, none⟩)]] w fun e w' => e = .returned (.tuple #[]) ∧ ∃ ys, SW B gd od cd ds g tl w' ys ∧ RP a b xs ys ∧ Up (kd ds) ys a b ∧ w.grownBy w' (some g) := by
  obtain ⟨l, hn⟩ : ∃ l, l = xs.length := ⟨_, rfl⟩
  rw [← hn] at hb hl ⊢
  have HL := Lib.hid hn
  have H := Lib.hid h
  have HU := Lib.hid hu
  have HAB := Lib.hid (And.intro ham (And.intro hmb (And.intro hb hl)))
  have w1 : IntKind.i64.wrap ((m : Int) - (a : Int)) = 1 := by rw [IntKind.wrap_i64]; omega
  have a0 : (0 : Int) ≤ (a : Int) := by omega
  have a1 : (a : Int) < (l : Int) := by omega
  clear hn h ham hmb hb hl hu
  go_enter Tryd.func66, Tryd.ntmps66
  go_wp2_with fail
  go_loopw [10, 11] (fun lo hi wr => ∃ i j : Nat, (m ≤ i ∧ i ≤ j ∧ j ≤ b) ∧ lo = .int .i64 (i : Int) ∧ hi = .int .i64 (j : Int) ∧ Hid ((∀ t, m ≤ t → t < i → ky (kd ds) xs t < ky (kd ds) xs a) ∧ (∀ t, j ≤ t → t < b → ky (kd ds) xs a ≤ ky (kd ds) xs t)) ∧ Hid (SW B gd od cd ds g tl wr xs ∧ w.grownBy wr (some g))) (fun lo hi _ => (intOf hi).toNat - (intOf lo).toNat)
  case atStart => exact ⟨m, b, by have := HAB.out; omega, rfl, rfl, Lib.hid ⟨fun t h1 h2 => by omega, fun t h1 h2 => by omega⟩, Lib.hid ⟨H.out, grown_refl _ _⟩⟩
  case round =>
    obtain ⟨i, j, hij, rfl, rfl, hcut, hT⟩ := hrel
    by_cases hlt : i < j
    · have hwa : IntKind.i64.wrap (i : Int) = i := wrapk (by have := HAB.out; omega)
      have hwb : IntKind.i64.wrap (j : Int) = j := wrapk (by have := HAB.out; omega)
      have ha0 : (0 : Int) ≤ (i : Int) := by omega
      have hb0 : (j : Int) ≤ 1125899906842624 := by have := HAB.out; omega
      have habi : (i : Int) < (j : Int) := by omega
      obtain ⟨n, hm⟩ : ∃ n : Nat, n = (i + j) / 2 := ⟨_, rfl⟩
      have hmi : ((i : Int) + (j : Int)) / 2 = (n : Int) := by omega
      have hwm : IntKind.i64.wrap (n : Int) = n := wrapk (by have := HAB.out; omega)
      have hwm1 : IntKind.i64.wrap ((n : Int) + 1) = (n : Int) + 1 := by have := HAB.out; rw [IntKind.wrap_i64]; omega
      have hm0 : (0 : Int) ≤ (n : Int) := by omega
      have hmn : (n : Int) < (l : Int) := by have := HAB.out; omega
      have v1 := hT.out.1.val (i := n) (by have := HAB.out; have := HL.out; omega)
      have v2 := hT.out.1.val (i := a) (by have := HAB.out; have := HL.out; omega)
      obtain ⟨z, hz⟩ : ∃ z, z = kd ds (gt xs n) - kd ds (gt xs a) := ⟨_, rfl⟩
      have HCMP := Lib.hid (fun w2 (hb : Below wr.heap.size wr w2) => cmp_ok B gd od cd ds (gt xs n) (gt xs a) w2 (bcell hb hT.out.1.box) (hT.out.1.dist.below hb) hT.out.1.ok v1.2 v2.2)
      rw [← hz] at HCMP
      have HZ := Lib.hid hz
      have HC : ∀ w2, Below wr.heap.size wr w2 → w2.cell? ⟨g, n, none⟩ = some (.int .i64 (gt xs n : Nat)) ∧ w2.cell? ⟨g, a, none⟩ = some (.int .i64 (gt xs a : Nat)) := fun w2 hb => ⟨bcell hb v1.1, bcell hb v2.1⟩
      have HJ := Lib.hid (show i ≤ n ∧ n < j ∧ m ≤ i ∧ j ≤ b by omega)
      clear v1 v2 hij hm hz hlt
      by_cases hc : z < 0
      · have HLT := Lib.hid hc
        go_wp2_with fail
        refine Og.walk_lit [[],[],[],[1,2],[3,1,2],[],[],[5,6],[7,5,6],[0,4,8,3,1,2,7,5,6],[9,0,4,8,3,1,2,7,5,6]] (fun w2 => Below wr.heap.size wr w2) (fun w1 w2 => Below w1.heap.size w1 w2) (by kernel_rfl) (by kernel_rfl) (bdrew) ?_
        repeat (first | (refine Og.step_pure (fun _ => Below.refl _ _) ?_; apply Exists.intro; refine And.intro ?_ ?_; focus (intro vs w2 hC hk; have hm := HC w2 hC; revert hk; simp only [Og.KS, Og.K0, Og.Is, List.getD_cons_zero, List.getD_cons_succ, List.getD_nil, List.contains_cons, List.contains_nil, Nat.reduceAdd, Nat.reduceBEq, Bool.or_false, Bool.false_or, Bool.or_true, Bool.true_or, Bool.false_eq_true, false_implies, true_implies, true_and, and_true, forall_const]; intros; go_simp; rfl)) | (refine Og.step_one ?_; apply Exists.intro; refine And.intro ?_ ?_; focus (intro vs w2 hC hk; revert hk; simp only [Og.KS, Og.K0, Og.Is, List.getD_cons_zero, List.getD_cons_succ, List.getD_nil, List.contains_cons, List.contains_nil, Nat.reduceAdd, Nat.reduceBEq, Bool.or_false, Bool.false_or, Bool.or_true, Bool.true_or, Bool.false_eq_true, false_implies, true_implies, true_and, and_true, forall_const]; intros; go_simp; with_reducible refine (HCMP.out w2 hC).mono ?_; rintro e w3 ⟨rfl, hb⟩; exact Og.RetV.mk ⟨bthen hC hb, hb, rfl⟩)))
        intro vs w2 hC hk
        have hm := HC w2 hC
        simp only [Og.KS, Og.K0, Og.Is, List.getD_cons_zero, List.getD_cons_succ, List.getD_nil, List.contains_cons, List.contains_nil, Nat.reduceAdd, Nat.reduceBEq, Bool.or_false, Bool.false_or, Bool.or_true, Bool.true_or, Bool.false_eq_true, false_implies, true_implies, true_and, and_true, forall_const] at hk
        simp only [hk, Act.put, List.setIfInBounds_toArray, List.set_cons_zero, List.set_cons_succ]
        clear hk
        have T2 := Lib.hid (And.intro (hT.out.1.below hC) (gtr hT.out.2 (grown_below'' hC _)))
        have CUT : Hid ((∀ t, m ≤ t → t < n + 1 → ky (kd ds) xs t < ky (kd ds) xs a) ∧ (∀ t, j ≤ t → t < b → ky (kd ds) xs a ≤ ky (kd ds) xs t)) := Lib.hid ⟨fun t h1 h2 => by
          have := HJ.out
          have h3 := HU.out.le h1 (show t ≤ n by omega) (by omega)
          have h4 := HZ.out
          have h5 := HLT.out
          unfold ky at h3 ⊢
          omega, hcut.out.2⟩
        clear hm HC HCMP hC hT hcut
        go_wp2_with fail
        go_roundw
        case rel => exact ⟨n + 1, j, by have := HJ.out; omega, by go_num, rfl, CUT, T2⟩
        case measure => have := HJ.out; simp [intOf]; omega
      · have hc2 : 0 ≤ z := by omega
        have HLT := Lib.hid hc
        go_wp2_with fail
        refine Og.walk_lit [[],[],[],[1,2],[3,1,2],[],[],[5,6],[7,5,6],[0,4,8,3,1,2,7,5,6],[9,0,4,8,3,1,2,7,5,6]] (fun w2 => Below wr.heap.size wr w2) (fun w1 w2 => Below w1.heap.size w1 w2) (by kernel_rfl) (by kernel_rfl) (bdrew) ?_
        repeat (first | (refine Og.step_pure (fun _ => Below.refl _ _) ?_; apply Exists.intro; refine And.intro ?_ ?_; focus (intro vs w2 hC hk; have hm := HC w2 hC; revert hk; simp only [Og.KS, Og.K0, Og.Is, List.getD_cons_zero, List.getD_cons_succ, List.getD_nil, List.contains_cons, List.contains_nil, Nat.reduceAdd, Nat.reduceBEq, Bool.or_false, Bool.false_or, Bool.or_true, Bool.true_or, Bool.false_eq_true, false_implies, true_implies, true_and, and_true, forall_const]; intros; go_simp; rfl)) | (refine Og.step_one ?_; apply Exists.intro; refine And.intro ?_ ?_; focus (intro vs w2 hC hk; revert hk; simp only [Og.KS, Og.K0, Og.Is, List.getD_cons_zero, List.getD_cons_succ, List.getD_nil, List.contains_cons, List.contains_nil, Nat.reduceAdd, Nat.reduceBEq, Bool.or_false, Bool.false_or, Bool.or_true, Bool.true_or, Bool.false_eq_true, false_implies, true_implies, true_and, and_true, forall_const]; intros; go_simp; with_reducible refine (HCMP.out w2 hC).mono ?_; rintro e w3 ⟨rfl, hb⟩; exact Og.RetV.mk ⟨bthen hC hb, hb, rfl⟩)))
        intro vs w2 hC hk
        have hm := HC w2 hC
        simp only [Og.KS, Og.K0, Og.Is, List.getD_cons_zero, List.getD_cons_succ, List.getD_nil, List.contains_cons, List.contains_nil, Nat.reduceAdd, Nat.reduceBEq, Bool.or_false, Bool.false_or, Bool.or_true, Bool.true_or, Bool.false_eq_true, false_implies, true_implies, true_and, and_true, forall_const] at hk
        simp only [hk, Act.put, List.setIfInBounds_toArray, List.set_cons_zero, List.set_cons_succ]
        clear hk
        have T2 := Lib.hid (And.intro (hT.out.1.below hC) (gtr hT.out.2 (grown_below'' hC _)))
        have CUT : Hid ((∀ t, m ≤ t → t < i → ky (kd ds) xs t < ky (kd ds) xs a) ∧ (∀ t, n ≤ t → t < b → ky (kd ds) xs a ≤ ky (kd ds) xs t)) := Lib.hid ⟨hcut.out.1, fun t h1 h2 => by
          have := HJ.out
          have h3 := HU.out.le (show m ≤ n by omega) h1 h2
          have h4 := HZ.out
          have h5 := HLT.out
          unfold ky at h3 ⊢
          omega⟩
        clear hm HC HCMP hC hT hcut
        go_wp2_with fail
        go_roundw
        case rel => exact ⟨i, n, by have := HJ.out; omega, rfl, by go_num, CUT, T2⟩
        case measure => have := HJ.out; simp [intOf]; omega
    · obtain rfl : j = i := by omega
      have HIJ := Lib.hid hij
      have wi : IntKind.i64.wrap ((j : Int) - 1) = ((j - 1 : Nat) : Int) := by have := HAB.out; rw [IntKind.wrap_i64]; omega
      clear hij hlt
      go_wp2_with fail
      go_loopw [13] (fun u wr => ∃ (k : Nat) (cur : List Nat), (a ≤ k ∧ k ≤ j - 1) ∧ u = .int .i64 k ∧ Hid (SW B gd od cd ds g tl wr cur ∧ ShL xs cur a k ∧ RP a b xs cur ∧ w.grownBy wr (some g))) (fun u _ => j - (intOf u).toNat)
      case atStart => exact ⟨a, xs, by have := HIJ.out; have := HAB.out; omega, rfl, Lib.hid ⟨hT.out.1, ShL.zero _ _, RP.refl _ _ _, hT.out.2⟩⟩
      case round =>
        clear hT
        obtain ⟨k, cur, hk, rfl, hT⟩ := hrel
        have hlen : cur.length = l := by rw [hT.out.2.2.1.len, HL.out]
        by_cases hlt : k < j - 1
        · have gk : (k : Int) < ((j - 1 : Nat) : Int) := by omega
          have wk : IntKind.i64.wrap ((k : Int) + 1) = ((k + 1 : Nat) : Int) := by have := HAB.out; have := HIJ.out; rw [IntKind.wrap_i64]; omega
          obtain ⟨q, hq⟩ : ∃ q : Nat, q = k + 1 := ⟨_, rfl⟩
          rw [← hq] at wk
          have p0 : (0 : Int) ≤ (k : Int) := by omega
          have p1 : (k : Int) < (l : Int) := by have := HAB.out; have := HIJ.out; omega
          have q0 : (0 : Int) ≤ (q : Int) := by omega
          have q1 : (q : Int) < (l : Int) := by have := HAB.out; have := HIJ.out; omega
          have hjn : k < cur.length ∧ q < cur.length ∧ a ≤ k ∧ k < b ∧ a ≤ q ∧ q < b ∧ b ≤ cur.length ∧ q ≤ j - 1 ∧ k < q := by have := HAB.out; have := HIJ.out; omega
          obtain ⟨wA, wB, r1, r2, S2, G2⟩ := hT.out.1.swap hjn.1 hjn.2.1
          have R1 := Lib.hid r1
          have R2 := Lib.hid r2
          have m1 : wr.drew.cell? ⟨g, k, none⟩ = some (.int .i64 (gt cur k : Nat)) := (hT.out.1.val hjn.1).1
          have m2 : wr.drew.cell? ⟨g, q, none⟩ = some (.int .i64 (gt cur q : Nat)) := (hT.out.1.val hjn.2.1).1
          have FIN : Hid (SW B gd od cd ds g tl wB (swp cur k q) ∧ ShL xs (swp cur k q) a q ∧ RP a b xs (swp cur k q) ∧ w.grownBy wB (some g)) := Lib.hid ⟨S2, by rw [hq]; exact hT.out.2.1.succ hk.1 (by omega), hT.out.2.2.1.trans (RP.swp hjn.2.2.1 hjn.2.2.2.1 hjn.2.2.2.2.1 hjn.2.2.2.2.2.1 hjn.2.2.2.2.2.2.1), gtr hT.out.2.2.2 G2⟩
          have HQ := Lib.hid (show a ≤ q ∧ q ≤ j - 1 ∧ k < q by omega)
          clear r1 r2 S2 G2 hT hjn hq hk hlen hlt
          go_wp2_with fail
          refine Og.Joint2.walk_lit 16 [[],[],[],[],[3],[],[],[6],[5,7,6],[8,5,7,6],[],[],[10,11],[12,10,11],[0,1,5,6,7,8,9,13,12,10,11],[14,9,0,1,5,6,7,8,13,12,10,11],[2,4,0,1,3,5,6,7,8,9,10,11,12,13,14,15],[16,13,15,0,1,2,3,4,5,6,7,8,9,10,11,12,14]] (CX wr.drew wA 15 [9, 13]) (fun _ _ => True) (by kernel_rfl) (by kernel_rfl) (by kernel_rfl) (fun vs => CX.ini) ?_
          simp only [List.take_succ_cons, List.take_zero, List.drop_succ_cons, List.drop_zero]
          iterate 9 (refine Og.Joint2.step_pureP (fun p vs v w h => h.other (by decide)) (fun _ => trivial) ?_; apply Exists.intro; refine And.intro ?_ ?_; focus (intro p vs w2 hp hC hk; refine Og.OptB.mk ?_; revert hk; simp only [Og.KS, Og.K0, Og.Is, List.getD_cons_zero, List.getD_cons_succ, List.getD_nil, List.contains_cons, List.contains_nil, Nat.reduceAdd, Nat.reduceBEq, Bool.or_false, Bool.false_or, Bool.or_true, Bool.true_or, Bool.false_eq_true, false_implies, true_implies, true_and, and_true, forall_const]; intros; go_simp; rfl))
          refine Og.Joint2.step_pureP (fun p vs v w h => h.other (by decide)) (fun _ => trivial) ?_; apply Exists.intro; refine And.intro ?_ ?_; focus (intro p vs w2 hp hC hk; obtain rfl := hC.at_ (by decide) hp; refine Og.OptB.mk ?_; revert hk; simp only [Og.KS, Og.K0, Og.Is, List.getD_cons_zero, List.getD_cons_succ, List.getD_nil, List.contains_cons, List.contains_nil, Nat.reduceAdd, Nat.reduceBEq, Bool.or_false, Bool.false_or, Bool.or_true, Bool.true_or, Bool.false_eq_true, false_implies, true_implies, true_and, and_true, forall_const]; intros; go_simp; rfl)
          iterate 3 (refine Og.Joint2.step_pureP (fun p vs v w h => h.other (by decide)) (fun _ => trivial) ?_; apply Exists.intro; refine And.intro ?_ ?_; focus (intro p vs w2 hp hC hk; refine Og.OptB.mk ?_; revert hk; simp only [Og.KS, Og.K0, Og.Is, List.getD_cons_zero, List.getD_cons_succ, List.getD_nil, List.contains_cons, List.contains_nil, Nat.reduceAdd, Nat.reduceBEq, Bool.or_false, Bool.false_or, Bool.or_true, Bool.true_or, Bool.false_eq_true, false_implies, true_implies, true_and, and_true, forall_const]; intros; go_simp; rfl))
          refine Og.Joint2.step_pureP (fun p vs v w h => h.other (by decide)) (fun _ => trivial) ?_; apply Exists.intro; refine And.intro ?_ ?_; focus (intro p vs w2 hp hC hk; obtain rfl := hC.at_ (by decide) hp; refine Og.OptB.mk ?_; revert hk; simp only [Og.KS, Og.K0, Og.Is, List.getD_cons_zero, List.getD_cons_succ, List.getD_nil, List.contains_cons, List.contains_nil, Nat.reduceAdd, Nat.reduceBEq, Bool.or_false, Bool.false_or, Bool.or_true, Bool.true_or, Bool.false_eq_true, false_implies, true_implies, true_and, and_true, forall_const]; intros; go_simp; rfl)
          refine Og.Joint2.step_pureP (fun p vs v w h => h.other (by decide)) (fun _ => trivial) ?_; apply Exists.intro; refine And.intro ?_ ?_; focus (intro p vs w2 hp hC hk; refine Og.OptB.mk ?_; revert hk; simp only [Og.KS, Og.K0, Og.Is, List.getD_cons_zero, List.getD_cons_succ, List.getD_nil, List.contains_cons, List.contains_nil, Nat.reduceAdd, Nat.reduceBEq, Bool.or_false, Bool.false_or, Bool.or_true, Bool.true_or, Bool.false_eq_true, false_implies, true_implies, true_and, and_true, forall_const]; intros; go_simp; rfl)
          refine Og.Joint2.step_any (fun _ _ => True) (fun _ _ _ _ _ => trivial) ?_ ?_; focus (intro p vs w2 hp hC hk; obtain rfl := hC.now hp.1; have hdn : ∀ j ∈ [9, 13], p j = true := (by intro j hj; exact hp.2 j (by revert hj; revert j; decide)); revert hk; simp only [Og.KS, Og.K0, Og.Is, List.getD_cons_zero, List.getD_cons_succ, List.getD_nil, List.contains_cons, List.contains_nil, Nat.reduceAdd, Nat.reduceBEq, Bool.or_false, Bool.false_or, Bool.or_true, Bool.true_or, Bool.false_eq_true, false_implies, true_implies, true_and, and_true, forall_const]; intros; refine optB_storeR (by go_simp) rfl (by go_simp) (by go_simp) R1.out (CX.done hdn))
          intro p vs w5 hp hC hk
          obtain rfl := hC.fin (hp 15 (by decide))
          simp only [Og.KS, Og.K0, Og.Is, List.getD_cons_zero, List.getD_cons_succ, List.getD_nil, List.contains_cons, List.contains_nil, Nat.reduceAdd, Nat.reduceBEq, Bool.or_false, Bool.false_or, Bool.or_true, Bool.true_or, Bool.false_eq_true, false_implies, true_implies, true_and, and_true, forall_const] at hk
          simp only [hk, Act.put, List.setIfInBounds_toArray, List.set_cons_zero, List.set_cons_succ]
          clear hk hp hC
          go_wp2_with (refine wpList_storeR (ty := 3) (x := .tmp 76) (y := .tmp 74) rfl rfl rfl (by go_simp) (by go_simp) R2.out ?_)
          go_wp2_with fail
          go_roundw
          case rel => exact ⟨q, _, ⟨HQ.out.1, HQ.out.2.1⟩, by go_num, FIN⟩
          case measure => have := HQ.out; simp [intOf]; omega
        · have gk : ¬ (k : Int) < ((j - 1 : Nat) : Int) := by omega
          have FIN : Hid (SW B gd od cd ds g tl wr cur ∧ RP a b xs cur ∧ Up (kd ds) cur a b ∧ w.grownBy wr (some g)) := Lib.hid (by
            have e : k = j - 1 := by omega
            have := HIJ.out
            have := HAB.out
            subst e
            refine ⟨hT.out.1, hT.out.2.2.1, hT.out.2.1.up (by omega) (by omega) (by rw [← HAB.out.1]; exact HU.out) (fun t h1 h2 => hcut.out.1 t (by omega) (by omega)) (fun t h1 h2 => hcut.out.2 t (by omega) h2), hT.out.2.2.2⟩)
          clear hT hk hlen hlt hcut
          go_wp2_with fail
          refine bodyPost_ret (results_none rfl _ _ _) rfl ?_
          exact ⟨rfl, _, FIN.out⟩

end Go.Proofs.YtjbglifmppilfaaDoor
namespace Go.Proofs.YtjbglifmppilfaaDoor
open Go.ChangeShapes Go.WideShapes Go.ChangeAt Go.RowKit
set_option linter.unusedVariables false
set_option linter.unusedSimpArgs false
attribute [local go_sem] Og.Opt Og.OpY

set_option maxRecDepth 100000 in
set_option maxHeartbeats 8000000 in
theorem sym2_ok (B gd od cd : Nat) (ds : List Int) (g : Nat) (tl : List Value) (c a m b : Nat) (xs : List Nat) (w : World) (h : SW B gd od cd ds g tl w xs) (ham : a + 1 < m) (hmb : b = m + 1) (hb : b ≤ xs.length) (hl : xs.length ≤ 1000) (hu : Up (kd ds) xs a m) :
    Calls Tryd.prog 66 #[.slice (some ⟨g, 0, none⟩) xs.length c, .int .i64 a, .int .i64 m, .int .i64 b, .func (.func 33) #[] #[.pointer (some ⟨B, 0, none⟩)]] w fun e w' => e = .returned (.tuple #[]) ∧ ∃ ys, SW B gd od cd ds g tl w' ys ∧ RP a b xs ys ∧ Up (kd ds) ys a b ∧ w.grownBy w' (some g) := by
  obtain ⟨l, hn⟩ : ∃ l, l = xs.length := ⟨_, rfl⟩
  rw [← hn] at hb hl ⊢
  have HL := Lib.hid hn
  have H := Lib.hid h
  have HU := Lib.hid hu
  have HAB := Lib.hid (And.intro ham (And.intro hmb (And.intro hb hl)))
  obtain ⟨e, he⟩ : ∃ e, e = m - a := ⟨_, rfl⟩
  have w1 : IntKind.i64.wrap ((m : Int) - (a : Int)) = (e : Int) := by rw [IntKind.wrap_i64]; omega
  have e1 : ¬ (e : Int) = 1 := by omega
  have e2 : ((e : Int) == 1) = false := by simp; omega
  have w2 : IntKind.i64.wrap ((b : Int) - (m : Int)) = 1 := by rw [IntKind.wrap_i64]; omega
  have a0 : (0 : Int) ≤ (m : Int) := by omega
  have a1 : (m : Int) < (l : Int) := by omega
  clear hn h ham hmb hb hl hu he
  go_enter Tryd.func66, Tryd.ntmps66
  go_wp2_with fail
  go_loopw [14, 15] (fun lo hi wr => ∃ i j : Nat, (a ≤ i ∧ i ≤ j ∧ j ≤ m) ∧ lo = .int .i64 (i : Int) ∧ hi = .int .i64 (j : Int) ∧ Hid ((∀ t, a ≤ t → t < i → ky (kd ds) xs t ≤ ky (kd ds) xs m) ∧ (∀ t, j ≤ t → t < m → ky (kd ds) xs m < ky (kd ds) xs t)) ∧ Hid (SW B gd od cd ds g tl wr xs ∧ w.grownBy wr (some g))) (fun lo hi _ => (intOf hi).toNat - (intOf lo).toNat)
  case atStart => exact ⟨a, m, by have := HAB.out; omega, rfl, rfl, Lib.hid ⟨fun t h1 h2 => by omega, fun t h1 h2 => by omega⟩, Lib.hid ⟨H.out, grown_refl _ _⟩⟩
  case round =>
    obtain ⟨i, j, hij, rfl, rfl, hcut, hT⟩ := hrel
    by_cases hlt : i < j
    · have hwa : IntKind.i64.wrap (i : Int) = i := wrapk (by have := HAB.out; omega)
      have hwb : IntKind.i64.wrap (j : Int) = j := wrapk (by have := HAB.out; omega)
      have ha0 : (0 : Int) ≤ (i : Int) := by omega
      have hb0 : (j : Int) ≤ 1125899906842624 := by have := HAB.out; omega
      have habi : (i : Int) < (j : Int) := by omega
      obtain ⟨n, hm⟩ : ∃ n : Nat, n = (i + j) / 2 := ⟨_, rfl⟩
      have hmi : ((i : Int) + (j : Int)) / 2 = (n : Int) := by omega
      have hwm : IntKind.i64.wrap (n : Int) = n := wrapk (by have := HAB.out; omega)
      have hwm1 : IntKind.i64.wrap ((n : Int) + 1) = (n : Int) + 1 := by have := HAB.out; rw [IntKind.wrap_i64]; omega
      have hm0 : (0 : Int) ≤ (n : Int) := by omega
      have hmn : (n : Int) < (l : Int) := by have := HAB.out; omega
      have v1 := hT.out.1.val (i := n) (by have := HAB.out; have := HL.out; omega)
      have v2 := hT.out.1.val (i := m) (by have := HAB.out; have := HL.out; omega)
      obtain ⟨z, hz⟩ : ∃ z, z = kd ds (gt xs m) - kd ds (gt xs n) := ⟨_, rfl⟩
      have HCMP := Lib.hid (fun w2 (hb : Below wr.heap.size wr w2) => cmp_ok B gd od cd ds (gt xs m) (gt xs n) w2 (bcell hb hT.out.1.box) (hT.out.1.dist.below hb) hT.out.1.ok v2.2 v1.2)
      rw [← hz] at HCMP
      have HZ := Lib.hid hz
      have HC : ∀ w2, Below wr.heap.size wr w2 → w2.cell? ⟨g, n, none⟩ = some (.int .i64 (gt xs n : Nat)) ∧ w2.cell? ⟨g, m, none⟩ = some (.int .i64 (gt xs m : Nat)) := fun w2 hb => ⟨bcell hb v1.1, bcell hb v2.1⟩
      have HJ := Lib.hid (show i ≤ n ∧ n < j ∧ a ≤ i ∧ j ≤ m by omega)
      clear v1 v2 hij hm hz hlt
      by_cases hc : z < 0
      · have HLT := Lib.hid hc
        have tc : decide (z < 0) = true := decide_eq_true hc
        clear hc
        go_wp2_with fail
        refine Og.walk_lit [[],[],[],[1,2],[3,1,2],[],[],[5,6],[7,5,6],[0,4,8,3,1,2,7,5,6],[9,0,4,8,3,1,2,7,5,6],[10,9,0,4,8,3,1,2,7,5,6]] (fun w2 => Below wr.heap.size wr w2) (fun w1 w2 => Below w1.heap.size w1 w2) (by kernel_rfl) (by kernel_rfl) (bdrew) ?_
        repeat (first | (refine Og.step_pure (fun _ => Below.refl _ _) ?_; apply Exists.intro; refine And.intro ?_ ?_; focus (intro vs w2 hC hk; have hm := HC w2 hC; revert hk; simp only [Og.KS, Og.K0, Og.Is, List.getD_cons_zero, List.getD_cons_succ, List.getD_nil, List.contains_cons, List.contains_nil, Nat.reduceAdd, Nat.reduceBEq, Bool.or_false, Bool.false_or, Bool.or_true, Bool.true_or, Bool.false_eq_true, false_implies, true_implies, true_and, and_true, forall_const]; intros; go_simp; rfl)) | (refine Og.step_one ?_; apply Exists.intro; refine And.intro ?_ ?_; focus (intro vs w2 hC hk; revert hk; simp only [Og.KS, Og.K0, Og.Is, List.getD_cons_zero, List.getD_cons_succ, List.getD_nil, List.contains_cons, List.contains_nil, Nat.reduceAdd, Nat.reduceBEq, Bool.or_false, Bool.false_or, Bool.or_true, Bool.true_or, Bool.false_eq_true, false_implies, true_implies, true_and, and_true, forall_const]; intros; go_simp; with_reducible refine (HCMP.out w2 hC).mono ?_; rintro e w3 ⟨rfl, hb⟩; exact Og.RetV.mk ⟨bthen hC hb, hb, rfl⟩)))
        intro vs w2 hC hk
        have hm := HC w2 hC
        simp only [Og.KS, Og.K0, Og.Is, List.getD_cons_zero, List.getD_cons_succ, List.getD_nil, List.contains_cons, List.contains_nil, Nat.reduceAdd, Nat.reduceBEq, Bool.or_false, Bool.false_or, Bool.or_true, Bool.true_or, Bool.false_eq_true, false_implies, true_implies, true_and, and_true, forall_const] at hk
        simp only [hk, Act.put, List.setIfInBounds_toArray, List.set_cons_zero, List.set_cons_succ]
        clear hk
        have T2 := Lib.hid (And.intro (hT.out.1.below hC) (gtr hT.out.2 (grown_below'' hC _)))
        have CUT : Hid ((∀ t, a ≤ t → t < i → ky (kd ds) xs t ≤ ky (kd ds) xs m) ∧ (∀ t, n ≤ t → t < m → ky (kd ds) xs m < ky (kd ds) xs t)) := Lib.hid ⟨hcut.out.1, fun t h1 h2 => by
          have := HJ.out
          have h3 := HU.out.le (show a ≤ n by omega) h1 h2
          have h4 := HZ.out
          have h5 := HLT.out
          unfold ky at h3 ⊢
          omega⟩
        clear hm HC HCMP hC hT hcut
        go_wp2_with fail
        go_roundw
        case rel => exact ⟨i, n, by have := HJ.out; omega, rfl, by go_num, CUT, T2⟩
        case measure => have := HJ.out; simp [intOf]; omega
      · have HLT := Lib.hid hc
        have tc : decide (z < 0) = false := decide_eq_false hc
        clear hc
        go_wp2_with fail
        refine Og.walk_lit [[],[],[],[1,2],[3,1,2],[],[],[5,6],[7,5,6],[0,4,8,3,1,2,7,5,6],[9,0,4,8,3,1,2,7,5,6],[10,9,0,4,8,3,1,2,7,5,6]] (fun w2 => Below wr.heap.size wr w2) (fun w1 w2 => Below w1.heap.size w1 w2) (by kernel_rfl) (by kernel_rfl) (bdrew) ?_
        repeat (first | (refine Og.step_pure (fun _ => Below.refl _ _) ?_; apply Exists.intro; refine And.intro ?_ ?_; focus (intro vs w2 hC hk; have hm := HC w2 hC; revert hk; simp only [Og.KS, Og.K0, Og.Is, List.getD_cons_zero, List.getD_cons_succ, List.getD_nil, List.contains_cons, List.contains_nil, Nat.reduceAdd, Nat.reduceBEq, Bool.or_false, Bool.false_or, Bool.or_true, Bool.true_or, Bool.false_eq_true, false_implies, true_implies, true_and, and_true, forall_const]; intros; go_simp; rfl)) | (refine Og.step_one ?_; apply Exists.intro; refine And.intro ?_ ?_; focus (intro vs w2 hC hk; revert hk; simp only [Og.KS, Og.K0, Og.Is, List.getD_cons_zero, List.getD_cons_succ, List.getD_nil, List.contains_cons, List.contains_nil, Nat.reduceAdd, Nat.reduceBEq, Bool.or_false, Bool.false_or, Bool.or_true, Bool.true_or, Bool.false_eq_true, false_implies, true_implies, true_and, and_true, forall_const]; intros; go_simp; with_reducible refine (HCMP.out w2 hC).mono ?_; rintro e w3 ⟨rfl, hb⟩; exact Og.RetV.mk ⟨bthen hC hb, hb, rfl⟩)))
        intro vs w2 hC hk
        have hm := HC w2 hC
        simp only [Og.KS, Og.K0, Og.Is, List.getD_cons_zero, List.getD_cons_succ, List.getD_nil, List.contains_cons, List.contains_nil, Nat.reduceAdd, Nat.reduceBEq, Bool.or_false, Bool.false_or, Bool.or_true, Bool.true_or, Bool.false_eq_true, false_implies, true_implies, true_and, and_true, forall_const] at hk
        simp only [hk, Act.put, List.setIfInBounds_toArray, List.set_cons_zero, List.set_cons_succ]
        clear hk
        have T2 := Lib.hid (And.intro (hT.out.1.below hC) (gtr hT.out.2 (grown_below'' hC _)))
        have CUT : Hid ((∀ t, a ≤ t → t < n + 1 → ky (kd ds) xs t ≤ ky (kd ds) xs m) ∧ (∀ t, j ≤ t → t < m → ky (kd ds) xs m < ky (kd ds) xs t)) := Lib.hid ⟨fun t h1 h2 => by
          have := HJ.out
          have h3 := HU.out.le h1 (show t ≤ n by omega) (by omega)
          have h4 := HZ.out
          have h5 := HLT.out
          unfold ky at h3 ⊢
          omega, hcut.out.2⟩
        clear hm HC HCMP hC hT hcut
        go_wp2_with fail
        go_roundw
        case rel => exact ⟨n + 1, j, by have := HJ.out; omega, by go_num, rfl, CUT, T2⟩
        case measure => have := HJ.out; simp [intOf]; omega
    · obtain rfl : j = i := by omega
      have HIJ := Lib.hid hij
      clear hij hlt
      go_wp2_with fail
      go_loopw [17] (fun u wr => ∃ (k : Nat) (cur : List Nat), (j ≤ k ∧ k ≤ m) ∧ u = .int .i64 k ∧ Hid (SW B gd od cd ds g tl wr cur ∧ ShR xs cur m k ∧ RP a b xs cur ∧ w.grownBy wr (some g))) (fun u _ => (intOf u).toNat)
      case atStart => exact ⟨m, xs, by have := HIJ.out; omega, rfl, Lib.hid ⟨hT.out.1, ShR.zero _ _, RP.refl _ _ _, hT.out.2⟩⟩
      case round =>
        clear hT
        obtain ⟨k, cur, hk, rfl, hT⟩ := hrel
        have hlen : cur.length = l := by rw [hT.out.2.2.1.len, HL.out]
        by_cases hlt : j < k
        · have gk : (j : Int) < (k : Int) := by omega
          obtain ⟨q, hq⟩ : ∃ q : Nat, q = k - 1 := ⟨_, rfl⟩
          have wk : IntKind.i64.wrap ((k : Int) - 1) = (q : Int) := by have := HAB.out; have := HIJ.out; rw [IntKind.wrap_i64]; omega
          have p0 : (0 : Int) ≤ (k : Int) := by omega
          have p1 : (k : Int) < (l : Int) := by have := HAB.out; have := HIJ.out; omega
          have q0 : (0 : Int) ≤ (q : Int) := by omega
          have q1 : (q : Int) < (l : Int) := by have := HAB.out; have := HIJ.out; omega
          have hjn : k < cur.length ∧ q < cur.length ∧ a ≤ k ∧ k < b ∧ a ≤ q ∧ q < b ∧ b ≤ cur.length ∧ j ≤ q ∧ q < k := by have := HAB.out; have := HIJ.out; omega
          obtain ⟨wA, wB, r1, r2, S2, G2⟩ := hT.out.1.swap hjn.1 hjn.2.1
          have R1 := Lib.hid r1
          have R2 := Lib.hid r2
          have m1 : wr.drew.cell? ⟨g, k, none⟩ = some (.int .i64 (gt cur k : Nat)) := (hT.out.1.val hjn.1).1
          have m2 : wr.drew.cell? ⟨g, q, none⟩ = some (.int .i64 (gt cur q : Nat)) := (hT.out.1.val hjn.2.1).1
          have FIN : Hid (SW B gd od cd ds g tl wB (swp cur k q) ∧ ShR xs (swp cur k q) m q ∧ RP a b xs (swp cur k q) ∧ w.grownBy wB (some g)) := Lib.hid ⟨S2, by rw [hq]; exact hT.out.2.1.succ (by omega) hk.2 (by have := HAB.out; omega), hT.out.2.2.1.trans (RP.swp hjn.2.2.1 hjn.2.2.2.1 hjn.2.2.2.2.1 hjn.2.2.2.2.2.1 hjn.2.2.2.2.2.2.1), gtr hT.out.2.2.2 G2⟩
          have HQ := Lib.hid (show j ≤ q ∧ q ≤ m ∧ q < k by omega)
          clear r1 r2 S2 G2 hT hjn hq hk hlen hlt
          go_wp2_with fail
          refine Og.Joint2.walk_lit 16 [[],[],[],[],[3],[],[],[6],[5,7,6],[8,5,7,6],[],[],[10,11],[12,10,11],[0,1,5,6,7,8,9,13,12,10,11],[14,9,0,1,5,6,7,8,13,12,10,11],[2,4,0,1,3,5,6,7,8,9,10,11,12,13,14,15],[16,13,15,0,1,2,3,4,5,6,7,8,9,10,11,12,14]] (CX wr.drew wA 15 [9, 13]) (fun _ _ => True) (by kernel_rfl) (by kernel_rfl) (by kernel_rfl) (fun vs => CX.ini) ?_
          simp only [List.take_succ_cons, List.take_zero, List.drop_succ_cons, List.drop_zero]
          iterate 9 (refine Og.Joint2.step_pureP (fun p vs v w h => h.other (by decide)) (fun _ => trivial) ?_; apply Exists.intro; refine And.intro ?_ ?_; focus (intro p vs w2 hp hC hk; refine Og.OptB.mk ?_; revert hk; simp only [Og.KS, Og.K0, Og.Is, List.getD_cons_zero, List.getD_cons_succ, List.getD_nil, List.contains_cons, List.contains_nil, Nat.reduceAdd, Nat.reduceBEq, Bool.or_false, Bool.false_or, Bool.or_true, Bool.true_or, Bool.false_eq_true, false_implies, true_implies, true_and, and_true, forall_const]; intros; go_simp; rfl))
          refine Og.Joint2.step_pureP (fun p vs v w h => h.other (by decide)) (fun _ => trivial) ?_; apply Exists.intro; refine And.intro ?_ ?_; focus (intro p vs w2 hp hC hk; obtain rfl := hC.at_ (by decide) hp; refine Og.OptB.mk ?_; revert hk; simp only [Og.KS, Og.K0, Og.Is, List.getD_cons_zero, List.getD_cons_succ, List.getD_nil, List.contains_cons, List.contains_nil, Nat.reduceAdd, Nat.reduceBEq, Bool.or_false, Bool.false_or, Bool.or_true, Bool.true_or, Bool.false_eq_true, false_implies, true_implies, true_and, and_true, forall_const]; intros; go_simp; rfl)
          iterate 3 (refine Og.Joint2.step_pureP (fun p vs v w h => h.other (by decide)) (fun _ => trivial) ?_; apply Exists.intro; refine And.intro ?_ ?_; focus (intro p vs w2 hp hC hk; refine Og.OptB.mk ?_; revert hk; simp only [Og.KS, Og.K0, Og.Is, List.getD_cons_zero, List.getD_cons_succ, List.getD_nil, List.contains_cons, List.contains_nil, Nat.reduceAdd, Nat.reduceBEq, Bool.or_false, Bool.false_or, Bool.or_true, Bool.true_or, Bool.false_eq_true, false_implies, true_implies, true_and, and_true, forall_const]; intros; go_simp; rfl))
          refine Og.Joint2.step_pureP (fun p vs v w h => h.other (by decide)) (fun _ => trivial) ?_; apply Exists.intro; refine And.intro ?_ ?_; focus (intro p vs w2 hp hC hk; obtain rfl := hC.at_ (by decide) hp; refine Og.OptB.mk ?_; revert hk; simp only [Og.KS, Og.K0, Og.Is, List.getD_cons_zero, List.getD_cons_succ, List.getD_nil, List.contains_cons, List.contains_nil, Nat.reduceAdd, Nat.reduceBEq, Bool.or_false, Bool.false_or, Bool.or_true, Bool.true_or, Bool.false_eq_true, false_implies, true_implies, true_and, and_true, forall_const]; intros; go_simp; rfl)
          refine Og.Joint2.step_pureP (fun p vs v w h => h.other (by decide)) (fun _ => trivial) ?_; apply Exists.intro; refine And.intro ?_ ?_; focus (intro p vs w2 hp hC hk; refine Og.OptB.mk ?_; revert hk; simp only [Og.KS, Og.K0, Og.Is, List.getD_cons_zero, List.getD_cons_succ, List.getD_nil, List.contains_cons, List.contains_nil, Nat.reduceAdd, Nat.reduceBEq, Bool.or_false, Bool.false_or, Bool.or_true, Bool.true_or, Bool.false_eq_true, false_implies, true_implies, true_and, and_true, forall_const]; intros; go_simp; rfl)
          refine Og.Joint2.step_any (fun _ _ => True) (fun _ _ _ _ _ => trivial) ?_ ?_; focus (intro p vs w2 hp hC hk; obtain rfl := hC.now hp.1; have hdn : ∀ j ∈ [9, 13], p j = true := (by intro j hj; exact hp.2 j (by revert hj; revert j; decide)); revert hk; simp only [Og.KS, Og.K0, Og.Is, List.getD_cons_zero, List.getD_cons_succ, List.getD_nil, List.contains_cons, List.contains_nil, Nat.reduceAdd, Nat.reduceBEq, Bool.or_false, Bool.false_or, Bool.or_true, Bool.true_or, Bool.false_eq_true, false_implies, true_implies, true_and, and_true, forall_const]; intros; refine optB_storeR (by go_simp) rfl (by go_simp) (by go_simp) R1.out (CX.done hdn))
          intro p vs w5 hp hC hk
          obtain rfl := hC.fin (hp 15 (by decide))
          simp only [Og.KS, Og.K0, Og.Is, List.getD_cons_zero, List.getD_cons_succ, List.getD_nil, List.contains_cons, List.contains_nil, Nat.reduceAdd, Nat.reduceBEq, Bool.or_false, Bool.false_or, Bool.or_true, Bool.true_or, Bool.false_eq_true, false_implies, true_implies, true_and, and_true, forall_const] at hk
          simp only [hk, Act.put, List.setIfInBounds_toArray, List.set_cons_zero, List.set_cons_succ]
          clear hk hp hC
          go_wp2_with (refine wpList_storeR (ty := 3) (x := .tmp 128) (y := .tmp 126) rfl rfl rfl (by go_simp) (by go_simp) R2.out ?_)
          go_wp2_with fail
          go_roundw
          case rel => exact ⟨q, _, ⟨HQ.out.1, HQ.out.2.1⟩, by go_num, FIN⟩
          case measure => have := HQ.out; simp [intOf]; omega
        · have gk : ¬ (j : Int) < (k : Int) := by omega
          have FIN : Hid (SW B gd od cd ds g tl wr cur ∧ RP a b xs cur ∧ Up (kd ds) cur a b ∧ w.grownBy wr (some g)) := Lib.hid (by
            have e : k = j := by omega
            have := HIJ.out
            have := HAB.out
            subst e
            refine ⟨hT.out.1, hT.out.2.2.1, ?_, hT.out.2.2.2⟩
            rw [HAB.out.2.1]
            exact hT.out.2.1.up (by omega) (by omega) HU.out (fun t h1 h2 => hcut.out.1 t (by omega) (by omega)) (fun t h1 h2 => hcut.out.2 t (by omega) h2))
          clear hT hk hlen hlt hcut
          go_wp2_with fail
          refine bodyPost_ret (results_none rfl _ _ _) rfl ?_
          exact ⟨rfl, _, FIN.out⟩

end Go.Proofs.YtjbglifmppilfaaDoor
namespace Go.Proofs.YtjbglifmppilfaaDoor
open Go.ChangeShapes Go.WideShapes Go.ChangeAt Go.RowKit
set_option linter.unusedVariables false
set_option linter.unusedSimpArgs false
attribute [local go_sem] Og.Opt Og.OpY

noncomputable def body66 : Code := match Tryd.f66.body with | some c => c | none => .skip
noncomputable def tail66 : Code := sub2 (sub2 (sub2 (sub2 (sub2 (sub2 (sub2 body66))))))
noncomputable def tail66a : Code := sub2 (sub2 tail66)
noncomputable def tail66b : Code := sub2 tail66a
noncomputable def tail66c : Code := sub2 tail66b
theorem tail66b_eq : tail66b = (sub1 tail66b).seq tail66c := by kernel_rfl
theorem tail66a_eq : tail66a = (sub1 tail66a).seq tail66b := by kernel_rfl
theorem tail66_eq : tail66 = (sub1 tail66).seq ((sub1 (sub2 tail66)).seq tail66a) := by kernel_rfl
/-- what merging of smaller ranges does -/
def IHm (B gd od cd : Nat) (ds : List Int) (g : Nat) (tl : List Value) (l c N : Nat) : Prop := ∀ (a m b : Nat) (xs : List Nat) (w : World), b - a < N → SW B gd od cd ds g tl w xs → a < m → m < b → b ≤ l → xs.length = l → Up (kd ds) xs a m → Up (kd ds) xs m b → Calls Tryd.prog 66 #[.slice (some ⟨g, 0, none⟩) l c, .int .i64 a, .int .i64 m, .int .i64 b, .func (.func 33) #[] #[.pointer (some ⟨B, 0, none⟩)]] w fun e w' => e = .returned (.tuple #[]) ∧ ∃ ys, SW B gd od cd ds g tl w' ys ∧ RP a b xs ys ∧ Up (kd ds) ys a b ∧ w.grownBy w' (some g)
set_option maxRecDepth 100000 in
set_option maxHeartbeats 8000000 in
theorem symT3 (Ψ : World → Prop) (B gd od cd : Nat) (ds : List Int) (g : Nat) (tl : List Value) (l c b mid en N : Nat) (xs : List Nat) (w : World) (t1 t2 t5 t6 t7 t8 t9 t10 t11 t12 t13 t14 t15 t16 t17 t19 t20 t21 t22 t23 t25 t26 t27 t28 t29 t30 t31 t32 t33 t34 t35 t36 t37 t38 t39 t40 t41 t42 t43 t44 t45 t46 t47 t48 t49 t50 t51 t52 t53 t54 t55 t56 t57 t58 t59 t60 t61 t62 t63 t64 t65 t66 t67 t68 t69 t70 t71 t72 t73 t74 t75 t76 t77 t78 t79 t80 t81 t82 t83 t84 t85 t86 t87 t88 t89 t90 t91 t92 t93 t94 t95 t96 t97 t98 t99 t100 t101 t102 t103 t104 t105 t106 t107 t108 t109 t110 t111 t112 t113 t114 t115 t116 t117 t118 t119 t120 t121 t122 t123 t124 t125 t126 t127 t128 t129 t130 t131 t132 t133 t134 t135 t136 t137 t138 t139 t140 t141 t142 t143 t144 t145 t146 t147 t148 t149 t150 t151 t152 t153 t154 t155 t156 t157 t158 t159 t160 t161 t162 t163 t164 t165 t166 t167 t168 t169 t170 t171 t172 t173 t174 t175 t176 t177 t178 t179 t180 t181 t182 t183 t184 t185 t186 t187 t188 t189 t190 t191 t192 t193 t194 t195 t196 t197 t198 t199 t200 t201 t202 t203 t204 t205 t206 t207 t208 t209 t210 t211 t212 t213 t214 t215 t216 t217 t218 t219 : Value)
    (S : Hid (SW B gd od cd ds g tl w xs ∧ xs.length = l)) (HB : Hid (mid ≤ en ∧ en ≤ b ∧ b ≤ l ∧ b - mid < N)) (U : Hid (Up (kd ds) xs mid en ∧ Up (kd ds) xs en b)) (IH : Hid (IHm B gd od cd ds g tl l c N))
    (HΨ : Hid (∀ ys w', SW B gd od cd ds g tl w' ys → RP mid b xs ys → Up (kd ds) ys mid b → w.grownBy w' (some g) → Ψ w')) :
    tail66c.wp Tryd.prog (bodyPost Tryd.prog Tryd.f66 fun e w' => e = .returned (.tuple #[]) ∧ Ψ w') { tmps := #[.slice (some ⟨g, 0, none⟩) l c, t1, t2, .int .i64 b, .func (.func 33) #[] #[.pointer (some ⟨B, 0, none⟩)], t5, t6, t7, t8, t9, t10, t11, t12, t13, t14, t15, t16, t17, .int .i64 mid, t19, t20, t21, t22, t23, .int .i64 en, t25, t26, t27, t28, t29, t30, t31, t32, t33, t34, t35, t36, t37, t38, t39, t40, t41, t42, t43, t44, t45, t46, t47, t48, t49, t50, t51, t52, t53, t54, t55, t56, t57, t58, t59, t60, t61, t62, t63, t64, t65, t66, t67, t68, t69, t70, t71, t72, t73, t74, t75, t76, t77, t78, t79, t80, t81, t82, t83, t84, t85, t86, t87, t88, t89, t90, t91, t92, t93, t94, t95, t96, t97, t98, t99, t100, t101, t102, t103, t104, t105, t106, t107, t108, t109, t110, t111, t112, t113, t114, t115, t116, t117, t118, t119, t120, t121, t122, t123, t124, t125, t126, t127, t128, t129, t130, t131, t132, t133, t134, t135, t136, t137, t138, t139, t140, t141, t142, t143, t144, t145, t146, t147, t148, t149, t150, t151, t152, t153, t154, t155, t156, t157, t158, t159, t160, t161, t162, t163, t164, t165, t166, t167, t168, t169, t170, t171, t172, t173, t174, t175, t176, t177, t178, t179, t180, t181, t182, t183, t184, t185, t186, t187, t188, t189, t190, t191, t192, t193, t194, t195, t196, t197, t198, t199, t200, t201, t202, t203, t204, t205, t206, t207, t208, t209, t210, t211, t212, t213, t214, t215, t216, t217, t218, t219], defers := [] } w := by
  simp only [tail66c, tail66b, tail66a, tail66, body66, Tryd.f66, sub2]
  by_cases h1 : mid < en
  · have g1 : (mid : Int) < (en : Int) := by omega
    by_cases h2 : en < b
    · have g2 : (en : Int) < (b : Int) := by omega
      have CALL := Lib.hid (IH.out mid en b xs w HB.out.2.2.2 S.out.1 h1 h2 HB.out.2.2.1 S.out.2 U.out.1 U.out.2)
      clear h1 h2
      go_wp2_with fail
      with_reducible refine CALL.out.mono ?_
      rintro e w3 ⟨rfl, ys, S3, R3, U3, G3⟩
      have FIN := Lib.hid (HΨ.out ys w3 S3 R3 U3 G3)
      clear S3 R3 U3 G3 CALL
      go_wp2_with fail
      go_end0
      exact ⟨rfl, FIN.out⟩
    · have g2 : ¬ (en : Int) < (b : Int) := by omega
      have FIN := Lib.hid (HΨ.out xs w S.out.1 (RP.refl _ _ _) (by have := HB.out; rw [show b = en by omega]; exact U.out.1) (grown_refl _ _))
      clear h1
      go_wp2_with fail
      go_end0
      exact ⟨rfl, FIN.out⟩
  · have g1 : ¬ (mid : Int) < (en : Int) := by omega
    have FIN := Lib.hid (HΨ.out xs w S.out.1 (RP.refl _ _ _) (by have := HB.out; rw [show mid = en by omega]; exact U.out.2) (grown_refl _ _))
    go_wp2_with fail
    go_end0
    exact ⟨rfl, FIN.out⟩
set_option maxRecDepth 100000 in
set_option maxHeartbeats 8000000 in
theorem symT2 (Ψ : World → Prop) (B gd od cd : Nat) (ds : List Int) (g : Nat) (tl : List Value) (l c a b s mid en N : Nat) (xs : List Nat) (w : World) (t2 t5 t6 t7 t8 t9 t10 t11 t12 t13 t14 t15 t16 t17 t19 t21 t22 t23 t25 t26 t27 t28 t29 t30 t31 t32 t33 t34 t35 t36 t37 t38 t39 t40 t41 t42 t43 t44 t45 t46 t47 t48 t49 t50 t51 t52 t53 t54 t55 t56 t57 t58 t59 t60 t61 t62 t63 t64 t65 t66 t67 t68 t69 t70 t71 t72 t73 t74 t75 t76 t77 t78 t79 t80 t81 t82 t83 t84 t85 t86 t87 t88 t89 t90 t91 t92 t93 t94 t95 t96 t97 t98 t99 t100 t101 t102 t103 t104 t105 t106 t107 t108 t109 t110 t111 t112 t113 t114 t115 t116 t117 t118 t119 t120 t121 t122 t123 t124 t125 t126 t127 t128 t129 t130 t131 t132 t133 t134 t135 t136 t137 t138 t139 t140 t141 t142 t143 t144 t145 t146 t147 t148 t149 t150 t151 t152 t153 t154 t155 t156 t157 t158 t159 t160 t161 t162 t163 t164 t165 t166 t167 t168 t169 t170 t171 t172 t173 t174 t175 t176 t177 t178 t179 t180 t181 t182 t183 t184 t185 t186 t187 t188 t189 t190 t191 t192 t193 t194 t195 t196 t197 t198 t199 t200 t201 t202 t203 t204 t205 t206 t207 t208 t209 t210 t211 t212 t213 t214 t215 t216 t217 t218 t219 : Value)
    (S : Hid (SW B gd od cd ds g tl w xs ∧ xs.length = l)) (HB : Hid (a ≤ s ∧ s ≤ mid ∧ mid ≤ en ∧ en ≤ b ∧ b ≤ l ∧ mid - a < N ∧ b - mid < N)) (U : Hid (Up (kd ds) xs a s ∧ Up (kd ds) xs s mid ∧ Up (kd ds) xs mid en ∧ Up (kd ds) xs en b)) (IH : Hid (IHm B gd od cd ds g tl l c N))
    (HΨ : Hid (∀ ys zs w', SW B gd od cd ds g tl w' zs → RP a mid xs ys → Up (kd ds) ys a mid → RP mid b ys zs → Up (kd ds) zs mid b → w.grownBy w' (some g) → Ψ w')) :
    tail66b.wp Tryd.prog (bodyPost Tryd.prog Tryd.f66 fun e w' => e = .returned (.tuple #[]) ∧ Ψ w') { tmps := #[.slice (some ⟨g, 0, none⟩) l c, .int .i64 a, t2, .int .i64 b, .func (.func 33) #[] #[.pointer (some ⟨B, 0, none⟩)], t5, t6, t7, t8, t9, t10, t11, t12, t13, t14, t15, t16, t17, .int .i64 mid, t19, .int .i64 s, t21, t22, t23, .int .i64 en, t25, t26, t27, t28, t29, t30, t31, t32, t33, t34, t35, t36, t37, t38, t39, t40, t41, t42, t43, t44, t45, t46, t47, t48, t49, t50, t51, t52, t53, t54, t55, t56, t57, t58, t59, t60, t61, t62, t63, t64, t65, t66, t67, t68, t69, t70, t71, t72, t73, t74, t75, t76, t77, t78, t79, t80, t81, t82, t83, t84, t85, t86, t87, t88, t89, t90, t91, t92, t93, t94, t95, t96, t97, t98, t99, t100, t101, t102, t103, t104, t105, t106, t107, t108, t109, t110, t111, t112, t113, t114, t115, t116, t117, t118, t119, t120, t121, t122, t123, t124, t125, t126, t127, t128, t129, t130, t131, t132, t133, t134, t135, t136, t137, t138, t139, t140, t141, t142, t143, t144, t145, t146, t147, t148, t149, t150, t151, t152, t153, t154, t155, t156, t157, t158, t159, t160, t161, t162, t163, t164, t165, t166, t167, t168, t169, t170, t171, t172, t173, t174, t175, t176, t177, t178, t179, t180, t181, t182, t183, t184, t185, t186, t187, t188, t189, t190, t191, t192, t193, t194, t195, t196, t197, t198, t199, t200, t201, t202, t203, t204, t205, t206, t207, t208, t209, t210, t211, t212, t213, t214, t215, t216, t217, t218, t219], defers := [] } w := by
  have T3 := @symT3
  rw [tail66b_eq]
  simp only [tail66b, tail66a, tail66, body66, Tryd.f66, sub1, sub2]
  have HB3 : Hid (mid ≤ en ∧ en ≤ b ∧ b ≤ l ∧ b - mid < N) := Lib.hid (by have := HB.out; omega)
  have none1 : s = a ∨ s = mid → Hid (∀ zs w', SW B gd od cd ds g tl w' zs → RP mid b xs zs → Up (kd ds) zs mid b → w.grownBy w' (some g) → Ψ w') := fun h => Lib.hid (fun zs w' s1 r1 u1 g1 => HΨ.out xs zs w' s1 (RP.refl _ _ _) (by rcases h with h | h <;> rw [← h] <;> first | exact U.out.2.1 | exact U.out.1) r1 u1 g1)
  have T3' := Lib.hid T3
  clear T3
  by_cases h1 : a < s
  · have g1 : (a : Int) < (s : Int) := by omega
    by_cases h2 : s < mid
    · have g2 : (s : Int) < (mid : Int) := by omega
      have CALL := Lib.hid (IH.out a s mid xs w HB.out.2.2.2.2.2.1 S.out.1 h1 h2 (by have := HB.out; omega) S.out.2 U.out.1 U.out.2.1)
      clear h1 h2 none1
      go_wp2_with fail
      with_reducible refine CALL.out.mono ?_
      rintro e w3 ⟨rfl, ys, S3, R3, U3, G3⟩
      have S' := Lib.hid (show SW B gd od cd ds g tl w3 ys ∧ ys.length = l from ⟨S3, by rw [R3.len]; exact S.out.2⟩)
      have U' := Lib.hid (show Up (kd ds) ys mid en ∧ Up (kd ds) ys en b from ⟨U.out.2.2.1.out R3 (.inr (Nat.le_refl _)), U.out.2.2.2.out R3 (by have := HB.out; omega)⟩)
      have P' := Lib.hid (show ∀ zs w', SW B gd od cd ds g tl w' zs → RP mid b ys zs → Up (kd ds) zs mid b → w3.grownBy w' (some g) → Ψ w' from fun zs w' s1 r1 u1 g1 => HΨ.out ys zs w' s1 R3 U3 r1 u1 (gtr G3 g1))
      clear S3 R3 U3 G3 CALL
      go_wp2_with fail
      exact T3'.out Ψ B gd od cd ds g tl l c b mid en N ys _ _ _ _ _ _ _ _ _ _ _ _ _ _ _ _ _ _ _ _ _ _ _ _ _ _ _ _ _ _ _ _ _ _ _ _ _ _ _ _ _ _ _ _ _ _ _ _ _ _ _ _ _ _ _ _ _ _ _ _ _ _ _ _ _ _ _ _ _ _ _ _ _ _ _ _ _ _ _ _ _ _ _ _ _ _ _ _ _ _ _ _ _ _ _ _ _ _ _ _ _ _ _ _ _ _ _ _ _ _ _ _ _ _ _ _ _ _ _ _ _ _ _ _ _ _ _ _ _ _ _ _ _ _ _ _ _ _ _ _ _ _ _ _ _ _ _ _ _ _ _ _ _ _ _ _ _ _ _ _ _ _ _ _ _ _ _ _ _ _ _ _ _ _ _ _ _ _ _ _ _ _ _ _ _ _ _ _ _ _ _ _ _ _ _ _ _ _ _ _ _ _ _ _ _ _ _ _ _ _ _ _ _ _ _ _ S' HB3 U' IH P'
    · have g2 : ¬ (s : Int) < (mid : Int) := by omega
      have P' := none1 (.inr (by have := HB.out; omega))
      have U' := Lib.hid (And.intro U.out.2.2.1 U.out.2.2.2)
      clear h1 none1
      go_wp2_with fail
      exact T3'.out Ψ B gd od cd ds g tl l c b mid en N xs w _ _ _ _ _ _ _ _ _ _ _ _ _ _ _ _ _ _ _ _ _ _ _ _ _ _ _ _ _ _ _ _ _ _ _ _ _ _ _ _ _ _ _ _ _ _ _ _ _ _ _ _ _ _ _ _ _ _ _ _ _ _ _ _ _ _ _ _ _ _ _ _ _ _ _ _ _ _ _ _ _ _ _ _ _ _ _ _ _ _ _ _ _ _ _ _ _ _ _ _ _ _ _ _ _ _ _ _ _ _ _ _ _ _ _ _ _ _ _ _ _ _ _ _ _ _ _ _ _ _ _ _ _ _ _ _ _ _ _ _ _ _ _ _ _ _ _ _ _ _ _ _ _ _ _ _ _ _ _ _ _ _ _ _ _ _ _ _ _ _ _ _ _ _ _ _ _ _ _ _ _ _ _ _ _ _ _ _ _ _ _ _ _ _ _ _ _ _ _ _ _ _ _ _ _ _ _ _ _ _ _ _ _ _ _ S HB3 U' IH P'
  · have g1 : ¬ (a : Int) < (s : Int) := by omega
    have P' := none1 (.inl (by have := HB.out; omega))
    have U' := Lib.hid (And.intro U.out.2.2.1 U.out.2.2.2)
    clear none1
    go_wp2_with fail
    exact T3'.out Ψ B gd od cd ds g tl l c b mid en N xs w _ _ _ _ _ _ _ _ _ _ _ _ _ _ _ _ _ _ _ _ _ _ _ _ _ _ _ _ _ _ _ _ _ _ _ _ _ _ _ _ _ _ _ _ _ _ _ _ _ _ _ _ _ _ _ _ _ _ _ _ _ _ _ _ _ _ _ _ _ _ _ _ _ _ _ _ _ _ _ _ _ _ _ _ _ _ _ _ _ _ _ _ _ _ _ _ _ _ _ _ _ _ _ _ _ _ _ _ _ _ _ _ _ _ _ _ _ _ _ _ _ _ _ _ _ _ _ _ _ _ _ _ _ _ _ _ _ _ _ _ _ _ _ _ _ _ _ _ _ _ _ _ _ _ _ _ _ _ _ _ _ _ _ _ _ _ _ _ _ _ _ _ _ _ _ _ _ _ _ _ _ _ _ _ _ _ _ _ _ _ _ _ _ _ _ _ _ _ _ _ _ _ _ _ _ _ _ _ _ _ _ _ _ _ _ S HB3 U' IH P'
set_option maxRecDepth 100000 in
set_option maxHeartbeats 8000000 in
theorem symT1 (Ψ : World → Prop) (B gd od cd : Nat) (ds : List Int) (g : Nat) (tl : List Value) (l c a m b s mid en N : Nat) (xs : List Nat) (w : World) (t5 t6 t7 t8 t9 t10 t11 t12 t13 t14 t15 t16 t17 t19 t21 t22 t23 t25 t26 t27 t28 t29 t30 t31 t32 t33 t34 t35 t36 t37 t38 t39 t40 t41 t42 t43 t44 t45 t46 t47 t48 t49 t50 t51 t52 t53 t54 t55 t56 t57 t58 t59 t60 t61 t62 t63 t64 t65 t66 t67 t68 t69 t70 t71 t72 t73 t74 t75 t76 t77 t78 t79 t80 t81 t82 t83 t84 t85 t86 t87 t88 t89 t90 t91 t92 t93 t94 t95 t96 t97 t98 t99 t100 t101 t102 t103 t104 t105 t106 t107 t108 t109 t110 t111 t112 t113 t114 t115 t116 t117 t118 t119 t120 t121 t122 t123 t124 t125 t126 t127 t128 t129 t130 t131 t132 t133 t134 t135 t136 t137 t138 t139 t140 t141 t142 t143 t144 t145 t146 t147 t148 t149 t150 t151 t152 t153 t154 t155 t156 t157 t158 t159 t160 t161 t162 t163 t164 t165 t166 t167 t168 t169 t170 t171 t172 t173 t174 t175 t176 t177 t178 t179 t180 t181 t182 t183 t184 t185 t186 t187 t188 t189 t190 t191 t192 t193 t194 t195 t196 t197 t198 t199 t200 t201 t202 t203 t204 t205 t206 t207 t208 t209 t210 t211 t212 t213 t214 t215 t216 t217 t218 t219 : Value)
    (S : Hid (SW B gd od cd ds g tl w xs ∧ xs.length = l)) (HB : Hid ((a ≤ s ∧ s ≤ mid ∧ mid ≤ en ∧ en ≤ b ∧ b ≤ l ∧ mid - a < N ∧ b - mid < N) ∧ s ≤ m ∧ m ≤ en ∧ l ≤ 1000)) (IH : Hid (IHm B gd od cd ds g tl l c N))
    (HU : Hid (∀ ys, Rot xs ys s m en → Up (kd ds) ys a s ∧ Up (kd ds) ys s mid ∧ Up (kd ds) ys mid en ∧ Up (kd ds) ys en b))
    (HΨ : Hid (∀ xs' ys zs w', SW B gd od cd ds g tl w' zs → Rot xs xs' s m en → RP a b xs xs' → RP a mid xs' ys → Up (kd ds) ys a mid → RP mid b ys zs → Up (kd ds) zs mid b → w.grownBy w' (some g) → Ψ w')) :
    tail66a.wp Tryd.prog (bodyPost Tryd.prog Tryd.f66 fun e w' => e = .returned (.tuple #[]) ∧ Ψ w') { tmps := #[.slice (some ⟨g, 0, none⟩) l c, .int .i64 a, .int .i64 m, .int .i64 b, .func (.func 33) #[] #[.pointer (some ⟨B, 0, none⟩)], t5, t6, t7, t8, t9, t10, t11, t12, t13, t14, t15, t16, t17, .int .i64 mid, t19, .int .i64 s, t21, t22, t23, .int .i64 en, t25, t26, t27, t28, t29, t30, t31, t32, t33, t34, t35, t36, t37, t38, t39, t40, t41, t42, t43, t44, t45, t46, t47, t48, t49, t50, t51, t52, t53, t54, t55, t56, t57, t58, t59, t60, t61, t62, t63, t64, t65, t66, t67, t68, t69, t70, t71, t72, t73, t74, t75, t76, t77, t78, t79, t80, t81, t82, t83, t84, t85, t86, t87, t88, t89, t90, t91, t92, t93, t94, t95, t96, t97, t98, t99, t100, t101, t102, t103, t104, t105, t106, t107, t108, t109, t110, t111, t112, t113, t114, t115, t116, t117, t118, t119, t120, t121, t122, t123, t124, t125, t126, t127, t128, t129, t130, t131, t132, t133, t134, t135, t136, t137, t138, t139, t140, t141, t142, t143, t144, t145, t146, t147, t148, t149, t150, t151, t152, t153, t154, t155, t156, t157, t158, t159, t160, t161, t162, t163, t164, t165, t166, t167, t168, t169, t170, t171, t172, t173, t174, t175, t176, t177, t178, t179, t180, t181, t182, t183, t184, t185, t186, t187, t188, t189, t190, t191, t192, t193, t194, t195, t196, t197, t198, t199, t200, t201, t202, t203, t204, t205, t206, t207, t208, t209, t210, t211, t212, t213, t214, t215, t216, t217, t218, t219], defers := [] } w := by
  have T2 := @symT2
  rw [tail66a_eq]
  simp only [tail66a, tail66, body66, Tryd.f66, sub1, sub2]
  have T2' := Lib.hid T2
  have HB2 := Lib.hid HB.out.1
  have none1 : s = m ∨ m = en → Hid (∀ ys zs w', SW B gd od cd ds g tl w' zs → RP a mid xs ys → Up (kd ds) ys a mid → RP mid b ys zs → Up (kd ds) zs mid b → w.grownBy w' (some g) → Ψ w') ∧ Hid (Up (kd ds) xs a s ∧ Up (kd ds) xs s mid ∧ Up (kd ds) xs mid en ∧ Up (kd ds) xs en b) := fun h =>
    ⟨Lib.hid (fun ys zs w' s1 r1 u1 r2 u2 g1 => HΨ.out xs ys zs w' s1 (Rot.id h) (RP.refl _ _ _) r1 u1 r2 u2 g1), Lib.hid (HU.out xs (Rot.id h))⟩
  clear T2
  by_cases h1 : s < m
  · have g1 : (s : Int) < (m : Int) := by omega
    by_cases h2 : m < en
    · have g2 : (m : Int) < (en : Int) := by omega
      have CALL0 := rot_ok B gd od cd ds g tl c s m en xs w S.out.1 h1 h2 (by have := HB.out; have := S.out.2; omega) (by have := HB.out; have := S.out.2; omega)
      rw [S.out.2] at CALL0
      have CALL := Lib.hid CALL0
      clear h1 h2 none1 CALL0
      go_wp2_with fail
      with_reducible refine CALL.out.mono ?_
      rintro e w3 ⟨rfl, ys, S3, W3, R3, G3⟩
      have S' := Lib.hid (show SW B gd od cd ds g tl w3 ys ∧ ys.length = l from ⟨S3, by rw [R3.len]; exact S.out.2⟩)
      have U' := Lib.hid (HU.out ys W3)
      have P' := Lib.hid (show ∀ us zs w', SW B gd od cd ds g tl w' zs → RP a mid ys us → Up (kd ds) us a mid → RP mid b us zs → Up (kd ds) zs mid b → w3.grownBy w' (some g) → Ψ w' from fun us zs w' s1 r1 u1 r2 u2 g1 => HΨ.out ys us zs w' s1 W3 (R3.mono (by have := HB.out; omega) (by have := HB.out; omega)) r1 u1 r2 u2 (gtr G3 g1))
      clear S3 W3 R3 G3 CALL
      go_wp2_with fail
      exact T2'.out Ψ B gd od cd ds g tl l c a b s mid en N ys _ _ _ _ _ _ _ _ _ _ _ _ _ _ _ _ _ _ _ _ _ _ _ _ _ _ _ _ _ _ _ _ _ _ _ _ _ _ _ _ _ _ _ _ _ _ _ _ _ _ _ _ _ _ _ _ _ _ _ _ _ _ _ _ _ _ _ _ _ _ _ _ _ _ _ _ _ _ _ _ _ _ _ _ _ _ _ _ _ _ _ _ _ _ _ _ _ _ _ _ _ _ _ _ _ _ _ _ _ _ _ _ _ _ _ _ _ _ _ _ _ _ _ _ _ _ _ _ _ _ _ _ _ _ _ _ _ _ _ _ _ _ _ _ _ _ _ _ _ _ _ _ _ _ _ _ _ _ _ _ _ _ _ _ _ _ _ _ _ _ _ _ _ _ _ _ _ _ _ _ _ _ _ _ _ _ _ _ _ _ _ _ _ _ _ _ _ _ _ _ _ _ _ _ _ _ _ _ _ _ _ _ _ _ S' HB2 U' IH P'
    · have g2 : ¬ (m : Int) < (en : Int) := by omega
      obtain ⟨P', U'⟩ := none1 (.inr (by have := HB.out; omega))
      clear h1 none1
      go_wp2_with fail
      exact T2'.out Ψ B gd od cd ds g tl l c a b s mid en N xs w _ _ _ _ _ _ _ _ _ _ _ _ _ _ _ _ _ _ _ _ _ _ _ _ _ _ _ _ _ _ _ _ _ _ _ _ _ _ _ _ _ _ _ _ _ _ _ _ _ _ _ _ _ _ _ _ _ _ _ _ _ _ _ _ _ _ _ _ _ _ _ _ _ _ _ _ _ _ _ _ _ _ _ _ _ _ _ _ _ _ _ _ _ _ _ _ _ _ _ _ _ _ _ _ _ _ _ _ _ _ _ _ _ _ _ _ _ _ _ _ _ _ _ _ _ _ _ _ _ _ _ _ _ _ _ _ _ _ _ _ _ _ _ _ _ _ _ _ _ _ _ _ _ _ _ _ _ _ _ _ _ _ _ _ _ _ _ _ _ _ _ _ _ _ _ _ _ _ _ _ _ _ _ _ _ _ _ _ _ _ _ _ _ _ _ _ _ _ _ _ _ _ _ _ _ _ _ _ _ _ _ _ _ S HB2 U' IH P'
  · have g1 : ¬ (s : Int) < (m : Int) := by omega
    obtain ⟨P', U'⟩ := none1 (.inl (by have := HB.out; omega))
    clear none1
    go_wp2_with fail
    exact T2'.out Ψ B gd od cd ds g tl l c a b s mid en N xs w _ _ _ _ _ _ _ _ _ _ _ _ _ _ _ _ _ _ _ _ _ _ _ _ _ _ _ _ _ _ _ _ _ _ _ _ _ _ _ _ _ _ _ _ _ _ _ _ _ _ _ _ _ _ _ _ _ _ _ _ _ _ _ _ _ _ _ _ _ _ _ _ _ _ _ _ _ _ _ _ _ _ _ _ _ _ _ _ _ _ _ _ _ _ _ _ _ _ _ _ _ _ _ _ _ _ _ _ _ _ _ _ _ _ _ _ _ _ _ _ _ _ _ _ _ _ _ _ _ _ _ _ _ _ _ _ _ _ _ _ _ _ _ _ _ _ _ _ _ _ _ _ _ _ _ _ _ _ _ _ _ _ _ _ _ _ _ _ _ _ _ _ _ _ _ _ _ _ _ _ _ _ _ _ _ _ _ _ _ _ _ _ _ _ _ _ _ _ _ _ _ _ _ _ _ _ _ _ _ _ _ _ _ S HB2 U' IH P'

end Go.Proofs.YtjbglifmppilfaaDoor
