/- slices.BinarySearchFunc at nodes, links and pins; the places of a node, a link, a pin; conditions: the lists are sorted and fit the memory. -/
import Derived.Test.YtpklcefiabjplaaG1
namespace Go.Proofs.Ytpklcefiabjplaa
open Go.ChangeShapes Go.WideShapes Go.ChangeAt Go.RowKit
set_option linter.unusedVariables false
set_option linter.unusedSimpArgs false
attribute [local go_sem] Og.Opt Og.OpY

/-- below the target stands a beginning -/
def Mono {α : Type} (c : α → Int) (xs : List α) : Prop := ∀ (i j : Nat) x y, xs[i]? = some x → xs[j]? = some y → i < j → c y < 0 → c x < 0
def Cut {α : Type} (c : α → Int) (xs : List α) (k : Nat) : Prop := k ≤ xs.length ∧ (∀ (i : Nat) x, xs[i]? = some x → i < k → c x < 0) ∧ (∀ (i : Nat) x, xs[i]? = some x → k ≤ i → 0 ≤ c x)
def hitE {α : Type} (c : α → Int) (xs : List α) (k : Nat) : Bool := match xs[k]? with | some x => c x == 0 | none => false
theorem mono_upto {α : Type} {c : α → Int} {xs : List α} {m : Nat} {r : α} (hs : Mono c xs) (hx : xs[m]? = some r) (h : c r < 0) : ∀ (i : Nat) s, xs[i]? = some s → i < m + 1 → c s < 0 := by
  intro i s hi hlt
  rcases Nat.lt_or_ge i m with h1 | h1
  · exact hs i m s r hi hx h1 h
  · obtain rfl : i = m := by omega
    rw [hx] at hi; cases hi; exact h
theorem mono_from {α : Type} {c : α → Int} {xs : List α} {m : Nat} {r : α} (hs : Mono c xs) (hx : xs[m]? = some r) (h : ¬ c r < 0) : ∀ (i : Nat) s, xs[i]? = some s → m ≤ i → 0 ≤ c s := by
  intro i s hi hlt
  refine Int.not_lt.1 fun hc => ?_
  rcases Nat.lt_or_ge m i with h1 | h1
  · exact h (hs m i r s hx hi h1 hc)
  · obtain rfl : i = m := by omega
    rw [hx] at hi; cases hi; exact h hc

set_option maxRecDepth 100000 in
set_option maxHeartbeats 4000000 in
theorem searchD (xs : List Nd) (n0 : Int) (A : Option Addr) (c : Nat) (w : World) (hr : Rd cNd 3 w A xs) (hl : xs.length ≤ 1125899906842624) (hs : Mono (fun x => sg x.i n0) xs) :
    Calls Try.prog 98 #[.slice A xs.length c, .int .i64 n0, .func (.func 99) #[] #[]] w fun e w' => (∃ k : Nat, e = .returned (.tuple #[.int .i64 (k : Int), .bool (hitE (fun x => sg x.i n0) xs k)]) ∧ Cut (fun x => sg x.i n0) xs k) ∧ Below w.heap.size w w' := by
  obtain ⟨n, hn⟩ : ∃ n, n = xs.length := ⟨_, rfl⟩
  rw [← hn] at hl
  have HN := Lib.hid hn
  have HR := Lib.hid hr
  have HS := Lib.hid hs
  rw [← hn]
  clear hn hr hs
  go_enter Try.func98, Try.ntmps98
  go_wp2_with fail
  go_loopw [9, 10] (fun lo hi wr => ∃ a b : Nat, a ≤ b ∧ b ≤ n ∧ lo = .int .i64 (a : Int) ∧ hi = .int .i64 (b : Int) ∧ Hid (∀ (i : Nat) x, xs[i]? = some x → i < a → sg x.i n0 < 0) ∧ Hid (∀ (i : Nat) x, xs[i]? = some x → b ≤ i → 0 ≤ sg x.i n0) ∧ Hid (Below w.heap.size w wr)) (fun lo hi _ => (intOf hi).toNat - (intOf lo).toNat)
  case atStart => exact ⟨0, n, Nat.zero_le _, Nat.le_refl _, rfl, rfl, Lib.hid (fun i r _ h => by omega), Lib.hid (fun i r h hi => by have := (List.getElem?_eq_some_iff.1 h).1; have := HN.out; omega), Lib.hid (Below.refl _ _)⟩
  case round =>
    obtain ⟨a, b, hab, hbn, rfl, rfl, hlo, hhi, hbw⟩ := hrel
    by_cases hlt : a < b
    · have hwa : IntKind.i64.wrap (a : Int) = a := wrapk (by omega)
      have hwb : IntKind.i64.wrap (b : Int) = b := wrapk (by omega)
      have ha0 : (0 : Int) ≤ (a : Int) := by omega
      have hb0 : (b : Int) ≤ 1125899906842624 := by omega
      have habi : (a : Int) < (b : Int) := by omega
      obtain ⟨m, hm⟩ : ∃ m : Nat, m = (a + b) / 2 := ⟨_, rfl⟩
      have hmi : ((a : Int) + (b : Int)) / 2 = (m : Int) := by omega
      have ham : a ≤ m := by omega
      have hmb : m < b := by omega
      obtain ⟨r, hx⟩ : ∃ r, xs[m]? = some r := ⟨_, List.getElem?_eq_getElem (by rw [← HN.out]; omega)⟩
      obtain ⟨bk, o, rfl, hat⟩ := (HR.out.below hbw.out) m r hx
      have HX := Lib.hid hx
      have HAT := Lib.hid hat
      have hwm : IntKind.i64.wrap (m : Int) = m := wrapk (by omega)
      have hwm1 : IntKind.i64.wrap ((m : Int) + 1) = (m : Int) + 1 := by rw [IntKind.wrap_i64]; omega
      have hm0 : (0 : Int) ≤ (m : Int) := by omega
      have hmn : (m : Int) < (n : Int) := by omega
      clear hx hm hat
      obtain ⟨cv, hcv⟩ : ∃ z, z = (fun x : Nd => sg x.i n0) r := ⟨_, rfl⟩
      have H : Hid (∀ w, Calls Try.prog 99 #[.agg #[.int .i64 r.i, .bool false, .complex .f64 0 0], .int .i64 n0] w fun e w' => e = .returned (.int .i64 cv) ∧ Below w.heap.size w w') := Lib.hid (fun w => by rw [hcv]; exact cmpD_ok r n0 w)
      by_cases h1 : cv < 0
      · have UP := Lib.hid (mono_upto HS.out HX.out (by rw [hcv] at h1; exact h1))
        have tc : decide (cv < 0) = true := decide_eq_true h1
        clear hcv h1
        go_wp2_with (refine wpList_loadL rfl 41 (.tmp 27) rfl bk (o + m * 3) (.agg #[.int .i64 r.i, .bool false, .complex .f64 0 0]) rfl (run_loadL isAgg41 size41 rfl HAT.out) ?_)
        refine (H.out _).mono ?_
        rintro e w2 ⟨rfl, hb⟩
        have B2 := Lib.hid (bthen' hbw.out hbw.out.size hb)
        clear hb
        go_wp2_with fail
        go_roundw
        case rel => exact ⟨m + 1, b, by omega, by omega, by go_num, rfl, UP, hhi, B2⟩
        case measure => simp [intOf]; omega
      · have FR := Lib.hid (mono_from HS.out HX.out (by rw [hcv] at h1; exact h1))
        have tc : decide (cv < 0) = false := decide_eq_false h1
        clear hcv h1
        go_wp2_with (refine wpList_loadL rfl 41 (.tmp 27) rfl bk (o + m * 3) (.agg #[.int .i64 r.i, .bool false, .complex .f64 0 0]) rfl (run_loadL isAgg41 size41 rfl HAT.out) ?_)
        refine (H.out _).mono ?_
        rintro e w2 ⟨rfl, hb⟩
        have B2 := Lib.hid (bthen' hbw.out hbw.out.size hb)
        clear hb
        go_wp2_with fail
        go_roundw
        case rel => exact ⟨a, m, by omega, by omega, rfl, by go_num, hlo, FR, B2⟩
        case measure => simp [intOf]; omega
    · obtain rfl : b = a := by omega
      clear hab hlt
      have hwb : IntKind.i64.wrap (b : Int) = b := wrapk (by omega)
      have hb0 : (0 : Int) ≤ (b : Int) := by omega
      have HCUT : Hid (Cut (fun x => sg x.i n0) xs b) := Lib.hid ⟨by rw [← HN.out]; exact hbn, hlo.out, hhi.out⟩
      by_cases hbn2 : b < n
      · obtain ⟨r, hx⟩ : ∃ r, xs[b]? = some r := ⟨_, List.getElem?_eq_getElem (by rw [← HN.out]; omega)⟩
        have hbi : (b : Int) < (n : Int) := by omega
        have tn : decide ((b : Int) < (n : Int)) = true := decide_eq_true hbi
        obtain ⟨bk, o, rfl, hat⟩ := (HR.out.below hbw.out) b r hx
        have q0 : wr.cell? ⟨bk, o + b * 3, none⟩ = some (.int .i64 r.i) := hat 0 _ rfl
        have q1 : wr.cell? ⟨bk, o + b * 3 + 1, none⟩ = some (.bool false) := hat 1 _ rfl
        have q2 : wr.cell? ⟨bk, o + b * 3 + 2, none⟩ = some (.complex .f64 0 0) := hat 2 _ rfl
        have E := Lib.hid (show hitE (fun x => sg x.i n0) xs b = ((fun x : Nd => sg x.i n0) r == 0) by unfold hitE; rw [hx])
        clear hx hat
        obtain ⟨cv, hcv⟩ : ∃ z, z = (fun x : Nd => sg x.i n0) r := ⟨_, rfl⟩
        have H : Hid (∀ w, Calls Try.prog 99 #[.agg #[.int .i64 r.i, .bool false, .complex .f64 0 0], .int .i64 n0] w fun e w' => e = .returned (.int .i64 cv) ∧ Below w.heap.size w w') := Lib.hid (fun w => by rw [hcv]; exact cmpD_ok r n0 w)
        rw [← hcv] at E
        clear hcv
        go_wp2_with fail
        refine (H.out _).mono ?_
        rintro e w2 ⟨rfl, hb⟩
        have B2 := Lib.hid (bthen' hbw.out hbw.out.size hb)
        clear hb
        go_wp2_with fail
        go_ret2
        exact ⟨⟨b, by rw [E.out]; rfl, HCUT.out⟩, B2.out⟩
      · have tn : decide ((b : Int) < (n : Int)) = false := decide_eq_false (by omega)
        have hnb : ¬ (b : Int) < (n : Int) := by omega
        have E := Lib.hid (show hitE (fun x => sg x.i n0) xs b = false by unfold hitE; rw [List.getElem?_eq_none (by rw [← HN.out]; omega)])
        go_wp2_with fail
        go_ret2
        exact ⟨⟨b, by rw [E.out]; rfl, HCUT.out⟩, hbw.out⟩

set_option maxRecDepth 100000 in
set_option maxHeartbeats 4000000 in
theorem searchL (xs : List Lk) (q : Lk) (A : Option Addr) (c : Nat) (w : World) (hr : Rd cLk 4 w A xs) (hl : xs.length ≤ 1125899906842624) (hs : Mono (fun x => cmpL x q) xs) :
    Calls Try.prog 107 #[.slice A xs.length c, .agg #[.int .i64 q.f, .int .i64 q.t, .int .i64 q.c, .int .i64 q.d], .func (.func 38) #[] #[]] w fun e w' => (∃ k : Nat, e = .returned (.tuple #[.int .i64 (k : Int), .bool (hitE (fun x => cmpL x q) xs k)]) ∧ Cut (fun x => cmpL x q) xs k) ∧ Below w.heap.size w w' := by
  obtain ⟨n, hn⟩ : ∃ n, n = xs.length := ⟨_, rfl⟩
  rw [← hn] at hl
  have HN := Lib.hid hn
  have HR := Lib.hid hr
  have HS := Lib.hid hs
  rw [← hn]
  clear hn hr hs
  go_enter Try.func107, Try.ntmps107
  go_wp2_with fail
  obtain ⟨W, hW⟩ : ∃ W, w.alloc (Obj.cells #[.int .i64 q.f, .int .i64 q.t, .int .i64 q.c, .int .i64 q.d] 43) = W := ⟨_, rfl⟩
  have BW := Lib.hid (show Below w.heap.size w W by rw [← hW]; exact (Below.refl _ _).alloc (Nat.le_refl _) _)
  have HQ : Hid (AtL W w.heap.size 0 (cLk q)) := Lib.hid (by rw [← hW]; exact AtL_heap (heap_at rfl))
  rw [hW]
  clear hW
  go_loopw [9, 10] (fun lo hi wr => ∃ a b : Nat, a ≤ b ∧ b ≤ n ∧ lo = .int .i64 (a : Int) ∧ hi = .int .i64 (b : Int) ∧ Hid (∀ (i : Nat) x, xs[i]? = some x → i < a → cmpL x q < 0) ∧ Hid (∀ (i : Nat) x, xs[i]? = some x → b ≤ i → 0 ≤ cmpL x q) ∧ Hid (Below W.heap.size W wr)) (fun lo hi _ => (intOf hi).toNat - (intOf lo).toNat)
  case atStart => exact ⟨0, n, Nat.zero_le _, Nat.le_refl _, rfl, rfl, Lib.hid (fun i r _ h => by omega), Lib.hid (fun i r h hi => by have := (List.getElem?_eq_some_iff.1 h).1; have := HN.out; omega), Lib.hid (Below.refl _ _)⟩
  case round =>
    obtain ⟨a, b, hab, hbn, rfl, rfl, hlo, hhi, hbW⟩ := hrel
    have hbw := Lib.hid (bthen' BW.out BW.out.size hbW.out)
    have hq := HQ.out.below hbW.out
    simp only [AtL, Nat.zero_add] at hq
    by_cases hlt : a < b
    · have hwa : IntKind.i64.wrap (a : Int) = a := wrapk (by omega)
      have hwb : IntKind.i64.wrap (b : Int) = b := wrapk (by omega)
      have ha0 : (0 : Int) ≤ (a : Int) := by omega
      have hb0 : (b : Int) ≤ 1125899906842624 := by omega
      have habi : (a : Int) < (b : Int) := by omega
      obtain ⟨m, hm⟩ : ∃ m : Nat, m = (a + b) / 2 := ⟨_, rfl⟩
      have hmi : ((a : Int) + (b : Int)) / 2 = (m : Int) := by omega
      have ham : a ≤ m := by omega
      have hmb : m < b := by omega
      obtain ⟨r, hx⟩ : ∃ r, xs[m]? = some r := ⟨_, List.getElem?_eq_getElem (by rw [← HN.out]; omega)⟩
      obtain ⟨bk, o, rfl, hat⟩ := (HR.out.below hbw.out) m r hx
      have HX := Lib.hid hx
      have HAT := Lib.hid hat
      have hwm : IntKind.i64.wrap (m : Int) = m := wrapk (by omega)
      have hwm1 : IntKind.i64.wrap ((m : Int) + 1) = (m : Int) + 1 := by rw [IntKind.wrap_i64]; omega
      have hm0 : (0 : Int) ≤ (m : Int) := by omega
      have hmn : (m : Int) < (n : Int) := by omega
      clear hx hm
      have HC : ∀ w2, Below wr.heap.size wr w2 → w2.cell? ⟨bk, o + m * 4, none⟩ = some (.int .i64 r.f) ∧ w2.cell? ⟨bk, o + m * 4 + 1, none⟩ = some (.int .i64 r.t) ∧ w2.cell? ⟨bk, o + m * 4 + 2, none⟩ = some (.int .i64 r.c) ∧ w2.cell? ⟨bk, o + m * 4 + 3, none⟩ = some (.int .i64 r.d) ∧ w2.cell? ⟨w.heap.size, 0, none⟩ = some (.int .i64 q.f) ∧ w2.cell? ⟨w.heap.size, 1, none⟩ = some (.int .i64 q.t) ∧ w2.cell? ⟨w.heap.size, 2, none⟩ = some (.int .i64 q.c) ∧ w2.cell? ⟨w.heap.size, 3, none⟩ = some (.int .i64 q.d) := fun w2 h => ⟨bcell h (hat 0 _ rfl), bcell h (hat 1 _ rfl), bcell h (hat 2 _ rfl), bcell h (hat 3 _ rfl), bcell h (hq 0 _ rfl), bcell h (hq 1 _ rfl), bcell h (hq 2 _ rfl), bcell h (hq 3 _ rfl)⟩
      clear hat hq HAT
      obtain ⟨cv, hcv⟩ : ∃ z, z = (fun x : Lk => cmpL x q) r := ⟨_, rfl⟩
      have H : Hid (∀ w, Calls Try.prog 38 #[.agg #[.int .i64 r.f, .int .i64 r.t, .int .i64 r.c, .int .i64 r.d], .agg #[.int .i64 q.f, .int .i64 q.t, .int .i64 q.c, .int .i64 q.d]] w fun e w' => e = .returned (.int .i64 cv) ∧ Below w.heap.size w w') := Lib.hid (fun w => by rw [hcv]; exact cmpL_ok r q w)
      by_cases h1 : cv < 0
      · have UP := Lib.hid (mono_upto HS.out HX.out (by rw [hcv] at h1; exact h1))
        have tc : decide (cv < 0) = true := decide_eq_true h1
        clear hcv h1
        go_wp2_with fail
        refine Og.walk_lit [[],[],[],[1,2],[3,1,2],[],[0,4,5,3,1,2],[6,0,4,5,3,1,2]] (fun w2 => Below wr.heap.size wr w2) (fun w1 w2 => Below w1.heap.size w1 w2) (by kernel_rfl) (by kernel_rfl) (bdrew) ?_
        repeat (first | (refine Og.step_pure (fun _ => Below.refl _ _) ?_; apply Exists.intro; refine And.intro ?_ ?_; focus (intro vs w2 hC hk; have hm := HC w2 hC; revert hk; simp only [Og.KS, Og.K0, Og.Is, List.getD_cons_zero, List.getD_cons_succ, List.getD_nil, List.contains_cons, List.contains_nil, Nat.reduceAdd, Nat.reduceBEq, Bool.or_false, Bool.false_or, Bool.or_true, Bool.true_or, Bool.false_eq_true, false_implies, true_implies, true_and, and_true, forall_const]; intros; go_simp; rfl)) | (refine Og.step_one ?_; apply Exists.intro; refine And.intro ?_ ?_; focus (intro vs w2 hC hk; have hm := HC w2 hC; revert hk; simp only [Og.KS, Og.K0, Og.Is, List.getD_cons_zero, List.getD_cons_succ, List.getD_nil, List.contains_cons, List.contains_nil, Nat.reduceAdd, Nat.reduceBEq, Bool.or_false, Bool.false_or, Bool.or_true, Bool.true_or, Bool.false_eq_true, false_implies, true_implies, true_and, and_true, forall_const]; intros; go_simp; with_reducible refine (H.out _).mono ?_; rintro e w3 ⟨rfl, hb⟩; exact Og.RetV.mk ⟨bthen hC hb, hb, rfl⟩)))
        intro vs w2 hC hk
        have hm := HC w2 hC
        simp only [Og.KS, Og.K0, Og.Is, List.getD_cons_zero, List.getD_cons_succ, List.getD_nil, List.contains_cons, List.contains_nil, Nat.reduceAdd, Nat.reduceBEq, Bool.or_false, Bool.false_or, Bool.or_true, Bool.true_or, Bool.false_eq_true, false_implies, true_implies, true_and, and_true, forall_const] at hk
        simp only [hk, Act.put, List.setIfInBounds_toArray, List.set_cons_zero, List.set_cons_succ]
        clear hk
        have B2 := Lib.hid (bthen' hbW.out hbW.out.size hC)
        clear hC hm HC
        go_wp2_with fail
        go_roundw
        case rel => exact ⟨m + 1, b, by omega, by omega, by go_num, rfl, UP, hhi, B2⟩
        case measure => simp [intOf]; omega
      · have FR := Lib.hid (mono_from HS.out HX.out (by rw [hcv] at h1; exact h1))
        have tc : decide (cv < 0) = false := decide_eq_false h1
        clear hcv h1
        go_wp2_with fail
        refine Og.walk_lit [[],[],[],[1,2],[3,1,2],[],[0,4,5,3,1,2],[6,0,4,5,3,1,2]] (fun w2 => Below wr.heap.size wr w2) (fun w1 w2 => Below w1.heap.size w1 w2) (by kernel_rfl) (by kernel_rfl) (bdrew) ?_
        repeat (first | (refine Og.step_pure (fun _ => Below.refl _ _) ?_; apply Exists.intro; refine And.intro ?_ ?_; focus (intro vs w2 hC hk; have hm := HC w2 hC; revert hk; simp only [Og.KS, Og.K0, Og.Is, List.getD_cons_zero, List.getD_cons_succ, List.getD_nil, List.contains_cons, List.contains_nil, Nat.reduceAdd, Nat.reduceBEq, Bool.or_false, Bool.false_or, Bool.or_true, Bool.true_or, Bool.false_eq_true, false_implies, true_implies, true_and, and_true, forall_const]; intros; go_simp; rfl)) | (refine Og.step_one ?_; apply Exists.intro; refine And.intro ?_ ?_; focus (intro vs w2 hC hk; have hm := HC w2 hC; revert hk; simp only [Og.KS, Og.K0, Og.Is, List.getD_cons_zero, List.getD_cons_succ, List.getD_nil, List.contains_cons, List.contains_nil, Nat.reduceAdd, Nat.reduceBEq, Bool.or_false, Bool.false_or, Bool.or_true, Bool.true_or, Bool.false_eq_true, false_implies, true_implies, true_and, and_true, forall_const]; intros; go_simp; with_reducible refine (H.out _).mono ?_; rintro e w3 ⟨rfl, hb⟩; exact Og.RetV.mk ⟨bthen hC hb, hb, rfl⟩)))
        intro vs w2 hC hk
        have hm := HC w2 hC
        simp only [Og.KS, Og.K0, Og.Is, List.getD_cons_zero, List.getD_cons_succ, List.getD_nil, List.contains_cons, List.contains_nil, Nat.reduceAdd, Nat.reduceBEq, Bool.or_false, Bool.false_or, Bool.or_true, Bool.true_or, Bool.false_eq_true, false_implies, true_implies, true_and, and_true, forall_const] at hk
        simp only [hk, Act.put, List.setIfInBounds_toArray, List.set_cons_zero, List.set_cons_succ]
        clear hk
        have B2 := Lib.hid (bthen' hbW.out hbW.out.size hC)
        clear hC hm HC
        go_wp2_with fail
        go_roundw
        case rel => exact ⟨a, m, by omega, by omega, rfl, by go_num, hlo, FR, B2⟩
        case measure => simp [intOf]; omega
    · obtain rfl : b = a := by omega
      clear hab hlt
      have hwb : IntKind.i64.wrap (b : Int) = b := wrapk (by omega)
      have hb0 : (0 : Int) ≤ (b : Int) := by omega
      have HCUT : Hid (Cut (fun x => cmpL x q) xs b) := Lib.hid ⟨by rw [← HN.out]; exact hbn, hlo.out, hhi.out⟩
      by_cases hbn2 : b < n
      · obtain ⟨r, hx⟩ : ∃ r, xs[b]? = some r := ⟨_, List.getElem?_eq_getElem (by rw [← HN.out]; omega)⟩
        have hbi : (b : Int) < (n : Int) := by omega
        have tn : decide ((b : Int) < (n : Int)) = true := decide_eq_true hbi
        obtain ⟨bk, o, rfl, hat⟩ := (HR.out.below hbw.out) b r hx
        have HC : ∀ w2, Below wr.heap.size wr w2 → w2.cell? ⟨bk, o + b * 4, none⟩ = some (.int .i64 r.f) ∧ w2.cell? ⟨bk, o + b * 4 + 1, none⟩ = some (.int .i64 r.t) ∧ w2.cell? ⟨bk, o + b * 4 + 2, none⟩ = some (.int .i64 r.c) ∧ w2.cell? ⟨bk, o + b * 4 + 3, none⟩ = some (.int .i64 r.d) ∧ w2.cell? ⟨w.heap.size, 0, none⟩ = some (.int .i64 q.f) ∧ w2.cell? ⟨w.heap.size, 1, none⟩ = some (.int .i64 q.t) ∧ w2.cell? ⟨w.heap.size, 2, none⟩ = some (.int .i64 q.c) ∧ w2.cell? ⟨w.heap.size, 3, none⟩ = some (.int .i64 q.d) := fun w2 h => ⟨bcell h (hat 0 _ rfl), bcell h (hat 1 _ rfl), bcell h (hat 2 _ rfl), bcell h (hat 3 _ rfl), bcell h (hq 0 _ rfl), bcell h (hq 1 _ rfl), bcell h (hq 2 _ rfl), bcell h (hq 3 _ rfl)⟩
        have E := Lib.hid (show hitE (fun x => cmpL x q) xs b = ((fun x : Lk => cmpL x q) r == 0) by unfold hitE; rw [hx])
        clear hx hat hq
        obtain ⟨cv, hcv⟩ : ∃ z, z = (fun x : Lk => cmpL x q) r := ⟨_, rfl⟩
        have H : Hid (∀ w, Calls Try.prog 38 #[.agg #[.int .i64 r.f, .int .i64 r.t, .int .i64 r.c, .int .i64 r.d], .agg #[.int .i64 q.f, .int .i64 q.t, .int .i64 q.c, .int .i64 q.d]] w fun e w' => e = .returned (.int .i64 cv) ∧ Below w.heap.size w w') := Lib.hid (fun w => by rw [hcv]; exact cmpL_ok r q w)
        rw [← hcv] at E
        clear hcv
        go_wp2_with fail
        refine Og.walk_lit [[],[],[],[1,2],[3,1,2],[4,3,1,2],[4,3,1,2],[4,3,1,2],[6,7,4,3,1,2],[8,4,6,7,3,1,2],[4,3,1,2],[5,9,10,4,3,1,2,8,6,7],[11,4,5,9,10,3,1,2,8,6,7],[4,12,3,1,2,11,5,9,10,8,6,7],[0,11,5,9,10,4,3,1,2,8,6,7],[13,14,0,1,2,3,4,5,6,7,8,9,10,11,12]] (fun w2 => Below wr.heap.size wr w2) (fun w1 w2 => Below w1.heap.size w1 w2) (by kernel_rfl) (by kernel_rfl) (bdrew) ?_
        repeat (first | (refine Og.step_pure (fun _ => Below.refl _ _) ?_; apply Exists.intro; refine And.intro ?_ ?_; focus (intro vs w2 hC hk; have hm := HC w2 hC; revert hk; simp only [Og.KS, Og.K0, Og.Is, List.getD_cons_zero, List.getD_cons_succ, List.getD_nil, List.contains_cons, List.contains_nil, Nat.reduceAdd, Nat.reduceBEq, Bool.or_false, Bool.false_or, Bool.or_true, Bool.true_or, Bool.false_eq_true, false_implies, true_implies, true_and, and_true, forall_const]; intros; go_simp; rfl)) | (refine Og.step_one ?_; apply Exists.intro; refine And.intro ?_ ?_; focus (intro vs w2 hC hk; have hm := HC w2 hC; revert hk; simp only [Og.KS, Og.K0, Og.Is, List.getD_cons_zero, List.getD_cons_succ, List.getD_nil, List.contains_cons, List.contains_nil, Nat.reduceAdd, Nat.reduceBEq, Bool.or_false, Bool.false_or, Bool.or_true, Bool.true_or, Bool.false_eq_true, false_implies, true_implies, true_and, and_true, forall_const]; intros; go_simp; with_reducible refine (H.out _).mono ?_; rintro e w3 ⟨rfl, hb⟩; exact Og.RetV.mk ⟨bthen hC hb, hb, rfl⟩)))
        intro vs w2 hC hk
        have hm := HC w2 hC
        simp only [Og.KS, Og.K0, Og.Is, List.getD_cons_zero, List.getD_cons_succ, List.getD_nil, List.contains_cons, List.contains_nil, Nat.reduceAdd, Nat.reduceBEq, Bool.or_false, Bool.false_or, Bool.or_true, Bool.true_or, Bool.false_eq_true, false_implies, true_implies, true_and, and_true, forall_const] at hk
        simp only [hk, Act.put, List.setIfInBounds_toArray, List.set_cons_zero, List.set_cons_succ]
        clear hk
        have B2 := Lib.hid (bthen' hbw.out hbw.out.size hC)
        clear hC hm HC
        go_wp2_with fail
        go_ret2
        exact ⟨⟨b, by rw [E.out]; rfl, HCUT.out⟩, B2.out⟩
      · have tn : decide ((b : Int) < (n : Int)) = false := decide_eq_false (by omega)
        have hnb : ¬ (b : Int) < (n : Int) := by omega
        have E := Lib.hid (show hitE (fun x => cmpL x q) xs b = false by unfold hitE; rw [List.getElem?_eq_none (by rw [← HN.out]; omega)])
        have HC : ∀ w2, Below wr.heap.size wr w2 → w2.cell? ⟨w.heap.size, 0, none⟩ = some (.int .i64 q.f) ∧ w2.cell? ⟨w.heap.size, 1, none⟩ = some (.int .i64 q.t) ∧ w2.cell? ⟨w.heap.size, 2, none⟩ = some (.int .i64 q.c) ∧ w2.cell? ⟨w.heap.size, 3, none⟩ = some (.int .i64 q.d) := fun w2 h => ⟨bcell h (hq 0 _ rfl), bcell h (hq 1 _ rfl), bcell h (hq 2 _ rfl), bcell h (hq 3 _ rfl)⟩
        clear hq
        go_wp2_with fail
        refine Og.walk_lit [[],[],[],[1,2],[3,1,2],[4,3,1,2],[4,3,1,2],[4,3,1,2],[6,7,4,3,1,2],[8,4,6,7,3,1,2],[4,3,1,2],[5,9,10,4,3,1,2,8,6,7],[11,4,5,9,10,3,1,2,8,6,7],[4,12,3,1,2,11,5,9,10,8,6,7],[0,11,5,9,10,4,3,1,2,8,6,7],[13,14,0,1,2,3,4,5,6,7,8,9,10,11,12]] (fun w2 => Below wr.heap.size wr w2) (fun w1 w2 => Below w1.heap.size w1 w2) (by kernel_rfl) (by kernel_rfl) (bdrew) ?_
        repeat (first | (refine Og.step_pure (fun _ => Below.refl _ _) ?_; apply Exists.intro; refine And.intro ?_ ?_; focus (intro vs w2 hC hk; have hm := HC w2 hC; revert hk; simp only [Og.KS, Og.K0, Og.Is, List.getD_cons_zero, List.getD_cons_succ, List.getD_nil, List.contains_cons, List.contains_nil, Nat.reduceAdd, Nat.reduceBEq, Bool.or_false, Bool.false_or, Bool.or_true, Bool.true_or, Bool.false_eq_true, false_implies, true_implies, true_and, and_true, forall_const]; intros; go_simp; rfl)))
        intro vs w2 hC hk
        have hm := HC w2 hC
        simp only [Og.KS, Og.K0, Og.Is, List.getD_cons_zero, List.getD_cons_succ, List.getD_nil, List.contains_cons, List.contains_nil, Nat.reduceAdd, Nat.reduceBEq, Bool.or_false, Bool.false_or, Bool.or_true, Bool.true_or, Bool.false_eq_true, false_implies, true_implies, true_and, and_true, forall_const] at hk
        simp only [hk, Act.put, List.setIfInBounds_toArray, List.set_cons_zero, List.set_cons_succ]
        clear hk
        have B2 := Lib.hid (bthen' hbw.out hbw.out.size hC)
        clear hC hm HC
        go_wp2_with fail
        go_ret2
        exact ⟨⟨b, by rw [E.out]; rfl, HCUT.out⟩, B2.out⟩

set_option maxRecDepth 100000 in
set_option maxHeartbeats 4000000 in
theorem searchN (xs : List Pn) (q : Pn) (A : Option Addr) (c : Nat) (w : World) (hr : Rd cPn 4 w A xs) (hl : xs.length ≤ 1125899906842624) (hs : Mono (fun x => cmpN x q) xs) :
    Calls Try.prog 104 #[.slice A xs.length c, .agg #[.int .u32 q.p.a, .int .i64 q.p.l, .int .i64 q.n, .int .i64 q.m], .func (.func 41) #[] #[]] w fun e w' => (∃ k : Nat, e = .returned (.tuple #[.int .i64 (k : Int), .bool (hitE (fun x => cmpN x q) xs k)]) ∧ Cut (fun x => cmpN x q) xs k) ∧ Below w.heap.size w w' := by
  obtain ⟨n, hn⟩ : ∃ n, n = xs.length := ⟨_, rfl⟩
  rw [← hn] at hl
  have HN := Lib.hid hn
  have HR := Lib.hid hr
  have HS := Lib.hid hs
  rw [← hn]
  clear hn hr hs
  go_enter Try.func104, Try.ntmps104
  go_wp2_with fail
  obtain ⟨W, hW⟩ : ∃ W, w.alloc (Obj.cells #[.int .u32 q.p.a, .int .i64 q.p.l, .int .i64 q.n, .int .i64 q.m] 49) = W := ⟨_, rfl⟩
  have BW := Lib.hid (show Below w.heap.size w W by rw [← hW]; exact (Below.refl _ _).alloc (Nat.le_refl _) _)
  have HQ : Hid (AtL W w.heap.size 0 (cPn q)) := Lib.hid (by rw [← hW]; exact AtL_heap (heap_at rfl))
  rw [hW]
  clear hW
  go_loopw [9, 10] (fun lo hi wr => ∃ a b : Nat, a ≤ b ∧ b ≤ n ∧ lo = .int .i64 (a : Int) ∧ hi = .int .i64 (b : Int) ∧ Hid (∀ (i : Nat) x, xs[i]? = some x → i < a → cmpN x q < 0) ∧ Hid (∀ (i : Nat) x, xs[i]? = some x → b ≤ i → 0 ≤ cmpN x q) ∧ Hid (Below W.heap.size W wr)) (fun lo hi _ => (intOf hi).toNat - (intOf lo).toNat)
  case atStart => exact ⟨0, n, Nat.zero_le _, Nat.le_refl _, rfl, rfl, Lib.hid (fun i r _ h => by omega), Lib.hid (fun i r h hi => by have := (List.getElem?_eq_some_iff.1 h).1; have := HN.out; omega), Lib.hid (Below.refl _ _)⟩
  case round =>
    obtain ⟨a, b, hab, hbn, rfl, rfl, hlo, hhi, hbW⟩ := hrel
    have hbw := Lib.hid (bthen' BW.out BW.out.size hbW.out)
    have hq := HQ.out.below hbW.out
    simp only [AtL, Nat.zero_add] at hq
    by_cases hlt : a < b
    · have hwa : IntKind.i64.wrap (a : Int) = a := wrapk (by omega)
      have hwb : IntKind.i64.wrap (b : Int) = b := wrapk (by omega)
      have ha0 : (0 : Int) ≤ (a : Int) := by omega
      have hb0 : (b : Int) ≤ 1125899906842624 := by omega
      have habi : (a : Int) < (b : Int) := by omega
      obtain ⟨m, hm⟩ : ∃ m : Nat, m = (a + b) / 2 := ⟨_, rfl⟩
      have hmi : ((a : Int) + (b : Int)) / 2 = (m : Int) := by omega
      have ham : a ≤ m := by omega
      have hmb : m < b := by omega
      obtain ⟨r, hx⟩ : ∃ r, xs[m]? = some r := ⟨_, List.getElem?_eq_getElem (by rw [← HN.out]; omega)⟩
      obtain ⟨bk, o, rfl, hat⟩ := (HR.out.below hbw.out) m r hx
      have HX := Lib.hid hx
      have HAT := Lib.hid hat
      have hwm : IntKind.i64.wrap (m : Int) = m := wrapk (by omega)
      have hwm1 : IntKind.i64.wrap ((m : Int) + 1) = (m : Int) + 1 := by rw [IntKind.wrap_i64]; omega
      have hm0 : (0 : Int) ≤ (m : Int) := by omega
      have hmn : (m : Int) < (n : Int) := by omega
      clear hx hm
      have HC : ∀ w2, Below wr.heap.size wr w2 → w2.cell? ⟨bk, o + m * 4, none⟩ = some (.int .u32 r.p.a) ∧ w2.cell? ⟨bk, o + m * 4 + 1, none⟩ = some (.int .i64 r.p.l) ∧ w2.cell? ⟨bk, o + m * 4 + 2, none⟩ = some (.int .i64 r.n) ∧ w2.cell? ⟨bk, o + m * 4 + 3, none⟩ = some (.int .i64 r.m) ∧ w2.cell? ⟨w.heap.size, 0, none⟩ = some (.int .u32 q.p.a) ∧ w2.cell? ⟨w.heap.size, 1, none⟩ = some (.int .i64 q.p.l) ∧ w2.cell? ⟨w.heap.size, 2, none⟩ = some (.int .i64 q.n) ∧ w2.cell? ⟨w.heap.size, 3, none⟩ = some (.int .i64 q.m) := fun w2 h => ⟨bcell h (hat 0 _ rfl), bcell h (hat 1 _ rfl), bcell h (hat 2 _ rfl), bcell h (hat 3 _ rfl), bcell h (hq 0 _ rfl), bcell h (hq 1 _ rfl), bcell h (hq 2 _ rfl), bcell h (hq 3 _ rfl)⟩
      clear hat hq HAT
      obtain ⟨cv, hcv⟩ : ∃ z, z = (fun x : Pn => cmpN x q) r := ⟨_, rfl⟩
      have H : Hid (∀ w, Calls Try.prog 41 #[.agg #[.int .u32 r.p.a, .int .i64 r.p.l, .int .i64 r.n, .int .i64 r.m], .agg #[.int .u32 q.p.a, .int .i64 q.p.l, .int .i64 q.n, .int .i64 q.m]] w fun e w' => e = .returned (.int .i64 cv) ∧ Below w.heap.size w w') := Lib.hid (fun w => by rw [hcv]; exact cmpN_ok r q w)
      by_cases h1 : cv < 0
      · have UP := Lib.hid (mono_upto HS.out HX.out (by rw [hcv] at h1; exact h1))
        have tc : decide (cv < 0) = true := decide_eq_true h1
        clear hcv h1
        go_wp2_with fail
        refine Og.walk_lit [[],[],[],[1,2],[3,1,2],[],[0,4,5,3,1,2],[6,0,4,5,3,1,2]] (fun w2 => Below wr.heap.size wr w2) (fun w1 w2 => Below w1.heap.size w1 w2) (by kernel_rfl) (by kernel_rfl) (bdrew) ?_
        repeat (first | (refine Og.step_pure (fun _ => Below.refl _ _) ?_; apply Exists.intro; refine And.intro ?_ ?_; focus (intro vs w2 hC hk; have hm := HC w2 hC; revert hk; simp only [Og.KS, Og.K0, Og.Is, List.getD_cons_zero, List.getD_cons_succ, List.getD_nil, List.contains_cons, List.contains_nil, Nat.reduceAdd, Nat.reduceBEq, Bool.or_false, Bool.false_or, Bool.or_true, Bool.true_or, Bool.false_eq_true, false_implies, true_implies, true_and, and_true, forall_const]; intros; go_simp; rfl)) | (refine Og.step_one ?_; apply Exists.intro; refine And.intro ?_ ?_; focus (intro vs w2 hC hk; have hm := HC w2 hC; revert hk; simp only [Og.KS, Og.K0, Og.Is, List.getD_cons_zero, List.getD_cons_succ, List.getD_nil, List.contains_cons, List.contains_nil, Nat.reduceAdd, Nat.reduceBEq, Bool.or_false, Bool.false_or, Bool.or_true, Bool.true_or, Bool.false_eq_true, false_implies, true_implies, true_and, and_true, forall_const]; intros; go_simp; with_reducible refine (H.out _).mono ?_; rintro e w3 ⟨rfl, hb⟩; exact Og.RetV.mk ⟨bthen hC hb, hb, rfl⟩)))
        intro vs w2 hC hk
        have hm := HC w2 hC
        simp only [Og.KS, Og.K0, Og.Is, List.getD_cons_zero, List.getD_cons_succ, List.getD_nil, List.contains_cons, List.contains_nil, Nat.reduceAdd, Nat.reduceBEq, Bool.or_false, Bool.false_or, Bool.or_true, Bool.true_or, Bool.false_eq_true, false_implies, true_implies, true_and, and_true, forall_const] at hk
        simp only [hk, Act.put, List.setIfInBounds_toArray, List.set_cons_zero, List.set_cons_succ]
        clear hk
        have B2 := Lib.hid (bthen' hbW.out hbW.out.size hC)
        clear hC hm HC
        go_wp2_with fail
        go_roundw
        case rel => exact ⟨m + 1, b, by omega, by omega, by go_num, rfl, UP, hhi, B2⟩
        case measure => simp [intOf]; omega
      · have FR := Lib.hid (mono_from HS.out HX.out (by rw [hcv] at h1; exact h1))
        have tc : decide (cv < 0) = false := decide_eq_false h1
        clear hcv h1
        go_wp2_with fail
        refine Og.walk_lit [[],[],[],[1,2],[3,1,2],[],[0,4,5,3,1,2],[6,0,4,5,3,1,2]] (fun w2 => Below wr.heap.size wr w2) (fun w1 w2 => Below w1.heap.size w1 w2) (by kernel_rfl) (by kernel_rfl) (bdrew) ?_
        repeat (first | (refine Og.step_pure (fun _ => Below.refl _ _) ?_; apply Exists.intro; refine And.intro ?_ ?_; focus (intro vs w2 hC hk; have hm := HC w2 hC; revert hk; simp only [Og.KS, Og.K0, Og.Is, List.getD_cons_zero, List.getD_cons_succ, List.getD_nil, List.contains_cons, List.contains_nil, Nat.reduceAdd, Nat.reduceBEq, Bool.or_false, Bool.false_or, Bool.or_true, Bool.true_or, Bool.false_eq_true, false_implies, true_implies, true_and, and_true, forall_const]; intros; go_simp; rfl)) | (refine Og.step_one ?_; apply Exists.intro; refine And.intro ?_ ?_; focus (intro vs w2 hC hk; have hm := HC w2 hC; revert hk; simp only [Og.KS, Og.K0, Og.Is, List.getD_cons_zero, List.getD_cons_succ, List.getD_nil, List.contains_cons, List.contains_nil, Nat.reduceAdd, Nat.reduceBEq, Bool.or_false, Bool.false_or, Bool.or_true, Bool.true_or, Bool.false_eq_true, false_implies, true_implies, true_and, and_true, forall_const]; intros; go_simp; with_reducible refine (H.out _).mono ?_; rintro e w3 ⟨rfl, hb⟩; exact Og.RetV.mk ⟨bthen hC hb, hb, rfl⟩)))
        intro vs w2 hC hk
        have hm := HC w2 hC
        simp only [Og.KS, Og.K0, Og.Is, List.getD_cons_zero, List.getD_cons_succ, List.getD_nil, List.contains_cons, List.contains_nil, Nat.reduceAdd, Nat.reduceBEq, Bool.or_false, Bool.false_or, Bool.or_true, Bool.true_or, Bool.false_eq_true, false_implies, true_implies, true_and, and_true, forall_const] at hk
        simp only [hk, Act.put, List.setIfInBounds_toArray, List.set_cons_zero, List.set_cons_succ]
        clear hk
        have B2 := Lib.hid (bthen' hbW.out hbW.out.size hC)
        clear hC hm HC
        go_wp2_with fail
        go_roundw
        case rel => exact ⟨a, m, by omega, by omega, rfl, by go_num, hlo, FR, B2⟩
        case measure => simp [intOf]; omega
    · obtain rfl : b = a := by omega
      clear hab hlt
      have hwb : IntKind.i64.wrap (b : Int) = b := wrapk (by omega)
      have hb0 : (0 : Int) ≤ (b : Int) := by omega
      have HCUT : Hid (Cut (fun x => cmpN x q) xs b) := Lib.hid ⟨by rw [← HN.out]; exact hbn, hlo.out, hhi.out⟩
      by_cases hbn2 : b < n
      · obtain ⟨r, hx⟩ : ∃ r, xs[b]? = some r := ⟨_, List.getElem?_eq_getElem (by rw [← HN.out]; omega)⟩
        have hbi : (b : Int) < (n : Int) := by omega
        have tn : decide ((b : Int) < (n : Int)) = true := decide_eq_true hbi
        obtain ⟨bk, o, rfl, hat⟩ := (HR.out.below hbw.out) b r hx
        have HC : ∀ w2, Below wr.heap.size wr w2 → w2.cell? ⟨bk, o + b * 4, none⟩ = some (.int .u32 r.p.a) ∧ w2.cell? ⟨bk, o + b * 4 + 1, none⟩ = some (.int .i64 r.p.l) ∧ w2.cell? ⟨bk, o + b * 4 + 2, none⟩ = some (.int .i64 r.n) ∧ w2.cell? ⟨bk, o + b * 4 + 3, none⟩ = some (.int .i64 r.m) ∧ w2.cell? ⟨w.heap.size, 0, none⟩ = some (.int .u32 q.p.a) ∧ w2.cell? ⟨w.heap.size, 1, none⟩ = some (.int .i64 q.p.l) ∧ w2.cell? ⟨w.heap.size, 2, none⟩ = some (.int .i64 q.n) ∧ w2.cell? ⟨w.heap.size, 3, none⟩ = some (.int .i64 q.m) := fun w2 h => ⟨bcell h (hat 0 _ rfl), bcell h (hat 1 _ rfl), bcell h (hat 2 _ rfl), bcell h (hat 3 _ rfl), bcell h (hq 0 _ rfl), bcell h (hq 1 _ rfl), bcell h (hq 2 _ rfl), bcell h (hq 3 _ rfl)⟩
        have E := Lib.hid (show hitE (fun x => cmpN x q) xs b = ((fun x : Pn => cmpN x q) r == 0) by unfold hitE; rw [hx])
        clear hx hat hq
        obtain ⟨cv, hcv⟩ : ∃ z, z = (fun x : Pn => cmpN x q) r := ⟨_, rfl⟩
        have H : Hid (∀ w, Calls Try.prog 41 #[.agg #[.int .u32 r.p.a, .int .i64 r.p.l, .int .i64 r.n, .int .i64 r.m], .agg #[.int .u32 q.p.a, .int .i64 q.p.l, .int .i64 q.n, .int .i64 q.m]] w fun e w' => e = .returned (.int .i64 cv) ∧ Below w.heap.size w w') := Lib.hid (fun w => by rw [hcv]; exact cmpN_ok r q w)
        rw [← hcv] at E
        clear hcv
        go_wp2_with fail
        refine Og.walk_lit [[],[],[],[1,2],[3,1,2],[4,3,1,2],[4,3,1,2],[4,3,1,2],[6,7,4,3,1,2],[8,4,6,7,3,1,2],[4,3,1,2],[5,9,10,4,3,1,2,8,6,7],[11,4,5,9,10,3,1,2,8,6,7],[4,12,3,1,2,11,5,9,10,8,6,7],[0,11,5,9,10,4,3,1,2,8,6,7],[13,14,0,1,2,3,4,5,6,7,8,9,10,11,12]] (fun w2 => Below wr.heap.size wr w2) (fun w1 w2 => Below w1.heap.size w1 w2) (by kernel_rfl) (by kernel_rfl) (bdrew) ?_
        repeat (first | (refine Og.step_pure (fun _ => Below.refl _ _) ?_; apply Exists.intro; refine And.intro ?_ ?_; focus (intro vs w2 hC hk; have hm := HC w2 hC; revert hk; simp only [Og.KS, Og.K0, Og.Is, List.getD_cons_zero, List.getD_cons_succ, List.getD_nil, List.contains_cons, List.contains_nil, Nat.reduceAdd, Nat.reduceBEq, Bool.or_false, Bool.false_or, Bool.or_true, Bool.true_or, Bool.false_eq_true, false_implies, true_implies, true_and, and_true, forall_const]; intros; go_simp; rfl)) | (refine Og.step_one ?_; apply Exists.intro; refine And.intro ?_ ?_; focus (intro vs w2 hC hk; have hm := HC w2 hC; revert hk; simp only [Og.KS, Og.K0, Og.Is, List.getD_cons_zero, List.getD_cons_succ, List.getD_nil, List.contains_cons, List.contains_nil, Nat.reduceAdd, Nat.reduceBEq, Bool.or_false, Bool.false_or, Bool.or_true, Bool.true_or, Bool.false_eq_true, false_implies, true_implies, true_and, and_true, forall_const]; intros; go_simp; with_reducible refine (H.out _).mono ?_; rintro e w3 ⟨rfl, hb⟩; exact Og.RetV.mk ⟨bthen hC hb, hb, rfl⟩)))
        intro vs w2 hC hk
        have hm := HC w2 hC
        simp only [Og.KS, Og.K0, Og.Is, List.getD_cons_zero, List.getD_cons_succ, List.getD_nil, List.contains_cons, List.contains_nil, Nat.reduceAdd, Nat.reduceBEq, Bool.or_false, Bool.false_or, Bool.or_true, Bool.true_or, Bool.false_eq_true, false_implies, true_implies, true_and, and_true, forall_const] at hk
        simp only [hk, Act.put, List.setIfInBounds_toArray, List.set_cons_zero, List.set_cons_succ]
        clear hk
        have B2 := Lib.hid (bthen' hbw.out hbw.out.size hC)
        clear hC hm HC
        go_wp2_with fail
        go_ret2
        exact ⟨⟨b, by rw [E.out]; rfl, HCUT.out⟩, B2.out⟩
      · have tn : decide ((b : Int) < (n : Int)) = false := decide_eq_false (by omega)
        have hnb : ¬ (b : Int) < (n : Int) := by omega
        have E := Lib.hid (show hitE (fun x => cmpN x q) xs b = false by unfold hitE; rw [List.getElem?_eq_none (by rw [← HN.out]; omega)])
        have HC : ∀ w2, Below wr.heap.size wr w2 → w2.cell? ⟨w.heap.size, 0, none⟩ = some (.int .u32 q.p.a) ∧ w2.cell? ⟨w.heap.size, 1, none⟩ = some (.int .i64 q.p.l) ∧ w2.cell? ⟨w.heap.size, 2, none⟩ = some (.int .i64 q.n) ∧ w2.cell? ⟨w.heap.size, 3, none⟩ = some (.int .i64 q.m) := fun w2 h => ⟨bcell h (hq 0 _ rfl), bcell h (hq 1 _ rfl), bcell h (hq 2 _ rfl), bcell h (hq 3 _ rfl)⟩
        clear hq
        go_wp2_with fail
        refine Og.walk_lit [[],[],[],[1,2],[3,1,2],[4,3,1,2],[4,3,1,2],[4,3,1,2],[6,7,4,3,1,2],[8,4,6,7,3,1,2],[4,3,1,2],[5,9,10,4,3,1,2,8,6,7],[11,4,5,9,10,3,1,2,8,6,7],[4,12,3,1,2,11,5,9,10,8,6,7],[0,11,5,9,10,4,3,1,2,8,6,7],[13,14,0,1,2,3,4,5,6,7,8,9,10,11,12]] (fun w2 => Below wr.heap.size wr w2) (fun w1 w2 => Below w1.heap.size w1 w2) (by kernel_rfl) (by kernel_rfl) (bdrew) ?_
        repeat (first | (refine Og.step_pure (fun _ => Below.refl _ _) ?_; apply Exists.intro; refine And.intro ?_ ?_; focus (intro vs w2 hC hk; have hm := HC w2 hC; revert hk; simp only [Og.KS, Og.K0, Og.Is, List.getD_cons_zero, List.getD_cons_succ, List.getD_nil, List.contains_cons, List.contains_nil, Nat.reduceAdd, Nat.reduceBEq, Bool.or_false, Bool.false_or, Bool.or_true, Bool.true_or, Bool.false_eq_true, false_implies, true_implies, true_and, and_true, forall_const]; intros; go_simp; rfl)))
        intro vs w2 hC hk
        have hm := HC w2 hC
        simp only [Og.KS, Og.K0, Og.Is, List.getD_cons_zero, List.getD_cons_succ, List.getD_nil, List.contains_cons, List.contains_nil, Nat.reduceAdd, Nat.reduceBEq, Bool.or_false, Bool.false_or, Bool.or_true, Bool.true_or, Bool.false_eq_true, false_implies, true_implies, true_and, and_true, forall_const] at hk
        simp only [hk, Act.put, List.setIfInBounds_toArray, List.set_cons_zero, List.set_cons_succ]
        clear hk
        have B2 := Lib.hid (bthen' hbw.out hbw.out.size hC)
        clear hC hm HC
        go_wp2_with fail
        go_ret2
        exact ⟨⟨b, by rw [E.out]; rfl, HCUT.out⟩, B2.out⟩

set_option maxRecDepth 100000 in
set_option maxHeartbeats 2000000 in
theorem nodeAt_ok (xs : List Nd) (n0 : Int) (va vb vc : Value) (w : World) (hs : Sl cNd 3 0 w va xs) (hl : xs.length ≤ 1125899906842624) (hm : Mono (fun x => sg x.i n0) xs) :
    Calls Try.prog 61 #[.agg #[va, vb, vc], .int .i64 n0] w fun e w' => (∃ k : Nat, e = .returned (.tuple #[.int .i64 (k : Int), .bool (hitE (fun x => sg x.i n0) xs k)]) ∧ Cut (fun x => sg x.i n0) xs k) ∧ Below w.heap.size w w' := by
  obtain ⟨A, c, rfl, hr, _⟩ := hs
  have H := Lib.hid (fun (w2 : World) (hb : Below w.heap.size w w2) => searchD xs n0 A c w2 (hr.below hb) hl hm)
  obtain ⟨n, hn⟩ : ∃ n, n = xs.length := ⟨_, rfl⟩
  rw [← hn] at H ⊢
  clear hr hl hm hn
  go_enter Try.func61, Try.ntmps61
  go_wp2_with fail
  refine (H.out _ (by repeat (first | exact Below.refl _ _ | refine Below.alloc ?_ (by first | exact Nat.le_refl _ | (simp; done) | (simp; omega)) _))).mono ?_
  rintro e w2 ⟨⟨k, rfl, hc⟩, hb⟩
  have HC := Lib.hid hc
  have B := Lib.hid (bthen' (show Below w.heap.size w _ by repeat (first | exact Below.refl _ _ | refine Below.alloc ?_ (by first | exact Nat.le_refl _ | (simp; done) | (simp; omega)) _)) (by simp <;> omega) hb)
  clear hb hc
  go_wp2_with fail
  go_ret2
  exact ⟨⟨k, rfl, HC.out⟩, B.out⟩

set_option maxRecDepth 100000 in
set_option maxHeartbeats 2000000 in
theorem linkAt_ok (xs : List Lk) (f0 t0 : Int) (va vb vc : Value) (w : World) (hs : Sl cLk 4 0 w vb xs) (hl : xs.length ≤ 1125899906842624) (hm : Mono (fun x => cmpL x ⟨f0, t0, 0, 0⟩) xs) :
    Calls Try.prog 70 #[.agg #[va, vb, vc], .int .i64 f0, .int .i64 t0] w fun e w' => (∃ k : Nat, e = .returned (.tuple #[.int .i64 (k : Int), .bool (hitE (fun x => cmpL x ⟨f0, t0, 0, 0⟩) xs k)]) ∧ Cut (fun x => cmpL x ⟨f0, t0, 0, 0⟩) xs k) ∧ Below w.heap.size w w' := by
  obtain ⟨A, c, rfl, hr, _⟩ := hs
  have H := Lib.hid (fun (w2 : World) (hb : Below w.heap.size w w2) => searchL xs ⟨f0, t0, 0, 0⟩ A c w2 (hr.below hb) hl hm)
  obtain ⟨n, hn⟩ : ∃ n, n = xs.length := ⟨_, rfl⟩
  rw [← hn] at H ⊢
  clear hr hl hm hn
  go_enter Try.func70, Try.ntmps70
  go_wp2_with fail
  refine (H.out _ (by repeat (first | exact Below.refl _ _ | refine Below.alloc ?_ (by first | exact Nat.le_refl _ | (simp; done) | (simp; omega)) _))).mono ?_
  rintro e w2 ⟨⟨k, rfl, hc⟩, hb⟩
  have HC := Lib.hid hc
  have B := Lib.hid (bthen' (show Below w.heap.size w _ by repeat (first | exact Below.refl _ _ | refine Below.alloc ?_ (by first | exact Nat.le_refl _ | (simp; done) | (simp; omega)) _)) (by simp <;> omega) hb)
  clear hb hc
  go_wp2_with fail
  go_ret2
  exact ⟨⟨k, rfl, HC.out⟩, B.out⟩

set_option maxRecDepth 100000 in
set_option maxHeartbeats 2000000 in
theorem pinAt_ok (xs : List Pn) (p : Pf) (n0 : Int) (va vb vc : Value) (w : World) (hs : Sl cPn 4 0 w vc xs) (hl : xs.length ≤ 1125899906842624) (hm : Mono (fun x => cmpN x ⟨p, n0, 0⟩) xs) :
    Calls Try.prog 68 #[.agg #[va, vb, vc], .agg #[.int .u32 p.a, .int .i64 p.l], .int .i64 n0] w fun e w' => (∃ k : Nat, e = .returned (.tuple #[.int .i64 (k : Int), .bool (hitE (fun x => cmpN x ⟨p, n0, 0⟩) xs k)]) ∧ Cut (fun x => cmpN x ⟨p, n0, 0⟩) xs k) ∧ Below w.heap.size w w' := by
  obtain ⟨A, c, rfl, hr, _⟩ := hs
  have H := Lib.hid (fun (w2 : World) (hb : Below w.heap.size w w2) => searchN xs ⟨p, n0, 0⟩ A c w2 (hr.below hb) hl hm)
  obtain ⟨n, hn⟩ : ∃ n, n = xs.length := ⟨_, rfl⟩
  rw [← hn] at H ⊢
  clear hr hl hm hn
  go_enter Try.func68, Try.ntmps68
  go_wp2_with fail
  refine (H.out _ (by repeat (first | exact Below.refl _ _ | refine Below.alloc ?_ (by first | exact Nat.le_refl _ | (simp; done) | (simp; omega)) _))).mono ?_
  rintro e w2 ⟨⟨k, rfl, hc⟩, hb⟩
  have HC := Lib.hid hc
  have B := Lib.hid (bthen' (show Below w.heap.size w _ by repeat (first | exact Below.refl _ _ | refine Below.alloc ?_ (by first | exact Nat.le_refl _ | (simp; done) | (simp; omega)) _)) (by simp <;> omega) hb)
  clear hb hc
  go_wp2_with fail
  go_ret2
  exact ⟨⟨k, rfl, HC.out⟩, B.out⟩

end Go.Proofs.Ytpklcefiabjplaa
