/- Rings: the closures of Near, Far and Relay; conditions as stated. -/
import Derived.Test.YtpklcefiabjplaaS2
namespace Go.Proofs.Ytpklcefiabjplaa
open Go.ChangeShapes Go.WideShapes Go.ChangeAt Go.RowKit
set_option linter.unusedVariables false
set_option linter.unusedSimpArgs false
attribute [local go_sem] Og.Opt Og.OpY

attribute [local go_sem] Og.Opt Og.OpY
theorem dC_at {w : World} {g : Nat} {ds : List Int} (h : AtL w g 0 (dC ds)) (hl : ds.length = 128) {k : Nat} (hk : k < 128) : w.cell? ⟨g, k, none⟩ = some (.int .i64 (ds.getD k 0)) := by
  have := h k (.int .i64 (ds.getD k 0)) (by unfold dC; rw [List.getElem?_map, List.getD_eq_getElem?_getD, List.getElem?_eq_getElem (by omega)]; rfl)
  rwa [Nat.zero_add] at this
def nearB (hd td : List Int) (c : Int) (f n : Nat) : Bool := decide (hd.getD n 0 < 1073741824) && !takesP c (hd.getD n 0) (hd.getD f 0) (td.getD n 0)
def farB (hd td : List Int) (c : Int) (f b : Nat) : Bool := decide (hd.getD b 0 < 1073741824) && !takesP c (hd.getD b 0) (hd.getD f 0) (td.getD b 0)
def relayB (s : Nat) (nr fr : Int × Int) (n : Nat) : Bool := decide (n ≠ s) && hasB nr n && hasB fr n

set_option maxRecDepth 100000 in
set_option maxHeartbeats 8000000 in
theorem near1_ok (h gD th tD v V l ac fr : Nat) (hd td : List Int) (vs : List Value) (xss : List (List Lk)) (f t : Nat) (c d a0 : Int) (n : Nat) (w : World)
    (HH : w.cell? ⟨h, 1, none⟩ = some (.slice (some ⟨gD, 0, none⟩) 128 128)) (AH : AtL w gD 0 (dC hd)) (lh : hd.length = 128)
    (HT : w.cell? ⟨th, 1, none⟩ = some (.slice (some ⟨tD, 0, none⟩) 128 128)) (AT : AtL w tD 0 (dC td)) (lt : td.length = 128)
    (HV : w.cell? ⟨v, 0, none⟩ = some (.pointer (some ⟨V, 0, none⟩))) (H : Vw V w vs xss) (HL : AtL w l 0 [.int .i64 f, .int .i64 t, .int .i64 c, .int .i64 d])
    (HA : w.cell? ⟨ac, 0, none⟩ = some (.int .i64 a0)) (HF : w.cell? ⟨fr, 0, none⟩ = some (.int .i64 f)) (hn : n < 128) (hf : f < 128) (ht : t < 128) :
    Calls Try.prog 48 #[.int .i64 n, .pointer (some ⟨h, 0, none⟩), .pointer (some ⟨v, 0, none⟩), .pointer (some ⟨l, 0, none⟩), .pointer (some ⟨ac, 0, none⟩), .pointer (some ⟨fr, 0, none⟩), .pointer (some ⟨th, 0, none⟩)] w fun e w' => e = .returned (.bool (nearB hd td c f n)) ∧ Below w.heap.size w w' := by
  have hn0 : (0 : Int) ≤ (n : Int) := by omega
  have hn1 : (n : Int) < 128 := by omega
  have hf0 : (0 : Int) ≤ (f : Int) := by omega
  have hf1 : (f : Int) < 128 := by omega
  obtain ⟨x, hx⟩ : ∃ x, x = hd.getD n 0 := ⟨_, rfl⟩
  obtain ⟨y, hy⟩ : ∃ y, y = hd.getD f 0 := ⟨_, rfl⟩
  obtain ⟨u, hu⟩ : ∃ u, u = td.getD n 0 := ⟨_, rfl⟩
  have EQ : Hid (nearB hd td c f n = (decide (x < 1073741824) && !takesP c x y u)) := Lib.hid (by unfold nearB; rw [← hx, ← hy, ← hu])
  have c0 := dC_at AH lh hn
  have c1 := dC_at AH lh hf
  have c2 := dC_at AT lt hn
  rw [← hx] at c0
  rw [← hy] at c1
  rw [← hu] at c2
  have HC : ∀ w2, Below w.heap.size w w2 → w2.cell? ⟨h, 1, none⟩ = some (.slice (some ⟨gD, 0, none⟩) 128 128) ∧ w2.cell? ⟨th, 1, none⟩ = some (.slice (some ⟨tD, 0, none⟩) 128 128) ∧ w2.cell? ⟨gD, n, none⟩ = some (.int .i64 x) ∧ w2.cell? ⟨gD, f, none⟩ = some (.int .i64 y) ∧ w2.cell? ⟨tD, n, none⟩ = some (.int .i64 u) ∧ w2.cell? ⟨v, 0, none⟩ = some (.pointer (some ⟨V, 0, none⟩)) ∧ w2.cell? ⟨ac, 0, none⟩ = some (.int .i64 a0) ∧ w2.cell? ⟨fr, 0, none⟩ = some (.int .i64 f) := fun w2 hb => ⟨bcell hb HH, bcell hb HT, bcell hb c0, bcell hb c1, bcell hb c2, bcell hb HV, bcell hb HA, bcell hb HF⟩
  have HLD : Hid (∀ w2, Below w.heap.size w w2 → (loadVar 43 ⟨l, 0, none⟩).run Try.prog w2 = .ok (.agg #[.int .i64 f, .int .i64 t, .int .i64 c, .int .i64 d]) w2) := Lib.hid fun w2 hb => run_loadL (cs := [.int .i64 f, .int .i64 t, .int .i64 c, .int .i64 d]) isAgg43 size43 rfl (HL.below hb)
  have HTK : Hid (∀ w2, Below w.heap.size w w2 → Calls Try.prog 49 #[.pointer (some ⟨V, 0, none⟩), .agg #[.int .i64 f, .int .i64 t, .int .i64 c, .int .i64 d], .int .i64 a0, .int .i64 n, .int .i64 x, .int .i64 y, .int .i64 u] w2 fun e w' => e = .returned (.bool (takesP c x y u)) ∧ Below w2.heap.size w2 w') := Lib.hid fun w2 hb => takes_ok V vs xss f t c d a0 n x y u w2 (H.below hb) hf ht
  clear hx hy hu c0 c1 c2 HH HT AH AT HV H HL HA HF hn hf ht lh lt
  cases hlt : decide (x < 1073741824)
  · go_enter Try.func48, Try.ntmps48
    go_wp2_with fail
    refine Og.walk_lit [[],[0],[],[1,2,0],[3,1,2,0],[4,3,1,2,0],[5,4,3,1,2,0],[6,5,4,3,1,2,0],[6,5,4,3,1,2,0],[6,5,4,3,1,2,0],[6,5,4,3,1,2,0],[6,5,4,3,1,2,0],[11,6,5,4,3,1,2,0],[6,5,4,3,1,2,0],[12,13,6,11,5,4,3,1,2,0],[14,6,12,13,11,5,4,3,1,2,0],[6,5,4,3,1,2,0],[16,6,5,4,3,1,2,0],[6,5,4,3,1,2,0],[17,18,6,16,5,4,3,1,2,0],[19,6,17,18,16,5,4,3,1,2,0],[6,5,4,3,1,2,0],[21,6,5,4,3,1,2,0],[6,5,4,3,1,2,0],[22,23,6,21,5,4,3,1,2,0],[24,6,22,23,21,5,4,3,1,2,0],[7,8,9,10,15,20,25,6,5,4,3,1,2,0,14,12,13,11,19,17,18,16,24,22,23,21],[26,6,7,8,9,10,15,20,25,5,4,3,1,2,0,14,12,13,11,19,17,18,16,24,22,23,21],[6,27,5,4,3,1,2,0,26,7,8,9,10,15,20,25,14,12,13,11,19,17,18,16,24,22,23,21],[28,26,0,1,2,3,4,5,6,7,8,9,10,11,12,13,14,15,16,17,18,19,20,21,22,23,24,25,27]] (fun w2 => Below w.heap.size w w2) (fun w1 w2 => Below w1.heap.size w1 w2) (by kernel_rfl) (by kernel_rfl) (bdrew) ?_
    iterate 30 (refine Og.step_pure (fun _ => Below.refl _ _) ?_; apply Exists.intro; refine And.intro ?_ ?_; focus (intro vs w2 hC hk; have hm := HC w2 hC; revert hk; simp only [Og.KS, Og.K0, Og.Is, List.getD_cons_zero, List.getD_cons_succ, List.getD_nil, List.contains_cons, List.contains_nil, Nat.reduceAdd, Nat.reduceBEq, Bool.or_false, Bool.false_or, Bool.or_true, Bool.true_or, Bool.false_eq_true, false_implies, true_implies, true_and, and_true, forall_const]; intros; go_simp; rfl))
    intro vs w2 hC hk
    simp only [Og.KS, Og.K0, Og.Is, List.getD_cons_zero, List.getD_cons_succ, List.getD_nil, List.contains_cons, List.contains_nil, Nat.reduceAdd, Nat.reduceBEq, Bool.or_false, Bool.false_or, Bool.or_true, Bool.true_or, Bool.false_eq_true, false_implies, true_implies, true_and, and_true, forall_const] at hk
    simp only [hk, Act.put, List.setIfInBounds_toArray, List.set_cons_zero, List.set_cons_succ]
    clear hk HC HLD HTK
    go_wp2_with fail
    go_ret
    exact ⟨by rw [EQ.out, hlt]; rfl, hC⟩
  · go_enter Try.func48, Try.ntmps48
    go_wp2_with fail
    refine Og.walk_lit [[],[0],[],[1,2,0],[3,1,2,0],[4,3,1,2,0],[5,4,3,1,2,0],[6,5,4,3,1,2,0],[6,5,4,3,1,2,0],[6,5,4,3,1,2,0],[6,5,4,3,1,2,0],[6,5,4,3,1,2,0],[11,6,5,4,3,1,2,0],[6,5,4,3,1,2,0],[12,13,6,11,5,4,3,1,2,0],[14,6,12,13,11,5,4,3,1,2,0],[6,5,4,3,1,2,0],[16,6,5,4,3,1,2,0],[6,5,4,3,1,2,0],[17,18,6,16,5,4,3,1,2,0],[19,6,17,18,16,5,4,3,1,2,0],[6,5,4,3,1,2,0],[21,6,5,4,3,1,2,0],[6,5,4,3,1,2,0],[22,23,6,21,5,4,3,1,2,0],[24,6,22,23,21,5,4,3,1,2,0],[7,8,9,10,15,20,25,6,5,4,3,1,2,0,14,12,13,11,19,17,18,16,24,22,23,21],[26,6,7,8,9,10,15,20,25,5,4,3,1,2,0,14,12,13,11,19,17,18,16,24,22,23,21],[6,27,5,4,3,1,2,0,26,7,8,9,10,15,20,25,14,12,13,11,19,17,18,16,24,22,23,21],[28,26,0,1,2,3,4,5,6,7,8,9,10,11,12,13,14,15,16,17,18,19,20,21,22,23,24,25,27]] (fun w2 => Below w.heap.size w w2) (fun w1 w2 => Below w1.heap.size w1 w2) (by kernel_rfl) (by kernel_rfl) (bdrew) ?_
    iterate 8 (refine Og.step_pure (fun _ => Below.refl _ _) ?_; apply Exists.intro; refine And.intro ?_ ?_; focus (intro vs w2 hC hk; have hm := HC w2 hC; revert hk; simp only [Og.KS, Og.K0, Og.Is, List.getD_cons_zero, List.getD_cons_succ, List.getD_nil, List.contains_cons, List.contains_nil, Nat.reduceAdd, Nat.reduceBEq, Bool.or_false, Bool.false_or, Bool.or_true, Bool.true_or, Bool.false_eq_true, false_implies, true_implies, true_and, and_true, forall_const]; intros; go_simp; rfl))
    refine Og.step_pure (fun _ => Below.refl _ _) ?_; apply Exists.intro; refine And.intro ?_ ?_; focus (intro vs w2 hC hk; have hl := HLD.out w2 hC; refine Og.OptB.out ?_; revert hk; simp only [Og.KS, Og.K0, Og.Is, List.getD_cons_zero, List.getD_cons_succ, List.getD_nil, List.contains_cons, List.contains_nil, Nat.reduceAdd, Nat.reduceBEq, Bool.or_false, Bool.false_or, Bool.or_true, Bool.true_or, Bool.false_eq_true, false_implies, true_implies, true_and, and_true, forall_const]; intros; exact optB_loadL (by go_simp) rfl (by go_simp) hl ⟨rfl, rfl⟩)
    iterate 17 (refine Og.step_pure (fun _ => Below.refl _ _) ?_; apply Exists.intro; refine And.intro ?_ ?_; focus (intro vs w2 hC hk; have hm := HC w2 hC; revert hk; simp only [Og.KS, Og.K0, Og.Is, List.getD_cons_zero, List.getD_cons_succ, List.getD_nil, List.contains_cons, List.contains_nil, Nat.reduceAdd, Nat.reduceBEq, Bool.or_false, Bool.false_or, Bool.or_true, Bool.true_or, Bool.false_eq_true, false_implies, true_implies, true_and, and_true, forall_const]; intros; go_simp; rfl))
    refine Og.step_one ?_; apply Exists.intro; refine And.intro ?_ ?_; focus (intro vs w2 hC hk; have hm := HC w2 hC; revert hk; simp only [Og.KS, Og.K0, Og.Is, List.getD_cons_zero, List.getD_cons_succ, List.getD_nil, List.contains_cons, List.contains_nil, Nat.reduceAdd, Nat.reduceBEq, Bool.or_false, Bool.false_or, Bool.or_true, Bool.true_or, Bool.false_eq_true, false_implies, true_implies, true_and, and_true, forall_const]; intros; go_simp; with_reducible refine (HTK.out _ hC).mono ?_; rintro e w3 ⟨rfl, hb⟩; exact Og.RetV.mk ⟨bthen hC hb, hb, rfl⟩)
    iterate 3 (refine Og.step_pure (fun _ => Below.refl _ _) ?_; apply Exists.intro; refine And.intro ?_ ?_; focus (intro vs w2 hC hk; have hm := HC w2 hC; revert hk; simp only [Og.KS, Og.K0, Og.Is, List.getD_cons_zero, List.getD_cons_succ, List.getD_nil, List.contains_cons, List.contains_nil, Nat.reduceAdd, Nat.reduceBEq, Bool.or_false, Bool.false_or, Bool.or_true, Bool.true_or, Bool.false_eq_true, false_implies, true_implies, true_and, and_true, forall_const]; intros; go_simp; rfl))
    intro vs w2 hC hk
    simp only [Og.KS, Og.K0, Og.Is, List.getD_cons_zero, List.getD_cons_succ, List.getD_nil, List.contains_cons, List.contains_nil, Nat.reduceAdd, Nat.reduceBEq, Bool.or_false, Bool.false_or, Bool.or_true, Bool.true_or, Bool.false_eq_true, false_implies, true_implies, true_and, and_true, forall_const] at hk
    simp only [hk, Act.put, List.setIfInBounds_toArray, List.set_cons_zero, List.set_cons_succ]
    clear hk HC HLD HTK
    go_wp2_with fail
    go_ret
    exact ⟨by rw [EQ.out, hlt]; rfl, hC⟩

theorem info99s' : (Try.prog.info? 99).map (·.size) = some 4 := by kernel_rfl
set_option maxRecDepth 100000 in
set_option maxHeartbeats 8000000 in
theorem far1_ok (th tD v V l bc fr : Nat) (hd td : List Int) (vs : List Value) (xss : List (List Lk)) (f t b0 : Nat) (c d : Int) (n : Nat) (w : World)
    (HTR : treeP xss (n : Int) = some hd) (hxl : ∀ (j : Nat) (xs : List Lk), xss[j]? = some xs → xs.length ≤ 20000)
    (HT : w.cell? ⟨th, 1, none⟩ = some (.slice (some ⟨tD, 0, none⟩) 128 128)) (AT : AtL w tD 0 (dC td)) (lt : td.length = 128)
    (HV : w.cell? ⟨v, 0, none⟩ = some (.pointer (some ⟨V, 0, none⟩))) (H : Vw V w vs xss) (HL : AtL w l 0 [.int .i64 f, .int .i64 t, .int .i64 c, .int .i64 d])
    (HB : w.cell? ⟨bc, 0, none⟩ = some (.int .i64 b0)) (HF : w.cell? ⟨fr, 0, none⟩ = some (.int .i64 f)) (hn : n < 128) (hf : f < 128) (ht : t < 128) (hb0 : b0 < 128) :
    Calls Try.prog 50 #[.int .i64 n, .pointer (some ⟨v, 0, none⟩), .pointer (some ⟨bc, 0, none⟩), .pointer (some ⟨l, 0, none⟩), .pointer (some ⟨fr, 0, none⟩), .pointer (some ⟨th, 0, none⟩)] w fun e w' => e = .returned (.bool (farB hd td c f b0)) ∧ Below w.heap.size w w' := by
  have HTC := Lib.hid (fun w2 (hb : Below w.heap.size w w2) => Tree_okS vs xss (n : Int) hd V w2 (H.below hb) (by simp only [oks, Bool.and_eq_true, decide_eq_true_eq]; omega) HTR hxl)
  have hbb0 : (0 : Int) ≤ (b0 : Int) := by omega
  have hbb1 : (b0 : Int) < 128 := by omega
  have hf0 : (0 : Int) ≤ (f : Int) := by omega
  have hf1 : (f : Int) < 128 := by omega
  have HF8 := Lib.hid hf
  have HB8 := Lib.hid hb0
  obtain ⟨x, hx⟩ : ∃ x, x = hd.getD b0 0 := ⟨_, rfl⟩
  obtain ⟨y, hy⟩ : ∃ y, y = hd.getD f 0 := ⟨_, rfl⟩
  obtain ⟨u, hu⟩ : ∃ u, u = td.getD b0 0 := ⟨_, rfl⟩
  have EQ : Hid (farB hd td c f b0 = (decide (x < 1073741824) && !takesP c x y u)) := Lib.hid (by unfold farB; rw [← hx, ← hy, ← hu])
  have HX := Lib.hid hx
  have HY := Lib.hid hy
  have c2 := dC_at AT lt hb0
  rw [← hu] at c2
  have HCB : Hid (∀ w2, Below w.heap.size w w2 → w2.cell? ⟨th, 1, none⟩ = some (.slice (some ⟨tD, 0, none⟩) 128 128) ∧ w2.cell? ⟨tD, b0, none⟩ = some (.int .i64 u) ∧ w2.cell? ⟨v, 0, none⟩ = some (.pointer (some ⟨V, 0, none⟩)) ∧ w2.cell? ⟨bc, 0, none⟩ = some (.int .i64 b0) ∧ w2.cell? ⟨fr, 0, none⟩ = some (.int .i64 f)) := Lib.hid fun w2 hb => ⟨bcell hb HT, bcell hb c2, bcell hb HV, bcell hb HB, bcell hb HF⟩
  have HLD0 : Hid (∀ w2, Below w.heap.size w w2 → (loadVar 43 ⟨l, 0, none⟩).run Try.prog w2 = .ok (.agg #[.int .i64 f, .int .i64 t, .int .i64 c, .int .i64 d]) w2) := Lib.hid fun w2 hb => run_loadL (cs := [.int .i64 f, .int .i64 t, .int .i64 c, .int .i64 d]) isAgg43 size43 rfl (HL.below hb)
  have HTK0 : Hid (∀ w2, Below w.heap.size w w2 → Calls Try.prog 49 #[.pointer (some ⟨V, 0, none⟩), .agg #[.int .i64 f, .int .i64 t, .int .i64 c, .int .i64 d], .int .i64 n, .int .i64 b0, .int .i64 x, .int .i64 y, .int .i64 u] w2 fun e w' => e = .returned (.bool (takesP c x y u)) ∧ Below w2.heap.size w2 w') := Lib.hid fun w2 hb => takes_ok V vs xss f t c d n b0 x y u w2 (H.below hb) hf ht
  have y0 := HV
  clear hx hy hu c2 HT AT HV H HL HB HF hn hf ht hb0 lt HTR hxl
  go_enter Try.func50, Try.ntmps50
  go_wp2_with fail
  clear y0
  with_reducible refine (HTC.out _ (Below.refl _ _)).mono ?_
  rintro e w3 ⟨⟨gD, vP, vH, rfl, -, ha, hl, ho1, ho2⟩, hb3⟩
  have HO := Lib.hid (And.intro ho1 ho2)
  clear ho1 ho2
  have B3 := Lib.hid hb3
  have HA3 := Lib.hid ha
  have LH := Lib.hid hl
  clear hb3 ha hl HTC
  go_wp2_with (refine wpList_storeN rfl 99 (.tmp 8) (.tmp 11) rfl rfl w3.heap.size #[.int .i64 n, .slice (some ⟨gD, 0, none⟩) 128 128, vP, vH] rfl rfl 99 _ (heap_at rfl) info99s' rfl (by simp [Value.oneCell']; exact ⟨HO.out.1, HO.out.2⟩) ?_; intro w4 hz4 hb4 hn4 hs4; have b4 := below_storeA hb4; have Z4 := Lib.hid hz4; have B4 := Lib.hid (bthen B3.out b4); have HA4 := Lib.hid (HA3.out.below b4); clear hz4 hb4 hn4 hs4 b4)
  obtain ⟨h, hh⟩ : ∃ h, h = w3.heap.size := ⟨_, rfl⟩
  rw [← hh] at Z4
  rw [← hh]
  clear hh
  have HC : ∀ w2, Below w4.heap.size w4 w2 → w2.cell? ⟨h, 1, none⟩ = some (.slice (some ⟨gD, 0, none⟩) 128 128) ∧ w2.cell? ⟨gD, b0, none⟩ = some (.int .i64 x) ∧ w2.cell? ⟨gD, f, none⟩ = some (.int .i64 y) ∧ w2.cell? ⟨th, 1, none⟩ = some (.slice (some ⟨tD, 0, none⟩) 128 128) ∧ w2.cell? ⟨tD, b0, none⟩ = some (.int .i64 u) ∧ w2.cell? ⟨v, 0, none⟩ = some (.pointer (some ⟨V, 0, none⟩)) ∧ w2.cell? ⟨bc, 0, none⟩ = some (.int .i64 b0) ∧ w2.cell? ⟨fr, 0, none⟩ = some (.int .i64 f) := fun w2 hb => ⟨bcell hb (by rw [cell_of_row _ _ 1 _ _ _ Z4.out]; rfl), bcell hb (by rw [HX.out]; exact dC_at HA4.out LH.out HB8.out), bcell hb (by rw [HY.out]; exact dC_at HA4.out LH.out HF8.out), HCB.out w2 (bthen B4.out hb)⟩
  have HLD : Hid (∀ w2, Below w4.heap.size w4 w2 → (loadVar 43 ⟨l, 0, none⟩).run Try.prog w2 = .ok (.agg #[.int .i64 f, .int .i64 t, .int .i64 c, .int .i64 d]) w2) := Lib.hid fun w2 hb => HLD0.out w2 (bthen B4.out hb)
  have HTK : Hid (∀ w2, Below w4.heap.size w4 w2 → Calls Try.prog 49 #[.pointer (some ⟨V, 0, none⟩), .agg #[.int .i64 f, .int .i64 t, .int .i64 c, .int .i64 d], .int .i64 n, .int .i64 b0, .int .i64 x, .int .i64 y, .int .i64 u] w2 fun e w' => e = .returned (.bool (takesP c x y u)) ∧ Below w2.heap.size w2 w') := Lib.hid fun w2 hb => HTK0.out w2 (bthen B4.out hb)
  clear HCB HLD0 HTK0 HA3 HA4 B3 Z4
  cases hlt : decide (x < 1073741824)
  · skip
    refine Og.walk_lit [[],[0],[],[1,2,0],[3,1,2,0],[4,3,1,2,0],[5,4,3,1,2,0],[6,5,4,3,1,2,0],[6,5,4,3,1,2,0],[6,5,4,3,1,2,0],[6,5,4,3,1,2,0],[6,5,4,3,1,2,0],[11,6,5,4,3,1,2,0],[6,5,4,3,1,2,0],[12,13,6,11,5,4,3,1,2,0],[14,6,12,13,11,5,4,3,1,2,0],[6,5,4,3,1,2,0],[16,6,5,4,3,1,2,0],[6,5,4,3,1,2,0],[17,18,6,16,5,4,3,1,2,0],[19,6,17,18,16,5,4,3,1,2,0],[6,5,4,3,1,2,0],[21,6,5,4,3,1,2,0],[6,5,4,3,1,2,0],[22,23,6,21,5,4,3,1,2,0],[24,6,22,23,21,5,4,3,1,2,0],[7,8,9,10,15,20,25,6,5,4,3,1,2,0,14,12,13,11,19,17,18,16,24,22,23,21],[26,6,7,8,9,10,15,20,25,5,4,3,1,2,0,14,12,13,11,19,17,18,16,24,22,23,21],[6,27,5,4,3,1,2,0,26,7,8,9,10,15,20,25,14,12,13,11,19,17,18,16,24,22,23,21],[28,26,0,1,2,3,4,5,6,7,8,9,10,11,12,13,14,15,16,17,18,19,20,21,22,23,24,25,27]] (fun w2 => Below w4.heap.size w4 w2) (fun w1 w2 => Below w1.heap.size w1 w2) (by kernel_rfl) (by kernel_rfl) (bdrew) ?_
    iterate 30 (refine Og.step_pure (fun _ => Below.refl _ _) ?_; apply Exists.intro; refine And.intro ?_ ?_; focus (intro vs w2 hC hk; have hm := HC w2 hC; revert hk; simp only [Og.KS, Og.K0, Og.Is, List.getD_cons_zero, List.getD_cons_succ, List.getD_nil, List.contains_cons, List.contains_nil, Nat.reduceAdd, Nat.reduceBEq, Bool.or_false, Bool.false_or, Bool.or_true, Bool.true_or, Bool.false_eq_true, false_implies, true_implies, true_and, and_true, forall_const]; intros; go_simp; rfl))
    intro vs w2 hC hk
    simp only [Og.KS, Og.K0, Og.Is, List.getD_cons_zero, List.getD_cons_succ, List.getD_nil, List.contains_cons, List.contains_nil, Nat.reduceAdd, Nat.reduceBEq, Bool.or_false, Bool.false_or, Bool.or_true, Bool.true_or, Bool.false_eq_true, false_implies, true_implies, true_and, and_true, forall_const] at hk
    simp only [hk, Act.put, List.setIfInBounds_toArray, List.set_cons_zero, List.set_cons_succ]
    clear hk HC HLD HTK
    go_wp2_with fail
    go_ret
    exact ⟨by rw [EQ.out, hlt]; rfl, bthen B4.out hC⟩
  · skip
    refine Og.walk_lit [[],[0],[],[1,2,0],[3,1,2,0],[4,3,1,2,0],[5,4,3,1,2,0],[6,5,4,3,1,2,0],[6,5,4,3,1,2,0],[6,5,4,3,1,2,0],[6,5,4,3,1,2,0],[6,5,4,3,1,2,0],[11,6,5,4,3,1,2,0],[6,5,4,3,1,2,0],[12,13,6,11,5,4,3,1,2,0],[14,6,12,13,11,5,4,3,1,2,0],[6,5,4,3,1,2,0],[16,6,5,4,3,1,2,0],[6,5,4,3,1,2,0],[17,18,6,16,5,4,3,1,2,0],[19,6,17,18,16,5,4,3,1,2,0],[6,5,4,3,1,2,0],[21,6,5,4,3,1,2,0],[6,5,4,3,1,2,0],[22,23,6,21,5,4,3,1,2,0],[24,6,22,23,21,5,4,3,1,2,0],[7,8,9,10,15,20,25,6,5,4,3,1,2,0,14,12,13,11,19,17,18,16,24,22,23,21],[26,6,7,8,9,10,15,20,25,5,4,3,1,2,0,14,12,13,11,19,17,18,16,24,22,23,21],[6,27,5,4,3,1,2,0,26,7,8,9,10,15,20,25,14,12,13,11,19,17,18,16,24,22,23,21],[28,26,0,1,2,3,4,5,6,7,8,9,10,11,12,13,14,15,16,17,18,19,20,21,22,23,24,25,27]] (fun w2 => Below w4.heap.size w4 w2) (fun w1 w2 => Below w1.heap.size w1 w2) (by kernel_rfl) (by kernel_rfl) (bdrew) ?_
    iterate 8 (refine Og.step_pure (fun _ => Below.refl _ _) ?_; apply Exists.intro; refine And.intro ?_ ?_; focus (intro vs w2 hC hk; have hm := HC w2 hC; revert hk; simp only [Og.KS, Og.K0, Og.Is, List.getD_cons_zero, List.getD_cons_succ, List.getD_nil, List.contains_cons, List.contains_nil, Nat.reduceAdd, Nat.reduceBEq, Bool.or_false, Bool.false_or, Bool.or_true, Bool.true_or, Bool.false_eq_true, false_implies, true_implies, true_and, and_true, forall_const]; intros; go_simp; rfl))
    refine Og.step_pure (fun _ => Below.refl _ _) ?_; apply Exists.intro; refine And.intro ?_ ?_; focus (intro vs w2 hC hk; have hl := HLD.out w2 hC; refine Og.OptB.out ?_; revert hk; simp only [Og.KS, Og.K0, Og.Is, List.getD_cons_zero, List.getD_cons_succ, List.getD_nil, List.contains_cons, List.contains_nil, Nat.reduceAdd, Nat.reduceBEq, Bool.or_false, Bool.false_or, Bool.or_true, Bool.true_or, Bool.false_eq_true, false_implies, true_implies, true_and, and_true, forall_const]; intros; exact optB_loadL (by go_simp) rfl (by go_simp) hl ⟨rfl, rfl⟩)
    iterate 17 (refine Og.step_pure (fun _ => Below.refl _ _) ?_; apply Exists.intro; refine And.intro ?_ ?_; focus (intro vs w2 hC hk; have hm := HC w2 hC; revert hk; simp only [Og.KS, Og.K0, Og.Is, List.getD_cons_zero, List.getD_cons_succ, List.getD_nil, List.contains_cons, List.contains_nil, Nat.reduceAdd, Nat.reduceBEq, Bool.or_false, Bool.false_or, Bool.or_true, Bool.true_or, Bool.false_eq_true, false_implies, true_implies, true_and, and_true, forall_const]; intros; go_simp; rfl))
    refine Og.step_one ?_; apply Exists.intro; refine And.intro ?_ ?_; focus (intro vs w2 hC hk; have hm := HC w2 hC; revert hk; simp only [Og.KS, Og.K0, Og.Is, List.getD_cons_zero, List.getD_cons_succ, List.getD_nil, List.contains_cons, List.contains_nil, Nat.reduceAdd, Nat.reduceBEq, Bool.or_false, Bool.false_or, Bool.or_true, Bool.true_or, Bool.false_eq_true, false_implies, true_implies, true_and, and_true, forall_const]; intros; go_simp; with_reducible refine (HTK.out _ hC).mono ?_; rintro e w3 ⟨rfl, hb⟩; exact Og.RetV.mk ⟨bthen hC hb, hb, rfl⟩)
    iterate 3 (refine Og.step_pure (fun _ => Below.refl _ _) ?_; apply Exists.intro; refine And.intro ?_ ?_; focus (intro vs w2 hC hk; have hm := HC w2 hC; revert hk; simp only [Og.KS, Og.K0, Og.Is, List.getD_cons_zero, List.getD_cons_succ, List.getD_nil, List.contains_cons, List.contains_nil, Nat.reduceAdd, Nat.reduceBEq, Bool.or_false, Bool.false_or, Bool.or_true, Bool.true_or, Bool.false_eq_true, false_implies, true_implies, true_and, and_true, forall_const]; intros; go_simp; rfl))
    intro vs w2 hC hk
    simp only [Og.KS, Og.K0, Og.Is, List.getD_cons_zero, List.getD_cons_succ, List.getD_nil, List.contains_cons, List.contains_nil, Nat.reduceAdd, Nat.reduceBEq, Bool.or_false, Bool.false_or, Bool.or_true, Bool.true_or, Bool.false_eq_true, false_implies, true_implies, true_and, and_true, forall_const] at hk
    simp only [hk, Act.put, List.setIfInBounds_toArray, List.set_cons_zero, List.set_cons_succ]
    clear hk HC HLD HTK
    go_wp2_with fail
    go_ret
    exact ⟨by rw [EQ.out, hlt]; rfl, bthen B4.out hC⟩

set_option maxRecDepth 100000 in
set_option maxHeartbeats 8000000 in
theorem relay1_ok (sc nc fc pc v V : Nat) (s p0 : Nat) (nr fr : Int × Int) (vs : List Value) (xss : List (List Lk)) (n : Nat) (w : World)
    (HS : w.cell? ⟨sc, 0, none⟩ = some (.int .i64 s)) (HP : w.cell? ⟨pc, 0, none⟩ = some (.int .i64 p0)) (HN : w.heap[nc]? = some (.cells (bCs nr) 25 (0, 0))) (HF : w.heap[fc]? = some (.cells (bCs fr) 25 (0, 0)))
    (HV : w.cell? ⟨v, 0, none⟩ = some (.pointer (some ⟨V, 0, none⟩))) (H : Vw V w vs xss) (hn : n < 128) :
    Calls Try.prog 22 #[.int .i64 n, .pointer (some ⟨sc, 0, none⟩), .pointer (some ⟨nc, 0, none⟩), .pointer (some ⟨fc, 0, none⟩), .pointer (some ⟨pc, 0, none⟩), .pointer (some ⟨v, 0, none⟩)] w fun e w' => e = .returned (.bool (relayB s nr fr n)) ∧ Below w.heap.size w w' := by
  have hn0 : (0 : Int) ≤ (n : Int) := by omega
  have hn1 : (n : Int) < 128 := by omega
  have HA := Lib.hid (fun w2 => Has_ok nr n hn w2)
  have HB := Lib.hid (fun w2 => Has_ok fr n hn w2)
  unfold bV at HA HB
  obtain ⟨x, hx⟩ : ∃ x, x = hasB nr n := ⟨_, rfl⟩
  obtain ⟨y, hy⟩ : ∃ y, y = hasB fr n := ⟨_, rfl⟩
  have EQ : Hid (relayB s nr fr n = (decide (n ≠ s) && x && y)) := Lib.hid (by unfold relayB; rw [← hx, ← hy])
  rw [← hx] at HA
  rw [← hy] at HB
  have cov := H.over hn
  have n0 : w.cell? ⟨nc, 0, none⟩ = some (.int .u64 nr.1) := by rw [cell_of_row _ _ 0 _ _ _ HN]; rfl
  have n1 : w.cell? ⟨nc, 1, none⟩ = some (.int .u64 nr.2) := by rw [cell_of_row _ _ 1 _ _ _ HN]; rfl
  have f0 : w.cell? ⟨fc, 0, none⟩ = some (.int .u64 fr.1) := by rw [cell_of_row _ _ 0 _ _ _ HF]; rfl
  have f1 : w.cell? ⟨fc, 1, none⟩ = some (.int .u64 fr.2) := by rw [cell_of_row _ _ 1 _ _ _ HF]; rfl
  have HN0 := Lib.hid hn0
  clear hx hy HN HF H hn
  by_cases h1 : n = s
  · have e1 : ((n : Int) != (s : Int)) = false := by simp; omega
    clear n0 n1 f0 f1 cov HP HV
    go_enter Try.func22, Try.ntmps22
    go_wp2_with fail
    go_ret
    exact ⟨by rw [EQ.out]; simp [h1], Below.refl _ _⟩
  · have e1 : ((n : Int) != (s : Int)) = true := by simp; omega
    go_enter Try.func22, Try.ntmps22
    go_wp2_with fail
    with_reducible refine (HA.out _).mono ?_
    rintro e w3 ⟨rfl, hb3⟩
    have B3 := Lib.hid hb3
    replace f0 := bcell hb3 f0
    replace f1 := bcell hb3 f1
    replace HP := bcell hb3 HP
    replace HV := bcell hb3 HV
    replace cov := bcell hb3 cov
    clear hb3 n0 n1 HS
    cases x with
    | false =>
      clear f0 f1 cov HP HV
      go_wp2_with fail
      go_ret
      exact ⟨by rw [EQ.out]; simp, B3.out⟩
    | true =>
      go_wp2_with fail
      with_reducible refine (HB.out _).mono ?_
      rintro e w4 ⟨rfl, hb4⟩
      have B4 := Lib.hid (bthen B3.out hb4)
      replace HP := bcell hb4 HP
      replace HV := bcell hb4 HV
      replace cov := bcell hb4 cov
      clear hb4 f0 f1 B3
      cases y with
      | false =>
        clear cov HP HV
        go_wp2_with fail
        go_ret
        exact ⟨by rw [EQ.out]; simp, B4.out⟩
      | true =>
        by_cases h2 : n = p0
        · have e2 : ((n : Int) = (p0 : Int)) = True := eq_true (by omega)
          go_wp2_with fail
          go_ret
          exact ⟨by rw [EQ.out]; simp [h1], B4.out⟩
        · have e2 : ((n : Int) = (p0 : Int)) = False := eq_false (by omega)
          go_wp2_with fail
          go_ret
          exact ⟨by rw [EQ.out]; simp [h1], B4.out⟩

end Go.Proofs.Ytpklcefiabjplaa
