/- The heap of whole numbers: New, Top, take, Pop; conditions as stated. -/
import Derived.Test.YtpklcefiabjplaaR4
namespace Go.Proofs.Ytpklcefiabjplaa
open Go.ChangeShapes Go.WideShapes Go.ChangeAt Go.RowKit
set_option linter.unusedVariables false
set_option linter.unusedSimpArgs false
attribute [local go_sem] Og.Opt Og.OpY

set_option maxRecDepth 100000 in
set_option maxHeartbeats 4000000 in
theorem top_none (h : Nat) (v : Value) (tb : List Int) (w : World) (H : Hp h w v [] tb) :
    Calls Try.prog 118 #[.pointer (some ⟨h, 0, none⟩)] w fun e w' => e = .returned (.tuple #[.int .i64 0, .int .i64 0, .int .i64 8]) ∧ Below w.heap.size w w' := by
  obtain ⟨A, c, rfl, -⟩ := H.sl
  have q0 : w.cell? ⟨h, 0, none⟩ = some (.slice A 0 c) := H.v0
  clear H
  go_enter Try.func118, Try.ntmps118
  go_wp2_with fail
  refine bodyPost_ret (results_tmp3 rfl _ _ _) rfl ?_
  exact ⟨rfl, Below.refl _ _⟩
set_option maxRecDepth 100000 in
set_option maxHeartbeats 4000000 in
theorem top_ok (h : Nat) (v : Value) (x : En) (es : List En) (tb : List Int) (w : World) (H : Hp h w v es tb) (hx : es[0]? = some x) (hl : es.length ≤ 1000000) :
    Calls Try.prog 118 #[.pointer (some ⟨h, 0, none⟩)] w fun e w' => e = .returned (.tuple #[.int .i64 x.n, .int .i64 x.k, .int .i64 0]) ∧ Below w.heap.size w w' := by
  have h0 := (List.getElem?_eq_some_iff.1 hx).1
  obtain ⟨g, c, rfl, hhg, hgs, hat⟩ := H.row h0
  have c1 := getEn hat hx
  obtain ⟨ln, hln⟩ : ∃ ln, es.length = ln + 1 := ⟨es.length - 1, by omega⟩
  rw [hln] at H hl
  simp only [Nat.zero_mul, Nat.zero_add] at c1
  have HC : ∀ w2, Below w.heap.size w w2 → w2.cell? ⟨h, 0, none⟩ = some (.slice (some ⟨g, 0, none⟩) (ln + 1) c) ∧ w2.cell? ⟨g, 0, none⟩ = some (.int .i64 x.k) ∧ w2.cell? ⟨g, 1, none⟩ = some (.int .i64 x.n) := fun w2 hb => ⟨bcell hb H.v0, bcell hb c1.1, bcell hb c1.2⟩
  obtain ⟨q0, q1, q2⟩ := HC w (Below.refl _ _)
  have hz : (0 : Int) < (ln : Int) + 1 := by omega
  clear H hx h0 c1 hln hat hhg hgs hl
  go_enter Try.func118, Try.ntmps118
  go_wp2_with fail
  refine Og.walk_lit [[],[0],[1,0],[2,1,0],[3,2,1,0],[4,3,2,1,0],[5,4,3,2,1,0],[],[7],[8,7],[9,8,7],[10,9,8,7],[11,10,9,8,7],[12,11,10,9,8,7],[6,0,1,2,3,4,5],[13,14,0,1,2,3,4,5,6,7,8,9,10,11,12],[15,0,1,2,3,4,5,6,7,8,9,10,11,12,13,14]] (fun w2 => Below w.heap.size w w2) (fun w1 w2 => Below w1.heap.size w1 w2) (by kernel_rfl) (by kernel_rfl) (bdrew) ?_
  repeat (first | (refine Og.step_pure (fun _ => Below.refl _ _) ?_; apply Exists.intro; refine And.intro ?_ ?_; focus (intro vs w2 hC hk; have hm := HC w2 hC; revert hk; simp only [Og.KS, Og.K0, Og.Is, List.getD_cons_zero, List.getD_cons_succ, List.getD_nil, List.contains_cons, List.contains_nil, Nat.reduceAdd, Nat.reduceBEq, Bool.or_false, Bool.false_or, Bool.or_true, Bool.true_or, Bool.false_eq_true, false_implies, true_implies, true_and, and_true, forall_const]; intros; go_simp; rfl)))
  intro vs w2 hC hk
  have hm := HC w2 hC
  simp only [Og.KS, Og.K0, Og.Is, List.getD_cons_zero, List.getD_cons_succ, List.getD_nil, List.contains_cons, List.contains_nil, Nat.reduceAdd, Nat.reduceBEq, Bool.or_false, Bool.false_or, Bool.or_true, Bool.true_or, Bool.false_eq_true, false_implies, true_implies, true_and, and_true, forall_const] at hk
  simp only [hk, Act.put, List.setIfInBounds_toArray, List.set_cons_zero, List.set_cons_succ]
  clear hk
  have BB := Lib.hid hC
  clear hC hm HC
  go_wp2_with fail
  refine bodyPost_ret (results_tmp3 rfl _ _ _) rfl ?_
  exact ⟨rfl, BB.out⟩

theorem Fr.same {h : Nat} {v v' : Value} {w w1 : World} (a : Fr h v w w1) (hv : v'.ownBlock = v.ownBlock) : Fr h v' w w1 := ⟨a.bel, fun k hk h1 h2 => a.oth k hk h1 (by rw [← hv]; exact h2)⟩
theorem Fr.fresh {h b : Nat} {v : Value} {w w1 w2 : World} (a : Fr h v w w1) (hh : h ≤ w.heap.size) (hb : w.heap.size ≤ b) (n : ∀ j, j ≠ b → w2.heap[j]? = w1.heap[j]?) (k : Below w.heap.size w1 w2) : Fr h v w w2 :=
  ⟨a.bel.trans (k.mono hh), fun j hj h1 h2 => (n j (by omega)).trans (a.oth j hj h1 h2)⟩
theorem Hp.cut {h g n c : Nat} {w : World} {es : List En} {tb : List Int} (H : Hp h w (.slice (some ⟨g, 0, none⟩) n c) es tb) (m : Nat) (hm : m ≤ es.length) :
    Hp h (w.setCell ⟨h, 0, none⟩ (.slice (some ⟨g, 0, none⟩) m c)) (.slice (some ⟨g, 0, none⟩) m c) (es.take m) tb := by
  rcases H.own.2 with ⟨h0, _⟩ | ⟨g', cap, cur, hv, hb, hg, hnc, hcm, hcs, htk⟩
  · cases h0
  · simp only [Value.slice.injEq, Option.some.injEq, Addr.mk.injEq, and_true] at hv
    obtain ⟨rfl, hn, rfl⟩ := hv
    have hne : g ≠ h := by omega
    rw [setCell_eq_setRow w h 0 _ 166 (0, 0) _ H.blk]
    have hl : (es.take m).length = m := by rw [List.length_take]; omega
    refine ⟨?_, ⟨by rw [flat_len cEn 2 cEn_len], .inr ⟨g, c, cur, by rw [hl], hb, ?_, by rw [hl]; omega, hcm, hcs, ?_⟩⟩, H.len⟩
    · rw [setRow_heap w h _ _ 166 (0, 0) H.blk]
      simp [hCs]
    · rw [setRow_other w h g _ hne]; exact hg
    · rw [hl, ← flat_take cEn 2 cEn_len es m, ← htk, List.take_take, Nat.min_eq_left (by omega)]
theorem popP_some {s s' : Hs} {x : En} (h : popP s = some (x, s')) : ∃ ln s1, s.es.length = ln + 1 ∧ s.es[0]? = some x ∧ ln + 1 < 1000 ∧ oks x.n = true ∧ swapP s 0 ln = some s1 ∧ s1.es[ln]? = some x ∧
    ((0 < ln ∧ downP 200 ⟨s1.es.take ln, s1.tb.set x.n.toNat 0⟩ 0 = some s') ∨ (ln = 0 ∧ s' = ⟨s1.es.take ln, s1.tb.set x.n.toNat 0⟩)) := by
  unfold popP at h
  split at h
  · rename_i y hy
    split at h
    · rename_i hc
      have h0 := (List.getElem?_eq_some_iff.1 hy).1
      rw [Option.bind_eq_some_iff] at h
      obtain ⟨s1, hs1, h⟩ := h
      obtain ⟨ln, hln⟩ : ∃ ln, s.es.length = ln + 1 := ⟨s.es.length - 1, by omega⟩
      rw [hln] at h hs1 hc
      simp only [Nat.add_sub_cancel] at h hs1
      have e1 : s1.es[ln]? = some y := by
        obtain ⟨x', y', hx', hy', -, -, -, rfl⟩ := swapP_some hs1
        rw [hy] at hx'; cases hx'
        rw [List.getElem?_set_self (by simp; omega)]
      split at h
      · rw [Option.map_eq_some_iff] at h
        obtain ⟨s2, hs2, e⟩ := h
        cases e
        exact ⟨ln, s1, hln, hy, hc.1, hc.2, hs1, e1, .inl ⟨by omega, hs2⟩⟩
      · cases h
        exact ⟨ln, s1, hln, hy, hc.1, hc.2, hs1, e1, .inr ⟨by omega, rfl⟩⟩
    · cases h
  · cases h
theorem up_ok0 (s0 : Hs) (h : Nat) (v : Value) (w : World) (H0 : Hp h w v s0.es s0.tb) (hl : s0.es.length ≤ 1000000) :
    Calls Try.prog 117 #[.pointer (some ⟨h, 0, none⟩), .int .i64 0] w fun e w' => e = .returned (.tuple #[]) ∧ Fr h v w w' ∧ Hp h w' v s0.es s0.tb :=
  (up_ok s0 s0 200 0 h v w H0 hl (by omega) rfl).mono fun e w' k => ⟨k.1, k.2.1, k.2.2.1⟩
theorem down_ok0 (s0 s' : Hs) (h : Nat) (v : Value) (w : World) (H0 : Hp h w v s0.es s0.tb) (hl : s0.es.length ≤ 1000000) (hd : downP 200 s0 0 = some s') :
    Calls Try.prog 135 #[.pointer (some ⟨h, 0, none⟩), .int .i64 0] w fun e w' => e = .returned (.tuple #[]) ∧ Fr h v w w' ∧ Hp h w' v s'.es s'.tb :=
  (down_ok s0 s' 200 0 h v w H0 hl (by omega) hd).mono fun e w' k => ⟨k.1, k.2.1, k.2.2.1⟩
theorem ldEn {w : World} {b : Nat} {x : En} (h : w.heap[b]? = some (.cells (cEn x).toArray 168 (0, 0))) : (loadVar 168 ⟨b, 0, none⟩).run Try.prog w = .ok (.agg (cEn x).toArray) w := run_loadL isAgg168 size168 (cEn_len x) (AtL_heap h)
set_option maxRecDepth 100000 in
set_option maxHeartbeats 4000000 in
theorem take_ok (s s' : Hs) (h : Nat) (x : En) (v : Value) (w : World) (H : Hp h w v s.es s.tb) (hp : popP s = some (x, s')) :
    Calls Try.prog 119 #[.pointer (some ⟨h, 0, none⟩), .int .i64 0] w fun e w' => e = .returned (.agg (cEn x).toArray) ∧ Fr h v w w' ∧ ∃ v', v'.ownBlock = v.ownBlock ∧ Hp h w' v' s'.es s'.tb := by
  obtain ⟨ln, s1, hln, hx, hl, ho, hs1, hx1, hfin⟩ := popP_some hp
  obtain ⟨g, c, rfl, hhg, hgs, hat⟩ := H.row (by omega)
  rw [hln] at H ⊢
  have hcap : ln + 1 ≤ c := by
    rcases H.own.2 with ⟨h0, _⟩ | ⟨g', cap, cur, hv, hb, hg, hnc, hcm, hcs, htk⟩
    · cases h0
    · simp only [Value.slice.injEq, Option.some.injEq, Addr.mk.injEq, and_true] at hv
      omega
  have hlc : (ln : Int) ≤ (c : Int) := by omega
  have hc0 : ¬ c = 0 := by omega
  have hl1 : s1.es.length = ln + 1 := (swapP_len hs1).trans hln
  have HS := Lib.hid (fun w2 (k : Hp h w2 (.slice (some ⟨g, 0, none⟩) (ln + 1) c) s.es s.tb) => swap_okZ (a := 0) (b := (ln : Int)) (i := 0) (by rfl) (by rfl) k (by omega) hs1)
  have h4 : w.heap.size ≠ h := by have := H.lt; omega
  have h4g : (Value.slice (some ⟨g, 0, none⟩) (ln + 1) c).ownBlock ≠ some w.heap.size := by simp [Value.ownBlock]; omega
  have b1 : Below w.heap.size w (w.alloc (.cells #[.int .i64 0, .int .i64 0] 168)) := (Below.refl _ _).alloc (Nat.le_refl _) _
  have HA := Lib.hid (H.below b1)
  have FA := Lib.hid (Fr.of (v := .slice (some ⟨g, 0, none⟩) (ln + 1) c) (Nat.le_of_lt H.lt) b1)
  have q0 := HA.out.v0
  have gw : wrap64 (ln : Int) = (ln : Int) := by unfold wrap64; omega
  have KK := Lib.hid (And.intro h4 h4g)
  have hsz := Lib.hid (And.intro hgs H.lt)
  have LL := Lib.hid (And.intro hl1 (And.intro hl (And.intro ho (And.intro hx1 hfin))))
  clear hcap H hp hln hx hl ho hs1 hx1 hfin hat hl1 h4 h4g b1 hhg hgs
  go_enter Try.func119, Try.ntmps119
  go_wp2_with fail
  with_reducible refine (HS.out _ HA.out).mono ?_
  rintro e ws ⟨rfl, f1, H1⟩
  have FS := Lib.hid (FA.out.trans f1)
  have K4 := Lib.hid (f1.keep (heap_at (W := w) rfl) KK.out.1 KK.out.2)
  have HS1 := Lib.hid H1
  have q1 := H1.v0
  have r1 : RowKit.Hid ((loadVar 168 ⟨g, ln * 2, none⟩).run Try.prog ws = .ok (.agg (cEn x).toArray) ws) := Lib.hid (by
    obtain ⟨g', c', hv', -, -, ha⟩ := H1.row (by have := LL.out.1; omega)
    simp only [Value.slice.injEq, Option.some.injEq, Addr.mk.injEq, and_true, true_and] at hv'
    rw [hv'.1]
    exact loadEn ha LL.out.2.2.2.1)
  have hln0 : (0 : Int) ≤ (ln : Int) := by omega
  have hln1 : (ln : Int) < (ln : Int) + 1 := by omega
  clear f1 H1 q0 HA FA
  rw [gw]
  go_wp2_with (first | (refine wpList_loadL rfl 168 (.tmp 22) rfl g (ln * 2) (.agg (cEn x).toArray) rfl r1.out ?_) | (refine wpList_storeN rfl 168 (.tmp 6) (.tmp 23) rfl rfl ws.heap.size (cEn x).toArray rfl rfl 168 _ (heap_at rfl) info168s rfl (by simp [Value.oneCell', cEn]) ?_; intro w3 hz hb hn hs3; have b3 := below_storeA hb; have H3 := Lib.hid (HS1.out.below b3); have F3 := Lib.hid (bstep HS1.out.lt FS.out b3); have K43 := Lib.hid (heap_keep b3 K4.out); have K6 := Lib.hid hz; have z0 := (HS1.out.below b3).v0; have z1 := (HS1.out.below b3).fz 0; clear b3 hz hb hn hs3))
  have f4 := Fr.setCell (w := w3) (v := .slice (some ⟨g, 0, none⟩) (ln + 1) c) 0 (.slice (some ⟨g, 0, none⟩) ln c) (Nat.le_refl h) (.inl rfl) ⟨_, _, H3.out.blk⟩
  have H4 := Lib.hid (H3.out.cut ln (by have := LL.out.1; omega))
  have F4 := Lib.hid (F3.out.trans f4)
  have hwz : RowKit.Hid (w.heap.size < ws.heap.size ∧ ws.heap.size ≠ h ∧ (Value.slice (some ⟨g, 0, none⟩) (ln + 1) c).ownBlock ≠ some ws.heap.size) := Lib.hid (by
    have e1 := (Array.getElem?_eq_some_iff.1 K4.out).1
    have e2 := hsz.out
    refine ⟨e1, by omega, by simp [Value.ownBlock]; omega⟩)
  have K44 := Lib.hid (f4.keep K43.out KK.out.1 KK.out.2)
  have K64 := Lib.hid (f4.keep K6.out hwz.out.2.1 hwz.out.2.2)
  clear f4 H3 F3 K43 K6 z0 z1 K4 HS1 FS r1 q1
  generalize w3.setCell ⟨h, 0, none⟩ (.slice (some ⟨g, 0, none⟩) ln c) = w4 at *
  have hw4 := hwz.out.1
  have m6 : w4.cell? ⟨ws.heap.size, 1, none⟩ = some (.int .i64 x.n) := by rw [cell_of_row w4 _ 1 _ _ _ K64.out]; rfl
  obtain ⟨m, hxn⟩ : ∃ m : Nat, x.n = (m : Int) := ⟨x.n.toNat, by have := LL.out.2.2.1; simp only [oks, Bool.and_eq_true, decide_eq_true_eq] at this; omega⟩
  have hm128 : m < 128 := by have := LL.out.2.2.1; simp only [oks, Bool.and_eq_true, decide_eq_true_eq] at this; omega
  rw [hxn] at m6
  have hm0 : (0 : Int) ≤ (m : Int) := by omega
  have hm1 : (m : Int) < 128 := by omega
  have HC : ∀ w5, Below w4.heap.size w4 w5 → w5.cell? ⟨ws.heap.size, 1, none⟩ = some (.int .i64 (m : Int)) := fun w5 hb => bcell hb m6
  have XN := Lib.hid hxn
  have M8 := Lib.hid hm128
  have HW4 := Lib.hid hw4
  clear m6 hw4 hxn hm128
  refine Og.Tail.walk_lit 6 [[],[],[1],[0],[3,0],[4,2,0,1,3],[5,0,1,2,4,3]] (fun w2 => Below w4.heap.size w4 w2) (fun w1 w2 => Below w1.heap.size w1 w2) (by kernel_rfl) (by kernel_rfl) (by kernel_rfl) (bdrew) ?_
  simp only [List.take_succ_cons, List.take_zero, List.drop_succ_cons, List.drop_zero]
  repeat (first | (refine Og.step_pure (fun _ => Below.refl _ _) ?_; apply Exists.intro; refine And.intro ?_ ?_; focus (intro vs w2 hC hk; have hm := HC w2 hC; revert hk; simp only [Og.KS, Og.K0, Og.Is, List.getD_cons_zero, List.getD_cons_succ, List.getD_nil, List.contains_cons, List.contains_nil, Nat.reduceAdd, Nat.reduceBEq, Bool.or_false, Bool.false_or, Bool.or_true, Bool.true_or, Bool.false_eq_true, false_implies, true_implies, true_and, and_true, forall_const]; intros; go_simp; rfl)))
  intro vs w2 hC hk
  have hm := HC w2 hC
  simp only [Og.KS, Og.K0, Og.Is, List.getD_cons_zero, List.getD_cons_succ, List.getD_nil, List.contains_cons, List.contains_nil, Nat.reduceAdd, Nat.reduceBEq, Bool.or_false, Bool.false_or, Bool.or_true, Bool.true_or, Bool.false_eq_true, false_implies, true_implies, true_and, and_true, forall_const] at hk
  simp only [hk, Act.put, List.setIfInBounds_toArray, List.set_cons_zero, List.set_cons_succ]
  clear hk
  have H5 := Lib.hid (H4.out.below hC)
  have F5 := Lib.hid (bstep H4.out.lt F4.out hC)
  have K45 := Lib.hid (heap_keep hC K44.out)
  have K65 := Lib.hid (heap_keep hC K64.out)
  clear hC hm HC H4 F4 K44 K64
  obtain ⟨z, hz⟩ : ∃ z, s1.tb[m]? = some z := ⟨_, List.getElem?_eq_getElem (by rw [H5.out.len]; exact M8.out)⟩
  have q1 : w2.cell? ⟨h, 1 + m, none⟩ = some (.int .i64 z) := by rw [Nat.add_comm]; exact H5.out.at_ hz
  have q2 := H5.out.fz (1 + m)
  clear hz
  have hfin := LL.out.2.2.2.2
  rw [XN.out, Int.toNat_natCast] at hfin
  have f6 := Fr.setCell (w := w2) (v := .slice (some ⟨g, 0, none⟩) (ln + 1) c) (1 + m) (.int .i64 0) (Nat.le_refl h) (.inl rfl) ⟨_, _, H5.out.blk⟩
  have H6 := Lib.hid (H5.out.setAt m 0)
  have F6 := Lib.hid (F5.out.trans f6)
  have K46 := Lib.hid (f6.keep K45.out KK.out.1 KK.out.2)
  have K66 := Lib.hid (f6.keep K65.out hwz.out.2.1 hwz.out.2.2)
  clear f6 H5 F5 K45 K65
  have DONE : RowKit.Hid (∀ (w8 : World) (v8 : Value), Hp h w8 v8 s'.es s'.tb → v8.ownBlock = some g → Fr h (.slice (some ⟨g, 0, none⟩) (ln + 1) c) w w8 → ∀ w9 : World, (∀ B, B ≤ w.heap.size → Below B w8 w9) → (∀ j, j ≠ w.heap.size → w9.heap[j]? = w8.heap[j]?) → Fr h (.slice (some ⟨g, 0, none⟩) (ln + 1) c) w w9 ∧ ∃ v', v'.ownBlock = (Value.slice (some ⟨g, 0, none⟩) (ln + 1) c).ownBlock ∧ Hp h w9 v' s'.es s'.tb) := Lib.hid (fun w8 v8 h8 e8 f8 w9 b9 n9 => by
    refine ⟨f8.fresh (Nat.le_of_lt hsz.out.2) (Nat.le_refl _) n9 (b9 _ (Nat.le_refl _)), v8, e8, ⟨?_, ?_, h8.len⟩⟩
    · rw [n9 h (by have := hsz.out; omega)]; exact h8.blk
    · exact ownR_same h8.own (fun gg hgg => by rw [e8] at hgg; cases hgg; exact n9 g (by have := hsz.out; omega)) (b9 0 (Nat.zero_le _)).size)
  have hfin' := Lib.hid hfin
  have HL := Lib.hid (And.intro LL.out.1 LL.out.2.1)
  have KK2 := KK
  clear hfin LL gw XN M8 KK
  rcases Nat.eq_zero_or_pos ln with h0 | h0
  · have g0 : ¬ (0 : Int) < (ln : Int) := by omega
    have hd : s' = ⟨s1.es.take ln, s1.tb.set m 0⟩ := by
      rcases hfin'.out with ⟨e, _⟩ | ⟨_, e⟩
      · omega
      · exact e
    have Hz := H6
    have Fz := F6
    have K4z := K46
    have K6z := K66
    clear h0 hfin'
    have HE : RowKit.Hid (s'.es = s1.es.take ln ∧ s'.tb = s1.tb.set m 0) := Lib.hid (by rw [hd]; exact ⟨rfl, rfl⟩)
    rw [← HE.out.1, ← HE.out.2] at Hz
    clear hd H6 F6 K46 K66
    go_wp2_with (first | (refine wpList_loadL rfl 168 (.tmp 6) rfl ws.heap.size 0 (.agg (cEn x).toArray) rfl (ldEn K6z.out) ?_) | (refine wpList_storeN rfl 168 (.tmp 4) (.tmp 48) rfl rfl w.heap.size (cEn x).toArray rfl rfl 168 _ K4z.out info168s rfl (by simp [Value.oneCell', cEn]) ?_; intro w9 hz hb hn hs3; have Z9 := Lib.hid hz; have D9 := Lib.hid (DONE.out _ _ Hz.out rfl Fz.out w9 hb hn); clear hz hb hn hs3))
    refine bodyPost_ret (results_cell1 rfl rfl (ldEn Z9.out)) rfl ?_
    exact ⟨rfl, D9.out⟩
  · have g0 : (0 : Int) < (ln : Int) := by omega
    have hd : downP 200 ⟨s1.es.take ln, s1.tb.set m 0⟩ 0 = some s' := by
      rcases hfin'.out with ⟨_, e⟩ | ⟨e, _⟩
      · exact e
      · omega
    have HU := Lib.hid (fun w2 (b : Hp h w2 (.slice (some ⟨g, 0, none⟩) ln c) (s1.es.take ln) (s1.tb.set m 0)) => up_ok0 ⟨s1.es.take ln, s1.tb.set m 0⟩ h _ w2 b (by have := HL.out; simp; omega))
    have HD := Lib.hid (fun w2 (b : Hp h w2 (.slice (some ⟨g, 0, none⟩) ln c) (s1.es.take ln) (s1.tb.set m 0)) => down_ok0 ⟨s1.es.take ln, s1.tb.set m 0⟩ s' h _ w2 b (by have := HL.out; simp; omega) hd)
    clear h0 hd hfin'
    go_wp2_with fail
    with_reducible refine (HU.out _ H6.out).mono ?_
    rintro e w7 ⟨rfl, f7, H7⟩
    have F7 := Lib.hid (F6.out.trans (f7.same rfl))
    have K47 := Lib.hid (f7.keep K46.out KK2.out.1 KK2.out.2)
    have K67 := Lib.hid (f7.keep K66.out hwz.out.2.1 hwz.out.2.2)
    have H7' := Lib.hid H7
    clear f7 H7
    go_wp2_with fail
    with_reducible refine (HD.out _ H7'.out).mono ?_
    rintro e w8 ⟨rfl, f8, H8⟩
    have Fz := Lib.hid (F7.out.trans (f8.same rfl))
    have K4z := Lib.hid (f8.keep K47.out KK2.out.1 KK2.out.2)
    have K6z := Lib.hid (f8.keep K67.out hwz.out.2.1 hwz.out.2.2)
    have Hz := Lib.hid H8
    clear f8 H8
    go_wp2_with (first | (refine wpList_loadL rfl 168 (.tmp 6) rfl ws.heap.size 0 (.agg (cEn x).toArray) rfl (ldEn K6z.out) ?_) | (refine wpList_storeN rfl 168 (.tmp 4) (.tmp 48) rfl rfl w.heap.size (cEn x).toArray rfl rfl 168 _ K4z.out info168s rfl (by simp [Value.oneCell', cEn]) ?_; intro w9 hz hb hn hs3; have Z9 := Lib.hid hz; have D9 := Lib.hid (DONE.out _ _ Hz.out rfl Fz.out w9 hb hn); clear hz hb hn hs3))
    refine bodyPost_ret (results_cell1 rfl rfl (ldEn Z9.out)) rfl ?_
    exact ⟨rfl, D9.out⟩

set_option maxRecDepth 100000 in
set_option maxHeartbeats 4000000 in
theorem pop_none (h : Nat) (v : Value) (s : Hs) (w : World) (H : Hp h w v s.es s.tb) (he : s.es = []) :
    Calls Try.prog 83 #[.pointer (some ⟨h, 0, none⟩)] w fun e w' => e = .returned (.tuple #[.int .i64 0, .int .i64 0, .int .i64 8]) ∧ Below w.heap.size w w' := by
  rw [he] at H
  have HT := Lib.hid (top_none h v s.tb w H)
  clear H he
  go_enter Try.func83, Try.ntmps83
  go_wp2_with fail
  with_reducible refine (HT.out).mono ?_
  rintro e w2 ⟨rfl, hb⟩
  have BB := Lib.hid hb
  clear hb
  go_wp2_with fail
  refine bodyPost_ret (results_tmp3 rfl _ _ _) rfl ?_
  exact ⟨rfl, BB.out⟩
set_option maxRecDepth 100000 in
set_option maxHeartbeats 4000000 in
theorem pop_ok (s s' : Hs) (h : Nat) (x : En) (v : Value) (w : World) (H : Hp h w v s.es s.tb) (hp : popP s = some (x, s')) :
    Calls Try.prog 83 #[.pointer (some ⟨h, 0, none⟩)] w fun e w' => e = .returned (.tuple #[.int .i64 x.n, .int .i64 x.k, .int .i64 0]) ∧ Fr h v w w' ∧ ∃ v', v'.ownBlock = v.ownBlock ∧ Hp h w' v' s'.es s'.tb := by
  obtain ⟨ln, s1, hln, hx, hl, -⟩ := popP_some hp
  have HT := Lib.hid (top_ok h v x s.es s.tb w H hx (by omega))
  have HK := Lib.hid (fun w2 (k : Hp h w2 v s.es s.tb) => take_ok s s' h x v w2 k hp)
  have HH := Lib.hid H
  clear H hp hln hx hl
  go_enter Try.func83, Try.ntmps83
  go_wp2_with fail
  with_reducible refine (HT.out).mono ?_
  rintro e w2 ⟨rfl, hb⟩
  have H2 := Lib.hid (HH.out.below hb)
  have F2 := Lib.hid (Fr.of (v := v) (Nat.le_of_lt HH.out.lt) hb)
  clear hb
  go_wp2_with fail
  with_reducible refine (HK.out _ H2.out).mono ?_
  rintro e w3 ⟨rfl, f3, hh⟩
  have F3 := Lib.hid (And.intro (F2.out.trans f3) hh)
  clear f3 hh
  go_wp2_with fail
  refine bodyPost_ret (results_tmp3 rfl _ _ _) rfl ?_
  exact ⟨rfl, F3.out⟩
def h0s : Hs := ⟨[], List.replicate 128 0⟩
set_option maxRecDepth 100000 in
set_option maxHeartbeats 4000000 in
theorem new_ok (w : World) : Calls Try.prog 81 #[] w fun e w' => ∃ h, e = .returned (.pointer (some ⟨h, 0, none⟩)) ∧ h = w.heap.size ∧ Below w.heap.size w w' ∧ Hp h w' (.slice none 0 0) h0s.es h0s.tb := by
  go_enter Try.func81, Try.ntmps81
  go_wp2_with fail
  go_ret
  refine ⟨w.heap.size, rfl, rfl, (Below.refl _ _).alloc (Nat.le_refl _) _, ⟨?_, World.ownsRow_nil _ _ _ _, rfl⟩⟩
  have e : Try.zeroCells166 = (hCs (.slice none 0 0) h0s.tb).toArray := by kernel_rfl
  rw [← e]
  exact heap_at rfl

end Go.Proofs.Ytpklcefiabjplaa
