/- The walk of Tree: distances as the plain function says; conditions as stated. -/
import Derived.Test.YtpklcefiabjplaaR10
import Derived.Laws.MakeOwn
namespace Go.Proofs.Ytpklcefiabjplaa
open Go.ChangeShapes Go.WideShapes Go.ChangeAt Go.RowKit
set_option linter.unusedVariables false
set_option linter.unusedSimpArgs false
attribute [local go_sem] Og.Opt Og.OpY

attribute [local go_sem] Og.Opt Og.OpY
def fillD (k : Nat) : List Int := List.replicate k infZ ++ List.replicate (128 - k) 0
theorem fillD_len {k : Nat} (hk : k ≤ 128) : (fillD k).length = 128 := by
  unfold fillD
  rw [List.length_append, List.length_replicate, List.length_replicate]
  omega
theorem fillD_set {k : Nat} (hk : k < 128) : (fillD k).set k infZ = fillD (k + 1) := by
  unfold fillD
  rw [List.set_append_right _ _ (by rw [List.length_replicate]; omega), List.length_replicate, Nat.sub_self, show 128 - k = (128 - (k + 1)) + 1 by omega, List.replicate_succ, List.set_cons_zero, List.replicate_succ', List.append_assoc]
  rfl
def TreeInv (w : World) (h b5 gD gP : Nat) (root : Int) (vH : Value) (xss : List (List Lk)) (ds : List Int) (f : Nat) (wr : World) : Prop := ∃ s v, Tr w h b5 gD gP root vH wr s v ∧ treeLoop xss f s = some ds
/-- before the heap is made -/
structure T0 (w : World) (b5 gD gP gH : Nat) (root : Int) (wr : World) (ds : List Int) : Prop where
  low : Below w.heap.size w wr
  k4 : wr.heap[w.heap.size]? = some (.cells #[.int .i64 0, .slice none 0 0, .slice none 0 0, .slice none 0 0] 99 (0, 0))
  k5 : wr.heap[b5]? = some (.cells #[.int .i64 root, .slice (some ⟨gD, 0, none⟩) 128 128, .slice (some ⟨gP, 0, none⟩) 128 128, .slice (some ⟨gH, 0, none⟩) 128 128] 99 (0, 0))
  kD : wr.heap[gD]? = some (.cells (dC ds).toArray 3 (0, 0))
  kP : wr.heap[gP]? = some (.cells z256.toArray 25 (0, 0))
theorem T0.set {w wr : World} {b5 gD gP gH : Nat} {root : Int} {ds : List Int} (T : T0 w b5 gD gP gH root wr ds) (h1 : w.heap.size < gD) (h2 : gD ≠ b5) (h3 : gD ≠ gP) (k : Nat) (z : Int) : T0 w b5 gD gP gH root (wr.setCell ⟨gD, k, none⟩ (.int .i64 z)) (ds.set k z) := by
  have e := setCell_eq_setRow wr gD k _ 3 (0, 0) (.int .i64 z) T.kD
  have o : ∀ j, j ≠ gD → (wr.setCell ⟨gD, k, none⟩ (.int .i64 z)).heap[j]? = wr.heap[j]? := fun j hj => by rw [e]; exact setRow_other wr gD j _ hj
  refine ⟨T.low.trans (by rw [e]; exact ⟨rfl, rfl, rfl, by simp [World.setRow], fun j hj => setRow_other wr gD j _ (by omega)⟩), (o _ (by omega)).trans T.k4, (o _ (Ne.symm h2)).trans T.k5, ?_, (o _ (Ne.symm h3)).trans T.kP⟩
  rw [setCell_cells T.kD, List.setIfInBounds_toArray, dC_set]
set_option maxRecDepth 100000 in
set_option maxHeartbeats 8000000 in
theorem Tree_okS (vs : List Value) (xss : List (List Lk)) (root : Int) (ds : List Int) (V : Nat) (w : World) (H : Vw V w vs xss) (hr : oks root = true) (ht : treeP xss root = some ds) (hxl : ∀ (j : Nat) (xs : List Lk), xss[j]? = some xs → xs.length ≤ 20000) :
    Calls Try.prog 47 #[.pointer (some ⟨V, 0, none⟩), .int .i64 root] w fun e w' => (∃ gD vP vH, e = .returned (.agg #[.int .i64 root, .slice (some ⟨gD, 0, none⟩) 128 128, vP, vH]) ∧ w.heap.size ≤ gD ∧ AtL w' gD 0 (dC ds) ∧ ds.length = 128 ∧ vP.oneCell' = true ∧ vH.oneCell' = true) ∧ Below w.heap.size w w' := by
  simp only [oks, Bool.and_eq_true, decide_eq_true_eq] at hr
  obtain ⟨r0, hr0⟩ : ∃ r0 : Nat, root = (r0 : Int) := ⟨root.toNat, by omega⟩
  subst hr0
  have HH := Lib.hid H
  have HT := Lib.hid ht
  have HX := Lib.hid hxl
  have HR := Lib.hid hr
  clear H ht hxl hr
  go_enter Try.func47, Try.ntmps47
  go_wp2_with fail
  obtain ⟨wz, hwz⟩ : ∃ wz : World, wz = w.alloc (.cells #[.int .i64 0, .slice none 0 0, .slice none 0 0, .slice none 0 0] 99) := ⟨_, rfl⟩
  rw [← hwz]
  have bz := Lib.hid (show Below w.heap.size w wz by rw [hwz]; exact (Below.refl _ _).alloc (Nat.le_refl _) _)
  have kz := Lib.hid (show wz.heap[w.heap.size]? = some (.cells #[.int .i64 0, .slice none 0 0, .slice none 0 0, .slice none 0 0] 99 (0, 0)) by rw [hwz]; exact heap_at rfl)
  have sz := Lib.hid (show wz.heap.size = w.heap.size + 1 by rw [hwz]; simp)
  clear hwz
  refine Og.Tail.walk_lit 6 [[],[],[],[],[0,1,2,3],[],[5,4,0,1,2,3]] (fun w2 => Below wz.heap.size wz w2) (fun w1 w2 => Below w1.heap.size w1 w2) (by kernel_rfl) (by kernel_rfl) (by kernel_rfl) (bdrew) ?_
  simp only [List.take_succ_cons, List.take_zero, List.drop_succ_cons, List.drop_zero]
  refine Og.step_pure (fun _ => Below.refl _ _) ?_; apply Exists.intro; refine And.intro ?_ ?_; focus (intro vs w2 hC hk; revert hk; simp only [Og.KS, Og.K0, Og.Is, List.getD_cons_zero, List.getD_cons_succ, List.getD_nil, List.contains_cons, List.contains_nil, Nat.reduceAdd, Nat.reduceBEq, Bool.or_false, Bool.false_or, Bool.or_true, Bool.true_or, Bool.false_eq_true, false_implies, true_implies, true_and, and_true, forall_const]; intros; go_simp; rfl)
  refine Og.step_any (IsD wz) IsD.keep ?_ ?_
  · intro vs w2 hC hk; revert hk; simp only [Og.KS, Og.K0, Og.Is, List.getD_cons_zero, List.getD_cons_succ, List.getD_nil, List.contains_cons, List.contains_nil, Nat.reduceAdd, Nat.reduceBEq, Bool.or_false, Bool.false_or, Bool.or_true, Bool.true_or, Bool.false_eq_true, false_implies, true_implies, true_and, and_true, forall_const]; intros; go_simp; simp only [mk73]; exact ⟨hC.alloc hC.size _, (Below.refl _ _).alloc (Nat.le_refl _) _, _, rfl, hC.size, heap_at rfl⟩
  refine Og.step_any (IsP wz) IsP.keep ?_ ?_
  · intro vs w2 hC hk; revert hk; simp only [Og.KS, Og.K0, Og.Is, List.getD_cons_zero, List.getD_cons_succ, List.getD_nil, List.contains_cons, List.contains_nil, Nat.reduceAdd, Nat.reduceBEq, Bool.or_false, Bool.false_or, Bool.or_true, Bool.true_or, Bool.false_eq_true, false_implies, true_implies, true_and, and_true, forall_const]; intros; go_simp; simp only [mk97]; exact ⟨hC.alloc hC.size _, (Below.refl _ _).alloc (Nat.le_refl _) _, _, rfl, hC.size, heap_at rfl⟩
  refine Og.step_any (IsP wz) IsP.keep ?_ ?_
  · intro vs w2 hC hk; revert hk; simp only [Og.KS, Og.K0, Og.Is, List.getD_cons_zero, List.getD_cons_succ, List.getD_nil, List.contains_cons, List.contains_nil, Nat.reduceAdd, Nat.reduceBEq, Bool.or_false, Bool.false_or, Bool.or_true, Bool.true_or, Bool.false_eq_true, false_implies, true_implies, true_and, and_true, forall_const]; intros; go_simp; simp only [mk97]; exact ⟨hC.alloc hC.size _, (Below.refl _ _).alloc (Nat.le_refl _) _, _, rfl, hC.size, heap_at rfl⟩
  refine Og.step_any (IsT wz (r0 : Int)) IsT.keep ?_ ?_
  · intro vs w2 hC hk
    simp only [Og.KS, Og.K0, Og.Is, List.getD_cons_zero, List.getD_cons_succ, List.getD_nil, List.contains_cons, List.contains_nil, Nat.reduceAdd, Nat.reduceBEq, Bool.or_false, Bool.false_or, Bool.or_true, Bool.true_or, Bool.false_eq_true, false_implies, true_implies, true_and, and_true, forall_const] at hk
    obtain ⟨⟨gH, e3, -, -⟩, ⟨gP, e2, hP, kP⟩, ⟨gD, e1, hD, kD⟩, e0⟩ := hk
    go_simp
    exact ⟨Below.refl _ _, gD, gP, gH, rfl, hD, kD, hP, kP⟩
  refine Og.step_any (Is5 wz) Is5.keep ?_ ?_
  · intro vs w2 hC hk
    go_simp
    exact ⟨hC.alloc hC.size _, (Below.refl _ _).alloc (Nat.le_refl _) _, _, _, rfl, hC.size, heap_at rfl, rfl⟩
  intro vs w2 hC hk
  simp only [Og.KS, Og.K0, Og.Is, List.getD_cons_zero, List.getD_cons_succ, List.getD_nil, List.contains_cons, List.contains_nil, Nat.reduceAdd, Nat.reduceBEq, Bool.or_false, Bool.false_or, Bool.or_true, Bool.true_or, Bool.false_eq_true, false_implies, true_implies, true_and, and_true, forall_const] at hk
  obtain ⟨⟨b5, old5, e5, h5, k5, hs5⟩, ⟨gD, gP, gH, e4, hD, kD, hP, kP⟩, ⟨_, e3, -, -⟩, ⟨_, e2, -, -⟩, ⟨_, e1, -, -⟩, e0⟩ := hk
  simp only [e0, e1, e2, e3, e4, e5, Act.put, List.setIfInBounds_toArray, List.set_cons_zero, List.set_cons_succ]
  have B2 := Lib.hid (bthen bz.out hC)
  have K4 := Lib.hid (heap_keep hC kz.out)
  have KD := Lib.hid kD
  have KP := Lib.hid kP
  have K5 := Lib.hid k5
  have HZ := Lib.hid (And.intro h5 (And.intro hD (And.intro hP hs5)))
  have CB := Lib.hid hC
  clear e0 e1 e2 e3 e4 e5 hC h5 hD hP hs5 kD kP k5
  have ne5D : gD ≠ b5 := fun e => by have h1 := KD.out; rw [e, K5.out] at h1; simp at h1
  have ne5P : gP ≠ b5 := fun e => by have h1 := KP.out; rw [e, K5.out] at h1; simp at h1
  have neDP : gD ≠ gP := fun e => by have h1 := KD.out; rw [e, KP.out] at h1; simp at h1
  have NE := Lib.hid (And.intro ne5D (And.intro ne5P neDP))
  clear ne5D ne5P neDP
  go_wp2_with (refine wpList_storeN rfl 99 (.tmp 5) (.tmp 18) rfl rfl b5 #[.int .i64 (r0 : Int), .slice (some ⟨gD, 0, none⟩) 128 128, .slice (some ⟨gP, 0, none⟩) 128 128, .slice (some ⟨gH, 0, none⟩) 128 128] rfl rfl 99 old5 K5.out info99s HZ.out.2.2.2 (by simp [Value.oneCell']) ?_; intro w3 hz hb hn hs3; have B3 := Lib.hid (B2.out.trans (hb w.heap.size (by have := HZ.out.1; have := sz.out; omega))); have K43 := Lib.hid ((hn w.heap.size (by have := HZ.out.1; have := sz.out; omega)).trans K4.out); have KD3 := Lib.hid ((hn gD NE.out.1).trans KD.out); have KP3 := Lib.hid ((hn gP NE.out.2.1).trans KP.out); have K53 := Lib.hid hz; have q51 : w3.cell? ⟨b5, 1, none⟩ = some (.slice (some ⟨gD, 0, none⟩) 128 128) := (by rw [cell_of_row w3 _ 1 _ _ _ hz]; rfl); clear hz hb hn hs3)
  have TT := Lib.hid (show T0 w b5 gD gP gH (r0 : Int) w3 (fillD 0) from ⟨B3.out, K43.out, K53.out, KD3.out, KP3.out⟩)
  have OR : Hid (w.heap.size < b5 ∧ w.heap.size < gD ∧ w.heap.size < gP ∧ gD ≠ b5 ∧ gP ≠ b5 ∧ gD ≠ gP) := Lib.hid ⟨by have := HZ.out.1; have := sz.out; omega, by have := HZ.out.2.1; have := sz.out; omega, by have := HZ.out.2.2.1; have := sz.out; omega, NE.out⟩
  clear B3 K43 K53 KD3 KP3 q51 B2 K4 KD KP K5 HZ CB NE bz kz sz
  go_loopw [22] (fun i wr => ∃ k : Nat, k ≤ 128 ∧ i = .int .i64 k ∧ Hid (T0 w b5 gD gP gH (r0 : Int) wr (fillD k))) (fun i _ => 128 - (intOf i).toNat)
  case atStart => exact ⟨0, by omega, rfl, TT⟩
  case round =>
    obtain ⟨k, hk, rfl, hT⟩ := hrel
    have q51 : wr.cell? ⟨b5, 1, none⟩ = some (.slice (some ⟨gD, 0, none⟩) 128 128) := by rw [cell_of_row wr _ 1 _ _ _ hT.out.k5]; rfl
    by_cases hlt : k < 128
    · have hk0 : (0 : Int) ≤ (k : Int) := by omega
      have hkn : (k : Int) < 128 := by omega
      have hwk1 : IntKind.i64.wrap ((k : Int) + 1) = (k : Int) + 1 := by rw [IntKind.wrap_i64]; omega
      obtain ⟨z, hz⟩ : ∃ z, (fillD k)[k]? = some z := ⟨_, List.getElem?_eq_getElem (by rw [fillD_len hk]; exact hlt)⟩
      have qd : wr.cell? ⟨gD, k, none⟩ = some (.int .i64 z) := by
        rw [cell_of_row wr _ k _ _ _ hT.out.kD]
        simp [dC, hz]
      have fz : wr.frozen? ⟨gD, k, none⟩ = false := by simp [World.frozen?, hT.out.kD]
      clear hz
      go_wp2_with fail
      go_roundw
      case rel => exact ⟨k + 1, by omega, by go_num, Lib.hid (by rw [← fillD_set hlt]; exact hT.out.set OR.out.2.1 OR.out.2.2.2.1 OR.out.2.2.2.2.2 k infZ)⟩
      case measure => simp [intOf]; omega
    · have hk8 : k = 128 := by omega
      subst hk8
      clear hlt hk TT
      have e128 : fillD 128 = List.replicate 128 infZ := by unfold fillD; simp
      have HP := HT.out
      unfold treeP at HP
      rw [if_pos (by simp only [oks, Bool.and_eq_true, decide_eq_true_eq]; exact HR.out), Option.bind_eq_some_iff] at HP
      obtain ⟨hs0, hp0, htl⟩ := HP
      rw [Int.toNat_natCast] at htl
      have HPU := Lib.hid (fun h w2 (k : Hp h w2 (.slice none 0 0) h0s.es h0s.tb) => push_ok h0s hs0 h (r0 : Int) 0 _ w2 k hp0)
      have HTL := Lib.hid htl
      have hr0 : (0 : Int) ≤ (r0 : Int) := HR.out.1
      have hr1 : (r0 : Int) < 128 := HR.out.2
      rw [e128] at hT
      clear hp0 htl e128 HT q51
      go_wp2_with fail
      with_reducible refine (new_ok _).mono ?_
      rintro e wn ⟨h, rfl, hh, bn, Hn⟩
      have Hn' := Lib.hid Hn
      have hT2 : Hid (T0 w b5 gD gP gH (r0 : Int) wn (List.replicate 128 infZ)) := Lib.hid ⟨bthen hT.out.low bn, heap_keep bn hT.out.k4, heap_keep bn hT.out.k5, heap_keep bn hT.out.kD, heap_keep bn hT.out.kP⟩
      have OD : Hid (Od w.heap.size h b5 gD gP) := Lib.hid ⟨OR.out.1, OR.out.2.1, OR.out.2.2.1, by rw [hh]; exact (Array.getElem?_eq_some_iff.1 hT.out.k5).1, by rw [hh]; exact (Array.getElem?_eq_some_iff.1 hT.out.kD).1, by rw [hh]; exact (Array.getElem?_eq_some_iff.1 hT.out.kP).1, OR.out.2.2.2.1, OR.out.2.2.2.2.1, OR.out.2.2.2.2.2⟩
      clear bn Hn hh hT
      go_wp2_with fail
      with_reducible refine (HPU.out _ _ Hn'.out).mono ?_
      rintro e wm ⟨rfl, fm, vm, Hm⟩
      have TM : Hid (Tr w h b5 gD gP (r0 : Int) (.slice (some ⟨gH, 0, none⟩) 128 128) wm ⟨hs0, List.replicate 128 infZ⟩ vm) := Lib.hid (by
        have T1 : Tr w h b5 gD gP (r0 : Int) (.slice (some ⟨gH, 0, none⟩) 128 128) wn ⟨h0s, List.replicate 128 infZ⟩ (.slice none 0 0) := ⟨hT2.out.low, ⟨_, hT2.out.k4, rfl⟩, hT2.out.k5, hT2.out.kD, ⟨z256, hT2.out.kP, List.length_replicate, fun u hu => ⟨0, List.eq_of_mem_replicate hu⟩⟩, Hn'.out, List.length_replicate⟩
        exact T1.heap OD.out fm Hm)
      clear fm Hm hT2 Hn' HPU OR
      have q51 : wm.cell? ⟨b5, 1, none⟩ = some (.slice (some ⟨gD, 0, none⟩) 128 128) := by rw [cell_of_row wm _ 1 _ _ _ TM.out.k5]; rfl
      have qd : wm.cell? ⟨gD, r0, none⟩ = some (.int .i64 infZ) := by
        rw [cell_of_row wm _ r0 _ _ _ TM.out.kD]
        have : (List.replicate 128 infZ)[r0]? = some infZ := List.getElem?_replicate_of_lt (by omega)
        simp only [dC, List.getElem?_toArray, List.getElem?_map, this, Option.map_some]
      have fz : wm.frozen? ⟨gD, r0, none⟩ = false := by simp [World.frozen?, TM.out.kD]
      go_wp2_with fail
      have TS : Hid (∃ f, TreeInv w h b5 gD gP (r0 : Int) (.slice (some ⟨gH, 0, none⟩) 128 128) xss ds f (wm.setCell ⟨gD, r0, none⟩ (.int .i64 0))) := Lib.hid ⟨2000, ⟨hs0, (List.replicate 128 infZ).set r0 0⟩, vm, by
        have e := setCell_eq_setRow wm gD r0 _ 3 (0, 0) (.int .i64 0) TM.out.kD
        refine TM.out.dist OD.out ?_ (fun j hj => by rw [e]; exact setRow_other wm gD j _ hj) (fun B hB => by rw [e]; exact ⟨rfl, rfl, rfl, by simp [World.setRow], fun j hj => setRow_other wm gD j _ (by omega)⟩)
        rw [setCell_cells TM.out.kD, List.setIfInBounds_toArray, dC_set], HTL.out⟩
      clear q51 qd fz TM HTL
      generalize wm.setCell ⟨gD, r0, none⟩ (.int .i64 0) = ws at *
      go_loopw [8] (fun _ wr => ∃ f, TreeInv w h b5 gD gP (r0 : Int) (.slice (some ⟨gH, 0, none⟩) 128 128) xss ds f wr) (fun _ wr => fuelOf fun f => TreeInv w h b5 gD gP (r0 : Int) (.slice (some ⟨gH, 0, none⟩) 128 128) xss ds f wr)
      case atStart => exact TS.out
      case round =>
        have hF := fuelOf_spec hrel
        obtain ⟨F, hFe⟩ : ∃ F, F = fuelOf (fun f => TreeInv w h b5 gD gP (r0 : Int) (.slice (some ⟨gH, 0, none⟩) 128 128) xss ds f wr) := ⟨_, rfl⟩
        rw [← hFe] at hF
        have HFE := Lib.hid hFe
        obtain ⟨s, v, T, hl⟩ := hF
        have TT := Lib.hid T
        clear hrel hFe TS
        cases F with
        | zero => cases hl
        | succ f =>
          by_cases he : s.hs.es.length = 0
          · rw [treeLoop, if_pos he] at hl
            have hds := Lib.hid (show s.ds = ds by injection hl)
            have HPN := Lib.hid (pop_none h v s.hs wr T.hp (List.eq_nil_of_length_eq_zero he))
            clear hl he T HFE
            go_wp2_with fail
            with_reducible refine (HPN.out).mono ?_
            rintro e w2 ⟨rfl, hb⟩
            have T2 := Lib.hid (TT.out.below hb)
            clear hb HPN TT
            obtain ⟨old, ko, kos⟩ := T2.out.k4
            have KO := Lib.hid (And.intro ko kos)
            clear ko kos
            go_wp2_with (first | (refine wpList_loadL rfl 99 (.tmp 5) rfl b5 0 (.agg #[.int .i64 (r0 : Int), .slice (some ⟨gD, 0, none⟩) 128 128, .slice (some ⟨gP, 0, none⟩) 128 128, .slice (some ⟨gH, 0, none⟩) 128 128]) rfl (run_loadL (cs := [.int .i64 (r0 : Int), .slice (some ⟨gD, 0, none⟩) 128 128, .slice (some ⟨gP, 0, none⟩) 128 128, .slice (some ⟨gH, 0, none⟩) 128 128]) isAgg99 size99 rfl (AtL_heap T2.out.k5)) ?_) | (refine wpList_storeN rfl 99 (.tmp 4) (.tmp 46) rfl rfl w.heap.size #[.int .i64 (r0 : Int), .slice (some ⟨gD, 0, none⟩) 128 128, .slice (some ⟨gP, 0, none⟩) 128 128, .slice (some ⟨gH, 0, none⟩) 128 128] rfl rfl 99 old KO.out.1 info99s KO.out.2 (by simp [Value.oneCell']) ?_; intro w9 hz hbb hn9 hs9; have Z9 := Lib.hid hz; have D9 := Lib.hid (T2.out.low.trans (hbb _ (Nat.le_refl _))); have A9 := Lib.hid ((hn9 gD (by have := OD.out.oD; omega)).trans T2.out.kD); clear hz hbb hn9 hs9))
            try simp only [Exit.then, Exit.inBlock]
            refine bodyPost_ret (results_cell1 rfl rfl (run_loadL (cs := [.int .i64 (r0 : Int), .slice (some ⟨gD, 0, none⟩) 128 128, .slice (some ⟨gP, 0, none⟩) 128 128, .slice (some ⟨gH, 0, none⟩) 128 128]) isAgg99 size99 rfl (AtL_heap Z9.out))) rfl ?_
            exact ⟨⟨gD, _, _, rfl, Nat.le_of_lt OD.out.oD, by rw [← hds.out]; exact AtL_heap A9.out, by rw [← hds.out]; exact T2.out.len, rfl, rfl⟩, D9.out⟩
          · rw [treeLoop, if_neg he, Option.bind_eq_some_iff] at hl
            obtain ⟨⟨x, hs1⟩, hpop, hl⟩ := hl
            simp only at hl
            split at hl
            · rename_i hox
              split at hl
              · rename_i lks hlks
                rw [Option.bind_eq_some_iff] at hl
                obtain ⟨s2, hrl, htl⟩ := hl
                have HPO := Lib.hid (pop_ok s.hs hs1 h x v wr T.hp hpop)
                have HTL := Lib.hid htl
                have HRL := Lib.hid hrl
                simp only [oks, Bool.and_eq_true, decide_eq_true_eq] at hox
                obtain ⟨m, hm⟩ : ∃ m : Nat, x.n = (m : Int) := ⟨x.n.toNat, by omega⟩
                rw [hm, Int.toNat_natCast] at hlks
                have hm0 : (0 : Int) ≤ (m : Int) := by omega
                have hm1 : (m : Int) < 128 := by omega
                have hm8 := Lib.hid (show m < 128 by omega)
                have XM := Lib.hid hm
                have LK := Lib.hid hlks
                clear htl hrl T hpop he hm hlks hox
                go_wp2_with fail
                with_reducible refine (HPO.out).mono ?_
                rintro e w2 ⟨rfl, f2, v2, -, H2⟩
                have T2 := Lib.hid (TT.out.heap OD.out f2 H2)
                rw [XM.out]
                have V2 := Lib.hid (HH.out.below T2.out.low)
                have ov := V2.out.over hm8.out
                obtain ⟨vo, hvo, hown⟩ := V2.out.at_ LK.out
                obtain ⟨vo0, hvo0, hown0⟩ := HH.out.at_ LK.out
                have evo : vo0 = vo := by rw [hvo0] at hvo; cases hvo; rfl
                subst evo
                obtain ⟨A, cc, hvl, hrd, -⟩ := Sl_of_row cLk_len (by omega) hown0 rfl
                have sl := V2.out.slot hvo
                obtain ⟨nl, hnl⟩ : ∃ nl, nl = lks.length := ⟨_, rfl⟩
                rw [hvl, ← hnl] at sl
                have NL := Lib.hid hnl
                have RD := Lib.hid hrd
                have nll : Hid (nl ≤ 20000) := Lib.hid (by rw [hnl]; exact HX.out m lks LK.out)
                obtain ⟨d, hd⟩ : ∃ d, d = x.k := ⟨_, rfl⟩
                rw [← hd]
                rw [← hd] at HRL
                clear f2 H2 hvo hvo0 hown0 hown hvl hrd hnl hd HPO TT
                by_cases hroot : m = r0
                · subst hroot
                  go_wp2_with fail
                  refine Inner_ok _ xss V h b5 gD gP m m nl cc d A lks w w2 (.slice (some ⟨gH, 0, none⟩) 128 128) v2 hs1 s.ds s2 _ _ _ _ _ _ _ _ _ _ _ _ _ _ _ _ _ _ _ _ _ _ _ _ _ _ _ _ _ _ _ _ _ _ _ _ _ _ _ _ _ _ _ _ _ _ _ _ _ _ _ _ _ _ _ _ _ _ _ _ _ _ _ _ _ _ _ _ _ _ _ _ _ _ _ _ _ _ _ _ _ _ _ _ _ _ _ _ _ _ _ _ _ _ _ _ _ _ _ _ _ _ _ _ _ _ _ _ _ _ _ _ _ _ _ _ _ _ _ _ _ _ _ _ _ _ _ _ _ _ _ _ _ _ _ _ OD T2 RD NL nll HRL hm8 (Lib.hid ?_)
                  intro w7 v7 u12 u13 u65 u66 u67 u68 u69 u70 u71 u72 u73 u74 u75 u76 u77 u78 u79 u80 u81 u82 u83 u84 u85 u86 u87 u88 u89 u90 u91 u92 u93 u94 u95 u96 u97 u98 u99 u100 u101 u102 u103 u104 u105 u106 u107 u108 u109 u110 u111 u112 u113 u114 u115 u116 u117 u118 u119 u120 u121 u122 u123 u124 u125 u126 u127 u128 u129 u130 u131 u132 u133 u134 u135 u136 u137 u138 u139 u140 u141 u142 u143 u144 u145 T7
                  have D7 := Lib.hid (show TreeInv w h b5 gD gP (m : Int) (.slice (some ⟨gH, 0, none⟩) 128 128) xss ds f w7 from ⟨s2, v7, T7, HTL.out⟩)
                  clear T7
                  simp only [Exit.inBlock, Exit.then, if_true]
                  go_roundw
                  case rel => exact ⟨_, _, _, _, _, _, _, _, _, _, _, _, _, _, _, _, _, _, _, _, _, _, _, _, _, _, _, _, _, _, _, _, _, _, _, _, _, _, _, _, _, _, _, _, _, _, _, _, _, _, _, _, _, _, _, _, _, _, _, _, _, _, _, _, _, _, _, _, _, _, _, _, _, _, _, _, _, _, _, _, _, _, _, _, _, _, _, _, _, _, _, _, _, _, _, _, _, _, _, _, _, _, _, _, _, _, _, _, _, _, _, _, _, ⟨f, D7.out⟩, rfl⟩
                  case measure => exact Nat.lt_of_le_of_lt (fuelOf_le D7.out) (by have := HFE.out; omega)
                · have hne : ¬ (m : Int) = (r0 : Int) := by omega
                  have hne2 : ((m : Int) == (r0 : Int)) = false := by simp; omega
                  clear hroot
                  go_wp2_with fail
                  refine Inner_ok _ xss V h b5 gD gP r0 m nl cc d A lks w w2 (.slice (some ⟨gH, 0, none⟩) 128 128) v2 hs1 s.ds s2 _ _ _ _ _ _ _ _ _ _ _ _ _ _ _ _ _ _ _ _ _ _ _ _ _ _ _ _ _ _ _ _ _ _ _ _ _ _ _ _ _ _ _ _ _ _ _ _ _ _ _ _ _ _ _ _ _ _ _ _ _ _ _ _ _ _ _ _ _ _ _ _ _ _ _ _ _ _ _ _ _ _ _ _ _ _ _ _ _ _ _ _ _ _ _ _ _ _ _ _ _ _ _ _ _ _ _ _ _ _ _ _ _ _ _ _ _ _ _ _ _ _ _ _ _ _ _ _ _ _ _ _ _ _ _ _ OD T2 RD NL nll HRL hm8 (Lib.hid ?_)
                  intro w7 v7 u12 u13 u65 u66 u67 u68 u69 u70 u71 u72 u73 u74 u75 u76 u77 u78 u79 u80 u81 u82 u83 u84 u85 u86 u87 u88 u89 u90 u91 u92 u93 u94 u95 u96 u97 u98 u99 u100 u101 u102 u103 u104 u105 u106 u107 u108 u109 u110 u111 u112 u113 u114 u115 u116 u117 u118 u119 u120 u121 u122 u123 u124 u125 u126 u127 u128 u129 u130 u131 u132 u133 u134 u135 u136 u137 u138 u139 u140 u141 u142 u143 u144 u145 T7
                  have D7 := Lib.hid (show TreeInv w h b5 gD gP (r0 : Int) (.slice (some ⟨gH, 0, none⟩) 128 128) xss ds f w7 from ⟨s2, v7, T7, HTL.out⟩)
                  clear T7
                  simp only [Exit.inBlock, Exit.then, if_true]
                  go_roundw
                  case rel => exact ⟨_, _, _, _, _, _, _, _, _, _, _, _, _, _, _, _, _, _, _, _, _, _, _, _, _, _, _, _, _, _, _, _, _, _, _, _, _, _, _, _, _, _, _, _, _, _, _, _, _, _, _, _, _, _, _, _, _, _, _, _, _, _, _, _, _, _, _, _, _, _, _, _, _, _, _, _, _, _, _, _, _, _, _, _, _, _, _, _, _, _, _, _, _, _, _, _, _, _, _, _, _, _, _, _, _, _, _, _, _, _, _, _, _, ⟨f, D7.out⟩, rfl⟩
                  case measure => exact Nat.lt_of_le_of_lt (fuelOf_le D7.out) (by have := HFE.out; omega)
              · cases hl
            · cases hl
theorem Tree_ok (vs : List Value) (xss : List (List Lk)) (root : Int) (ds : List Int) (V : Nat) (w : World) (H : Vw V w vs xss) (hr : oks root = true) (ht : treeP xss root = some ds) (hxl : ∀ (j : Nat) (xs : List Lk), xss[j]? = some xs → xs.length ≤ 20000) :
    Calls Try.prog 47 #[.pointer (some ⟨V, 0, none⟩), .int .i64 root] w fun e w' => (∃ gD vP vH, e = .returned (.agg #[.int .i64 root, .slice (some ⟨gD, 0, none⟩) 128 128, vP, vH]) ∧ w.heap.size ≤ gD ∧ AtL w' gD 0 (dC ds) ∧ ds.length = 128) ∧ Below w.heap.size w w' :=
  (Tree_okS vs xss root ds V w H hr ht hxl).mono fun e w' ⟨⟨gD, vP, vH, h1, h2, h3, h4, _, _⟩, hb⟩ => ⟨⟨gD, vP, vH, h1, h2, h3, h4⟩, hb⟩

end Go.Proofs.Ytpklcefiabjplaa
