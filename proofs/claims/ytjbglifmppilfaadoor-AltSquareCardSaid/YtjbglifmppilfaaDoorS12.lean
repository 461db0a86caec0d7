/- The walk of Tree: distances as the plain function says; conditions as stated. A search's answer; no condition. Asking a sound graph for nodes, and for a distance; conditions as stated. Sets as numbers, and the least node of a word; conditions as stated. A region that draws its order, inside a wide fence; conditions: as at Og, and no operation is a defer statement. -/
import Derived.Test.YtjbglifmppilfaaDoorS11
import Derived.Laws.MakeOwn
import Derived.Test.YtjbglifmppilfaaDoorS6
import Derived.Test.YtjbglifmppilfaaDoorS10
import Derived.Laws.Bits64b
import Derived.Lib.LaidTab
import Derived.Test.YtjbglifmppilfaaDoorS0
import Derived.OrdersIn
import Derived.TacticsIn
import Derived.RangeFuncCalls
namespace Go.Proofs.YtjbglifmppilfaaDoor
open Go.ChangeShapes Go.WideShapes Go.ChangeAt Go.RowKit
set_option linter.unusedVariables false
set_option linter.unusedSimpArgs false
attribute [local go_sem] Og.Opt Og.OpY

attribute [local go_sem] Og.Opt Og.OpY
def fillD (k : Nat) : List Int := List.replicate k infZ ++ List.replicate (128 - k) 0
theorem fillD_len {k : Nat} (hk : k ≤ 128) : (fillD k).length = 128 := by
  unfold fillD
  rw [List.length_append, List.length_replicate, List.length_replicate]
  omega
theorem fillD_set {k : Nat} (hk : k < 128) : (fillD k).set k infZ = fillD (k + 1) := by
  unfold fillD
  rw [List.set_append_right _ _ (by rw [List.length_replicate]; omega), List.length_replicate, Nat.sub_self, show 128 - k = (128 - (k + 1)) + 1 by omega, List.replicate_succ, List.set_cons_zero, List.replicate_succ', List.append_assoc]
  rfl
theorem zP_eq : pC zP = z256 := by kernel_rfl
theorem zP_len : zP.length = 128 := by kernel_rfl
def TreeInv (w : World) (h b5 gD gP : Nat) (root : Int) (vH : Value) (xss : List (List Lk)) (tr : List Int × List (Int × Int)) (f : Nat) (wr : World) : Prop := ∃ s v, Tr w h b5 gD gP root vH wr s v ∧ treeLoop xss f s = some tr
/-- before the heap is made -/
structure T0 (w : World) (b5 gD gP gH : Nat) (root : Int) (wr : World) (ds : List Int) : Prop where
  low : Below w.heap.size w wr
  k4 : wr.heap[w.heap.size]? = some (.cells #[.int .i64 0, .slice none 0 0, .slice none 0 0, .slice none 0 0] 25 (0, 0))
  k5 : wr.heap[b5]? = some (.cells #[.int .i64 root, .slice (some ⟨gD, 0, none⟩) 128 128, .slice (some ⟨gP, 0, none⟩) 128 128, .slice (some ⟨gH, 0, none⟩) 128 128] 25 (0, 0))
  kD : wr.heap[gD]? = some (.cells (dC ds).toArray 3 (0, 0))
  kP : wr.heap[gP]? = some (.cells z256.toArray 35 (0, 0))
theorem T0.set {w wr : World} {b5 gD gP gH : Nat} {root : Int} {ds : List Int} (T : T0 w b5 gD gP gH root wr ds) (h1 : w.heap.size < gD) (h2 : gD ≠ b5) (h3 : gD ≠ gP) (k : Nat) (z : Int) : T0 w b5 gD gP gH root (wr.setCell ⟨gD, k, none⟩ (.int .i64 z)) (ds.set k z) := by
  have e := setCell_eq_setRow wr gD k _ 3 (0, 0) (.int .i64 z) T.kD
  have o : ∀ j, j ≠ gD → (wr.setCell ⟨gD, k, none⟩ (.int .i64 z)).heap[j]? = wr.heap[j]? := fun j hj => by rw [e]; exact setRow_other wr gD j _ hj
  refine ⟨T.low.trans (by rw [e]; exact ⟨rfl, rfl, rfl, by simp [World.setRow], fun j hj => setRow_other wr gD j _ (by omega)⟩), (o _ (by omega)).trans T.k4, (o _ (Ne.symm h2)).trans T.k5, ?_, (o _ (Ne.symm h3)).trans T.kP⟩
  rw [setCell_cells T.kD, List.setIfInBounds_toArray, dC_set]
set_option maxRecDepth 100000 in
set_option maxHeartbeats 8000000 in
theorem Tree_ok (vs : List Value) (xss : List (List Lk)) (root : Int) (tr : List Int × List (Int × Int)) (V : Nat) (w : World) (H : Vw V w vs xss) (hr : oks root = true) (ht : treeP xss root = some tr) (hxl : ∀ (j : Nat) (xs : List Lk), xss[j]? = some xs → xs.length ≤ 20000) :
    Calls Tryd.prog 53 #[.pointer (some ⟨V, 0, none⟩), .int .i64 root] w fun e w' => (∃ gD gP gH, e = .returned (.agg #[.int .i64 root, .slice (some ⟨gD, 0, none⟩) 128 128, .slice (some ⟨gP, 0, none⟩) 128 128, .slice (some ⟨gH, 0, none⟩) 128 128]) ∧ w.heap.size ≤ gD ∧ w.heap.size ≤ gP ∧ w'.heap[gD]? = some (.cells (dC tr.1).toArray 3 (0, 0)) ∧ w'.heap[gP]? = some (.cells (pC tr.2).toArray 35 (0, 0)) ∧ tr.1.length = 128 ∧ tr.2.length = 128) ∧ Below w.heap.size w w' := by
  simp only [oks, Bool.and_eq_true, decide_eq_true_eq] at hr
  obtain ⟨r0, hr0⟩ : ∃ r0 : Nat, root = (r0 : Int) := ⟨root.toNat, by omega⟩
  subst hr0
  have HH := Lib.hid H
  have HT := Lib.hid ht
  have HX := Lib.hid hxl
  have HR := Lib.hid hr
  clear H ht hxl hr
  go_enter Tryd.func53, Tryd.ntmps53
  go_wp2_with fail
  obtain ⟨wz, hwz⟩ : ∃ wz : World, wz = w.alloc (.cells #[.int .i64 0, .slice none 0 0, .slice none 0 0, .slice none 0 0] 25) := ⟨_, rfl⟩
  rw [← hwz]
  have bz := Lib.hid (show Below w.heap.size w wz by rw [hwz]; exact (Below.refl _ _).alloc (Nat.le_refl _) _)
  have kz := Lib.hid (show wz.heap[w.heap.size]? = some (.cells #[.int .i64 0, .slice none 0 0, .slice none 0 0, .slice none 0 0] 25 (0, 0)) by rw [hwz]; exact heap_at rfl)
  have sz := Lib.hid (show wz.heap.size = w.heap.size + 1 by rw [hwz]; simp)
  clear hwz
  refine Og.Tail.walk_lit 6 [[],[],[],[],[0,1,2,3],[],[5,4,0,1,2,3]] (fun w2 => Below wz.heap.size wz w2) (fun w1 w2 => Below w1.heap.size w1 w2) (by kernel_rfl) (by kernel_rfl) (by kernel_rfl) (bdrew) ?_
  simp only [List.take_succ_cons, List.take_zero, List.drop_succ_cons, List.drop_zero]
  refine Og.step_pure (fun _ => Below.refl _ _) ?_; apply Exists.intro; refine And.intro ?_ ?_; focus (intro vs w2 hC hk; revert hk; simp only [Og.KS, Og.K0, Og.Is, List.getD_cons_zero, List.getD_cons_succ, List.getD_nil, List.contains_cons, List.contains_nil, Nat.reduceAdd, Nat.reduceBEq, Bool.or_false, Bool.false_or, Bool.or_true, Bool.true_or, Bool.false_eq_true, false_implies, true_implies, true_and, and_true, forall_const]; intros; go_simp; rfl)
  refine Og.step_any (IsD wz) IsD.keep ?_ ?_
  · intro vs w2 hC hk; revert hk; simp only [Og.KS, Og.K0, Og.Is, List.getD_cons_zero, List.getD_cons_succ, List.getD_nil, List.contains_cons, List.contains_nil, Nat.reduceAdd, Nat.reduceBEq, Bool.or_false, Bool.false_or, Bool.or_true, Bool.true_or, Bool.false_eq_true, false_implies, true_implies, true_and, and_true, forall_const]; intros; go_simp; simp only [mk73]; exact ⟨hC.alloc hC.size _, (Below.refl _ _).alloc (Nat.le_refl _) _, _, rfl, hC.size, heap_at rfl⟩
  refine Og.step_any (IsP wz) IsP.keep ?_ ?_
  · intro vs w2 hC hk; revert hk; simp only [Og.KS, Og.K0, Og.Is, List.getD_cons_zero, List.getD_cons_succ, List.getD_nil, List.contains_cons, List.contains_nil, Nat.reduceAdd, Nat.reduceBEq, Bool.or_false, Bool.false_or, Bool.or_true, Bool.true_or, Bool.false_eq_true, false_implies, true_implies, true_and, and_true, forall_const]; intros; go_simp; simp only [mk97]; exact ⟨hC.alloc hC.size _, (Below.refl _ _).alloc (Nat.le_refl _) _, _, rfl, hC.size, heap_at rfl⟩
  refine Og.step_any (IsP wz) IsP.keep ?_ ?_
  · intro vs w2 hC hk; revert hk; simp only [Og.KS, Og.K0, Og.Is, List.getD_cons_zero, List.getD_cons_succ, List.getD_nil, List.contains_cons, List.contains_nil, Nat.reduceAdd, Nat.reduceBEq, Bool.or_false, Bool.false_or, Bool.or_true, Bool.true_or, Bool.false_eq_true, false_implies, true_implies, true_and, and_true, forall_const]; intros; go_simp; simp only [mk97]; exact ⟨hC.alloc hC.size _, (Below.refl _ _).alloc (Nat.le_refl _) _, _, rfl, hC.size, heap_at rfl⟩
  refine Og.step_any (IsT wz (r0 : Int)) IsT.keep ?_ ?_
  · intro vs w2 hC hk
    simp only [Og.KS, Og.K0, Og.Is, List.getD_cons_zero, List.getD_cons_succ, List.getD_nil, List.contains_cons, List.contains_nil, Nat.reduceAdd, Nat.reduceBEq, Bool.or_false, Bool.false_or, Bool.or_true, Bool.true_or, Bool.false_eq_true, false_implies, true_implies, true_and, and_true, forall_const] at hk
    obtain ⟨⟨gH, e3, -, -⟩, ⟨gP, e2, hP, kP⟩, ⟨gD, e1, hD, kD⟩, e0⟩ := hk
    go_simp
    exact ⟨Below.refl _ _, gD, gP, gH, rfl, hD, kD, hP, kP⟩
  refine Og.step_any (Is5 wz) Is5.keep ?_ ?_
  · intro vs w2 hC hk
    go_simp
    exact ⟨hC.alloc hC.size _, (Below.refl _ _).alloc (Nat.le_refl _) _, _, _, rfl, hC.size, heap_at rfl, rfl⟩
  intro vs w2 hC hk
  simp only [Og.KS, Og.K0, Og.Is, List.getD_cons_zero, List.getD_cons_succ, List.getD_nil, List.contains_cons, List.contains_nil, Nat.reduceAdd, Nat.reduceBEq, Bool.or_false, Bool.false_or, Bool.or_true, Bool.true_or, Bool.false_eq_true, false_implies, true_implies, true_and, and_true, forall_const] at hk
  obtain ⟨⟨b5, old5, e5, h5, k5, hs5⟩, ⟨gD, gP, gH, e4, hD, kD, hP, kP⟩, ⟨_, e3, -, -⟩, ⟨_, e2, -, -⟩, ⟨_, e1, -, -⟩, e0⟩ := hk
  simp only [e0, e1, e2, e3, e4, e5, Act.put, List.setIfInBounds_toArray, List.set_cons_zero, List.set_cons_succ]
  have B2 := Lib.hid (bthen bz.out hC)
  have K4 := Lib.hid (heap_keep hC kz.out)
  have KD := Lib.hid kD
  have KP := Lib.hid kP
  have K5 := Lib.hid k5
  have HZ := Lib.hid (And.intro h5 (And.intro hD (And.intro hP hs5)))
  have CB := Lib.hid hC
  clear e0 e1 e2 e3 e4 e5 hC h5 hD hP hs5 kD kP k5
  have ne5D : gD ≠ b5 := fun e => by have h1 := KD.out; rw [e, K5.out] at h1; simp at h1
  have ne5P : gP ≠ b5 := fun e => by have h1 := KP.out; rw [e, K5.out] at h1; simp at h1
  have neDP : gD ≠ gP := fun e => by have h1 := KD.out; rw [e, KP.out] at h1; simp at h1
  have NE := Lib.hid (And.intro ne5D (And.intro ne5P neDP))
  clear ne5D ne5P neDP
  go_wp2_with (refine wpList_storeN rfl 25 (.tmp 5) (.tmp 18) rfl rfl b5 #[.int .i64 (r0 : Int), .slice (some ⟨gD, 0, none⟩) 128 128, .slice (some ⟨gP, 0, none⟩) 128 128, .slice (some ⟨gH, 0, none⟩) 128 128] rfl rfl 25 old5 K5.out info99s HZ.out.2.2.2 (by simp [Value.oneCell']) ?_; intro w3 hz hb hn hs3; have B3 := Lib.hid (B2.out.trans (hb w.heap.size (by have := HZ.out.1; have := sz.out; omega))); have K43 := Lib.hid ((hn w.heap.size (by have := HZ.out.1; have := sz.out; omega)).trans K4.out); have KD3 := Lib.hid ((hn gD NE.out.1).trans KD.out); have KP3 := Lib.hid ((hn gP NE.out.2.1).trans KP.out); have K53 := Lib.hid hz; have q51 : w3.cell? ⟨b5, 1, none⟩ = some (.slice (some ⟨gD, 0, none⟩) 128 128) := (by rw [cell_of_row w3 _ 1 _ _ _ hz]; rfl); clear hz hb hn hs3)
  have TT := Lib.hid (show T0 w b5 gD gP gH (r0 : Int) w3 (fillD 0) from ⟨B3.out, K43.out, K53.out, KD3.out, KP3.out⟩)
  have OR : Hid (w.heap.size < b5 ∧ w.heap.size < gD ∧ w.heap.size < gP ∧ gD ≠ b5 ∧ gP ≠ b5 ∧ gD ≠ gP) := Lib.hid ⟨by have := HZ.out.1; have := sz.out; omega, by have := HZ.out.2.1; have := sz.out; omega, by have := HZ.out.2.2.1; have := sz.out; omega, NE.out⟩
  clear B3 K43 K53 KD3 KP3 q51 B2 K4 KD KP K5 HZ CB NE bz kz sz
  go_loopw [22] (fun i wr => ∃ k : Nat, k ≤ 128 ∧ i = .int .i64 k ∧ Hid (T0 w b5 gD gP gH (r0 : Int) wr (fillD k))) (fun i _ => 128 - (intOf i).toNat)
  case atStart => exact ⟨0, by omega, rfl, TT⟩
  case round =>
    obtain ⟨k, hk, rfl, hT⟩ := hrel
    have q51 : wr.cell? ⟨b5, 1, none⟩ = some (.slice (some ⟨gD, 0, none⟩) 128 128) := by rw [cell_of_row wr _ 1 _ _ _ hT.out.k5]; rfl
    by_cases hlt : k < 128
    · have hk0 : (0 : Int) ≤ (k : Int) := by omega
      have hkn : (k : Int) < 128 := by omega
      have hwk1 : IntKind.i64.wrap ((k : Int) + 1) = (k : Int) + 1 := by rw [IntKind.wrap_i64]; omega
      obtain ⟨z, hz⟩ : ∃ z, (fillD k)[k]? = some z := ⟨_, List.getElem?_eq_getElem (by rw [fillD_len hk]; exact hlt)⟩
      have qd : wr.cell? ⟨gD, k, none⟩ = some (.int .i64 z) := by
        rw [cell_of_row wr _ k _ _ _ hT.out.kD]
        simp [dC, hz]
      have fz : wr.frozen? ⟨gD, k, none⟩ = false := by simp [World.frozen?, hT.out.kD]
      clear hz
      go_wp2_with fail
      go_roundw
      case rel => exact ⟨k + 1, by omega, by go_num, Lib.hid (by rw [← fillD_set hlt]; exact hT.out.set OR.out.2.1 OR.out.2.2.2.1 OR.out.2.2.2.2.2 k infZ)⟩
      case measure => simp [intOf]; omega
    · have hk8 : k = 128 := by omega
      subst hk8
      clear hlt hk TT
      have e128 : fillD 128 = List.replicate 128 infZ := by unfold fillD; simp
      have HP := HT.out
      unfold treeP at HP
      rw [if_pos (by simp only [oks, Bool.and_eq_true, decide_eq_true_eq]; exact HR.out), Option.bind_eq_some_iff] at HP
      obtain ⟨hs0, hp0, htl⟩ := HP
      rw [Int.toNat_natCast] at htl
      have HPU := Lib.hid (fun h w2 (k : Hp h w2 (.slice none 0 0) h0s.es h0s.tb) => push_ok h0s hs0 h (r0 : Int) 0 _ w2 k hp0)
      have HTL := Lib.hid htl
      have hr0 : (0 : Int) ≤ (r0 : Int) := HR.out.1
      have hr1 : (r0 : Int) < 128 := HR.out.2
      rw [e128] at hT
      clear hp0 htl e128 HT q51
      go_wp2_with fail
      with_reducible refine (new_ok _).mono ?_
      rintro e wn ⟨h, rfl, hh, bn, Hn⟩
      have Hn' := Lib.hid Hn
      have hT2 : Hid (T0 w b5 gD gP gH (r0 : Int) wn (List.replicate 128 infZ)) := Lib.hid ⟨bthen hT.out.low bn, heap_keep bn hT.out.k4, heap_keep bn hT.out.k5, heap_keep bn hT.out.kD, heap_keep bn hT.out.kP⟩
      have OD : Hid (Od w.heap.size h b5 gD gP) := Lib.hid ⟨OR.out.1, OR.out.2.1, OR.out.2.2.1, by rw [hh]; exact (Array.getElem?_eq_some_iff.1 hT.out.k5).1, by rw [hh]; exact (Array.getElem?_eq_some_iff.1 hT.out.kD).1, by rw [hh]; exact (Array.getElem?_eq_some_iff.1 hT.out.kP).1, OR.out.2.2.2.1, OR.out.2.2.2.2.1, OR.out.2.2.2.2.2⟩
      clear bn Hn hh hT
      go_wp2_with fail
      with_reducible refine (HPU.out _ _ Hn'.out).mono ?_
      rintro e wm ⟨rfl, fm, vm, Hm⟩
      have TM : Hid (Tr w h b5 gD gP (r0 : Int) (.slice (some ⟨gH, 0, none⟩) 128 128) wm ⟨hs0, List.replicate 128 infZ, zP⟩ vm) := Lib.hid (by
        have T1 : Tr w h b5 gD gP (r0 : Int) (.slice (some ⟨gH, 0, none⟩) 128 128) wn ⟨h0s, List.replicate 128 infZ, zP⟩ (.slice none 0 0) := ⟨hT2.out.low, ⟨_, hT2.out.k4, rfl⟩, hT2.out.k5, hT2.out.kD, (by show _ = some (Obj.cells (pC zP).toArray 35 (0, 0)); rw [zP_eq]; exact hT2.out.kP), Hn'.out, List.length_replicate, zP_len⟩
        exact T1.heap OD.out fm Hm)
      clear fm Hm hT2 Hn' HPU OR
      have q51 : wm.cell? ⟨b5, 1, none⟩ = some (.slice (some ⟨gD, 0, none⟩) 128 128) := by rw [cell_of_row wm _ 1 _ _ _ TM.out.k5]; rfl
      have qd : wm.cell? ⟨gD, r0, none⟩ = some (.int .i64 infZ) := by
        rw [cell_of_row wm _ r0 _ _ _ TM.out.kD]
        have : (List.replicate 128 infZ)[r0]? = some infZ := List.getElem?_replicate_of_lt (by omega)
        simp only [dC, List.getElem?_toArray, List.getElem?_map, this, Option.map_some]
      have fz : wm.frozen? ⟨gD, r0, none⟩ = false := by simp [World.frozen?, TM.out.kD]
      go_wp2_with fail
      have TS : Hid (∃ f, TreeInv w h b5 gD gP (r0 : Int) (.slice (some ⟨gH, 0, none⟩) 128 128) xss tr f (wm.setCell ⟨gD, r0, none⟩ (.int .i64 0))) := Lib.hid ⟨2000, ⟨hs0, (List.replicate 128 infZ).set r0 0, zP⟩, vm, by
        have e := setCell_eq_setRow wm gD r0 _ 3 (0, 0) (.int .i64 0) TM.out.kD
        refine TM.out.dist OD.out ?_ (fun j hj => by rw [e]; exact setRow_other wm gD j _ hj) (fun B hB => by rw [e]; exact ⟨rfl, rfl, rfl, by simp [World.setRow], fun j hj => setRow_other wm gD j _ (by omega)⟩)
        rw [setCell_cells TM.out.kD, List.setIfInBounds_toArray, dC_set], HTL.out⟩
      clear q51 qd fz TM HTL
      generalize wm.setCell ⟨gD, r0, none⟩ (.int .i64 0) = ws at *
      go_loopw [8] (fun _ wr => ∃ f, TreeInv w h b5 gD gP (r0 : Int) (.slice (some ⟨gH, 0, none⟩) 128 128) xss tr f wr) (fun _ wr => fuelOf fun f => TreeInv w h b5 gD gP (r0 : Int) (.slice (some ⟨gH, 0, none⟩) 128 128) xss tr f wr)
      case atStart => exact TS.out
      case round =>
        have hF := fuelOf_spec hrel
        obtain ⟨F, hFe⟩ : ∃ F, F = fuelOf (fun f => TreeInv w h b5 gD gP (r0 : Int) (.slice (some ⟨gH, 0, none⟩) 128 128) xss tr f wr) := ⟨_, rfl⟩
        rw [← hFe] at hF
        have HFE := Lib.hid hFe
        obtain ⟨s, v, T, hl⟩ := hF
        have TT := Lib.hid T
        clear hrel hFe TS
        cases F with
        | zero => cases hl
        | succ f =>
          by_cases he : s.hs.es.length = 0
          · rw [treeLoop, if_pos he] at hl
            have hds := Lib.hid (show (s.ds, s.ps) = tr by injection hl)
            have HPN := Lib.hid (pop_none h v s.hs wr T.hp (List.eq_nil_of_length_eq_zero he))
            clear hl he T HFE
            go_wp2_with fail
            with_reducible refine (HPN.out).mono ?_
            rintro e w2 ⟨rfl, hb⟩
            have T2 := Lib.hid (TT.out.below hb)
            clear hb HPN TT
            obtain ⟨old, ko, kos⟩ := T2.out.k4
            have KO := Lib.hid (And.intro ko kos)
            clear ko kos
            go_wp2_with (first | (refine wpList_loadL rfl 25 (.tmp 5) rfl b5 0 (.agg #[.int .i64 (r0 : Int), .slice (some ⟨gD, 0, none⟩) 128 128, .slice (some ⟨gP, 0, none⟩) 128 128, .slice (some ⟨gH, 0, none⟩) 128 128]) rfl (run_loadL (cs := [.int .i64 (r0 : Int), .slice (some ⟨gD, 0, none⟩) 128 128, .slice (some ⟨gP, 0, none⟩) 128 128, .slice (some ⟨gH, 0, none⟩) 128 128]) isAgg99 size99 rfl (AtL_heap T2.out.k5)) ?_) | (refine wpList_storeN rfl 25 (.tmp 4) (.tmp 46) rfl rfl w.heap.size #[.int .i64 (r0 : Int), .slice (some ⟨gD, 0, none⟩) 128 128, .slice (some ⟨gP, 0, none⟩) 128 128, .slice (some ⟨gH, 0, none⟩) 128 128] rfl rfl 25 old KO.out.1 info99s KO.out.2 (by simp [Value.oneCell']) ?_; intro w9 hz hbb hn9 hs9; have Z9 := Lib.hid hz; have D9 := Lib.hid (T2.out.low.trans (hbb _ (Nat.le_refl _))); have A9 := Lib.hid ((hn9 gD (by have := OD.out.oD; omega)).trans T2.out.kD); have P9 := Lib.hid ((hn9 gP (by have := OD.out.oP; omega)).trans T2.out.kP); clear hz hbb hn9 hs9))
            try simp only [Exit.then, Exit.inBlock]
            refine bodyPost_ret (results_cell1 rfl rfl (run_loadL (cs := [.int .i64 (r0 : Int), .slice (some ⟨gD, 0, none⟩) 128 128, .slice (some ⟨gP, 0, none⟩) 128 128, .slice (some ⟨gH, 0, none⟩) 128 128]) isAgg99 size99 rfl (AtL_heap Z9.out))) rfl ?_
            exact ⟨⟨gD, gP, gH, rfl, Nat.le_of_lt OD.out.oD, Nat.le_of_lt OD.out.oP, by rw [← hds.out]; exact A9.out, by rw [← hds.out]; exact P9.out, by rw [← hds.out]; exact T2.out.len, by rw [← hds.out]; exact T2.out.plen⟩, D9.out⟩
          · rw [treeLoop, if_neg he, Option.bind_eq_some_iff] at hl
            obtain ⟨⟨x, hs1⟩, hpop, hl⟩ := hl
            simp only at hl
            split at hl
            · rename_i hox
              split at hl
              · rename_i lks hlks
                rw [Option.bind_eq_some_iff] at hl
                obtain ⟨s2, hrl, htl⟩ := hl
                have HPO := Lib.hid (pop_ok s.hs hs1 h x v wr T.hp hpop)
                have HTL := Lib.hid htl
                simp only [oks, Bool.and_eq_true, decide_eq_true_eq] at hox
                obtain ⟨m, hm⟩ : ∃ m : Nat, x.n = (m : Int) := ⟨x.n.toNat, by omega⟩
                rw [hm, Int.toNat_natCast] at hlks
                rw [hm, Int.toNat_natCast] at hrl
                have HRL := Lib.hid hrl
                have hm0 : (0 : Int) ≤ (m : Int) := by omega
                have hm1 : (m : Int) < 128 := by omega
                have hm8 := Lib.hid (show m < 128 by omega)
                have XM := Lib.hid hm
                have LK := Lib.hid hlks
                clear htl hrl T hpop he hm hlks hox
                go_wp2_with fail
                with_reducible refine (HPO.out).mono ?_
                rintro e w2 ⟨rfl, f2, v2, -, H2⟩
                have T2 := Lib.hid (TT.out.heap OD.out f2 H2)
                rw [XM.out]
                have V2 := Lib.hid (HH.out.below T2.out.low)
                have ov := V2.out.over hm8.out
                obtain ⟨vo, hvo, hown⟩ := V2.out.at_ LK.out
                obtain ⟨vo0, hvo0, hown0⟩ := HH.out.at_ LK.out
                have evo : vo0 = vo := by rw [hvo0] at hvo; cases hvo; rfl
                subst evo
                obtain ⟨A, cc, hvl, hrd, -⟩ := Sl_of_row cLk_len (by omega) hown0 rfl
                have sl := V2.out.slot hvo
                obtain ⟨nl, hnl⟩ : ∃ nl, nl = lks.length := ⟨_, rfl⟩
                rw [hvl, ← hnl] at sl
                have NL := Lib.hid hnl
                have RD := Lib.hid hrd
                have nll : Hid (nl ≤ 20000) := Lib.hid (by rw [hnl]; exact HX.out m lks LK.out)
                obtain ⟨d, hd⟩ : ∃ d, d = x.k := ⟨_, rfl⟩
                rw [← hd]
                rw [← hd] at HRL
                clear f2 H2 hvo hvo0 hown0 hown hvl hrd hnl hd HPO TT
                by_cases hroot : m = r0
                · subst hroot
                  go_wp2_with fail
                  refine Inner_ok _ xss V h b5 gD gP m m nl cc d A lks w w2 (.slice (some ⟨gH, 0, none⟩) 128 128) v2 hs1 s.ds s.ps s2 _ _ _ _ _ _ _ _ _ _ _ _ _ _ _ _ _ _ _ _ _ _ _ _ _ _ _ _ _ _ _ _ _ _ _ _ _ _ _ _ _ _ _ _ _ _ _ _ _ _ _ _ _ _ _ _ _ _ _ _ _ _ _ _ _ _ _ _ _ _ _ _ _ _ _ _ _ _ _ _ _ _ _ _ _ _ _ _ _ _ _ _ _ _ _ _ _ _ _ _ _ _ _ _ _ _ _ _ _ _ _ _ _ _ _ _ _ _ _ _ _ _ _ _ _ _ _ _ _ _ _ _ _ _ _ _ OD T2 RD NL nll HRL hm8 (Lib.hid ?_)
                  intro w7 v7 u12 u13 u65 u66 u67 u68 u69 u70 u71 u72 u73 u74 u75 u76 u77 u78 u79 u80 u81 u82 u83 u84 u85 u86 u87 u88 u89 u90 u91 u92 u93 u94 u95 u96 u97 u98 u99 u100 u101 u102 u103 u104 u105 u106 u107 u108 u109 u110 u111 u112 u113 u114 u115 u116 u117 u118 u119 u120 u121 u122 u123 u124 u125 u126 u127 u128 u129 u130 u131 u132 u133 u134 u135 u136 u137 u138 u139 u140 u141 u142 u143 u144 u145 T7
                  have D7 := Lib.hid (show TreeInv w h b5 gD gP (m : Int) (.slice (some ⟨gH, 0, none⟩) 128 128) xss tr f w7 from ⟨s2, v7, T7, HTL.out⟩)
                  clear T7
                  simp only [Exit.inBlock, Exit.then, if_true]
                  go_roundw
                  case rel => exact ⟨_, _, _, _, _, _, _, _, _, _, _, _, _, _, _, _, _, _, _, _, _, _, _, _, _, _, _, _, _, _, _, _, _, _, _, _, _, _, _, _, _, _, _, _, _, _, _, _, _, _, _, _, _, _, _, _, _, _, _, _, _, _, _, _, _, _, _, _, _, _, _, _, _, _, _, _, _, _, _, _, _, _, _, _, _, _, _, _, _, _, _, _, _, _, _, _, _, _, _, _, _, _, _, _, _, _, _, _, _, _, _, _, _, ⟨f, D7.out⟩, rfl⟩
                  case measure => exact Nat.lt_of_le_of_lt (fuelOf_le D7.out) (by have := HFE.out; omega)
                · have hne : ¬ (m : Int) = (r0 : Int) := by omega
                  have hne2 : ((m : Int) == (r0 : Int)) = false := by simp; omega
                  clear hroot
                  go_wp2_with fail
                  refine Inner_ok _ xss V h b5 gD gP r0 m nl cc d A lks w w2 (.slice (some ⟨gH, 0, none⟩) 128 128) v2 hs1 s.ds s.ps s2 _ _ _ _ _ _ _ _ _ _ _ _ _ _ _ _ _ _ _ _ _ _ _ _ _ _ _ _ _ _ _ _ _ _ _ _ _ _ _ _ _ _ _ _ _ _ _ _ _ _ _ _ _ _ _ _ _ _ _ _ _ _ _ _ _ _ _ _ _ _ _ _ _ _ _ _ _ _ _ _ _ _ _ _ _ _ _ _ _ _ _ _ _ _ _ _ _ _ _ _ _ _ _ _ _ _ _ _ _ _ _ _ _ _ _ _ _ _ _ _ _ _ _ _ _ _ _ _ _ _ _ _ _ _ _ _ OD T2 RD NL nll HRL hm8 (Lib.hid ?_)
                  intro w7 v7 u12 u13 u65 u66 u67 u68 u69 u70 u71 u72 u73 u74 u75 u76 u77 u78 u79 u80 u81 u82 u83 u84 u85 u86 u87 u88 u89 u90 u91 u92 u93 u94 u95 u96 u97 u98 u99 u100 u101 u102 u103 u104 u105 u106 u107 u108 u109 u110 u111 u112 u113 u114 u115 u116 u117 u118 u119 u120 u121 u122 u123 u124 u125 u126 u127 u128 u129 u130 u131 u132 u133 u134 u135 u136 u137 u138 u139 u140 u141 u142 u143 u144 u145 T7
                  have D7 := Lib.hid (show TreeInv w h b5 gD gP (r0 : Int) (.slice (some ⟨gH, 0, none⟩) 128 128) xss tr f w7 from ⟨s2, v7, T7, HTL.out⟩)
                  clear T7
                  simp only [Exit.inBlock, Exit.then, if_true]
                  go_roundw
                  case rel => exact ⟨_, _, _, _, _, _, _, _, _, _, _, _, _, _, _, _, _, _, _, _, _, _, _, _, _, _, _, _, _, _, _, _, _, _, _, _, _, _, _, _, _, _, _, _, _, _, _, _, _, _, _, _, _, _, _, _, _, _, _, _, _, _, _, _, _, _, _, _, _, _, _, _, _, _, _, _, _, _, _, _, _, _, _, _, _, _, _, _, _, _, _, _, _, _, _, _, _, _, _, _, _, _, _, _, _, _, _, _, _, _, _, _, _, ⟨f, D7.out⟩, rfl⟩
                  case measure => exact Nat.lt_of_le_of_lt (fuelOf_le D7.out) (by have := HFE.out; omega)
              · cases hl
            · cases hl

end Go.Proofs.YtjbglifmppilfaaDoor
namespace Go.Proofs.YtjbglifmppilfaaDoor
open Go.ChangeShapes Go.WideShapes Go.ChangeAt Go.RowKit
set_option linter.unusedVariables false
set_option linter.unusedSimpArgs false
attribute [local go_sem] Og.Opt Og.OpY

/-- a search's answer -/
structure At {α : Type} (c : α → Int) (xs : List α) (k : Nat) (b : Bool) : Prop where
  mo : Mono c xs
  cu : Cut c xs k
  hi : hitE c xs k = b
theorem cut_unique {α : Type} {c : α → Int} {xs : List α} {k k' : Nat} (h : Cut c xs k) (h' : Cut c xs k') : k = k' := by
  have key : ∀ a b : Nat, Cut c xs a → Cut c xs b → ¬ a < b := fun a b ha hb hlt => by
    obtain ⟨x, hx⟩ : ∃ x, xs[a]? = some x := ⟨_, List.getElem?_eq_getElem (Nat.lt_of_lt_of_le hlt hb.1)⟩
    have h1 := hb.2.1 a x hx hlt
    have h2 := ha.2.2 a x hx (Nat.le_refl _)
    omega
  exact Nat.le_antisymm (Nat.not_lt.1 (key _ _ h' h)) (Nat.not_lt.1 (key _ _ h h'))
theorem At.all_lt {α : Type} {c : α → Int} {xs : List α} (h : ∀ (i : Nat) x, xs[i]? = some x → c x < 0) : At c xs xs.length false where
  mo := fun i j x y hx _ _ _ => h i x hx
  cu := ⟨Nat.le_refl _, fun i x hx _ => h i x hx, fun i x hx hi => absurd (List.getElem?_eq_some_iff.1 hx).1 (by omega)⟩
  hi := by simp [hitE]
theorem At.all_ge {α : Type} {c : α → Int} {xs : List α} {b : Bool} (h : ∀ (i : Nat) x, xs[i]? = some x → 0 ≤ c x) (hb : hitE c xs 0 = b) : At c xs 0 b where
  mo := fun i j x y _ hy _ hn => absurd (h j y hy) (by omega)
  cu := ⟨Nat.zero_le _, fun i x _ hi => absurd hi (Nat.not_lt_zero _), fun i x hx _ => h i x hx⟩
  hi := hb
theorem node_lt {ns : List Nd} (h : ∀ (i : Nat) x y, ns[i]? = some x → ns[i + 1]? = some y → x.i < y.i) : ∀ (d i : Nat) x y, ns[i]? = some x → ns[i + d + 1]? = some y → x.i < y.i := by
  intro d
  induction d with
  | zero => intro i x y hx hy; exact h i x y hx hy
  | succ d ih =>
    intro i x y hx hy
    obtain ⟨z, hz⟩ : ∃ z, ns[i + d + 1]? = some z := ⟨_, List.getElem?_eq_getElem (by have := (List.getElem?_eq_some_iff.1 hy).1; omega)⟩
    have h1 := ih i x z hx hz
    have h2 := h (i + d + 1) z y hz hy
    omega
theorem sg_lt {a b : Int} : sg a b < 0 ↔ a < b := by unfold sg; split <;> (try split) <;> constructor <;> intro h <;> omega
theorem sg_ge {a b : Int} : 0 ≤ sg a b ↔ b ≤ a := by unfold sg; split <;> (try split) <;> constructor <;> intro h <;> omega
theorem At.node {ns : List Nd} (h : ∀ (i : Nat) x y, ns[i]? = some x → ns[i + 1]? = some y → x.i < y.i) {k : Nat} {a : Int} (hk : ns[k]? = some ⟨a⟩) : At (fun y : Nd => sg y.i a) ns k true where
  mo := fun i j x y hx hy hij hn => by
    obtain ⟨d, rfl⟩ : ∃ d, j = i + d + 1 := ⟨j - i - 1, by omega⟩
    have := node_lt h d i x y hx hy
    rw [sg_lt] at hn ⊢
    omega
  cu := ⟨Nat.le_of_lt (List.getElem?_eq_some_iff.1 hk).1, fun i x hx hi => by
      obtain ⟨d, rfl⟩ : ∃ d, k = i + d + 1 := ⟨k - i - 1, by omega⟩
      exact sg_lt.2 (node_lt h d i x _ hx hk), fun i x hx hi => by
      refine sg_ge.2 ?_
      rcases Nat.lt_or_eq_of_le hi with h1 | rfl
      · obtain ⟨d, rfl⟩ : ∃ d, i = k + d + 1 := ⟨i - k - 1, by omega⟩
        exact Int.le_of_lt (node_lt h d k _ x hk hx)
      · rw [hk] at hx; cases hx; exact Int.le_refl _⟩
  hi := by simp [hitE, hk, sg]


end Go.Proofs.YtjbglifmppilfaaDoor
namespace Go.Proofs.YtjbglifmppilfaaDoor
open Go.ChangeShapes Go.WideShapes Go.ChangeAt Go.RowKit
set_option linter.unusedVariables false
set_option linter.unusedSimpArgs false
attribute [local go_sem] Og.Opt Og.OpY

attribute [local go_sem] Og.Opt Og.OpY
/-- a sound graph without pins, as one value -/
structure GX (w : World) (va vb vc : Value) (ns : List Nd) (ls : List Lk) : Prop where
  sa : Sl cNd 3 0 w va ns
  sb : Sl cLk 4 0 w vb ls
  sc : Sl cPn 4 0 w vc []
  snd : SndG ns ls []
  len : ns.length ≤ 128
theorem GX.below {w w2 : World} {va vb vc : Value} {ns : List Nd} {ls : List Lk} (g : GX w va vb vc ns ls) (hb : Below w.heap.size w w2) : GX w2 va vb vc ns ls := ⟨g.sa.below hb, g.sb.below hb, g.sc.below hb, g.snd, g.len⟩
theorem GX.check {w : World} {va vb vc : Value} {ns : List Nd} {ls : List Lk} (g : GX w va vb vc ns ls) : Calls Tryd.prog 56 #[.agg #[va, vb, vc]] w fun e w' => e = .returned (.int .i64 0) ∧ Below w.heap.size w w' := Check_ok ns ls [] va vb vc w g.sa g.sb g.sc g.snd g.len
theorem GX.node {w : World} {va vb vc : Value} {ns : List Nd} {ls : List Lk} (g : GX w va vb vc ns ls) {a : Int} {k : Nat} (hk : ns[k]? = some ⟨a⟩) : Calls Tryd.prog 45 #[.agg #[va, vb, vc], .int .i64 a] w fun e w' => e = .returned (.tuple #[.int .i64 (k : Int), .bool true]) ∧ Below w.heap.size w w' := by
  have hat := At.node g.snd.na hk
  refine (nodeAt_ok ns a va vb vc w g.sa (by have := g.len; omega) hat.mo).mono ?_
  rintro e w3 ⟨⟨k', rfl, hc'⟩, hb3⟩
  rw [cut_unique hc' hat.cu, hat.hi]
  exact ⟨rfl, hb3⟩
theorem GX.rng {w : World} {va vb vc : Value} {ns : List Nd} {ls : List Lk} (g : GX w va vb vc ns ls) {a : Int} {k : Nat} (hk : ns[k]? = some ⟨a⟩) : rng 0 127 a = true := g.snd.nr k _ hk
set_option maxRecDepth 100000 in
set_option maxHeartbeats 8000000 in
theorem gnodes_ok (xs : List Int) (ns : List Nd) (ls : List Lk) (va vb vc : Value) (b : Nat) (w : World) (g : GX w va vb vc ns ls) (ha : AtL w b 0 (dC xs)) (hl : xs.length ≤ 1000) (hx : ∀ x ∈ xs, ∃ k : Nat, ns[k]? = some ⟨x⟩) :
    Calls Tryd.prog 44 #[.agg #[va, vb, vc], .slice (some ⟨b, 0, none⟩) xs.length xs.length] w fun e w' => e = .returned (.int .i64 0) ∧ Below w.heap.size w w' := by
  obtain ⟨n, hn⟩ : ∃ n, n = xs.length := ⟨_, rfl⟩
  rw [← hn] at hl ⊢
  have HN := Lib.hid hn
  have HX := Lib.hid hx
  have HA := Lib.hid ha
  have GG := Lib.hid g
  clear hn hx ha g
  have ba : Below w.heap.size w (w.alloc (.cells #[va, vb, vc] 42)) := (Below.refl _ _).alloc (Nat.le_refl _) _
  have HC := Lib.hid (GG.out.below ba).check
  have q0 : ∀ j u, [va, vb, vc][j]? = some u → (w.alloc (.cells #[va, vb, vc] 42)).cell? ⟨w.heap.size, j, none⟩ = some u := fun j u hu => by
    rw [cell_of_row _ _ j _ _ _ (heap_at rfl)]; simpa using hu
  have c0 := q0 0 _ rfl
  have c1 := q0 1 _ rfl
  have c2 := q0 2 _ rfl
  have BA := Lib.hid ba
  clear q0 ba
  go_enter Tryd.func44, Tryd.ntmps44
  go_wp2_with fail
  with_reducible refine (HC.out).mono ?_
  rintro e w2 ⟨rfl, hb⟩
  have B2 := Lib.hid (bthen BA.out hb)
  have d0 := bcell hb c0
  have d1 := bcell hb c1
  have d2 := bcell hb c2
  clear hb c0 c1 c2 HC BA
  go_wp2_with fail
  go_loopw [19] (fun i wr => ∃ k : Nat, k ≤ n ∧ i = .int .i64 k ∧ Hid (Below w2.heap.size w2 wr)) (fun i _ => n - (intOf i).toNat)
  case atStart => exact ⟨0, Nat.zero_le _, rfl, Lib.hid (Below.refl _ _)⟩
  case round =>
    obtain ⟨k, hk, rfl, hbw⟩ := hrel
    by_cases hlt : k < n
    · have hwk1 : IntKind.i64.wrap ((k : Int) + 1) = (k : Int) + 1 := by rw [IntKind.wrap_i64]; omega
      have hk0 : (0 : Int) ≤ (k : Int) := by omega
      have hkn : (k : Int) < (n : Int) := by omega
      obtain ⟨x, hxk⟩ : ∃ x, xs[k]? = some x := ⟨_, List.getElem?_eq_getElem (by rw [← HN.out]; exact hlt)⟩
      obtain ⟨kk, hkk⟩ := HX.out x (List.mem_of_getElem? hxk)
      have qx : wr.cell? ⟨b, k, none⟩ = some (.int .i64 x) := by
        have := HA.out k (.int .i64 x) (by simp [dC, hxk])
        rw [Nat.zero_add] at this
        exact bcell (bthen B2.out hbw.out) this
      have hr := GG.out.rng hkk
      have HI := Lib.hid (fun w2 => in_ok x w2)
      rw [hr] at HI
      clear hxk hkk hr
      go_wp2_with fail
      with_reducible refine (HI.out _).mono ?_
      rintro e w3 ⟨rfl, hb3⟩
      have B3 := Lib.hid (bthen hbw.out hb3)
      clear hb3 qx
      go_wp2_with fail
      go_roundw
      case rel => exact ⟨k + 1, by omega, by go_num, B3⟩
      case measure => simp [intOf]; omega
    · have hkn : k = n := by omega
      subst hkn
      have e0 := bcell hbw.out d0
      have e1 := bcell hbw.out d1
      have e2 := bcell hbw.out d2
      have BR := Lib.hid (bthen B2.out hbw.out)
      clear d0 d1 d2 hbw hlt hk B2
      go_wp2_with fail
      go_loopw [29] (fun i wx => ∃ q : Nat, q ≤ k ∧ i = .int .i64 q ∧ Hid (Below wr.heap.size wr wx)) (fun i _ => k - (intOf i).toNat)
      case atStart => exact ⟨0, Nat.zero_le _, rfl, Lib.hid (Below.refl _ _)⟩
      case round =>
        obtain ⟨q, hq, rfl, hbx⟩ := hrel
        by_cases hlt : q < k
        · have hwk1 : IntKind.i64.wrap ((q : Int) + 1) = (q : Int) + 1 := by rw [IntKind.wrap_i64]; omega
          have hk0 : (0 : Int) ≤ (q : Int) := by omega
          have hkn : (q : Int) < (k : Int) := by omega
          obtain ⟨x, hxk⟩ : ∃ x, xs[q]? = some x := ⟨_, List.getElem?_eq_getElem (by rw [← HN.out]; exact hlt)⟩
          obtain ⟨kk, hkk⟩ := HX.out x (List.mem_of_getElem? hxk)
          have BX := Lib.hid (bthen BR.out hbx.out)
          have qx : wr.cell? ⟨b, q, none⟩ = some (.int .i64 x) := by
            have := HA.out q (.int .i64 x) (by simp [dC, hxk])
            rw [Nat.zero_add] at this
            exact bcell BX.out this
          have HI := Lib.hid ((GG.out.below BX.out).node hkk)
          have f0 := bcell hbx.out e0
          have f1 := bcell hbx.out e1
          have f2 := bcell hbx.out e2
          clear hxk hkk e0 e1 e2
          go_wp2_with fail
          with_reducible refine (HI.out).mono ?_
          rintro e w3 ⟨rfl, hb3⟩
          have B3 := Lib.hid (bthen hbx.out hb3)
          clear hb3 qx f0 f1 f2
          go_wp2_with fail
          go_roundw
          case rel => exact ⟨q + 1, by omega, by go_num, B3⟩
          case measure => simp [intOf]; omega
        · have hqn : q = k := by omega
          subst hqn
          have BX := Lib.hid (bthen BR.out hbx.out)
          clear hlt hq hbx
          go_wp2_with fail
          go_ret
          exact ⟨rfl, BX.out⟩
set_option maxRecDepth 100000 in
set_option maxHeartbeats 8000000 in
theorem Node_ok (a : Int) (k : Nat) (ns : List Nd) (ls : List Lk) (va vb vc : Value) (w : World) (g : GX w va vb vc ns ls) (hk : ns[k]? = some ⟨a⟩) :
    Calls Tryd.prog 26 #[.agg #[va, vb, vc], .int .i64 a] w fun e w' => e = .returned (.tuple #[.agg (cNd ⟨a⟩).toArray, .int .i64 0]) ∧ Below w.heap.size w w' := by
  obtain ⟨z, hz⟩ : ∃ z, z = w.heap.size := ⟨_, rfl⟩
  have GG := Lib.hid g
  have HK := Lib.hid hk
  obtain ⟨A, ca, hva, hrd, -⟩ := g.sa
  obtain ⟨n1, hn1⟩ : ∃ n, n = ns.length := ⟨_, rfl⟩
  rw [← hn1] at hva
  subst hva
  obtain ⟨b0, o0, rfl, hat⟩ := hrd k _ hk
  have HAT := Lib.hid hat
  have hkn : (k : Int) < (n1 : Int) := by have := (List.getElem?_eq_some_iff.1 hk).1; omega
  have hk0 : (0 : Int) ≤ (k : Int) := by omega
  have HZ := Lib.hid hz
  clear hrd hat hk g hn1
  go_enter Tryd.func26, Tryd.ntmps26
  go_wp2_with fail
  rw [← hz]
  clear hz
  have b1 : Below w.heap.size w (((w.alloc (.cells #[.slice (some ⟨b0, o0, none⟩) n1 ca, vb, vc] 42)).alloc (.cells #[.int .i64 0, .bool false, .complex .f64 0 0] 53)).alloc (.cells #[.int .i64 a] 3)) := (((Below.refl _ _).alloc (Nat.le_refl _) _).alloc (by simp) _).alloc (by simp; omega) _
  have k0 : (((w.alloc (.cells #[.slice (some ⟨b0, o0, none⟩) n1 ca, vb, vc] 42)).alloc (.cells #[.int .i64 0, .bool false, .complex .f64 0 0] 53)).alloc (.cells #[.int .i64 a] 3)).heap[z]? = some (.cells #[.slice (some ⟨b0, o0, none⟩) n1 ca, vb, vc] 42 (0, 0)) := heap_keep ((Below.refl _ _).alloc (Nat.le_refl _) _) (heap_keep ((Below.refl _ _).alloc (Nat.le_refl _) _) (heap_at HZ.out))
  have k1 : (((w.alloc (.cells #[.slice (some ⟨b0, o0, none⟩) n1 ca, vb, vc] 42)).alloc (.cells #[.int .i64 0, .bool false, .complex .f64 0 0] 53)).alloc (.cells #[.int .i64 a] 3)).heap[z + 1]? = some (.cells #[.int .i64 0, .bool false, .complex .f64 0 0] 53 (0, 0)) := heap_keep ((Below.refl _ _).alloc (Nat.le_refl _) _) (heap_at (by rw [HZ.out]; simp))
  have k2 : AtL (((w.alloc (.cells #[.slice (some ⟨b0, o0, none⟩) n1 ca, vb, vc] 42)).alloc (.cells #[.int .i64 0, .bool false, .complex .f64 0 0] 53)).alloc (.cells #[.int .i64 a] 3)) (z + 1 + 1) 0 (dC [a]) := AtL_heap (heap_at (by rw [HZ.out]; simp))
  generalize (((w.alloc (.cells #[.slice (some ⟨b0, o0, none⟩) n1 ca, vb, vc] 42)).alloc (.cells #[.int .i64 0, .bool false, .complex .f64 0 0] 53)).alloc (.cells #[.int .i64 a] 3)) = wa at *
  refine (gnodes_ok [a] ns ls _ vb vc _ wa (GG.out.below b1) k2 (by simp) (fun x hx => ⟨k, by simp at hx; rw [hx]; exact HK.out⟩)).mono ?_
  rintro e w2 ⟨rfl, hb⟩
  have B2 := Lib.hid (bthen b1 hb)
  have K0 := Lib.hid (heap_keep hb k0)
  have K1 := Lib.hid (heap_keep hb k1)
  have HI := Lib.hid ((GG.out.below B2.out).node HK.out)
  have c0 : w2.cell? ⟨z, 0, none⟩ = some (.slice (some ⟨b0, o0, none⟩) n1 ca) := by rw [cell_of_row w2 _ 0 _ _ _ K0.out]; rfl
  have c1 : w2.cell? ⟨z, 1, none⟩ = some vb := by rw [cell_of_row w2 _ 1 _ _ _ K0.out]; rfl
  have c2 : w2.cell? ⟨z, 2, none⟩ = some vc := by rw [cell_of_row w2 _ 2 _ _ _ K0.out]; rfl
  clear b1 k0 k1 k2 hb
  go_wp2_with fail
  with_reducible refine (HI.out).mono ?_
  rintro e w3 ⟨rfl, hb3⟩
  have B3 := Lib.hid (bthen B2.out hb3)
  have K13 := Lib.hid (heap_keep hb3 K1.out)
  have d0 := bcell hb3 c0
  have r1 := Lib.hid (run_loadL isAgg41 size41 (cNd_len ⟨a⟩) (HAT.out.below B3.out))
  clear c0 c1 c2 hb3 B2 K0 K1 HI
  go_wp2_with (first | (refine wpList_loadL rfl 53 (.tmp 27) rfl b0 (o0 + k * 3) (.agg (cNd ⟨a⟩).toArray) rfl r1.out ?_) | (refine wpList_storeN rfl 53 (.tmp 9) (.tmp 28) rfl rfl w3.heap.size (cNd ⟨a⟩).toArray rfl rfl 53 _ (heap_at rfl) info41s rfl (by simp [Value.oneCell', cNd]) ?_; intro w4 hz hbb hn9 hs4; have b4 := below_storeA hbb; have Z4 := Lib.hid hz; have B4 := Lib.hid (bthen B3.out b4); have K14 := Lib.hid (heap_keep b4 K13.out); have ql2 : w4.cell? ⟨w3.heap.size, 2, none⟩ = some (.complex .f64 0 0) := (by rw [cell_of_row w4 _ 2 _ _ _ hz]; rfl); clear b4 hz hbb hn9 hs4))
  refine (plain_ok _).mono ?_
  rintro e w5 ⟨rfl, hb5⟩
  have B5 := Lib.hid (bthen B4.out hb5)
  have Z5 := Lib.hid (heap_keep hb5 Z4.out)
  have K15 := Lib.hid (heap_keep hb5 K14.out)
  have q3 := bcell hb5 ql2
  have hself : w5.setCell ⟨w3.heap.size, 2, none⟩ (.complex .f64 0 0) = w5 := setCell_self Z5.out q3
  have fz : w5.frozen? ⟨w3.heap.size, 2, none⟩ = false := by simp [World.frozen?, Z5.out]
  have hst : (store ⟨w3.heap.size, 2, none⟩ (.complex .f64 0 0)).run Tryd.prog w5 = .ok () w5 := by
    rw [run_store Tryd.prog w5 _ _ _ rfl]
    simp [q3, fz, hself]
  clear ql2 hb5 B4 Z4 K14 q3
  go_wp2_with (first | (simp only [hst]; done) | (simp only [hst]) | (refine wpList_loadL rfl 53 (.tmp 9) rfl w3.heap.size 0 (.agg (cNd ⟨a⟩).toArray) rfl (run_loadL isAgg41 size41 (cNd_len ⟨a⟩) (AtL_heap Z5.out)) ?_) | (refine wpList_storeN rfl 53 (.tmp 4) (.tmp 33) rfl rfl (z + 1) (cNd ⟨a⟩).toArray rfl rfl 53 _ K15.out info41s rfl (by simp [Value.oneCell', cNd]) ?_; intro w6 hz hbb hn9 hs4; have Z6 := Lib.hid hz; have B6 := Lib.hid (B5.out.trans (hbb _ (by have := HZ.out; omega))); clear hz hbb hn9 hs4))
  refine bodyPost_ret (results_cell_tmp1 rfl rfl (run_loadL isAgg41 size41 (cNd_len ⟨a⟩) (AtL_heap Z6.out))) rfl ?_
  exact ⟨rfl, B6.out⟩
set_option maxRecDepth 100000 in
set_option maxHeartbeats 8000000 in
theorem fnodes_ok (xs : List Int) (ns : List Nd) (ls : List Lk) (va vb vc : Value) (b : Nat) (w : World) (g : GX w va vb vc ns ls) (ha : AtL w b 0 (dC xs)) (hl : xs.length ≤ 1000) (hx : ∀ x ∈ xs, ∃ k : Nat, ns[k]? = some ⟨x⟩) :
    Calls Tryd.prog 52 #[.agg #[va, vb, vc], .slice (some ⟨b, 0, none⟩) xs.length xs.length] w fun e w' => e = .returned (.int .i64 0) ∧ Below w.heap.size w w' := by
  obtain ⟨n, hn⟩ : ∃ n, n = xs.length := ⟨_, rfl⟩
  rw [← hn] at hl ⊢
  have HN := Lib.hid hn
  have HX := Lib.hid hx
  have HA := Lib.hid ha
  have GG := Lib.hid g
  clear hn hx ha g
  have ba : Below w.heap.size w (w.alloc (.cells #[va, vb, vc] 42)) := (Below.refl _ _).alloc (Nat.le_refl _) _
  have q0 : ∀ j u, [va, vb, vc][j]? = some u → (w.alloc (.cells #[va, vb, vc] 42)).cell? ⟨w.heap.size, j, none⟩ = some u := fun j u hu => by
    rw [cell_of_row _ _ j _ _ _ (heap_at rfl)]; simpa using hu
  have d0 := q0 0 _ rfl
  have d1 := q0 1 _ rfl
  have d2 := q0 2 _ rfl
  have B2 := Lib.hid ba
  clear q0 ba
  go_enter Tryd.func52, Tryd.ntmps52
  go_wp2_with fail
  generalize w.alloc (.cells #[va, vb, vc] 42) = w2 at *
  go_loopw [5, 14] (fun bad i wr => ∃ k : Nat, k ≤ n ∧ bad = .int .i64 0 ∧ i = .int .i64 k ∧ Hid (Below w2.heap.size w2 wr)) (fun _ i _ => n - (intOf i).toNat)
  case atStart => exact ⟨0, Nat.zero_le _, rfl, rfl, Lib.hid (Below.refl _ _)⟩
  case round =>
    obtain ⟨k, hk, rfl, rfl, hbw⟩ := hrel
    by_cases hlt : k < n
    · have hwk1 : IntKind.i64.wrap ((k : Int) + 1) = (k : Int) + 1 := by rw [IntKind.wrap_i64]; omega
      have hk0 : (0 : Int) ≤ (k : Int) := by omega
      have hkn : (k : Int) < (n : Int) := by omega
      obtain ⟨x, hxk⟩ : ∃ x, xs[k]? = some x := ⟨_, List.getElem?_eq_getElem (by rw [← HN.out]; exact hlt)⟩
      obtain ⟨kk, hkk⟩ := HX.out x (List.mem_of_getElem? hxk)
      have qx : wr.cell? ⟨b, k, none⟩ = some (.int .i64 x) := by
        have := HA.out k (.int .i64 x) (by simp [dC, hxk])
        rw [Nat.zero_add] at this
        exact bcell (bthen B2.out hbw.out) this
      have HI := Lib.hid (Node_ok x kk ns ls va vb vc wr (GG.out.below (bthen B2.out hbw.out)) hkk)
      have f0 := bcell hbw.out d0
      have f1 := bcell hbw.out d1
      have f2 := bcell hbw.out d2
      clear hxk hkk d0 d1 d2
      go_wp2_with fail
      with_reducible refine (HI.out).mono ?_
      rintro e w3 ⟨rfl, hb3⟩
      have B3 := Lib.hid (bthen hbw.out hb3)
      clear hb3 qx f0 f1 f2
      go_wp2_with (refine wpList_storeN rfl 53 (.tmp 8) (.tmp 22) rfl rfl w3.heap.size (cNd ⟨x⟩).toArray rfl rfl 53 _ (heap_at rfl) info41s rfl (by simp [Value.oneCell', cNd]) ?_; intro w4 hz hbb hn9 hs4; have b4 := below_storeA hbb; have B4 := Lib.hid (bthen B3.out b4); clear b4 hz hbb hn9 hs4)
      go_roundw
      case rel => exact ⟨k + 1, by omega, rfl, by go_num, B4⟩
      case measure => simp [intOf]; omega
    · have hkn : k = n := by omega
      subst hkn
      have BR := Lib.hid (bthen B2.out hbw.out)
      clear d0 d1 d2 hbw hlt hk B2
      go_wp2_with fail
      go_loopw [37] (fun i wx => ∃ q : Nat, q ≤ k ∧ i = .int .i64 q ∧ Hid (wx = wr)) (fun i _ => k - (intOf i).toNat)
      case atStart => exact ⟨0, Nat.zero_le _, rfl, Lib.hid rfl⟩
      case round =>
        obtain ⟨q, hq, rfl, hwx⟩ := hrel
        have hwx' := hwx.out
        subst hwx'
        by_cases hlt : q < k
        · have hwk1 : IntKind.i64.wrap ((q : Int) + 1) = (q : Int) + 1 := by rw [IntKind.wrap_i64]; omega
          have hk0 : (0 : Int) ≤ (q : Int) := by omega
          have hkn : (q : Int) < (k : Int) := by omega
          obtain ⟨x, hxk⟩ : ∃ x, xs[q]? = some x := ⟨_, List.getElem?_eq_getElem (by rw [← HN.out]; exact hlt)⟩
          obtain ⟨kk, hkk⟩ := HX.out x (List.mem_of_getElem? hxk)
          have qx : wr.cell? ⟨b, q, none⟩ = some (.int .i64 x) := by
            have := HA.out q (.int .i64 x) (by simp [dC, hxk])
            rw [Nat.zero_add] at this
            exact bcell BR.out this
          have hr := rng_of (GG.out.rng hkk)
          have hx0 : ¬ x < 0 := by omega
          have hx1 : ¬ 127 < x := by omega
          clear hxk hkk hr
          go_wp2_with fail
          go_roundw
          case rel => exact ⟨q + 1, by omega, by go_num, by first | trivial | exact Lib.hid rfl⟩
          case measure => simp [intOf]; omega
        · have hqn : q = k := by omega
          subst hqn
          clear hlt hq
          go_wp2_with fail
          go_ret
          exact ⟨rfl, BR.out⟩

theorem oks_rng {a : Int} (h : rng 0 127 a = true) : oks a = true := by have := rng_of h; simp [oks]; omega
end Go.Proofs.YtjbglifmppilfaaDoor
namespace Go.Proofs.YtjbglifmppilfaaDoor
open Go.ChangeShapes Go.WideShapes Go.ChangeAt Go.RowKit
set_option linter.unusedVariables false
set_option linter.unusedSimpArgs false
attribute [local go_sem] Og.Opt Og.OpY

def pM (M : Nat) : Int × Int := (loM M, hiM M)
theorem pM_lt (M : Nat) (h : M < 2 ^ 128) : M % 2 ^ 64 < 18446744073709551616 ∧ M / 2 ^ 64 < 18446744073709551616 := by omega
theorem or_lo (A B : Nat) : (A ||| B) % 2 ^ 64 = A % 2 ^ 64 ||| B % 2 ^ 64 := by
  apply Nat.eq_of_testBit_eq
  intro i
  simp only [Nat.testBit_mod_two_pow, Nat.testBit_or]
  cases decide (i < 64) <;> simp
theorem or_hi (A B : Nat) : (A ||| B) / 2 ^ 64 = A / 2 ^ 64 ||| B / 2 ^ 64 := by
  apply Nat.eq_of_testBit_eq
  intro i
  simp only [Nat.testBit_div_two_pow, Nat.testBit_or]
theorem orB_M {A B : Nat} (ha : A < 2 ^ 128) (hb : B < 2 ^ 128) : orB (pM A) (pM B) = pM (A ||| B) := by
  obtain ⟨a1, a2⟩ := pM_lt A ha
  obtain ⟨b1, b2⟩ := pM_lt B hb
  unfold orB pM loM hiM
  simp only []
  rw [or_lo, or_hi, bits_or_u64_nat _ _ a1 b1, bits_or_u64_nat _ _ a2 b2]
theorem wrapu {q : Nat} (h : q < 18446744073709551616) : IntKind.u64.wrap (q : Int) = q := by rw [IntKind.wrap_u64]; omega
theorem ofB_M {n : Nat} (hn : n < 128) : ofB n = pM (2 ^ n) := by
  unfold ofB pM loM hiM
  by_cases h : n < 64
  · have h2 : 2 ^ n < 2 ^ 64 := Nat.pow_lt_pow_right (by omega) h
    have e1 : IntKind.u64.wrap ((2 : Int) ^ n) = ((2 ^ n : Nat) : Int) := by
      rw [show ((2 : Int) ^ n) = ((2 ^ n : Nat) : Int) by simp]
      exact wrapu h2
    rw [if_pos h, e1]
    have := bits_or_u64_nat 0 (2 ^ n) (by omega) h2
    rw [Nat.zero_or] at this
    have e2 : bits .or .u64 (0 : Int) ((2 ^ n : Nat) : Int) = ((2 ^ n : Nat) : Int) := this
    rw [e2, Nat.mod_eq_of_lt h2, Nat.div_eq_of_lt h2]
    rfl
  · obtain ⟨k, rfl⟩ : ∃ k, n = 64 + k := ⟨n - 64, by omega⟩
    have h2 : 2 ^ k < 2 ^ 64 := Nat.pow_lt_pow_right (by omega) (by omega)
    rw [if_neg h, show 64 + k - 64 = k by omega]
    have e1 : IntKind.u64.wrap ((2 : Int) ^ k) = ((2 ^ k : Nat) : Int) := by
      rw [show ((2 : Int) ^ k) = ((2 ^ k : Nat) : Int) by simp]
      exact wrapu h2
    have := bits_or_u64_nat 0 (2 ^ k) (by omega) h2
    rw [Nat.zero_or] at this
    have e2 : bits .or .u64 (0 : Int) ((2 ^ k : Nat) : Int) = ((2 ^ k : Nat) : Int) := this
    rw [e1, e2, Nat.pow_add, Nat.mul_mod_right, Nat.mul_div_cancel_left _ (Nat.two_pow_pos 64)]
    rfl
theorem withB_M {M n : Nat} (hM : M < 2 ^ 128) (hn : n < 128) : withB (pM M) n = pM (putM M n) := by
  unfold withB putM
  rw [ofB_M hn, orB_M hM (Nat.pow_lt_pow_right (by omega) hn)]
theorem hasB_M {M n : Nat} (hM : M < 2 ^ 128) (hn : n < 128) : hasB (pM M) n = M.testBit n := by
  obtain ⟨a1, a2⟩ := pM_lt M hM
  have key : ∀ x k : Nat, x < 18446744073709551616 → (bits .and .u64 ((x : Int) / 2 ^ k) 1 == 1) = x.testBit k := by
    intro x k hx
    have e1 : (x : Int) / 2 ^ k = ((x / 2 ^ k : Nat) : Int) := by
      have : ((2 : Int) ^ k) = ((2 ^ k : Nat) : Int) := by simp
      rw [this]; rfl
    have h2 : x / 2 ^ k ≤ x := Nat.div_le_self _ _
    have e2 := bits_and_u64_nat (x / 2 ^ k) 1 (by omega) (by omega)
    have e3 : bits .and .u64 ((x / 2 ^ k : Nat) : Int) (1 : Int) = ((x / 2 ^ k &&& 1 : Nat) : Int) := e2
    rw [e1, e3, Nat.and_one_is_mod, Nat.testBit_eq_decide_div_mod_eq]
    have : x / 2 ^ k % 2 < 2 := Nat.mod_lt _ (by omega)
    by_cases h : x / 2 ^ k % 2 = 1
    · rw [h]; rfl
    · rw [show x / 2 ^ k % 2 = 0 by omega]; rfl
  unfold hasB pM loM hiM
  by_cases h : n < 64
  · rw [if_pos h]
    show (bits .and .u64 (((M % 2 ^ 64 : Nat) : Int) / 2 ^ n) 1 == 1) = _
    rw [key _ _ a1, Nat.testBit_mod_two_pow]
    simp [h]
  · rw [if_neg h]
    show (bits .and .u64 (((M / 2 ^ 64 : Nat) : Int) / 2 ^ (n - 64)) 1 == 1) = _
    rw [key _ _ a2, Nat.testBit_div_two_pow, show n - 64 + 64 = n by omega]
theorem Or_M {A B : Nat} (ha : A < 2 ^ 128) (hb : B < 2 ^ 128) (w : World) : Calls Tryd.prog 37 #[mV A, mV B] w fun e w' => e = .returned (mV (A ||| B)) ∧ Below w.heap.size w w' := by
  have := Or_ok (pM A) (pM B) w
  rw [orB_M ha hb] at this
  exact this
theorem With_M {M n : Nat} (hM : M < 2 ^ 128) (hn : n < 128) (w : World) : Calls Tryd.prog 51 #[mV M, .int .i64 n] w fun e w' => e = .returned (.tuple #[mV (putM M n), .int .i64 0]) ∧ Below w.heap.size w w' := by
  have := With_ok (pM M) n hn w
  rw [withB_M hM hn] at this
  exact this
theorem Has_M {M n : Nat} (hM : M < 2 ^ 128) (hn : n < 128) (w : World) : Calls Tryd.prog 43 #[mV M, .int .i64 n] w fun e w' => e = .returned (.bool (M.testBit n)) ∧ Below w.heap.size w w' := by
  have := Has_ok (pM M) n hn w
  rw [hasB_M hM hn] at this
  exact this
theorem Of_M {b n : Nat} (hn : n < 128) (w : World) (h0 : w.cell? ⟨b, 0, none⟩ = some (.int .i64 n)) : Calls Tryd.prog 36 #[.slice (some ⟨b, 0, none⟩) 1 1] w fun e w' => e = .returned (.tuple #[mV (2 ^ n), .int .i64 0]) ∧ Below w.heap.size w w' := by
  have := Of_ok b n hn w h0
  rw [ofB_M hn] at this
  exact this
/-- the least bit that is set -/
structure Low (x t : Nat) : Prop where
  bit : x.testBit t = true
  low : ∀ i, i < t → x.testBit i = false
  pred : ∀ i, (x - 1).testBit i = if i < t then true else if i = t then false else x.testBit i
theorem low_of : ∀ n x : Nat, x ≤ n → x ≠ 0 → ∃ t, Low x t := by
  have mk : ∀ t y : Nat, Low (2 ^ (t + 1) * y + 2 ^ t) t := fun t y => by
    have hb : 2 ^ t < 2 ^ (t + 1) := Nat.pow_lt_pow_right (by omega) (by omega)
    have hx : ∀ i, (2 ^ (t + 1) * y + 2 ^ t).testBit i = if i < t + 1 then decide (t = i) else y.testBit (i - (t + 1)) := fun i => by
      rw [Nat.testBit_two_pow_mul_add _ hb, Nat.testBit_two_pow]
    have hp := Nat.two_pow_pos t
    have e : 2 ^ (t + 1) * y + 2 ^ t - 1 = 2 ^ (t + 1) * y + (2 ^ t - 1) := by omega
    refine ⟨by rw [hx]; simp, fun i hi => by rw [hx, if_pos (by omega)]; simp; omega, fun i => ?_⟩
    rw [e, Nat.testBit_two_pow_mul_add _ (by omega), hx]
    by_cases h1 : i < t
    · rw [if_pos (by omega), if_pos h1, Nat.testBit_two_pow_sub_one]; simp [h1]
    · rw [if_neg h1]
      by_cases h2 : i = t
      · rw [if_pos (by omega), if_pos h2, Nat.testBit_two_pow_sub_one]; simp; omega
      · rw [if_neg (by omega), if_neg h2, if_neg (by omega)]
  have ex : ∀ n x : Nat, x ≤ n → x ≠ 0 → ∃ t y, x = 2 ^ (t + 1) * y + 2 ^ t := by
    intro n
    induction n with
    | zero => intro x h h0; omega
    | succ n ih =>
      intro x h h0
      by_cases h2 : x % 2 = 1
      · exact ⟨0, x / 2, by simp; omega⟩
      · obtain ⟨t, y, e⟩ := ih (x / 2) (by omega) (by omega)
        refine ⟨t + 1, y, ?_⟩
        have : x = 2 * (x / 2) := by omega
        rw [this, e, Nat.mul_add, ← Nat.mul_assoc, Nat.pow_succ 2 (t + 1), Nat.mul_comm (2 ^ (t + 1)) 2, Nat.pow_succ 2 t, Nat.mul_comm (2 ^ t) 2]
  intro n x h h0
  obtain ⟨t, y, rfl⟩ := ex n x h h0
  exact ⟨t, mk t y⟩
section
variable {x t : Nat}
theorem Low.lt (h : Low x t) (hx : x < 2 ^ 64) : t < 64 := by
  apply Classical.byContradiction
  intro hc
  have := Nat.testBit_lt_two_pow (Nat.lt_of_lt_of_le hx (Nat.pow_le_pow_right (by omega) (show 64 ≤ t by omega)))
  rw [h.bit] at this
  cases this
theorem Low.neg (h : Low x t) (hx : x < 2 ^ 64) (h0 : x ≠ 0) : x &&& (18446744073709551616 - x) = 2 ^ t := by
  apply Nat.eq_of_testBit_eq
  intro i
  have e : 18446744073709551616 - x = 2 ^ 64 - (x - 1 + 1) := by omega
  rw [Nat.testBit_and, e, Nat.testBit_two_pow_sub_succ (by omega), h.pred i, Nat.testBit_two_pow]
  have ht := h.lt hx
  by_cases h1 : i < t
  · rw [h.low i h1]; simp; omega
  · rw [if_neg h1]
    by_cases h2 : i = t
    · subst h2; rw [if_pos rfl, h.bit]; simp [ht]
    · rw [if_neg h2]
      have : ¬ t = i := by omega
      cases x.testBit i <;> simp [this]
theorem Low.next (h : Low x t) (i : Nat) : (x &&& (x - 1)).testBit i = (x.testBit i && decide (i ≠ t)) := by
  rw [Nat.testBit_and, h.pred i]
  by_cases h1 : i < t
  · rw [h.low i h1]; simp
  · rw [if_neg h1]
    by_cases h2 : i = t
    · rw [if_pos h2]; simp [h2]
    · rw [if_neg h2]; simp [h2]
end
/-- the table of the program -/
def tabZ : List Nat := [0, 1, 56, 2, 57, 49, 28, 3, 61, 58, 42, 50, 38, 29, 17, 4, 62, 47, 59, 36, 45, 43, 51, 22, 53, 39, 33, 30, 24, 18, 12, 5, 63, 55, 48, 27, 60, 41, 37, 16, 46, 35, 44, 21, 52, 32, 23, 11, 54, 26, 40, 15, 34, 20, 31, 10, 25, 14, 19, 9, 13, 8, 7, 6]
def Tab (w : World) : Prop := ∀ i, i < 64 → w.cell? ⟨0, i, none⟩ = some (.int .u8 (tabZ.getD i 0 : Nat))
theorem Tab.below {n : Nat} {w w' : World} (h : Tab w) (hb : Below n w w') (hn : 0 < n) : Tab w' := fun i hi => (World.cell?_of_block (a := ⟨0, i, none⟩) (hb.block 0 hn)).trans (h i hi)
theorem Tab.size {w : World} (h : Tab w) : 0 < w.heap.size := World.block_lt_of_cell? w _ (h 0 (by decide))
theorem tab_at : ∀ t, t < 64 → (2 ^ t * 285870213051353865 % 18446744073709551616 / 288230376151711744 < 64 ∧ tabZ.getD (2 ^ t * 285870213051353865 % 18446744073709551616 / 288230376151711744) 0 = t) := by decide +kernel
set_option maxRecDepth 100000 in
set_option maxHeartbeats 4000000 in
theorem tz_ok (x t : Nat) (w : World) (hL : Low x t) (hx : x < 2 ^ 64) (h0 : x ≠ 0) (T : Tab w) : Calls Tryd.prog 42 #[.int .u64 x] w fun e w' => e = .returned (.int .i64 (t : Nat)) ∧ Below w.heap.size w w' := by
  have ht := hL.lt hx
  have g1 : ((x : Int) == 0) = false := by simp; omega
  have g2 : ¬ (x : Int) = 0 := by omega
  obtain ⟨y, hy⟩ : ∃ y, y = 18446744073709551616 - x := ⟨_, rfl⟩
  have w1 : IntKind.u64.wrap (-(x : Int)) = (y : Int) := by rw [IntKind.wrap_u64]; omega
  obtain ⟨q, hq⟩ : ∃ q, q = 2 ^ t := ⟨_, rfl⟩
  have w2 : bits .and .u64 (x : Int) (y : Int) = (q : Int) := by rw [bits_and_u64_nat x y (by omega) (by omega), hy, hL.neg hx h0, hq]
  obtain ⟨p, hp⟩ : ∃ p, p = q * 285870213051353865 % 18446744073709551616 := ⟨_, rfl⟩
  have w3 : IntKind.u64.wrap ((q : Int) * 285870213051353865) = (p : Int) := by rw [IntKind.wrap_u64]; omega
  obtain ⟨i, hi⟩ : ∃ i, i = p / 288230376151711744 := ⟨_, rfl⟩
  have w4 : (p : Int) / 288230376151711744 = (i : Int) := by omega
  obtain ⟨h1, h2⟩ := tab_at t ht
  rw [← hq, ← hp, ← hi] at h1 h2
  have m := T i h1
  rw [h2] at m
  have i0 : (0 : Int) ≤ (i : Int) := by omega
  have i1 : (i : Int) < 64 := by omega
  have wi : IntKind.u64.wrap (i : Int) = (i : Int) := by rw [IntKind.wrap_u64]; omega
  have wt : IntKind.i64.wrap (t : Int) = (t : Int) := wrapk (by omega)
  clear hL hx h0 T ht hy hq hp hi h1 h2
  go_enter Tryd.func42, Tryd.ntmps42
  go_wp2_with fail
  go_ret
  exact ⟨rfl, Below.refl _ _⟩

end Go.Proofs.YtjbglifmppilfaaDoor
namespace Go
namespace Og
def noDefer (l : List Oper) : Bool := l.all fun o => match o.op with | .defer _ => false | _ => true
theorem noDefer_at {l : List Oper} (h : noDefer l = true) {i : Nat} {o : Oper} (ho : l[i]? = some o) : ∀ c, o.op ≠ .defer c := by
  intro c hc
  have := List.all_eq_true.1 h o (List.mem_of_getElem? ho)
  simp only [hc] at this
  cases this
section
variable {P : Program} {F : Fence} {n : Nat} {ops : Array Oper} {Q : Exit → Act → World → Prop} {C : World → Prop} {Rel : World → World → Prop} {V : Nat → Value → World → Prop} {A : List (List Nat)} {a : Act}
theorem mainIn (hfn : ∀ f, F.fn f) (hdep : F.depth = none) (hcall : ∀ m f args w R, Calls P f args w R → CallsIn F m P f args w R) (hnd : noDefer ops.toList = true) (h : okB ops A = true) (stab : ∀ i v w w', Rel w w' → getV V i v w → getV V i v w')
    (hst : Steps P C Rel V A ops a ops.toList 0)
    (fin : ∀ vs w, C w → Know V vs w (List.range ops.size) → Q .normal (lexF ops vs a ops.size) w) :
    ∀ (fuel : Nat) (listed : Array Bool) (vs : Nat → Value) (w : World), listed.size = ops.size → (List.range ops.size).countP (fun k => !listed.getD k false) ≤ fuel →
      Closed ops (fun k => listed.getD k false) → C w → (∀ j, j < ops.size → listed.getD j false = true → getV V j (vs j) w) →
      wpAnyIn F n P .any ops Q fuel listed (filF ops vs (fun k => listed.getD k false) a ops.size) w := by
  have hdone : ∀ (listed : Array Bool) (vs : Nat → Value) (w : World), listed.size = ops.size → C w → (∀ j, j < ops.size → listed.getD j false = true → getV V j (vs j) w) →
      Region.ready .any ops listed = [] → Q .normal (filF ops vs (fun k => listed.getD k false) a ops.size) w := by
    intro listed vs w hs hC hV hr
    have hall := fun k hk => all_listed h hs hr (k + 1) k (by omega) hk
    have : filF ops vs (fun k => listed.getD k false) a ops.size = lexF ops vs a ops.size := filF_congr _ (fun j hj => hall j hj) (fun _ _ _ => rfl)
    rw [this]
    exact fin vs w hC fun j hj => hV j (List.mem_range.1 hj) (hall j (List.mem_range.1 hj))
  intro fuel
  induction fuel with
  | zero =>
    intro listed vs w hs hcnt hc hC hV
    have hz : (List.range ops.size).countP (fun k => !listed.getD k false) = 0 := by omega
    have hr : Region.ready .any ops listed = [] := by
      refine List.eq_nil_iff_forall_not_mem.2 fun i hi => ?_
      obtain ⟨o, ho, hl, _⟩ := ready_spec hi
      have hlt := (Array.getElem?_eq_some_iff.1 ho).1
      have := (List.countP_eq_zero.1 hz) i (List.mem_range.2 hlt)
      simp only [Array.getD_eq_getD_getElem?] at hl this
      rw [Array.getElem?_eq_getElem (by omega)] at hl this
      simp at hl this
      rw [hl] at this; cases this
    exact ⟨hr, hdone listed vs w hs hC hV hr⟩
  | succ fuel ih =>
    intro listed vs w hs hcnt hc hC hV
    refine ⟨hdone listed vs w hs hC hV, fun i hi => ?_⟩
    obtain ⟨o, ho, hl, hdirs⟩ := ready_spec hi
    have hlt := (Array.getElem?_eq_some_iff.1 ho).1
    have hp : listed.getD i false = false := by
      simp only [Array.getD_eq_getD_getElem?] at hl ⊢
      rw [Array.getElem?_eq_getElem (by omega)] at hl ⊢
      simpa using hl
    have hdst : dstOf ops i = o.dst := by simp [dstOf, ho]
    -- what follows, whatever op i yields
    have next : ∀ v w', C w' ∧ Rel w w' ∧ getV V i v w' →
        wpAnyIn F n P .any ops Q fuel (listed.setIfInBounds i true) ((filF ops vs (fun k => listed.getD k false) a ops.size).put o.dst v) w' := by
      rintro v w' ⟨hC', hR, hv⟩
      have hpe : ∀ k, k < ops.size → (listed.setIfInBounds i true).getD k false = (listed.getD k false || k == i) := by
        intro k hk
        simp only [Array.getD_eq_getD_getElem?, Array.getElem?_setIfInBounds]
        by_cases hki : i = k
        · subst hki
          simp [hs, hk]
        · have : (k == i) = false := by simp; omega
          simp [hki, this]
      have hput : (filF ops vs (fun k => listed.getD k false) a ops.size).put o.dst v = filF ops (fun k => if k = i then v else vs k) (fun k => (listed.setIfInBounds i true).getD k false) a ops.size := by
        rw [← hdst, filF_put i v hlt hp (fun k hk hne d hd he => ?_)]
        · exact filF_congr _ (fun j hj => (hpe j hj).symm) (fun _ _ _ => rfl)
        · obtain ⟨_, _, _, hdist, _⟩ := okB_at h ho
          exact hdist d (by rw [← hdst]; exact hd) k hk hne he
      rw [hput]
      refine ih _ _ w' (by simp [hs]) ?_ ?_ hC' ?_
      · have e : (List.range ops.size).countP (fun k => !(listed.setIfInBounds i true).getD k false) = (List.range ops.size).countP (fun k => !(listed.getD k false || k == i)) :=
          List.countP_congr fun k hk => by rw [hpe k (List.mem_range.1 hk)]
        rw [e]
        have := countP_set ops.size i (fun k => listed.getD k false) hlt hp
        omega
      · intro j oj hoj hj k hk
        have hjn := (Array.getElem?_eq_some_iff.1 hoj).1
        have hkj := (okB_at h hoj).1 k hk
        simp only [hpe j hjn] at hj
        simp only [hpe k (by omega)]
        by_cases hji : j = i
        · subst hji
          rw [ho] at hoj
          cases hoj
          rw [hdirs k hk]; rfl
        · have e1 : (j == i) = false := by simp; omega
          rw [e1, Bool.or_false] at hj
          have := hc j oj hoj hj k hk
          simp only at this
          rw [this]; rfl
      · intro j hj hjl
        rw [hpe j hj] at hjl
        by_cases hji : j = i
        · subst hji
          simpa using hv
        · have e1 : (j == i) = false := by simp; omega
          rw [e1, Bool.or_false] at hjl
          simp only [if_neg hji]
          exact stab j _ w w' hR (hV j hj hjl)
    -- op i's own obligation
    have hkn : Know V vs w (A.getD i []) := by
      intro j hj
      obtain ⟨_, ha, _, _, _⟩ := okB_at h ho
      obtain ⟨hji, k, hk, hk'⟩ := ha j hj
      have hpk := hdirs k hk
      refine hV j (by omega) ?_
      rcases hk' with rfl | hk'
      · exact hpk
      · have hkn : k < ops.size := by have := (okB_at h ho).1 k hk; omega
        exact closed_anc h hc (k + 1) k (by omega) ops[k] (Array.getElem?_eq_getElem hkn) hpk j hk'
    have hob := steps_at ops.toList 0 hst i o (by simpa using ho) vs w hC (by rwa [Nat.zero_add])
    rw [Nat.zero_add] at hob
    obtain ⟨he, hw⟩ := eval_agree (a := a) (vs := vs) h hc ho hp hdirs
    unfold Opt at hob
    rw [← hw] at hob
    have hsem : ∀ ρ : Operand → Value, o.semAt F.round ρ = execOp ρ o := by
      intro ρ
      cases hr : F.round with
      | none => rfl
      | some l => exact Oper.semAt_some l ρ o (noDefer_at hnd (by simpa using ho))
    unfold wpOpIn
    simp only [ho]
    by_cases hwt : Region.wanted o (yielded ops (filF ops vs (fun k => listed.getD k false) a ops.size).tmps) = true
    · rw [if_pos hwt] at hob ⊢
      refine ⟨fun f _ => hfn f, ?_⟩
      unfold OpY at hob
      rw [← he] at hob
      rw [hsem]
      generalize (execOp (filF ops vs (fun k => listed.getD k false) a ops.size).eval o).run P w = r at hob
      cases r with
      | ok nx w' =>
        cases nx with
        | value v => exact next v w' hob
        | skip => exact next undef w' hob
        | enter f args => exact ⟨fun hs => (by rw [hdep] at hs; cases hs), CallsIn.mono (hcall _ _ _ _ _ hob) (fun e w'' ⟨v, hv, hR⟩ => by subst hv; exact next v w'' hR)⟩
        | _ => exact hob.elim
      | halt x w' => exact hob.elim
    · rw [if_neg hwt] at hob ⊢
      exact ⟨fun f _ => hfn f, next undef w hob⟩

/-- THE RULE -/
theorem wpIn_region_og (hfn : ∀ f, F.fn f) (hdep : F.depth = none) (hcall : ∀ m f args w R, Calls P f args w R → CallsIn F m P f args w R) (hnd : noDefer ops.toList = true) {id : Nat} {w : World} (hm : P.follows .mixedOrders = true) (h : okB ops A = true) (hC : C w.drew)
    (stab : ∀ i v w w', Rel w w' → getV V i v w → getV V i v w')
    (hst : Steps P C Rel V A ops a ops.toList 0)
    (fin : ∀ vs w, C w → Know V vs w (List.range ops.size) → Q .normal (lexF ops vs a ops.size) w) : (Code.region id ops true).wpIn F n P Q a w := by
  refine wpIn_region_any hm ?_
  have e : a = filF ops (fun _ => undef) (fun k => (Array.replicate ops.size false).getD k false) a ops.size := by
    have : ∀ n, filF ops (fun _ => undef) (fun k => (Array.replicate ops.size false).getD k false) a n = a := by
      intro n
      induction n with
      | zero => rfl
      | succ n ih =>
        simp only [filF]
        rw [if_neg (by simp [Array.getD_eq_getD_getElem?, Array.getElem?_replicate]; split <;> simp), ih]
    exact (this _).symm
  have hfalse : ∀ k, (Array.replicate ops.size false).getD k false = false := by
    intro k
    simp only [Array.getD_eq_getD_getElem?, Array.getElem?_replicate]
    split <;> rfl
  have := mainIn (Q := Q) (F := F) (n := n) hfn hdep hcall hnd h stab hst fin ops.size (Array.replicate ops.size false) (fun _ => undef) w.drew (by simp) (Nat.le_trans List.countP_le_length (by simp))
    (fun j o _ hj => by simp only [hfalse] at hj; cases hj) hC (fun j _ hj => by rw [hfalse] at hj; cases hj)
  rw [← e] at this
  exact this


theorem walkIn_lit {F : Fence} (hfn : ∀ f, F.fn f) (hdep : F.depth = none) (hcall : ∀ m f args w R, Calls P f args w R → CallsIn F m P f args w R) {id : Nat} {w : World} {l : List Oper} (A : List (List Nat)) (C : World → Prop) (Rel : World → World → Prop) (hm : P.follows .mixedOrders = true) (h : okB l.toArray A = true) (hnd : noDefer l = true) (hC : C w.drew)
    (hw : Walk P C Rel A l.toArray (Q .normal) l 0 (fun _ => a) K0) : (Code.region id l.toArray true).wpIn F n P Q a w := by
  obtain ⟨V, _, hV, hs, hfin⟩ := walk_sound (a := a) l 0 (fun _ => a) K0 (fun _ _ _ => True) (Nat.zero_le _) rfl (fun _ => rfl) (fun _ _ _ _ _ _ => trivial) (fun _ _ _ _ _ _ h => h) hw
  exact wpIn_region_og hfn hdep hcall hnd hm h hC hV hs hfin
/-- the wide fence -/
theorem walkW_lit {id : Nat} {w : World} {l : List Oper} (A : List (List Nat)) (C : World → Prop) (Rel : World → World → Prop) (hm : P.follows .mixedOrders = true) (h : okB l.toArray A = true) (hnd : noDefer l = true) (hC : C w.drew)
    (hw : Walk P C Rel A l.toArray (Q .normal) l 0 (fun _ => a) K0) : (Code.region id l.toArray true).wpIn Fence.wide n P Q a w :=
  walkIn_lit (fun _ => trivial) rfl (fun _ _ _ _ _ h => callsIn_wide.2 h) A C Rel hm h hnd hC hw
/-- in a round of the wide fence -/
theorem walkR_lit {id r : Nat} {w : World} {l : List Oper} (A : List (List Nat)) (C : World → Prop) (Rel : World → World → Prop) (hm : P.follows .mixedOrders = true) (h : okB l.toArray A = true) (hnd : noDefer l = true) (hC : C w.drew)
    (hw : Walk P C Rel A l.toArray (Q .normal) l 0 (fun _ => a) K0) : (Code.region id l.toArray true).wpIn (Fence.wide.inRound r) n P Q a w :=
  walkIn_lit (F := Fence.wide.inRound r) (fun _ => trivial) rfl (fun _ _ _ _ _ h => CallsIn.inRound r (callsIn_wide.2 h)) A C Rel hm h hnd hC hw
end
end Og
end Go
