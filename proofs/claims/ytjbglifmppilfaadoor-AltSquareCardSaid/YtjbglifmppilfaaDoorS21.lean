/- The law AltSquare at any cost; conditions as stated. -/
import Derived.Test.YtjbglifmppilfaaDoorS20
import Derived.RangeFuncNested
import Derived.RangeFuncBound
import Derived.RangeFuncCalls
import Derived.RangeFuncLeaves
import Derived.Shelf.Abstract
import Derived.Shelf.RegionOpen
import Derived.WalkKit
import Derived.OwnWalkIn
import Derived.TacticsInMore
import Derived.LoopNIn
import Derived.LoopIn
namespace Go.Proofs.YtjbglifmppilfaaDoor
open Go.ChangeShapes Go.WideShapes Go.ChangeAt Go.RowKit
set_option linter.unusedVariables false
set_option linter.unusedSimpArgs false
attribute [local go_sem] Og.Opt Og.OpY Oper.semAt_some

/-- the links when i of them bear their cost -/
def lsI (c : Int) (i : Nat) : List Lk := (lsQ c).take i ++ (lsQ 1).drop i
theorem lsI_set (c : Int) {k : Nat} (hk : k < 8) : ((lsI c k).flatMap cLk).set (k * 4 + 2) (.int .i64 c) = (lsI c (k + 1)).flatMap cLk := by
  rcases k with _ | _ | _ | _ | _ | _ | _ | _ | k
  · rfl
  · rfl
  · rfl
  · rfl
  · rfl
  · rfl
  · rfl
  · rfl
  · omega
theorem lsI_len (c : Int) {k : Nat} (hk : k < 8) : k * 4 + 2 < ((lsI c k).flatMap cLk).length := by
  rw [flat_len cLk 4 cLk_len]
  have : (lsI c k).length = 8 := by unfold lsI; rw [List.length_append, List.length_take, List.length_drop]; simp [lsQ]; omega
  omega
theorem lo8 : mV 8 = .agg #[.int .u64 8, .int .u64 0] := rfl
theorem lo4 : mV 4 = .agg #[.int .u64 4, .int .u64 0] := rfl
theorem lo0 : mV 0 = .agg #[.int .u64 0, .int .u64 0] := rfl
theorem ans4m (c : Int) : askM c 4 4 false = 0 := by
  have hb : ¬ (gt (hU 1) 4).testBit 4 = true := by decide +kernel
  unfold askM
  rw [if_neg hb]
theorem eqIM2 (A B : Nat) (w : World) : (Op.equalIn 10000 35 (.agg #[.int .u64 (loM A), .int .u64 (hiM A)]) (.agg #[.int .u64 (loM B), .int .u64 (hiM B)])).run Tryd.prog w = .ok (decide (A = B)) w := by
  have := eqM A B w
  unfold Op.equal Op.maxDepth mV at this
  exact this
set_option maxRecDepth 100000 in
set_option maxHeartbeats 16000000 in
theorem law4_ok (m : Nat) (hm : m < 65536) (w : World) (tb : Tab w) : Calls Tryd.prog 4 #[.int .u16 (m : Int)] w fun e w' => e = .returned (.bool true) ∧ Below w.heap.size w w' := by
  have HT := Lib.hid (And.intro tb hm)
  have SQ := Lib.hid (square_ok w)
  clear tb hm
  go_enter Tryd.func4, Tryd.ntmps4
  go_wp2_with fail
  refine SQ.out.mono ?_
  rintro e w2 ⟨⟨gN, gL, rfl, hN, hL, kN, kL⟩, hb2⟩
  obtain ⟨w3, hw3⟩ : ∃ x, x = w2.alloc (Obj.cells #[.slice (some ⟨gN, 0, none⟩) 4 4, .slice (some ⟨gL, 0, none⟩) 8 8, .slice none 0 0] 42) := ⟨_, rfl⟩
  obtain ⟨b3, hb3⟩ : ∃ b, b = w2.heap.size := ⟨_, rfl⟩
  have b23 : Below w2.heap.size w2 w3 := by rw [hw3]; exact (Below.refl _ _).alloc (Nat.le_refl _) _
  have B3 := Lib.hid (bthen hb2 b23)
  have K3 := Lib.hid (show w3.heap[b3]? = some (.cells #[.slice (some ⟨gN, 0, none⟩) 4 4, .slice (some ⟨gL, 0, none⟩) 8 8, .slice none 0 0] 42 (0, 0)) by rw [hw3]; exact heap_at hb3)
  have KN := Lib.hid (heap_keep b23 kN)
  have KL := Lib.hid (heap_keep b23 kL)
  have HZ := Lib.hid (show w.heap.size ≤ gN ∧ w.heap.size ≤ gL ∧ gL < b3 ∧ gN < b3 ∧ gN ≠ gL from by
    have h1 := (Array.getElem?_eq_some_iff.1 kL).1
    have h2 := (Array.getElem?_eq_some_iff.1 kN).1
    exact ⟨hN, hL, by omega, by omega, ne_cells kN kL (by decide)⟩)
  obtain ⟨c, hc⟩ : ∃ c : Int, c = (m : Int) % 1000 + 1 := ⟨_, rfl⟩
  have HCC := Lib.hid (show 1 ≤ c ∧ c ≤ 1000 by omega)
  have HCE := Lib.hid hc
  clear hN hL kN kL hb2 b23 hc
  go_wp2_with fail
  rw [← hw3, ← hb3]
  clear hw3 hb3
  go_loopw [4] (fun i wr => ∃ k : Nat, k ≤ 8 ∧ i = .int .i64 k ∧ Hid (wr.heap[gL]? = some (.cells ((lsI c k).flatMap cLk).toArray 45 (0, 0)) ∧ w3.grownBy wr (some gL))) (fun i _ => 8 - (intOf i).toNat)
  case atStart => exact ⟨0, Nat.zero_le _, rfl, Lib.hid ⟨KL.out, grown_refl _ _⟩⟩
  case round =>
    obtain ⟨k, hk, rfl, hT⟩ := hrel
    have K3r := Lib.hid ((hT.out.2.block b3 (Array.getElem?_eq_some_iff.1 K3.out).1 (fun e => by have := HZ.out; have := Option.some.inj e; omega)).trans K3.out)
    have m1 : wr.cell? ⟨b3, 1, none⟩ = some (.slice (some ⟨gL, 0, none⟩) 8 8) := by rw [cell_of_row wr _ 1 _ _ _ K3r.out]; rfl
    by_cases hlt : k < 8
    · have hwk1 : IntKind.i64.wrap ((k : Int) + 1) = (k : Int) + 1 := by rw [IntKind.wrap_i64]; omega
      have hk0 : (0 : Int) ≤ (k : Int) := by omega
      have hk7 : (k : Int) < 8 := by omega
      obtain ⟨w6, r6, k6, s6, n6, b6⟩ := run_store1 (k := k * 4 + 2) (ty := 3) (.int .i64 c) rfl rfl size3 hT.out.1 (lsI_len c hlt)
      rw [lsI_set c hlt] at k6
      rw [HCE.out] at r6
      have R6 := Lib.hid r6
      have F6 : Hid (w6.heap[gL]? = some (.cells ((lsI c (k + 1)).flatMap cLk).toArray 45 (0, 0)) ∧ w3.grownBy w6 (some gL)) := Lib.hid ⟨k6, gtr hT.out.2 (by have b := b6 0 (Nat.zero_le _); exact ⟨b.os, b.tape, b.output, b.size, fun j _ hne => n6 j (fun e => hne (by rw [e]))⟩)⟩
      have HK := Lib.hid hlt
      clear r6 k6 s6 n6 b6 hlt hk hT
      go_wp2_with (refine wpList_storeR (ty := 3) (x := .tmp 32) (y := .tmp 30) rfl rfl rfl (by go_simp) (by go_simp) R6.out ?_)
      go_roundw
      case rel => exact ⟨k + 1, by have := HK.out; omega, by go_num, F6⟩
      case measure => have := HK.out; simp [intOf]; omega
    · have hk7 : ¬ (k : Int) < 8 := by omega
      obtain rfl : k = 8 := by omega
      have kL8 : wr.heap[gL]? = some (.cells ((lsQ c).flatMap cLk).toArray 45 (0, 0)) := hT.out.1
      have kN8 : wr.heap[gN]? = some (.cells (nsQ.flatMap cNd).toArray 53 (0, 0)) := (hT.out.2.block gN (Array.getElem?_eq_some_iff.1 KN.out).1 (fun e => by have := HZ.out; have := Option.some.inj e; omega)).trans KN.out
      have BR := Lib.hid (show Below w.heap.size w wr from B3.out.grown hT.out.2 B3.out.size (fun k e => by cases e; exact HZ.out.2.1))
      have GR := Lib.hid (show GX wr (.slice (some ⟨gN, 0, none⟩) 4 4) (.slice (some ⟨gL, 0, none⟩) 8 8) (.slice none 0 0) nsQ (lsQ c) from ⟨Sl_heap cNd_len kN8, Sl_heap cLk_len' kL8, Sl.nil, sndQ HCC.out.1 HCC.out.2, by decide⟩)
      have TR := Lib.hid (HT.out.1.below BR.out HT.out.1.size)
      have L42 := Lib.hid (fun X (hb : Below wr.heap.size wr X) => run_loadL (w := X) (b := b3) (o := 0) (cs := [.slice (some ⟨gN, 0, none⟩) 4 4, .slice (some ⟨gL, 0, none⟩) 8 8, .slice none 0 0]) isAgg42t size42t rfl (AtL_heap (heap_keep hb K3r.out)))
      clear kL8 kN8 hT hk
      go_wp2_with (refine wpList_loadL rfl 42 (.tmp 3) rfl b3 0 (.agg #[.slice (some ⟨gN, 0, none⟩) 4 4, .slice (some ⟨gL, 0, none⟩) 8 8, .slice none 0 0]) rfl (L42.out _ (Below.refl _ _)) ?_)
      refine (aLink_ok c HCC.out.1 HCC.out.2 _ _ _ 4 2 (by right; right; right; rfl) (by right; left; rfl) wr (GR.out.below (Below.refl _ _)) (TR.out.below (Below.refl _ _) TR.out.size)).mono ?_
      rintro e w5 ⟨rfl, hb⟩
      have ZA5 := Lib.hid hb
      have Y5 := Lib.hid (bthen (Below.refl _ _) hb)
      clear hb
      rw [(ans1 HCC.out.1 HCC.out.2).1, (ans1 HCC.out.1 HCC.out.2).2, lo8]
      go_wp2_with (refine wpList_loadL rfl 42 (.tmp 3) rfl b3 0 (.agg #[.slice (some ⟨gN, 0, none⟩) 4 4, .slice (some ⟨gL, 0, none⟩) 8 8, .slice none 0 0]) rfl (L42.out _ (bthen Y5.out ((Below.refl _ _).alloc (Nat.le_refl _) _))) ?_)
      obtain ⟨x5, hx5⟩ : ∃ x, x = w5.alloc (Obj.cells #[.int .u64 8, .int .u64 0] 35) := ⟨_, rfl⟩
      obtain ⟨b55, hb55⟩ : ∃ b, b = w5.heap.size := ⟨_, rfl⟩
      have XA5 := Lib.hid (show Below w5.heap.size w5 x5 by rw [hx5]; exact (Below.refl _ _).alloc (Nat.le_refl _) _)
      have X5 := Lib.hid (show Below wr.heap.size wr x5 by rw [hx5]; exact bthen Y5.out ((Below.refl _ _).alloc (Nat.le_refl _) _))
      have V5 := Lib.hid (show x5.heap[b55]? = some (.cells #[.int .u64 8, .int .u64 0] 35 (0, 0)) by rw [hx5]; exact heap_at hb55)
      rw [← hx5, ← hb55]
      clear hx5 hb55
      refine (aNode_ok c HCC.out.1 HCC.out.2 _ _ _ 4 3 (by right; right; right; rfl) (by right; right; left; rfl) x5 (GR.out.below X5.out) (TR.out.below X5.out TR.out.size)).mono ?_
      rintro e w6 ⟨rfl, hb⟩
      have ZA6 := Lib.hid hb
      have Y6 := Lib.hid (bthen X5.out hb)
      clear hb
      rw [(ans2 HCC.out.1 HCC.out.2).1, (ans2 HCC.out.1 HCC.out.2).2, lo4]
      go_wp2_with (refine wpList_loadL rfl 42 (.tmp 3) rfl b3 0 (.agg #[.slice (some ⟨gN, 0, none⟩) 4 4, .slice (some ⟨gL, 0, none⟩) 8 8, .slice none 0 0]) rfl (L42.out _ (bthen Y6.out ((Below.refl _ _).alloc (Nat.le_refl _) _))) ?_)
      obtain ⟨x6, hx6⟩ : ∃ x, x = w6.alloc (Obj.cells #[.int .u64 4, .int .u64 0] 35) := ⟨_, rfl⟩
      obtain ⟨b56, hb56⟩ : ∃ b, b = w6.heap.size := ⟨_, rfl⟩
      have XA6 := Lib.hid (show Below w6.heap.size w6 x6 by rw [hx6]; exact (Below.refl _ _).alloc (Nat.le_refl _) _)
      have X6 := Lib.hid (show Below wr.heap.size wr x6 by rw [hx6]; exact bthen Y6.out ((Below.refl _ _).alloc (Nat.le_refl _) _))
      have V6 := Lib.hid (show x6.heap[b56]? = some (.cells #[.int .u64 4, .int .u64 0] 35 (0, 0)) by rw [hx6]; exact heap_at hb56)
      rw [← hx6, ← hb56]
      clear hx6 hb56
      refine (aLink_ok c HCC.out.1 HCC.out.2 _ _ _ 2 2 (by right; left; rfl) (by right; left; rfl) x6 (GR.out.below X6.out) (TR.out.below X6.out TR.out.size)).mono ?_
      rintro e w7 ⟨rfl, hb⟩
      have ZA7 := Lib.hid hb
      have Y7 := Lib.hid (bthen X6.out hb)
      clear hb
      rw [(ans3 HCC.out.1 HCC.out.2).1, (ans3 HCC.out.1 HCC.out.2).2, lo0]
      go_wp2_with (refine wpList_loadL rfl 42 (.tmp 3) rfl b3 0 (.agg #[.slice (some ⟨gN, 0, none⟩) 4 4, .slice (some ⟨gL, 0, none⟩) 8 8, .slice none 0 0]) rfl (L42.out _ (bthen Y7.out ((Below.refl _ _).alloc (Nat.le_refl _) _))) ?_)
      obtain ⟨x7, hx7⟩ : ∃ x, x = w7.alloc (Obj.cells #[.int .u64 0, .int .u64 0] 35) := ⟨_, rfl⟩
      obtain ⟨b57, hb57⟩ : ∃ b, b = w7.heap.size := ⟨_, rfl⟩
      have XA7 := Lib.hid (show Below w7.heap.size w7 x7 by rw [hx7]; exact (Below.refl _ _).alloc (Nat.le_refl _) _)
      have X7 := Lib.hid (show Below wr.heap.size wr x7 by rw [hx7]; exact bthen Y7.out ((Below.refl _ _).alloc (Nat.le_refl _) _))
      have V7 := Lib.hid (show x7.heap[b57]? = some (.cells #[.int .u64 0, .int .u64 0] 35 (0, 0)) by rw [hx7]; exact heap_at hb57)
      rw [← hx7, ← hb57]
      clear hx7 hb57
      refine (aLink_ok c HCC.out.1 HCC.out.2 _ _ _ 4 4 (by right; right; right; rfl) (by right; right; right; rfl) x7 (GR.out.below X7.out) (TR.out.below X7.out TR.out.size)).mono ?_
      rintro e w8 ⟨rfl, hb⟩
      have ZA8 := Lib.hid hb
      have Y8 := Lib.hid (bthen X7.out hb)
      clear hb
      rw [ans4m c, ans4, lo0]
      go_wp2_with (refine wpList_loadL rfl 42 (.tmp 3) rfl b3 0 (.agg #[.slice (some ⟨gN, 0, none⟩) 4 4, .slice (some ⟨gL, 0, none⟩) 8 8, .slice none 0 0]) rfl (L42.out _ (bthen Y8.out ((Below.refl _ _).alloc (Nat.le_refl _) _))) ?_)
      obtain ⟨x8, hx8⟩ : ∃ x, x = w8.alloc (Obj.cells #[.int .u64 0, .int .u64 0] 35) := ⟨_, rfl⟩
      obtain ⟨b58, hb58⟩ : ∃ b, b = w8.heap.size := ⟨_, rfl⟩
      have XA8 := Lib.hid (show Below w8.heap.size w8 x8 by rw [hx8]; exact (Below.refl _ _).alloc (Nat.le_refl _) _)
      have X8 := Lib.hid (show Below wr.heap.size wr x8 by rw [hx8]; exact bthen Y8.out ((Below.refl _ _).alloc (Nat.le_refl _) _))
      have V8 := Lib.hid (show x8.heap[b58]? = some (.cells #[.int .u64 0, .int .u64 0] 35 (0, 0)) by rw [hx8]; exact heap_at hb58)
      rw [← hx8, ← hb58]
      clear hx8 hb58
      refine (Cover_ok c HCC.out.1 HCC.out.2 _ _ _  x8 (GR.out.below X8.out) (TR.out.below X8.out TR.out.size)).mono ?_
      rintro e w9 ⟨rfl, hb⟩
      have ZA9 := Lib.hid hb
      have Y9 := Lib.hid (bthen X8.out hb)
      clear hb
      rw [allN_128, helN_128 HCC.out.1 HCC.out.2]
      have he8 : (Op.equalIn 10000 35 (.agg #[.int .u64 8, .int .u64 0]) (.agg #[.int .u64 8, .int .u64 0])).run Tryd.prog w9 = .ok true w9 := eqIM2 8 8 w9
      have he4 : (Op.equalIn 10000 35 (.agg #[.int .u64 4, .int .u64 0]) (.agg #[.int .u64 4, .int .u64 0])).run Tryd.prog w9 = .ok true w9 := eqIM2 4 4 w9
      have he0 : (Op.equalIn 10000 35 (.agg #[.int .u64 0, .int .u64 0]) (.agg #[.int .u64 0, .int .u64 0])).run Tryd.prog w9 = .ok true w9 := eqIM2 0 0 w9
      have k5 := heap_keep (bthen ZA6.out (bthen XA6.out (bthen ZA7.out (bthen XA7.out (bthen ZA8.out (bthen XA8.out ZA9.out)))))) V5.out
      have k6 := heap_keep (bthen ZA7.out (bthen XA7.out (bthen ZA8.out (bthen XA8.out ZA9.out)))) V6.out
      have k7 := heap_keep (bthen ZA8.out (bthen XA8.out ZA9.out)) V7.out
      have p50 : w9.cell? ⟨b55, 0, none⟩ = some (.int .u64 8) := by rw [cell_of_row w9 _ 0 _ _ _ k5]; rfl
      have p51 : w9.cell? ⟨b55, 1, none⟩ = some (.int .u64 0) := by rw [cell_of_row w9 _ 1 _ _ _ k5]; rfl
      have p60 : w9.cell? ⟨b56, 0, none⟩ = some (.int .u64 4) := by rw [cell_of_row w9 _ 0 _ _ _ k6]; rfl
      have p61 : w9.cell? ⟨b56, 1, none⟩ = some (.int .u64 0) := by rw [cell_of_row w9 _ 1 _ _ _ k6]; rfl
      have p70 : w9.cell? ⟨b57, 0, none⟩ = some (.int .u64 0) := by rw [cell_of_row w9 _ 0 _ _ _ k7]; rfl
      have p71 : w9.cell? ⟨b57, 1, none⟩ = some (.int .u64 0) := by rw [cell_of_row w9 _ 1 _ _ _ k7]; rfl
      clear k5 k6 k7
      go_wp2_with fail
      go_ret
      exact ⟨rfl, bthen BR.out Y9.out⟩

end Go.Proofs.YtjbglifmppilfaaDoor
