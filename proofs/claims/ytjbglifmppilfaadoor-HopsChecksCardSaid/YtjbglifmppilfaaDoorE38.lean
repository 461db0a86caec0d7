/- The law HopsChecks of any tree; conditions as stated. -/
import Derived.Test.YtjbglifmppilfaaDoorE37
import Derived.Test.YtjbglifmppilfaaDoorK17
import Derived.RangeFuncNested
import Derived.RangeFuncBound
import Derived.RangeFuncCalls
import Derived.RangeFuncLeaves
import Derived.Shelf.Abstract
import Derived.Shelf.RegionOpen
import Derived.WalkKit
import Derived.OwnWalkIn
import Derived.TacticsInMore
import Derived.LoopNIn
import Derived.LoopIn
namespace Go.Proofs.YtjbglifmppilfaaDoor
open Go.ChangeShapes Go.WideShapes Go.ChangeAt Go.RowKit
set_option linter.unusedVariables false
set_option linter.unusedSimpArgs false
attribute [local go_sem] Og.Opt Og.OpY Oper.semAt_some

/-- the answer's rows, which the law writes -/
structure YW (w4 : World) (b4 gD gP gH : Nat) (cells : Array Value) (w : World) : Prop where
  bel : Below w4.heap.size w4 w
  box : w.heap[b4]? = some (.cells cells 25 (0, 0))
  rD : ∃ a : List Value, w.heap[gD]? = some (.cells a.toArray 3 (0, 0)) ∧ 128 ≤ a.length
  rP : ∃ a : List Value, w.heap[gP]? = some (.cells a.toArray 35 (0, 0)) ∧ 256 ≤ a.length
  rH : ∃ a : List Value, w.heap[gH]? = some (.cells a.toArray 35 (0, 0)) ∧ 256 ≤ a.length
  lD : w4.heap.size ≤ gD
  lP : w4.heap.size ≤ gP
  lH : w4.heap.size ≤ gH
  ne : gP ≠ gH
section
variable {w4 w w' : World} {b4 gD gP gH : Nat} {cells : Array Value}
theorem kind_ne {w : World} {g g' : Nat} {a b : Array Value} {t t' : TypeId} (h : w.heap[g]? = some (.cells a t (0, 0))) (h' : w.heap[g']? = some (.cells b t' (0, 0))) (ht : t ≠ t') : g ≠ g' := fun e => by
  rw [e, h'] at h
  cases h
  exact ht rfl
theorem YW.below (h : YW w4 b4 gD gP gH cells w) (hb : Below w.heap.size w w') : YW w4 b4 gD gP gH cells w' := by
  obtain ⟨a, h1, h2⟩ := h.rD
  obtain ⟨b, h3, h4⟩ := h.rP
  obtain ⟨c, h5, h6⟩ := h.rH
  exact ⟨h.bel.trans (hb.mono h.bel.size), heap_keep hb h.box, ⟨a, heap_keep hb h1, h2⟩, ⟨b, heap_keep hb h3, h4⟩, ⟨c, heap_keep hb h5, h6⟩, h.lD, h.lP, h.lH, h.ne⟩
theorem YW.stD (h : YW w4 b4 gD gP gH cells w) {i : Nat} (hi : i < 128) (u : Int) : ∃ w', (storeVar 3 ⟨gD, i, none⟩ (.int .i64 u)).run Tryd.prog w = .ok () w' ∧ YW w4 b4 gD gP gH cells w' := by
  obtain ⟨a, h1, h2⟩ := h.rD
  obtain ⟨b, h3, h4⟩ := h.rP
  obtain ⟨c, h5, h6⟩ := h.rH
  obtain ⟨w', r, k, s, n, bb⟩ := run_store1 (k := i) (ty := 3) (.int .i64 u) rfl rfl size3 h1 (by omega)
  exact ⟨w', r, ⟨h.bel.trans (bb _ h.lD), (n b4 (kind_ne h.box h1 (by decide))).trans h.box, ⟨_, k, by simpa using h2⟩, ⟨b, (n gP (kind_ne h3 h1 (by decide))).trans h3, h4⟩, ⟨c, (n gH (kind_ne h5 h1 (by decide))).trans h5, h6⟩, h.lD, h.lP, h.lH, h.ne⟩⟩
theorem YW.stP (h : YW w4 b4 gD gP gH cells w) {i : Nat} (hi : i < 128) (u v : Int) : ∃ w', (storeVar 35 ⟨gP, i * 2, none⟩ (.agg #[.int .u64 u, .int .u64 v])).run Tryd.prog w = .ok () w' ∧ YW w4 b4 gD gP gH cells w' := by
  obtain ⟨a, h1, h2⟩ := h.rD
  obtain ⟨b, h3, h4⟩ := h.rP
  obtain ⟨c, h5, h6⟩ := h.rH
  obtain ⟨w', r, k, s, n, bb⟩ := run_storeB (k := i) (u, v) h3 (by omega)
  exact ⟨w', r, ⟨h.bel.trans (bb _ h.lP), (n b4 (kind_ne h.box h3 (by decide))).trans h.box, ⟨a, (n gD (kind_ne h1 h3 (by decide))).trans h1, h2⟩, ⟨_, k, by simp only [List.length_append, List.length_take, List.length_drop, List.length_cons, List.length_nil]; omega⟩, ⟨c, (n gH (Ne.symm h.ne)).trans h5, h6⟩, h.lD, h.lP, h.lH, h.ne⟩⟩
theorem YW.stH (h : YW w4 b4 gD gP gH cells w) {i : Nat} (hi : i < 128) (u v : Int) : ∃ w', (storeVar 35 ⟨gH, i * 2, none⟩ (.agg #[.int .u64 u, .int .u64 v])).run Tryd.prog w = .ok () w' ∧ YW w4 b4 gD gP gH cells w' := by
  obtain ⟨a, h1, h2⟩ := h.rD
  obtain ⟨b, h3, h4⟩ := h.rP
  obtain ⟨c, h5, h6⟩ := h.rH
  obtain ⟨w', r, k, s, n, bb⟩ := run_storeB (k := i) (u, v) h5 (by omega)
  exact ⟨w', r, ⟨h.bel.trans (bb _ h.lH), (n b4 (kind_ne h.box h5 (by decide))).trans h.box, ⟨a, (n gD (kind_ne h1 h5 (by decide))).trans h1, h2⟩, ⟨b, (n gP h.ne).trans h3, h4⟩, ⟨_, k, by simp only [List.length_append, List.length_take, List.length_drop, List.length_cons, List.length_nil]; omega⟩, h.lD, h.lP, h.lH, h.ne⟩⟩
theorem YW.cel (h : YW w4 b4 gD gP gH cells w) (k : Nat) (v : Value) (hv : cells[k]? = some v) : w.cell? ⟨b4, k, none⟩ = some v := by
  rw [cell_of_row w _ k _ _ _ h.box, hv]
end
theorem TV_zero (w : World) : TV w (.agg #[.int .i64 0, .slice none 0 0, .slice none 0 0, .slice none 0 0]) 0 [] [] [] := ⟨⟨_, _, _, rfl, Sl.nil, Sl.nil, Sl.nil⟩, fun h hh => (by cases hh), fun h hh => (by cases hh), by simp, by simp, by simp⟩
theorem TV_FT {w : World} {z a : Nat} {ds : List Int} {ps hs : List Nat} {v : Value} (h : FT z a ds ps hs v w) (l1 : ds.length = 128) (l2 : ps.length = 128) (l3 : hs.length = 128) (pb : allM ps) (hb : allM hs) : TV w v (a : Int) ds ps hs := by
  obtain ⟨vD, vP, gH, rfl, oD, oP, hg, kH, hne⟩ := h
  refine ⟨⟨vD, vP, _, rfl, (Sl_of_row cI_len (by decide) oD l1).mono (Nat.zero_le _), (Sl_of_row cM_len (by decide) oP l2).mono (Nat.zero_le _), ⟨some ⟨gH, 0, none⟩, 128, by rw [l3], fun i x hx => ⟨gH, 0, rfl, AtL.sub (n := 2) (i * 2) (AtL_heap kH) (flat_tk cM_len hx)⟩, fun e => (by cases e), fun a _ => Nat.zero_le _, by omega⟩⟩, pb, hb, by omega, by omega, by omega⟩
theorem TV_own {w : World} {B : Nat} {r : Int} {ds : List Int} {ps hs : List Nat} {x : Value} {w0 : World} (X : TV w0 x r ds ps hs) {vD vP vH : Value} (h1 : w.ownsRow B 3 1 vD ds.length (ds.flatMap cI)) (h2 : w.ownsRow B 35 2 vP ps.length (ps.flatMap cM)) (h3 : w.ownsRow B 35 2 vH hs.length (hs.flatMap cM)) : TV w (.agg #[.int .i64 r, vD, vP, vH]) r ds ps hs :=
  ⟨⟨vD, vP, vH, rfl, (Sl_of_row cI_len (by decide) h1 rfl).mono (Nat.zero_le _), (Sl_of_row cM_len (by decide) h2 rfl).mono (Nat.zero_le _), (Sl_of_row cM_len (by decide) h3 rfl).mono (Nat.zero_le _)⟩, X.pb, X.hb, X.dn, X.pn, X.hn⟩
theorem own_blk {w : World} {B ty m n : Nat} {v : Value} {xs : List Value} (h : w.ownsRow B ty m v n xs) (h0 : 0 < n) : ∃ g cap, ∃ a : List Value, v = .slice (some ⟨g, 0, none⟩) n cap ∧ B ≤ g ∧ w.heap[g]? = some (.cells a.toArray ty (0, 0)) ∧ n * m ≤ a.length := by
  rcases h.2 with ⟨_, e⟩ | ⟨g, cap, cur, hv, hb, hk, h1, h2, h3, h4⟩
  · omega
  · exact ⟨g, cap, cur.toList, hv, hb, hk, by rw [Array.length_toList, h3]; exact Nat.mul_le_mul_right m h1⟩

set_option maxRecDepth 100000 in
set_option maxHeartbeats 16000000 in
theorem law3_bad (w : World) (x : Value) (r : Int) (ds : List Int) (ps hs : List Nat) (X : TV w x r ds ps hs) (tb : Tab w) (g : ¬ goodT r ds ps hs) :
    Calls Tryd.prog 3 #[x] w fun e w' => e = .returned (.bool true) ∧ Below w.heap.size w w' := by
  obtain ⟨_, _, _, rfl, ⟨A, c, rfl, -⟩, ⟨B, d, rfl, -⟩, ⟨C, f, rfl, -⟩⟩ := X.e
  obtain ⟨n, hn⟩ : ∃ n, n = ds.length := ⟨_, rfl⟩
  obtain ⟨m, hm⟩ : ∃ n, n = ps.length := ⟨_, rfl⟩
  obtain ⟨k, hk⟩ : ∃ n, n = hs.length := ⟨_, rfl⟩
  rw [← hn, ← hm, ← hk] at X ⊢
  have HX := Lib.hid X
  have HT := Lib.hid tb
  have HG := Lib.hid g
  have HN := Lib.hid (And.intro hn (And.intro hm hk))
  clear X tb g hn hm hk
  obtain ⟨W, hW⟩ : ∃ W, W = w.alloc (Obj.cells #[.int .i64 r, .slice A n c, .slice B m d, .slice C k f] 25) := ⟨_, rfl⟩
  obtain ⟨z, hz⟩ : ∃ z, z = w.heap.size := ⟨_, rfl⟩
  have BW := Lib.hid (show Below w.heap.size w W by rw [hW]; exact (Below.refl _ _).alloc (Nat.le_refl _) _)
  have K1 := Lib.hid (show W.heap[z]? = some (.cells #[.int .i64 r, .slice A n c, .slice B m d, .slice C k f] 25 (0, 0)) by rw [hW]; exact heap_at hz)
  have AW := Lib.hid (awake_ok W (HT.out.below BW.out HT.out.size))
  go_enter Tryd.func3, Tryd.ntmps3
  go_wp2_with fail
  rw [← hW, ← hz]
  have HZ := Lib.hid (And.intro hz (show W.heap.size = z + 1 by rw [hW, hz]; simp))
  clear hW hz
  refine AW.out.mono ?_
  rintro e w2 ⟨rfl, hb2⟩
  have B2 := Lib.hid (bthen BW.out hb2)
  have K12 := Lib.hid (heap_keep hb2 K1.out)
  have L2 := Lib.hid (run_loadL (cs := [.int .i64 r, .slice A n c, .slice B m d, .slice C k f]) isAgg25t size25t rfl (AtL_heap K12.out))
  have CP := Lib.hid (copy_ok w2 _ r ds ps hs (HX.out.below B2.out))
  clear hb2 AW
  go_wp2_with (refine wpList_loadL rfl 25 (.tmp 1) rfl z 0 (.agg #[.int .i64 r, .slice A n c, .slice B m d, .slice C k f]) rfl L2.out ?_)
  refine CP.out.mono ?_
  rintro e w3 ⟨⟨_, _, _, rfl, o1, o2, o3⟩, hb3⟩
  have TO := TV_own HX.out o1 o2 o3
  obtain ⟨A0, c0, rfl⟩ := own_small o1
  obtain ⟨A1, c1, rfl⟩ := own_small o2
  obtain ⟨A2, c2, rfl⟩ := own_small o3
  rw [← HN.out.1, ← HN.out.2.1, ← HN.out.2.2] at TO ⊢
  have TO3 := Lib.hid TO
  have B3 := Lib.hid (bthen B2.out hb3)
  have K13 := Lib.hid (heap_keep hb3 K12.out)
  clear o1 o2 o3 TO hb3 CP L2 K12 B2
  go_wp2_with (first | (refine wpList_storeN rfl 25 (.tmp 3) (.tmp 12) rfl rfl w3.heap.size #[.int .i64 r, .slice A0 n c0, .slice A1 m c1, .slice A2 k c2] rfl rfl 25 _ (heap_at rfl) info99s rfl (by simp [Value.oneCell']) ?_; intro w4 hz hb hn hs; have K34 := Lib.hid hz; have B34 := Lib.hid (show Below w3.heap.size w3 w4 from ((Below.refl _ _).alloc (Nat.le_refl _) _).trans (hb _ (Nat.le_refl _))); clear hz hb hn hs; obtain ⟨b3, hb3⟩ : ∃ b, b = w3.heap.size := ⟨_, rfl⟩; rw [← hb3] at K34 ⊢; clear hb3; have B4 := Lib.hid (bthen B3.out B34.out); have K14 := Lib.hid (heap_keep B34.out K13.out); have TO4 := Lib.hid (TO3.out.below B34.out); have TX4 := Lib.hid (HX.out.below B4.out); have TB4 := Lib.hid (HT.out.below B4.out HT.out.size); have L4 := Lib.hid (run_loadL (cs := [.int .i64 r, .slice A0 n c0, .slice A1 m c1, .slice A2 k c2]) isAgg25t size25t rfl (AtL_heap K34.out)); have FI := Lib.hid (hFill_bad w4 _ r ds ps hs TO4.out TB4.out HG.out); clear TO3 K13 B3 B34) | (refine wpList_loadL rfl 25 (.tmp 3) rfl b3 0 (.agg #[.int .i64 r, .slice A0 n c0, .slice A1 m c1, .slice A2 k c2]) rfl L4.out ?_))
  refine FI.out.mono ?_
  rintro e w5 ⟨rfl, hb5⟩
  have B5 := Lib.hid hb5
  clear hb5 FI L4
  go_wp2_with (first | (refine wpList_storeN rfl 25 (.tmp 4) (.tmp 16) rfl rfl w5.heap.size #[.int .i64 0, .slice none 0 0, .slice none 0 0, .slice none 0 0] rfl rfl 25 _ (heap_at rfl) info99s rfl (by simp [Value.oneCell']) ?_; intro w6 hz hb hn hs; have K46 := Lib.hid hz; have B56 := Lib.hid (show Below w5.heap.size w5 w6 from ((Below.refl _ _).alloc (Nat.le_refl _) _).trans (hb _ (Nat.le_refl _))); clear hz hb hn hs; obtain ⟨b4, hb4⟩ : ∃ b, b = w5.heap.size := ⟨_, rfl⟩; rw [← hb4] at K46 ⊢; clear hb4; have C6 := Lib.hid (bthen B5.out B56.out); have K16 := Lib.hid (heap_keep C6.out K14.out); have K36 := Lib.hid (heap_keep C6.out K34.out); have TX6 := Lib.hid (TX4.out.below C6.out); have L6 := Lib.hid (run_loadL (cs := [.int .i64 r, .slice A n c, .slice B m d, .slice C k f]) isAgg25t size25t rfl (AtL_heap K16.out)); have FI := Lib.hid (rFill_bad w6 _ r ds ps hs TX6.out HG.out); clear B5 B56) | (refine wpList_loadL rfl 25 (.tmp 1) rfl z 0 (.agg #[.int .i64 r, .slice A n c, .slice B m d, .slice C k f]) rfl L6.out ?_))
  refine FI.out.mono ?_
  rintro e w7 ⟨rfl, hb7⟩
  have B7 := Lib.hid hb7
  clear hb7 FI L6
  go_wp2_with (refine wpList_storeN rfl 25 (.tmp 6) (.tmp 21) rfl rfl w7.heap.size #[.int .i64 0, .slice none 0 0, .slice none 0 0, .slice none 0 0] rfl rfl 25 _ (heap_at rfl) info99s rfl (by simp [Value.oneCell']) ?_; intro w8 hz hb hn hs; have K68 := Lib.hid hz; have B78 := Lib.hid (show Below w7.heap.size w7 w8 from ((Below.refl _ _).alloc (Nat.le_refl _) _).trans (hb _ (Nat.le_refl _))); clear hz hb hn hs)
  obtain ⟨b6, hb6⟩ : ∃ b, b = w7.heap.size := ⟨_, rfl⟩
  rw [← hb6] at K68 ⊢
  clear hb6
  have C8 := Lib.hid (bthen B7.out B78.out)
  have D8 := Lib.hid (bthen C6.out C8.out)
  have K18 := Lib.hid (heap_keep C8.out K16.out)
  have K38 := Lib.hid (heap_keep C8.out K36.out)
  have K48 := Lib.hid (heap_keep C8.out K46.out)
  have TX8 := Lib.hid (TX6.out.below C8.out)
  have TO8 := Lib.hid (TO4.out.below D8.out)
  have TB8 := Lib.hid (TB4.out.below D8.out TB4.out.size)
  have CK := Lib.hid (fun w9 (hb : Below w8.heap.size w8 w9) => hCheck_ok w9 _ r ds ps hs (TO8.out.below hb) (TB8.out.below hb TB8.out.size))
  have RK := Lib.hid (fun w9 (hb : Below w8.heap.size w8 w9) => rChk_ok w9 _ r ds ps hs (TX8.out.below hb))
  rw [codeT1 HG.out] at CK RK
  have SM := Lib.hid (fun w9 (hb : Below w8.heap.size w8 w9) => Same_ok w9 _ _ 0 0 [] [] [] [] [] [] (TV_zero w9) (TV_zero w9))
  simp only [decide_true, Bool.and_true, Bool.and_self] at SM
  have HC := Lib.hid (show ∀ w9, Below w8.heap.size w8 w9 → w9.cell? ⟨z, 0, none⟩ = some (.int .i64 r) ∧ w9.cell? ⟨z, 1, none⟩ = some (.slice A n c) ∧ w9.cell? ⟨z, 2, none⟩ = some (.slice B m d) ∧ w9.cell? ⟨z, 3, none⟩ = some (.slice C k f) ∧ w9.cell? ⟨b3, 0, none⟩ = some (.int .i64 r) ∧ w9.cell? ⟨b3, 1, none⟩ = some (.slice A0 n c0) ∧ w9.cell? ⟨b3, 2, none⟩ = some (.slice A1 m c1) ∧ w9.cell? ⟨b3, 3, none⟩ = some (.slice A2 k c2) ∧ w9.cell? ⟨b4, 0, none⟩ = some (.int .i64 0) ∧ w9.cell? ⟨b4, 1, none⟩ = some (.slice none 0 0) ∧ w9.cell? ⟨b4, 2, none⟩ = some (.slice none 0 0) ∧ w9.cell? ⟨b4, 3, none⟩ = some (.slice none 0 0) ∧ w9.cell? ⟨b6, 0, none⟩ = some (.int .i64 0) ∧ w9.cell? ⟨b6, 1, none⟩ = some (.slice none 0 0) ∧ w9.cell? ⟨b6, 2, none⟩ = some (.slice none 0 0) ∧ w9.cell? ⟨b6, 3, none⟩ = some (.slice none 0 0) from fun w9 hb => ⟨by rw [cell_of_row w9 _ 0 _ _ _ (heap_keep hb K18.out)]; rfl, by rw [cell_of_row w9 _ 1 _ _ _ (heap_keep hb K18.out)]; rfl, by rw [cell_of_row w9 _ 2 _ _ _ (heap_keep hb K18.out)]; rfl, by rw [cell_of_row w9 _ 3 _ _ _ (heap_keep hb K18.out)]; rfl, by rw [cell_of_row w9 _ 0 _ _ _ (heap_keep hb K38.out)]; rfl, by rw [cell_of_row w9 _ 1 _ _ _ (heap_keep hb K38.out)]; rfl, by rw [cell_of_row w9 _ 2 _ _ _ (heap_keep hb K38.out)]; rfl, by rw [cell_of_row w9 _ 3 _ _ _ (heap_keep hb K38.out)]; rfl, by rw [cell_of_row w9 _ 0 _ _ _ (heap_keep hb K48.out)]; rfl, by rw [cell_of_row w9 _ 1 _ _ _ (heap_keep hb K48.out)]; rfl, by rw [cell_of_row w9 _ 2 _ _ _ (heap_keep hb K48.out)]; rfl, by rw [cell_of_row w9 _ 3 _ _ _ (heap_keep hb K48.out)]; rfl, by rw [cell_of_row w9 _ 0 _ _ _ (heap_keep hb K68.out)]; rfl, by rw [cell_of_row w9 _ 1 _ _ _ (heap_keep hb K68.out)]; rfl, by rw [cell_of_row w9 _ 2 _ _ _ (heap_keep hb K68.out)]; rfl, by rw [cell_of_row w9 _ 3 _ _ _ (heap_keep hb K68.out)]; rfl⟩)
  clear K18 K38 K68 K16 K36 K46 C8 B7 B78
  go_wp2_with fail
  refine Og.walk_lit [[],[0],[],[2,1,0],[1,3,0,2],[4,3,1,0,2],[5,4,3,1,0,2],[5,4,3,1,0,2],[6,7,5,4,3,1,0,2],[8,5,6,7,4,3,1,0,2],[5,9,4,3,1,0,2,8,6,7],[10,8,5,9,4,3,1,0,2,6,7],[11,10,8,5,9,4,3,1,0,2,6,7],[11,10,8,5,9,4,3,1,0,2,6,7],[12,13,11,10,8,5,9,4,3,1,0,2,6,7],[11,14,10,8,5,9,4,3,1,0,2,6,7,12,13]] (fun w9 => Below w8.heap.size w8 w9) (fun w1 w2 => Below w1.heap.size w1 w2) (by kernel_rfl) (by kernel_rfl) (bdrew) ?_
  refine Og.step_pure (fun _ => Below.refl _ _) ?_; apply Exists.intro; refine And.intro ?_ ?_; focus (intro vs w9 hC; have hm := HC.out w9 hC; simp only [Og.KS, Og.K0, Og.Is, List.getD_cons_zero, List.getD_cons_succ, List.getD_nil, List.contains_cons, List.contains_nil, Nat.reduceAdd, Nat.reduceBEq, Bool.or_false, Bool.false_or, Bool.or_true, Bool.true_or, Bool.false_eq_true, false_implies, true_implies, true_and, and_true, forall_const]; intros; go_simp; rfl)
  refine Og.step_one ?_; apply Exists.intro; refine And.intro ?_ ?_; focus (intro vs w9 hC; simp only [Og.KS, Og.K0, Og.Is, List.getD_cons_zero, List.getD_cons_succ, List.getD_nil, List.contains_cons, List.contains_nil, Nat.reduceAdd, Nat.reduceBEq, Bool.or_false, Bool.false_or, Bool.or_true, Bool.true_or, Bool.false_eq_true, false_implies, true_implies, true_and, and_true, forall_const]; intros; go_simp; with_reducible refine (CK.out w9 hC).mono ?_; rintro e w10 ⟨rfl, hb⟩; exact Og.RetV.mk ⟨bthen hC hb, hb, rfl⟩)
  refine Og.step_pure (fun _ => Below.refl _ _) ?_; apply Exists.intro; refine And.intro ?_ ?_; focus (intro vs w9 hC; have hm := HC.out w9 hC; simp only [Og.KS, Og.K0, Og.Is, List.getD_cons_zero, List.getD_cons_succ, List.getD_nil, List.contains_cons, List.contains_nil, Nat.reduceAdd, Nat.reduceBEq, Bool.or_false, Bool.false_or, Bool.or_true, Bool.true_or, Bool.false_eq_true, false_implies, true_implies, true_and, and_true, forall_const]; intros; go_simp; rfl)
  refine Og.step_one ?_; apply Exists.intro; refine And.intro ?_ ?_; focus (intro vs w9 hC; simp only [Og.KS, Og.K0, Og.Is, List.getD_cons_zero, List.getD_cons_succ, List.getD_nil, List.contains_cons, List.contains_nil, Nat.reduceAdd, Nat.reduceBEq, Bool.or_false, Bool.false_or, Bool.or_true, Bool.true_or, Bool.false_eq_true, false_implies, true_implies, true_and, and_true, forall_const]; intros; go_simp; with_reducible refine (RK.out w9 hC).mono ?_; rintro e w10 ⟨rfl, hb⟩; exact Og.RetV.mk ⟨bthen hC hb, hb, rfl⟩)
  iterate 2 (refine Og.step_pure (fun _ => Below.refl _ _) ?_; apply Exists.intro; refine And.intro ?_ ?_; focus (intro vs w9 hC; simp only [Og.KS, Og.K0, Og.Is, List.getD_cons_zero, List.getD_cons_succ, List.getD_nil, List.contains_cons, List.contains_nil, Nat.reduceAdd, Nat.reduceBEq, Bool.or_false, Bool.false_or, Bool.or_true, Bool.true_or, Bool.false_eq_true, false_implies, true_implies, true_and, and_true, forall_const]; intros; go_simp; rfl))
  iterate 2 (refine Og.step_pure (fun _ => Below.refl _ _) ?_; apply Exists.intro; refine And.intro ?_ ?_; focus (intro vs w9 hC; have hm := HC.out w9 hC; simp only [Og.KS, Og.K0, Og.Is, List.getD_cons_zero, List.getD_cons_succ, List.getD_nil, List.contains_cons, List.contains_nil, Nat.reduceAdd, Nat.reduceBEq, Bool.or_false, Bool.false_or, Bool.or_true, Bool.true_or, Bool.false_eq_true, false_implies, true_implies, true_and, and_true, forall_const]; intros; go_simp; rfl))
  refine Og.step_one ?_; apply Exists.intro; refine And.intro ?_ ?_; focus (intro vs w9 hC; simp only [Og.KS, Og.K0, Og.Is, List.getD_cons_zero, List.getD_cons_succ, List.getD_nil, List.contains_cons, List.contains_nil, Nat.reduceAdd, Nat.reduceBEq, Bool.or_false, Bool.false_or, Bool.or_true, Bool.true_or, Bool.false_eq_true, false_implies, true_implies, true_and, and_true, forall_const]; intros; go_simp; with_reducible refine (SM.out w9 hC).mono ?_; rintro e w10 ⟨rfl, hb⟩; exact Og.RetV.mk ⟨bthen hC hb, hb, rfl⟩)
  iterate 7 (refine Og.step_pure (fun _ => Below.refl _ _) ?_; apply Exists.intro; refine And.intro ?_ ?_; focus (intro vs w9 hC; simp only [Og.KS, Og.K0, Og.Is, List.getD_cons_zero, List.getD_cons_succ, List.getD_nil, List.contains_cons, List.contains_nil, Nat.reduceAdd, Nat.reduceBEq, Bool.or_false, Bool.false_or, Bool.or_true, Bool.true_or, Bool.false_eq_true, false_implies, true_implies, true_and, and_true, forall_const]; intros; go_simp; rfl))
  intro vs w9 hC hk
  simp only [Og.KS, Og.K0, Og.Is, List.getD_cons_zero, List.getD_cons_succ, List.getD_nil, List.contains_cons, List.contains_nil, Nat.reduceAdd, Nat.reduceBEq, Bool.or_false, Bool.false_or, Bool.or_true, Bool.true_or, Bool.false_eq_true, false_implies, true_implies, true_and, and_true, forall_const] at hk
  simp only [hk, Act.put, List.setIfInBounds_toArray, List.set_cons_zero, List.set_cons_succ]
  clear hk
  have hm := HC.out w9 hC
  clear CK RK SM HC
  have B9 := Lib.hid hC
  clear hC
  go_wp2_with fail
  go_loopw [8] (fun i wr => i = .int .i64 0 ∧ wr = w9) (fun i _ => 0)
  case atStart => exact ⟨rfl, rfl⟩
  case round =>
    obtain ⟨rfl, rfl⟩ := hrel
    have BE := Lib.hid (bthen B4.out (bthen D8.out B9.out))
    have K3E := Lib.hid (heap_keep (bthen D8.out B9.out) K34.out)
    have K1E := Lib.hid (heap_keep (bthen D8.out B9.out) K14.out)
    have TOE := Lib.hid (TO8.out.below B9.out)
    have TXE := Lib.hid (TX8.out.below B9.out)
    have L3 := Lib.hid (run_loadL (cs := [.int .i64 r, .slice A0 n c0, .slice A1 m c1, .slice A2 k c2]) isAgg25t size25t rfl (AtL_heap K3E.out))
    have L1 := Lib.hid (run_loadL (cs := [.int .i64 r, .slice A n c, .slice B m d, .slice C k f]) isAgg25t size25t rfl (AtL_heap K1E.out))
    have SF := Lib.hid (Same_ok wr _ _ r r ds ds ps hs ps hs TOE.out TXE.out)
    simp only [decide_true, Bool.and_true, Bool.and_self] at SF
    go_wp2_with (first | (refine wpList_loadL rfl 25 (.tmp 3) rfl b3 0 (.agg #[.int .i64 r, .slice A0 n c0, .slice A1 m c1, .slice A2 k c2]) rfl L3.out ?_) | (refine wpList_loadL rfl 25 (.tmp 1) rfl z 0 (.agg #[.int .i64 r, .slice A n c, .slice B m d, .slice C k f]) rfl L1.out ?_))
    refine SF.out.mono ?_
    rintro e wE ⟨rfl, hbE⟩
    have BE' := Lib.hid (bthen BE.out hbE)
    clear hbE SF L1 L3
    go_wp2_with fail
    go_ret
    exact ⟨rfl, BE'.out⟩

set_option maxRecDepth 100000 in
set_option maxHeartbeats 16000000 in
theorem law3_good (w : World) (x : Value) (a : Nat) (ds : List Int) (ps hs : List Nat) (X : TV w x (a : Int) ds ps hs) (tb : Tab w) (g : goodT (a : Int) ds ps hs) :
    Calls Tryd.prog 3 #[x] w fun e w' => e = .returned (.bool true) ∧ Below w.heap.size w w' := by
  obtain ⟨_, _, _, rfl, ⟨A, c, rfl, -⟩, ⟨B, d, rfl, -⟩, ⟨C, f, rfl, -⟩⟩ := X.e
  obtain ⟨n, hn⟩ : ∃ n, n = ds.length := ⟨_, rfl⟩
  obtain ⟨m, hm⟩ : ∃ n, n = ps.length := ⟨_, rfl⟩
  obtain ⟨k, hk⟩ : ∃ n, n = hs.length := ⟨_, rfl⟩
  rw [← hn, ← hm, ← hk] at X ⊢
  have HX := Lib.hid X
  have HT := Lib.hid tb
  have HG := Lib.hid g
  have HN := Lib.hid (And.intro hn (And.intro hm hk))
  clear X tb g hn hm hk
  obtain ⟨W, hW⟩ : ∃ W, W = w.alloc (Obj.cells #[.int .i64 (a : Int), .slice A n c, .slice B m d, .slice C k f] 25) := ⟨_, rfl⟩
  obtain ⟨z, hz⟩ : ∃ z, z = w.heap.size := ⟨_, rfl⟩
  have BW := Lib.hid (show Below w.heap.size w W by rw [hW]; exact (Below.refl _ _).alloc (Nat.le_refl _) _)
  have K1 := Lib.hid (show W.heap[z]? = some (.cells #[.int .i64 (a : Int), .slice A n c, .slice B m d, .slice C k f] 25 (0, 0)) by rw [hW]; exact heap_at hz)
  have AW := Lib.hid (awake_ok W (HT.out.below BW.out HT.out.size))
  go_enter Tryd.func3, Tryd.ntmps3
  go_wp2_with fail
  rw [← hW, ← hz]
  have HZ := Lib.hid (And.intro hz (show W.heap.size = z + 1 by rw [hW, hz]; simp))
  clear hW hz
  refine AW.out.mono ?_
  rintro e w2 ⟨rfl, hb2⟩
  have B2 := Lib.hid (bthen BW.out hb2)
  have K12 := Lib.hid (heap_keep hb2 K1.out)
  have L2 := Lib.hid (run_loadL (cs := [.int .i64 (a : Int), .slice A n c, .slice B m d, .slice C k f]) isAgg25t size25t rfl (AtL_heap K12.out))
  have CP := Lib.hid (copy_ok w2 _ (a : Int) ds ps hs (HX.out.below B2.out))
  clear hb2 AW
  go_wp2_with (refine wpList_loadL rfl 25 (.tmp 1) rfl z 0 (.agg #[.int .i64 (a : Int), .slice A n c, .slice B m d, .slice C k f]) rfl L2.out ?_)
  refine CP.out.mono ?_
  rintro e w3 ⟨⟨_, _, _, rfl, o1, o2, o3⟩, hb3⟩
  have TO := TV_own HX.out o1 o2 o3
  obtain ⟨A0, c0, rfl⟩ := own_small o1
  obtain ⟨A1, c1, rfl⟩ := own_small o2
  obtain ⟨A2, c2, rfl⟩ := own_small o3
  rw [← HN.out.1, ← HN.out.2.1, ← HN.out.2.2] at TO ⊢
  have TO3 := Lib.hid TO
  have B3 := Lib.hid (bthen B2.out hb3)
  have K13 := Lib.hid (heap_keep hb3 K12.out)
  clear o1 o2 o3 TO hb3 CP L2 K12 B2
  go_wp2_with (first | (refine wpList_storeN rfl 25 (.tmp 3) (.tmp 12) rfl rfl w3.heap.size #[.int .i64 (a : Int), .slice A0 n c0, .slice A1 m c1, .slice A2 k c2] rfl rfl 25 _ (heap_at rfl) info99s rfl (by simp [Value.oneCell']) ?_; intro w4 hz hb hn hs; have K34 := Lib.hid hz; have B34 := Lib.hid (show Below w3.heap.size w3 w4 from ((Below.refl _ _).alloc (Nat.le_refl _) _).trans (hb _ (Nat.le_refl _))); clear hz hb hn hs; obtain ⟨b3, hb3⟩ : ∃ b, b = w3.heap.size := ⟨_, rfl⟩; rw [← hb3] at K34 ⊢; clear hb3; have B4 := Lib.hid (bthen B3.out B34.out); have K14 := Lib.hid (heap_keep B34.out K13.out); have TO4 := Lib.hid (TO3.out.below B34.out); have TX4 := Lib.hid (HX.out.below B4.out); have TB4 := Lib.hid (HT.out.below B4.out HT.out.size); have L4 := Lib.hid (run_loadL (cs := [.int .i64 (a : Int), .slice A0 n c0, .slice A1 m c1, .slice A2 k c2]) isAgg25t size25t rfl (AtL_heap K34.out)); have FI := Lib.hid (hFill_good w4 _ a ds ps hs TO4.out TB4.out HG.out); clear TO3 K13 B3 B34) | (refine wpList_loadL rfl 25 (.tmp 3) rfl b3 0 (.agg #[.int .i64 (a : Int), .slice A0 n c0, .slice A1 m c1, .slice A2 k c2]) rfl L4.out ?_))
  refine FI.out.mono ?_
  rintro e w5 ⟨⟨v, rfl, ys, hF, hys, hup⟩, hb5⟩
  have FY := Lib.hid (And.intro hF (And.intro hys hup))
  obtain ⟨vD, vP, gH, rfl, oD, oP, hgH, kH, hne⟩ := hF
  obtain ⟨AD, cD, rfl⟩ := own_small oD
  obtain ⟨AP, cP, rfl⟩ := own_small oP
  clear oD oP hgH kH hne hys hup
  have B5 := Lib.hid hb5
  clear hb5 FI L4
  go_wp2_with (first | (refine wpList_storeN rfl 25 (.tmp 4) (.tmp 16) rfl rfl w5.heap.size #[.int .i64 (a : Int), .slice AD 128 cD, .slice AP 128 cP, .slice (some ⟨gH, 0, none⟩) 128 128] rfl rfl 25 _ (heap_at rfl) info99s rfl (by simp [Value.oneCell']) ?_; intro w6 hz hb hn hs; have K46 := Lib.hid hz; have B56 := Lib.hid (show Below w5.heap.size w5 w6 from ((Below.refl _ _).alloc (Nat.le_refl _) _).trans (hb _ (Nat.le_refl _))); clear hz hb hn hs; obtain ⟨b4, hb4⟩ : ∃ b, b = w5.heap.size := ⟨_, rfl⟩; rw [← hb4] at K46 ⊢; clear hb4; have C6 := Lib.hid (bthen B5.out B56.out); have K16 := Lib.hid (heap_keep C6.out K14.out); have K36 := Lib.hid (heap_keep C6.out K34.out); have TX6 := Lib.hid (TX4.out.below C6.out); have L6 := Lib.hid (run_loadL (cs := [.int .i64 (a : Int), .slice A n c, .slice B m d, .slice C k f]) isAgg25t size25t rfl (AtL_heap K16.out)); have FY6 := Lib.hid (And.intro (FY.out.1.below B56.out) FY.out.2); have FI := Lib.hid (rFill_good w6 _ a ds ps hs TX6.out HG.out); clear FY; clear B5 B56) | (refine wpList_loadL rfl 25 (.tmp 1) rfl z 0 (.agg #[.int .i64 (a : Int), .slice A n c, .slice B m d, .slice C k f]) rfl L6.out ?_))
  refine FI.out.mono ?_
  rintro e w7 ⟨⟨v, rfl, zs, hF, hzp, hzu⟩, hb7⟩
  have FZ := Lib.hid (And.intro hF (And.intro hzp hzu))
  obtain ⟨vD, vP, gK, rfl, oD, oP, hgH, kH, hne⟩ := hF
  obtain ⟨AE, cE, rfl⟩ := own_small oD
  obtain ⟨AQ, cQ, rfl⟩ := own_small oP
  clear oD oP hgH kH hne hzp hzu
  have B7 := Lib.hid hb7
  clear hb7 FI L6
  go_wp2_with (refine wpList_storeN rfl 25 (.tmp 6) (.tmp 21) rfl rfl w7.heap.size #[.int .i64 (a : Int), .slice AE 128 cE, .slice AQ 128 cQ, .slice (some ⟨gK, 0, none⟩) 128 128] rfl rfl 25 _ (heap_at rfl) info99s rfl (by simp [Value.oneCell']) ?_; intro w8 hz hb hn hs; have K68 := Lib.hid hz; have B78 := Lib.hid (show Below w7.heap.size w7 w8 from ((Below.refl _ _).alloc (Nat.le_refl _) _).trans (hb _ (Nat.le_refl _))); clear hz hb hn hs)
  obtain ⟨b6, hb6⟩ : ∃ b, b = w7.heap.size := ⟨_, rfl⟩
  rw [← hb6] at K68 ⊢
  clear hb6
  have C8 := Lib.hid (bthen B7.out B78.out)
  have D8 := Lib.hid (bthen C6.out C8.out)
  have K18 := Lib.hid (heap_keep C8.out K16.out)
  have K38 := Lib.hid (heap_keep C8.out K36.out)
  have K48 := Lib.hid (heap_keep C8.out K46.out)
  have TX8 := Lib.hid (TX6.out.below C8.out)
  have TO8 := Lib.hid (TO4.out.below D8.out)
  have TB8 := Lib.hid (TB4.out.below D8.out TB4.out.size)
  have FZ8 := Lib.hid (And.intro (FZ.out.1.below B78.out) FZ.out.2)
  have FY8 := Lib.hid (And.intro (FY6.out.1.below C8.out) FY6.out.2)
  have EQ : Hid (refFill a ps zs = fillV a ps ys) := Lib.hid (by
    obtain ⟨a', ea, ha, ok, nr, g0⟩ := good_facts HG.out
    obtain rfl : a = a' := by omega
    have hm := fun v => (FZ8.out.2.1.mem_iff (a := v)).trans mem_allX
    exact fill_same nr g0 (fun v => (kd_nn ok v)) FY8.out.2.1 FY8.out.2.2 ⟨(FZ8.out.2.1.nodup_iff).2 (allX_nodup ds 128), fun v hv => ((hm v).1 hv).1, pair_of_up FZ8.out.2.2⟩ (fun v hv => ((hm v).1 hv).2) (fun v h1 h2 => (hm v).2 ⟨h1, h2⟩))
  have AM : Hid (allM (fillV a ps ys)) := Lib.hid (by rw [← EQ.out]; exact refFill_all (fun v hv => (mem_allX.1 (FZ8.out.2.1.mem_iff.1 hv)).1))
  have TY8 := Lib.hid (TV_FT FY8.out.1 HG.out.1 HG.out.2.1 (fillV_len _ _ _) HX.out.pb AM.out)
  have TZ8 := Lib.hid (TV_FT FZ8.out.1 HG.out.1 HG.out.2.1 (by rw [EQ.out]; exact fillV_len _ _ _) HX.out.pb (by rw [EQ.out]; exact AM.out))
  rw [EQ.out] at TZ8
  have CK := Lib.hid (fun w9 (hb : Below w8.heap.size w8 w9) => hCheck_ok w9 _ (a : Int) ds ps hs (TO8.out.below hb) (TB8.out.below hb TB8.out.size))
  have RK := Lib.hid (fun w9 (hb : Below w8.heap.size w8 w9) => rChk_ok w9 _ (a : Int) ds ps hs (TX8.out.below hb))
  rw [codeT0 HG.out] at CK RK
  have SM := Lib.hid (fun w9 (hb : Below w8.heap.size w8 w9) => Same_ok w9 _ _ (a : Int) (a : Int) ds ds ps (fillV a ps ys) ps (fillV a ps ys) (TY8.out.below hb) (TZ8.out.below hb))
  simp only [decide_true, Bool.and_true, Bool.and_self] at SM
  have HC := Lib.hid (show ∀ w9, Below w8.heap.size w8 w9 → w9.cell? ⟨z, 0, none⟩ = some (.int .i64 (a : Int)) ∧ w9.cell? ⟨z, 1, none⟩ = some (.slice A n c) ∧ w9.cell? ⟨z, 2, none⟩ = some (.slice B m d) ∧ w9.cell? ⟨z, 3, none⟩ = some (.slice C k f) ∧ w9.cell? ⟨b3, 0, none⟩ = some (.int .i64 (a : Int)) ∧ w9.cell? ⟨b3, 1, none⟩ = some (.slice A0 n c0) ∧ w9.cell? ⟨b3, 2, none⟩ = some (.slice A1 m c1) ∧ w9.cell? ⟨b3, 3, none⟩ = some (.slice A2 k c2) ∧ w9.cell? ⟨b4, 0, none⟩ = some (.int .i64 (a : Int)) ∧ w9.cell? ⟨b4, 1, none⟩ = some (.slice AD 128 cD) ∧ w9.cell? ⟨b4, 2, none⟩ = some (.slice AP 128 cP) ∧ w9.cell? ⟨b4, 3, none⟩ = some (.slice (some ⟨gH, 0, none⟩) 128 128) ∧ w9.cell? ⟨b6, 0, none⟩ = some (.int .i64 (a : Int)) ∧ w9.cell? ⟨b6, 1, none⟩ = some (.slice AE 128 cE) ∧ w9.cell? ⟨b6, 2, none⟩ = some (.slice AQ 128 cQ) ∧ w9.cell? ⟨b6, 3, none⟩ = some (.slice (some ⟨gK, 0, none⟩) 128 128) from fun w9 hb => ⟨by rw [cell_of_row w9 _ 0 _ _ _ (heap_keep hb K18.out)]; rfl, by rw [cell_of_row w9 _ 1 _ _ _ (heap_keep hb K18.out)]; rfl, by rw [cell_of_row w9 _ 2 _ _ _ (heap_keep hb K18.out)]; rfl, by rw [cell_of_row w9 _ 3 _ _ _ (heap_keep hb K18.out)]; rfl, by rw [cell_of_row w9 _ 0 _ _ _ (heap_keep hb K38.out)]; rfl, by rw [cell_of_row w9 _ 1 _ _ _ (heap_keep hb K38.out)]; rfl, by rw [cell_of_row w9 _ 2 _ _ _ (heap_keep hb K38.out)]; rfl, by rw [cell_of_row w9 _ 3 _ _ _ (heap_keep hb K38.out)]; rfl, by rw [cell_of_row w9 _ 0 _ _ _ (heap_keep hb K48.out)]; rfl, by rw [cell_of_row w9 _ 1 _ _ _ (heap_keep hb K48.out)]; rfl, by rw [cell_of_row w9 _ 2 _ _ _ (heap_keep hb K48.out)]; rfl, by rw [cell_of_row w9 _ 3 _ _ _ (heap_keep hb K48.out)]; rfl, by rw [cell_of_row w9 _ 0 _ _ _ (heap_keep hb K68.out)]; rfl, by rw [cell_of_row w9 _ 1 _ _ _ (heap_keep hb K68.out)]; rfl, by rw [cell_of_row w9 _ 2 _ _ _ (heap_keep hb K68.out)]; rfl, by rw [cell_of_row w9 _ 3 _ _ _ (heap_keep hb K68.out)]; rfl⟩)
  clear K18 K38 K68 K16 K36 K46 C8 B7 B78
  go_wp2_with fail
  refine Og.walk_lit [[],[0],[],[2,1,0],[1,3,0,2],[4,3,1,0,2],[5,4,3,1,0,2],[5,4,3,1,0,2],[6,7,5,4,3,1,0,2],[8,5,6,7,4,3,1,0,2],[5,9,4,3,1,0,2,8,6,7],[10,8,5,9,4,3,1,0,2,6,7],[11,10,8,5,9,4,3,1,0,2,6,7],[11,10,8,5,9,4,3,1,0,2,6,7],[12,13,11,10,8,5,9,4,3,1,0,2,6,7],[11,14,10,8,5,9,4,3,1,0,2,6,7,12,13]] (fun w9 => Below w8.heap.size w8 w9) (fun w1 w2 => Below w1.heap.size w1 w2) (by kernel_rfl) (by kernel_rfl) (bdrew) ?_
  refine Og.step_pure (fun _ => Below.refl _ _) ?_; apply Exists.intro; refine And.intro ?_ ?_; focus (intro vs w9 hC; have hm := HC.out w9 hC; simp only [Og.KS, Og.K0, Og.Is, List.getD_cons_zero, List.getD_cons_succ, List.getD_nil, List.contains_cons, List.contains_nil, Nat.reduceAdd, Nat.reduceBEq, Bool.or_false, Bool.false_or, Bool.or_true, Bool.true_or, Bool.false_eq_true, false_implies, true_implies, true_and, and_true, forall_const]; intros; go_simp; rfl)
  refine Og.step_one ?_; apply Exists.intro; refine And.intro ?_ ?_; focus (intro vs w9 hC; simp only [Og.KS, Og.K0, Og.Is, List.getD_cons_zero, List.getD_cons_succ, List.getD_nil, List.contains_cons, List.contains_nil, Nat.reduceAdd, Nat.reduceBEq, Bool.or_false, Bool.false_or, Bool.or_true, Bool.true_or, Bool.false_eq_true, false_implies, true_implies, true_and, and_true, forall_const]; intros; go_simp; with_reducible refine (CK.out w9 hC).mono ?_; rintro e w10 ⟨rfl, hb⟩; exact Og.RetV.mk ⟨bthen hC hb, hb, rfl⟩)
  refine Og.step_pure (fun _ => Below.refl _ _) ?_; apply Exists.intro; refine And.intro ?_ ?_; focus (intro vs w9 hC; have hm := HC.out w9 hC; simp only [Og.KS, Og.K0, Og.Is, List.getD_cons_zero, List.getD_cons_succ, List.getD_nil, List.contains_cons, List.contains_nil, Nat.reduceAdd, Nat.reduceBEq, Bool.or_false, Bool.false_or, Bool.or_true, Bool.true_or, Bool.false_eq_true, false_implies, true_implies, true_and, and_true, forall_const]; intros; go_simp; rfl)
  refine Og.step_one ?_; apply Exists.intro; refine And.intro ?_ ?_; focus (intro vs w9 hC; simp only [Og.KS, Og.K0, Og.Is, List.getD_cons_zero, List.getD_cons_succ, List.getD_nil, List.contains_cons, List.contains_nil, Nat.reduceAdd, Nat.reduceBEq, Bool.or_false, Bool.false_or, Bool.or_true, Bool.true_or, Bool.false_eq_true, false_implies, true_implies, true_and, and_true, forall_const]; intros; go_simp; with_reducible refine (RK.out w9 hC).mono ?_; rintro e w10 ⟨rfl, hb⟩; exact Og.RetV.mk ⟨bthen hC hb, hb, rfl⟩)
  iterate 2 (refine Og.step_pure (fun _ => Below.refl _ _) ?_; apply Exists.intro; refine And.intro ?_ ?_; focus (intro vs w9 hC; simp only [Og.KS, Og.K0, Og.Is, List.getD_cons_zero, List.getD_cons_succ, List.getD_nil, List.contains_cons, List.contains_nil, Nat.reduceAdd, Nat.reduceBEq, Bool.or_false, Bool.false_or, Bool.or_true, Bool.true_or, Bool.false_eq_true, false_implies, true_implies, true_and, and_true, forall_const]; intros; go_simp; rfl))
  iterate 2 (refine Og.step_pure (fun _ => Below.refl _ _) ?_; apply Exists.intro; refine And.intro ?_ ?_; focus (intro vs w9 hC; have hm := HC.out w9 hC; simp only [Og.KS, Og.K0, Og.Is, List.getD_cons_zero, List.getD_cons_succ, List.getD_nil, List.contains_cons, List.contains_nil, Nat.reduceAdd, Nat.reduceBEq, Bool.or_false, Bool.false_or, Bool.or_true, Bool.true_or, Bool.false_eq_true, false_implies, true_implies, true_and, and_true, forall_const]; intros; go_simp; rfl))
  refine Og.step_one ?_; apply Exists.intro; refine And.intro ?_ ?_; focus (intro vs w9 hC; simp only [Og.KS, Og.K0, Og.Is, List.getD_cons_zero, List.getD_cons_succ, List.getD_nil, List.contains_cons, List.contains_nil, Nat.reduceAdd, Nat.reduceBEq, Bool.or_false, Bool.false_or, Bool.or_true, Bool.true_or, Bool.false_eq_true, false_implies, true_implies, true_and, and_true, forall_const]; intros; go_simp; with_reducible refine (SM.out w9 hC).mono ?_; rintro e w10 ⟨rfl, hb⟩; exact Og.RetV.mk ⟨bthen hC hb, hb, rfl⟩)
  iterate 7 (refine Og.step_pure (fun _ => Below.refl _ _) ?_; apply Exists.intro; refine And.intro ?_ ?_; focus (intro vs w9 hC; simp only [Og.KS, Og.K0, Og.Is, List.getD_cons_zero, List.getD_cons_succ, List.getD_nil, List.contains_cons, List.contains_nil, Nat.reduceAdd, Nat.reduceBEq, Bool.or_false, Bool.false_or, Bool.or_true, Bool.true_or, Bool.false_eq_true, false_implies, true_implies, true_and, and_true, forall_const]; intros; go_simp; rfl))
  intro vs w9 hC hk
  simp only [Og.KS, Og.K0, Og.Is, List.getD_cons_zero, List.getD_cons_succ, List.getD_nil, List.contains_cons, List.contains_nil, Nat.reduceAdd, Nat.reduceBEq, Bool.or_false, Bool.false_or, Bool.or_true, Bool.true_or, Bool.false_eq_true, false_implies, true_implies, true_and, and_true, forall_const] at hk
  simp only [hk, Act.put, List.setIfInBounds_toArray, List.set_cons_zero, List.set_cons_succ]
  clear hk
  have hm := HC.out w9 hC
  clear CK RK SM HC
  obtain ⟨vD, vP, gH', eY, oD, oP, hgH, kH, hne⟩ := FY8.out.1
  cases eY
  obtain ⟨gD, capD, aD, e1, d1, d2, d3⟩ := own_blk oD (by omega)
  cases e1
  obtain ⟨gP, capP, aP, e2, p1, p2, p3⟩ := own_blk oP (by omega)
  cases e2
  have Y9 : Hid (YW w4 b4 gD gP gH #[.int .i64 (a : Int), .slice (some ⟨gD, 0, none⟩) 128 cD, .slice (some ⟨gP, 0, none⟩) 128 cP, .slice (some ⟨gH, 0, none⟩) 128 128] w9) := Lib.hid ⟨bthen D8.out hC, heap_keep hC K48.out, ⟨_, heap_keep hC d2, by omega⟩, ⟨_, heap_keep hC p2, by omega⟩, ⟨_, heap_keep hC kH, by rw [flat_len cM 2 cM_len, fillV_len]; decide⟩, d1, p1, hgH, fun e => hne (by rw [e]; rfl)⟩
  clear hC oD oP hgH kH hne d1 d2 d3 p1 p2 p3
  go_wp2_with fail
  clear hm
  go_loopw [8] (fun i wr => ∃ j : Nat, j ≤ 128 ∧ i = .int .i64 j ∧ Hid (YW w4 b4 gD gP gH #[.int .i64 (a : Int), .slice (some ⟨gD, 0, none⟩) 128 cD, .slice (some ⟨gP, 0, none⟩) 128 cP, .slice (some ⟨gH, 0, none⟩) 128 128] wr)) (fun i _ => 128 - (intOf i).toNat)
  case atStart => exact ⟨0, Nat.zero_le _, rfl, Y9⟩
  case round =>
    clear Y9
    obtain ⟨j, hj, rfl, hT⟩ := hrel
    have HC := Lib.hid (show ∀ w2, YW w4 b4 gD gP gH #[.int .i64 (a : Int), .slice (some ⟨gD, 0, none⟩) 128 cD, .slice (some ⟨gP, 0, none⟩) 128 cP, .slice (some ⟨gH, 0, none⟩) 128 128] w2 → w2.cell? ⟨b4, 1, none⟩ = some (.slice (some ⟨gD, 0, none⟩) 128 cD) ∧ w2.cell? ⟨b4, 2, none⟩ = some (.slice (some ⟨gP, 0, none⟩) 128 cP) ∧ w2.cell? ⟨b4, 3, none⟩ = some (.slice (some ⟨gH, 0, none⟩) 128 128) from fun w2 h => ⟨h.cel 1 _ rfl, h.cel 2 _ rfl, h.cel 3 _ rfl⟩)
    by_cases hjn : j < 128
    · have hwj1 : IntKind.i64.wrap ((j : Int) + 1) = (j : Int) + 1 := by rw [IntKind.wrap_i64]; omega
      have hj0 : (0 : Int) ≤ (j : Int) := by omega
      have hj7 : (j : Int) < 128 := by omega
      have HJ := Lib.hid hjn
      have hm := HC.out wr hT.out
      clear hjn hj
      go_wp2_with fail
      clear hm
      refine Og.Joint2.walk_lit 15 [[],[0],[],[],[3],[],[],[6],[],[],[],[1,2,0],[11,0,1,2],[4,5,0,1,2,3,9,11,12],[13,9,12,0,1,2,3,4,5,11],[7,8,0,1,2,3,4,5,6,9,10,11,12,13,14],[15,10,14,0,1,2,3,4,5,6,7,8,9,11,12,13]] (fun _ _ w2 => YW w4 b4 gD gP gH #[.int .i64 (a : Int), .slice (some ⟨gD, 0, none⟩) 128 cD, .slice (some ⟨gP, 0, none⟩) 128 cP, .slice (some ⟨gH, 0, none⟩) 128 128] w2) (fun _ _ => True) (by kernel_rfl) (by kernel_rfl) (by kernel_rfl) (fun vs => hT.out.below bdrew) ?_
      simp only [List.take_succ_cons, List.take_zero, List.drop_succ_cons, List.drop_zero]
      iterate 12 (refine Og.Joint2.step_pureP (fun p vs v w h => h) (fun _ => trivial) ?_; apply Exists.intro; refine And.intro ?_ ?_; focus (intro p vs w2 hp hC hk; have hm := HC.out w2 hC; refine Og.OptB.mk ?_; revert hk; simp only [Og.KS, Og.K0, Og.Is, List.getD_cons_zero, List.getD_cons_succ, List.getD_nil, List.contains_cons, List.contains_nil, Nat.reduceAdd, Nat.reduceBEq, Bool.or_false, Bool.false_or, Bool.or_true, Bool.true_or, Bool.false_eq_true, false_implies, true_implies, true_and, and_true, forall_const]; intros; go_simp; rfl))
      refine Og.Joint2.step_any (fun _ _ => True) (fun _ _ _ _ _ => trivial) ?_ ?_; focus (intro p vs w2 hp hC hk; obtain ⟨w3, hr, hY⟩ := hC.stD HJ.out 9; revert hk; simp only [Og.KS, Og.K0, Og.Is, List.getD_cons_zero, List.getD_cons_succ, List.getD_nil, List.contains_cons, List.contains_nil, Nat.reduceAdd, Nat.reduceBEq, Bool.or_false, Bool.false_or, Bool.or_true, Bool.true_or, Bool.false_eq_true, false_implies, true_implies, true_and, and_true, forall_const]; intros; refine optB_storeR (g := gD) (off := j) (v := .int .i64 9) (by go_simp) rfl (by go_simp) (by go_simp) hr (by first | exact hY | exact ⟨hY, trivial, trivial⟩))
      refine Og.Joint2.step_pureP (fun p vs v w h => h) (fun _ => trivial) ?_; apply Exists.intro; refine And.intro ?_ ?_; focus (intro p vs w2 hp hC hk; have hm := HC.out w2 hC; refine Og.OptB.mk ?_; revert hk; simp only [Og.KS, Og.K0, Og.Is, List.getD_cons_zero, List.getD_cons_succ, List.getD_nil, List.contains_cons, List.contains_nil, Nat.reduceAdd, Nat.reduceBEq, Bool.or_false, Bool.false_or, Bool.or_true, Bool.true_or, Bool.false_eq_true, false_implies, true_implies, true_and, and_true, forall_const]; intros; go_simp; rfl)
      refine Og.Joint2.step_any (fun _ _ => True) (fun _ _ _ _ _ => trivial) ?_ ?_; focus (intro p vs w2 hp hC hk; obtain ⟨w3, hr, hY⟩ := hC.stP HJ.out 5 0; revert hk; simp only [Og.KS, Og.K0, Og.Is, List.getD_cons_zero, List.getD_cons_succ, List.getD_nil, List.contains_cons, List.contains_nil, Nat.reduceAdd, Nat.reduceBEq, Bool.or_false, Bool.false_or, Bool.or_true, Bool.true_or, Bool.false_eq_true, false_implies, true_implies, true_and, and_true, forall_const]; intros; refine optB_storeR (g := gP) (off := j * 2) (v := .agg #[.int .u64 5, .int .u64 0]) (by go_simp) rfl (by go_simp) (by go_simp) hr (by first | exact hY | exact ⟨hY, trivial, trivial⟩))
      intro p vs w11 hp hC hk
      simp only [Og.KS, Og.K0, Og.Is, List.getD_cons_zero, List.getD_cons_succ, List.getD_nil, List.contains_cons, List.contains_nil, Nat.reduceAdd, Nat.reduceBEq, Bool.or_false, Bool.false_or, Bool.or_true, Bool.true_or, Bool.false_eq_true, false_implies, true_implies, true_and, and_true, forall_const] at hk
      simp only [hk, Act.put, List.setIfInBounds_toArray, List.set_cons_zero, List.set_cons_succ]
      clear hk hp
      obtain ⟨w12, r12, y12⟩ := hC.stH HJ.out 6 0
      have R12 := Lib.hid r12
      have Y12 := Lib.hid y12
      clear r12 y12 hC HC hT
      go_wp2_with (refine wpList_storeR (ty := 35) (x := .tmp 59) (y := .tmp 56) rfl rfl rfl (by go_simp) (by go_simp) R12.out ?_)
      go_roundw
      case rel => exact ⟨j + 1, by have := HJ.out; omega, by go_num, Y12⟩
      case measure => have := HJ.out; simp [intOf]; omega
    · have hj7 : ¬ (j : Int) < 128 := by omega
      have hm := HC.out wr hT.out
      have BE := Lib.hid (bthen B4.out hT.out.bel)
      have K3E := Lib.hid (heap_keep hT.out.bel K34.out)
      have K1E := Lib.hid (heap_keep hT.out.bel K14.out)
      have TOE := Lib.hid (TO4.out.below hT.out.bel)
      have TXE := Lib.hid (TX4.out.below hT.out.bel)
      clear hj hT HC
      have L3 := Lib.hid (run_loadL (cs := [.int .i64 (a : Int), .slice A0 n c0, .slice A1 m c1, .slice A2 k c2]) isAgg25t size25t rfl (AtL_heap K3E.out))
      have L1 := Lib.hid (run_loadL (cs := [.int .i64 (a : Int), .slice A n c, .slice B m d, .slice C k f]) isAgg25t size25t rfl (AtL_heap K1E.out))
      have SF := Lib.hid (Same_ok wr _ _ (a : Int) (a : Int) ds ds ps hs ps hs TOE.out TXE.out)
      simp only [decide_true, Bool.and_true, Bool.and_self] at SF
      go_wp2_with (first | (refine wpList_loadL rfl 25 (.tmp 3) rfl b3 0 (.agg #[.int .i64 (a : Int), .slice A0 n c0, .slice A1 m c1, .slice A2 k c2]) rfl L3.out ?_) | (refine wpList_loadL rfl 25 (.tmp 1) rfl z 0 (.agg #[.int .i64 (a : Int), .slice A n c, .slice B m d, .slice C k f]) rfl L1.out ?_))
      refine SF.out.mono ?_
      rintro e wE ⟨rfl, hbE⟩
      have BE' := Lib.hid (bthen BE.out hbE)
      clear hbE SF L1 L3
      go_wp2_with fail
      go_ret
      exact ⟨rfl, BE'.out⟩

/-- the law of any tree -/
theorem law3_ok (w : World) (x : Value) (r : Int) (ds : List Int) (ps hs : List Nat) (X : TV w x r ds ps hs) (tb : Tab w) :
    Calls Tryd.prog 3 #[x] w fun e w' => e = .returned (.bool true) ∧ Below w.heap.size w w' := by
  by_cases g : goodT r ds ps hs
  · obtain ⟨a, rfl, -⟩ := good_facts g
    exact law3_good w x a ds ps hs X tb g
  · exact law3_bad w x r ds ps hs X tb g

end Go.Proofs.YtjbglifmppilfaaDoor
