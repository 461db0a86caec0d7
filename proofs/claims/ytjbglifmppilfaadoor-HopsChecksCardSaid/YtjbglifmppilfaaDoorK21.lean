/- Fill of any tree; conditions as stated. The reference: the nodes by their distance; conditions as stated. -/
import Derived.Test.YtjbglifmppilfaaDoorK20
import Derived.Test.YtjbglifmppilfaaDoorK17
import Derived.RangeFuncNested
import Derived.RangeFuncBound
import Derived.RangeFuncCalls
import Derived.RangeFuncLeaves
import Derived.Shelf.Abstract
import Derived.Shelf.RegionOpen
import Derived.WalkKit
import Derived.OwnWalkIn
import Derived.TacticsInMore
import Derived.LoopNIn
import Derived.LoopIn
import Derived.Test.YtjbglifmppilfaaDoorK15
import Derived.Test.YtjbglifmppilfaaDoorK13
namespace Go.Proofs.YtjbglifmppilfaaDoor
open Go.ChangeShapes Go.WideShapes Go.ChangeAt Go.RowKit
set_option linter.unusedVariables false
set_option linter.unusedSimpArgs false
attribute [local go_sem] Og.Opt Og.OpY Oper.semAt_some

/-- what a sound tree is -/
theorem good_facts {r : Int} {ds : List Int} {ps hs : List Nat} (g : goodT r ds ps hs) : ∃ a : Nat, r = (a : Int) ∧ a < 128 ∧ dsOk ds ∧ nearP ds ps ∧ gt ps a = 0 := by
  obtain ⟨h1, h2, h3, h4, h5, h6⟩ := g
  obtain ⟨a, rfl⟩ : ∃ a : Nat, r = (a : Int) := ⟨r.toNat, by omega⟩
  have ha : a < 128 := by omega
  have range : ∀ v, v < 128 → 0 ≤ kd ds v ∧ kd ds v ≤ 1073741824 := fun v hv => by
    have := (h6 v hv).1
    unfold bad6 at this
    simp only [Bool.or_eq_false_iff, decide_eq_false_iff_not] at this
    omega
  refine ⟨a, rfl, ha, ⟨h1, fun d hd => ?_⟩, fun v hv u hu => (h6 v hv).2 u hu, ?_⟩
  · obtain ⟨j, hj⟩ := List.getElem?_of_mem hd
    have hlt := (List.getElem?_eq_some_iff.1 hj).1
    have := range j (by omega)
    have e : kd ds j = d := by unfold kd; rw [List.getD_eq_getElem?_getD, hj]; rfl
    rw [e] at this
    exact this
  · have := (h6 a ha).1
    unfold bad6 at this
    simp only [Bool.or_eq_false_iff] at this
    have h7 := this.2
    simp at h7
    exact h7
set_option maxRecDepth 100000 in
set_option maxHeartbeats 4000000 in
theorem hFill_bad (w : World) (x : Value) (r : Int) (ds : List Int) (ps hs : List Nat) (X : TV w x r ds ps hs) (tb : Tab w) (g : ¬ goodT r ds ps hs) :
    Calls Tryd.prog 7 #[x] w fun e w' => e = .returned (.tuple #[.agg #[.int .i64 0, .slice none 0 0, .slice none 0 0, .slice none 0 0], .int .i64 1]) ∧ Below w.heap.size w w' := by
  obtain ⟨vD, vP, vH, rfl, h1, h2, h3⟩ := X.e
  obtain ⟨W, hW⟩ : ∃ W, W = (w.alloc (Obj.cells #[.int .i64 r, vD, vP, vH] 25)).alloc (Obj.cells #[.int .i64 0, .slice none 0 0, .slice none 0 0, .slice none 0 0] 25) := ⟨_, rfl⟩
  obtain ⟨z, hz⟩ : ∃ z, z = w.heap.size := ⟨_, rfl⟩
  have BW := Lib.hid (show Below w.heap.size w W by rw [hW]; exact ((Below.refl _ _).alloc (Nat.le_refl _) _).alloc (by simp) _)
  have K1 := Lib.hid (show W.heap[z]? = some (.cells #[.int .i64 r, vD, vP, vH] 25 (0, 0)) by rw [hW]; exact heap_keep ((Below.refl _ _).alloc (Nat.le_refl _) _) (heap_at hz))
  have K2 := Lib.hid (show W.heap[z + 1]? = some (.cells #[.int .i64 0, .slice none 0 0, .slice none 0 0, .slice none 0 0] 25 (0, 0)) by rw [hW]; exact heap_at (by rw [hz]; simp))
  have ZW := Lib.hid (show z = w.heap.size ∧ W.heap.size = z + 2 from ⟨hz, by rw [hW, hz]; simp⟩)
  have L1 := Lib.hid (run_loadL (cs := [.int .i64 r, vD, vP, vH]) isAgg25t size25t rfl (AtL_heap K1.out))
  have CHK := Lib.hid (hCheck_ok W _ r ds ps hs (X.below BW.out) (tb.below BW.out tb.size))
  rw [codeT1 g] at CHK
  clear h1 h2 h3 X tb g
  go_enter Tryd.func7, Tryd.ntmps7
  go_wp2_with (refine wpList_loadL rfl 25 (.tmp 1) rfl z 0 (.agg #[.int .i64 r, vD, vP, vH]) (by rw [hz]; rfl) (by rw [← hW]; exact L1.out) ?_)
  rw [← hW, ← hz]
  clear hW hz
  refine CHK.out.mono ?_
  rintro e w2 ⟨rfl, hb2⟩
  have B2 := Lib.hid hb2
  have K22 := Lib.hid (heap_keep hb2 K2.out)
  clear hb2
  go_wp2_with (first | (refine wpList_storeN rfl 25 (.tmp 2) (.tmp 9) rfl rfl (z + 1) #[.int .i64 0, .slice none 0 0, .slice none 0 0, .slice none 0 0] rfl rfl 25 _ K22.out info99s rfl (by simp [Value.oneCell']) ?_; intro w5 hz5 hb5 hn5 hs5; have Z5 := Lib.hid hz5; have H5 := Lib.hid (hb5 w.heap.size (by have := ZW.out; omega)); clear hz5 hb5 hn5 hs5))
  refine bodyPost_ret (results_cell_tmp1 rfl rfl (run_loadL (cs := [.int .i64 0, .slice none 0 0, .slice none 0 0, .slice none 0 0]) isAgg25t size25t rfl (AtL_heap Z5.out))) rfl ?_
  exact ⟨rfl, (bthen BW.out B2.out).trans H5.out⟩
set_option maxRecDepth 100000 in
set_option maxHeartbeats 4000000 in
theorem hFill_good (w : World) (x : Value) (a : Nat) (ds : List Int) (ps hs : List Nat) (X : TV w x (a : Int) ds ps hs) (tb : Tab w) (g : goodT (a : Int) ds ps hs) :
    Calls Tryd.prog 7 #[x] w fun e w' => (∃ v, e = .returned (.tuple #[v, .int .i64 0]) ∧ ∃ ys, FT w.heap.size a ds ps (fillV a ps ys) v w' ∧ ys.Perm (ordX a ds 128) ∧ Up (kd ds) ys 0 ys.length) ∧ Below w.heap.size w w' := by
  obtain ⟨_, _, _, rfl, ⟨A, c, rfl, h1, n1, -⟩, ⟨B, d, rfl, h2, n2, -⟩, h3⟩ := X.e
  have l1 := g.1
  have l2 := g.2.1
  obtain ⟨gd, od, rfl, hd⟩ := Rd_all cI_len (by decide) h1 (by omega)
  obtain ⟨gp, op, rfl, hp⟩ := Rd_all cM_len (by decide) h2 (by omega)
  rw [dC_flat] at hd
  obtain ⟨a', ea, ha, ok, nr, g0⟩ := good_facts g
  obtain rfl : a = a' := by omega
  rw [l1, l2] at X ⊢
  rename_i vH
  have oH := Sl_one h3
  obtain ⟨W, hW⟩ : ∃ W, W = (w.alloc (Obj.cells #[.int .i64 (a : Int), .slice (some ⟨gd, od, none⟩) 128 c, .slice (some ⟨gp, op, none⟩) 128 d, vH] 25)).alloc (Obj.cells #[.int .i64 0, .slice none 0 0, .slice none 0 0, .slice none 0 0] 25) := ⟨_, rfl⟩
  obtain ⟨z, hz⟩ : ∃ z, z = w.heap.size := ⟨_, rfl⟩
  have BW := Lib.hid (show Below w.heap.size w W by rw [hW]; exact ((Below.refl _ _).alloc (Nat.le_refl _) _).alloc (by simp) _)
  have K1 := Lib.hid (show W.heap[z]? = some (.cells #[.int .i64 (a : Int), .slice (some ⟨gd, od, none⟩) 128 c, .slice (some ⟨gp, op, none⟩) 128 d, vH] 25 (0, 0)) by rw [hW]; exact heap_keep ((Below.refl _ _).alloc (Nat.le_refl _) _) (heap_at hz))
  have K2 := Lib.hid (show W.heap[z + 1]? = some (.cells #[.int .i64 0, .slice none 0 0, .slice none 0 0, .slice none 0 0] 25 (0, 0)) by rw [hW]; exact heap_at (by rw [hz]; simp))
  have ZW := Lib.hid (show z = w.heap.size ∧ W.heap.size = z + 2 from ⟨hz, by rw [hW, hz]; simp⟩)
  have L1 := Lib.hid (run_loadL (cs := [.int .i64 (a : Int), .slice (some ⟨gd, od, none⟩) 128 c, .slice (some ⟨gp, op, none⟩) 128 d, vH]) isAgg25t size25t rfl (AtL_heap K1.out))
  have CHK := Lib.hid (hCheck_ok W _ (a : Int) ds ps hs (X.below BW.out) (tb.below BW.out tb.size))
  rw [codeT0 g] at CHK
  have FIL := Lib.hid (fun w2 (hb : Below W.heap.size W w2) => fill_ok a gd od c gp op d ds ps vH w2 oH (((hd.below BW.out).below hb)) ok (((hp.below BW.out).below hb)) l2 X.pb ((tb.below BW.out tb.size).below hb (Nat.lt_of_lt_of_le tb.size BW.out.size)) ha)
  clear h1 h2 h3 X tb g hd hp ok nr g0 ea ha n1 n2
  go_enter Tryd.func7, Tryd.ntmps7
  go_wp2_with (refine wpList_loadL rfl 25 (.tmp 1) rfl z 0 _ (by rw [hz]; rfl) (by rw [← hW]; exact L1.out) ?_)
  rw [← hW, ← hz]
  clear hW hz
  refine CHK.out.mono ?_
  rintro e w2 ⟨rfl, hb2⟩
  have B2 := Lib.hid hb2
  have K22 := Lib.hid (heap_keep hb2 K2.out)
  have L2 := Lib.hid (run_loadL (cs := [.int .i64 (a : Int), .slice (some ⟨gd, od, none⟩) 128 c, .slice (some ⟨gp, op, none⟩) 128 d, vH]) isAgg25t size25t rfl (AtL_heap (heap_keep hb2 K1.out)))
  have FIL2 := Lib.hid (FIL.out w2 hb2)
  clear hb2 FIL CHK
  go_wp2_with (refine wpList_loadL rfl 25 (.tmp 1) rfl z 0 _ rfl L2.out ?_)
  refine FIL2.out.mono ?_
  rintro e w3 ⟨vD, vP, gF, ys, rfl, oD, oP, hgF, kF, hne, hys, hup, hb3⟩
  obtain ⟨AD, cD, eD⟩ := own_small oD
  obtain ⟨AP, cP, eP⟩ := own_small oP
  subst eD
  subst eP
  have D3 := Lib.hid (bthen B2.out hb3)
  have K31 := Lib.hid (heap_keep hb3 K22.out)
  have zlt : z + 1 < w2.heap.size := (Array.getElem?_eq_some_iff.1 K22.out).1
  have F3 := Lib.hid (And.intro oD (And.intro oP (And.intro hgF (And.intro kF (And.intro hne (And.intro hys (And.intro hup zlt)))))))
  clear hb3 oD oP hgF kF hne hys hup zlt FIL2
  go_wp2_with (first | (refine wpList_storeN rfl 25 (.tmp 2) (.tmp 12) rfl rfl (z + 1) #[.int .i64 (a : Int), .slice AD 128 cD, .slice AP 128 cP, .slice (some ⟨gF, 0, none⟩) 128 128] rfl rfl 25 _ K31.out info99s rfl (by simp [Value.oneCell']) ?_; intro w5 hz5 hb5 hn5 hs5; have Z5 := Lib.hid hz5; have H5 := Lib.hid hb5; have N5 := Lib.hid hn5; have S5 := Lib.hid hs5; clear hz5 hb5 hn5 hs5))
  refine bodyPost_ret (results_cell_tmp1 rfl rfl (run_loadL isAgg25t size25t rfl (AtL_heap Z5.out))) rfl ?_
  obtain ⟨oD, oP, hgF, kF, hne, hys, hup, zlt⟩ := F3.out
  have hzw := ZW.out
  have hbw := BW.out
  have G6 : Hid (w3.grownBy w5 (some (z + 1))) := Lib.hid (by
    have b := H5.out 0 (Nat.zero_le _)
    exact ⟨b.os, b.tape, b.output, b.size, fun k _ hne => N5.out k (fun e => hne (by rw [e]))⟩)
  have KP := Lib.hid (show ∀ (ty m n : Nat) (v : Value) (xs : List Value), w3.ownsRow w2.heap.size ty m v n xs → w5.ownsRow w.heap.size ty m v n xs from fun ty m n v xs h => own_lower (h.kept G6.out (by
    cases hv : v.ownBlock with
    | none => exact .inl rfl
    | some k => exact .inr (fun e => by have h1 := (h.lt k hv).1; have := Option.some.inj e; omega))) (by have := hbw.size; have := B2.out.size; omega))
  have hs2 := B2.out.size
  refine ⟨⟨_, rfl, ys, ⟨_, _, gF, rfl, KP.out _ _ _ _ _ oD, KP.out _ _ _ _ _ oP, by have := hbw.size; omega, (N5.out gF (by omega)).trans kF, hne⟩, hys, hup⟩, (bthen BW.out D3.out).trans (H5.out _ (by omega))⟩

end Go.Proofs.YtjbglifmppilfaaDoor
namespace Go.Proofs.YtjbglifmppilfaaDoor
open Go.ChangeShapes Go.WideShapes Go.ChangeAt Go.RowKit
set_option linter.unusedVariables false
set_option linter.unusedSimpArgs false
attribute [local go_sem] Og.Opt Og.OpY Oper.semAt_some

def allX (ds : List Int) (k : Nat) : List Nat := (List.range k).filter fun v => decide (kd ds v < 1073741824)
theorem allX_s (ds : List Int) (k : Nat) : allX ds (k + 1) = allX ds k ++ (if kd ds k < 1073741824 then [k] else []) := by
  unfold allX
  rw [List.range_succ, List.filter_append]
  congr 1
  by_cases h : kd ds k < 1073741824 <;> simp [h]
theorem allX_len (ds : List Int) (k : Nat) : (allX ds k).length ≤ k := by
  unfold allX
  exact Nat.le_trans (List.length_filter_le ..) (by simp)
theorem mem_allX {ds : List Int} {k v : Nat} : v ∈ allX ds k ↔ v < k ∧ kd ds v < 1073741824 := by
  unfold allX
  rw [List.mem_filter, List.mem_range]
  simp
theorem allX_nodup (ds : List Int) (k : Nat) : (allX ds k).Nodup := List.Nodup.sublist List.filter_sublist List.nodup_range
theorem nC_fl4 (xs : List Nat) : xs.flatMap cN = nC xs := by
  induction xs with
  | nil => rfl
  | cons x xs ih => rw [List.flatMap_cons, ih]; rfl
/-- an own row that is not empty, as a block -/
theorem row_of {w : World} {B : Nat} {v : Value} {xs : List Nat} (h : w.ownsRow B 3 1 v xs.length (xs.flatMap cN)) (h0 : 0 < xs.length) : ∃ g cap tl, v = .slice (some ⟨g, 0, none⟩) xs.length cap ∧ B ≤ g ∧ w.heap[g]? = some (.cells (nC xs ++ tl).toArray 3 (0, 0)) ∧ xs.length ≤ cap ∧ cap ≤ maxLen ∧ tl.length = cap - xs.length := by
  rcases h.2 with ⟨_, e⟩ | ⟨g, cap, cur, hv, hb, hk, h1, h2, h3, h4⟩
  · omega
  · refine ⟨g, cap, cur.toList.drop xs.length, hv, hb, ?_, h1, h2, by rw [List.length_drop, Array.length_toList]; omega⟩
    rw [hk]
    have e : nC xs ++ cur.toList.drop xs.length = cur.toList := by
      rw [← nC_fl4, ← h4, Nat.mul_one, List.take_append_drop]
    rw [e]
theorem row_mk {w : World} {B g cap : Nat} {tl : List Value} {xs : List Nat} (hb : B ≤ g) (hk : w.heap[g]? = some (.cells (nC xs ++ tl).toArray 3 (0, 0))) (h1 : xs.length ≤ cap) (h2 : cap ≤ maxLen) (h3 : tl.length = cap - xs.length) : w.ownsRow B 3 1 (.slice (some ⟨g, 0, none⟩) xs.length cap) xs.length (xs.flatMap cN) := by
  refine ⟨by rw [nC_fl4, nC_len, Nat.mul_one], .inr ⟨g, cap, _, rfl, hb, hk, h1, h2, ?_, ?_⟩⟩
  · rw [List.size_toArray, List.length_append, nC_len]; omega
  · rw [nC_fl4]
    simp [List.take_append, nC_len]
set_option maxRecDepth 100000 in
set_option maxHeartbeats 8000000 in
theorem Order_ok (B gd od cd : Nat) (ds : List Int) (w : World) (box : w.cell? ⟨B, 1, none⟩ = some (.slice (some ⟨gd, od, none⟩) 128 cd)) (dist : AtL w gd od (dC ds)) (ok : dsOk ds) :
    Calls Tryd.prog 18 #[.slice (some ⟨gd, od, none⟩) 128 cd] w fun e w' => (∃ v, e = .returned v ∧ ∃ zs : List Nat, w'.ownsRow w.heap.size 3 1 v zs.length (zs.flatMap cN) ∧ zs.Perm (allX ds 128) ∧ Up (kd ds) zs 0 zs.length) ∧ Below w.heap.size w w' := by
  have HBX := Lib.hid box
  have HDI := Lib.hid dist
  have HOK := Lib.hid ok
  have LT : Hid (B < w.heap.size ∧ gd < w.heap.size) := Lib.hid ⟨World.block_lt_of_cell? w _ box, World.block_lt_of_cell? w ⟨gd, od + 0, none⟩ (dist 0 (.int .i64 (kd ds 0)) (by simp [dC, kd, ok.1]))⟩
  clear box dist ok
  go_enter Tryd.func18, Tryd.ntmps18
  go_wp2_with fail
  have B0 := Lib.hid (show Below w.heap.size w (w.alloc (.cells #[] 3)) from (Below.refl _ _).alloc (Nat.le_refl _) _)
  have O0 := Lib.hid (fresh_row w 3 1 _ (Nat.le_refl _))
  generalize (w.alloc (.cells #[] 3)) = wa at *
  go_loopw [3, 4] (fun u i wr => ∃ (k : Nat) (o : Value) (zs : List Nat), k ≤ 128 ∧ o = u ∧ i = .int .i64 k ∧ Hid (wr.ownsRow w.heap.size 3 1 o zs.length (zs.flatMap cN) ∧ zs.Perm (allX ds k) ∧ Up (kd ds) zs 0 zs.length ∧ Below w.heap.size w wr)) (fun _ i _ => 128 - (intOf i).toNat)
  case atStart => exact ⟨0, _, [], Nat.zero_le _, rfl, rfl, Lib.hid ⟨O0.out, List.Perm.refl _, Up.nil (by simp), B0.out⟩⟩
  case round =>
    clear B0 O0
    obtain ⟨k, o, zs, hk, rfl, rfl, hT⟩ := hrel
    by_cases hlt : k < 128
    · have hwk1 : IntKind.i64.wrap ((k : Int) + 1) = (k : Int) + 1 := by rw [IntKind.wrap_i64]; omega
      have hk0 : (0 : Int) ≤ (k : Int) := by omega
      have hk7 : (k : Int) < 128 := by omega
      obtain ⟨d, hd⟩ : ∃ d, d = kd ds k := ⟨_, rfl⟩
      have cD : wr.cell? ⟨gd, od + k, none⟩ = some (.int .i64 d) := by
        have h1 := (HDI.out.belowB hT.out.2.2.2 LT.out.2) k (.int .i64 d) (by simp [dC, kd, hd, HOK.out.1, hlt])
        exact h1
      have HD := Lib.hid hd
      have HK := Lib.hid hlt
      clear hd hlt
      by_cases hinf : d < 1073741824
      · have hinf' : ¬ (1073741824 : Int) ≤ d := by omega
        have HI := Lib.hid hinf
        have SB := Lib.hid hT.out.2.2.2.size
        have ZL : Hid (zs.length ≤ 128) := Lib.hid (by have h1 := hT.out.2.1.length_eq; have h2 := allX_len ds k; have h3 := HK.out; omega)
        clear hinf
        go_wp2_with (at_builtin; refine wpList_appG cN 1 22 3 8 cN_len cN_one (by omega) Tryd.underlying22 cinfo3 rfl (by omega) rfl (.tmp 18) (.tmp 20) rfl w.heap.size _ o zs k rfl rfl (own_below hT.out.1 ((Below.refl _ _).alloc (Nat.le_refl _) _)) (heap_at rfl) (by have := ZL.out; omega) (alloc_le' SB.out) ?_; intro v5 w5 ho5 hg5; have b5 := app_below hT.out.1 SB.out hg5; have O5 := Lib.hid ho5; have B5 := Lib.hid (hT.out.2.2.2.trans b5); clear ho5 hg5 b5; obtain ⟨g, cap, tl, rfl, hg, hgk, c1, c2, c3⟩ := row_of O5.out (by simp); have HG := Lib.hid (And.intro hg (And.intro hgk (And.intro c1 (And.intro c2 c3)))); clear hg hgk c1 c2 c3; obtain ⟨n, hn⟩ : ∃ n, n = (zs ++ [k]).length := ⟨_, rfl⟩; rw [← hn]; obtain ⟨l, hl⟩ : ∃ l, l = n - 1 := ⟨_, rfl⟩; have HN := Lib.hid (show n = zs.length + 1 ∧ l = zs.length ∧ l ≤ 128 by have := ZL.out; rw [List.length_append, List.length_singleton] at hn; omega); have hwn : IntKind.i64.wrap ((n : Int) - 1) = (l : Int) := (by have := HN.out; rw [IntKind.wrap_i64]; omega); clear hn hl)
        have SW0 : Hid (SW B gd od cd ds g tl w5 (zs ++ [k])) := Lib.hid ⟨(B5.out.cell LT.out.1).trans HBX.out, HDI.out.belowB B5.out LT.out.2, HG.out.2.1, fun x hx => by
          rcases List.mem_append.1 hx with h | h
          · have := (mem_allX.1 (hT.out.2.1.mem_iff.1 h)).1; have := HK.out; omega
          · rw [List.mem_singleton.1 h]; exact HK.out, by have := LT.out; have := HG.out.1; omega, by have := LT.out; have := HG.out.1; omega, HOK.out⟩
        have UX : Hid (UpX (kd ds) (zs ++ [k]) 0 l l) := Lib.hid (UpX.start (by
          have e := HN.out.2.1
          intro i j h1 h2 h3
          have h4 := hT.out.2.2.1 i j h1 h2 (by omega)
          have ga : ∀ t, t < zs.length → gt (zs ++ [k]) t = gt zs t := fun t ht => by unfold gt; rw [List.getD_eq_getElem?_getD, List.getD_eq_getElem?_getD, List.getElem?_append_left ht]
          unfold ky at h4 ⊢
          rw [ga i (by omega), ga j (by omega)]
          exact h4))
        go_loopw [5] (fun i wr => ∃ (j : Nat) (cur : List Nat), j ≤ l ∧ i = .int .i64 j ∧ Hid (SW B gd od cd ds g tl wr cur ∧ RP 0 n (zs ++ [k]) cur ∧ UpX (kd ds) cur 0 l j ∧ Below w.heap.size w wr)) (fun i _ => (intOf i).toNat)
        case atStart => exact ⟨l, _, Nat.le_refl _, rfl, Lib.hid ⟨SW0.out, RP.refl _ _ _, UX.out, B5.out⟩⟩
        case round =>
          obtain ⟨j, cur, hj, rfl, hT2⟩ := hrel
          have hlen : cur.length = n := by rw [hT2.out.2.1.len, List.length_append, List.length_singleton, HN.out.1]
          by_cases hja : 0 < j
          · have gj : (0 : Int) < (j : Int) := by omega
            have g0 : decide (0 < j) = true := by simp [hja]
            obtain ⟨q, hq⟩ : ∃ q : Nat, q = j - 1 := ⟨_, rfl⟩
            have hN := HN.out
            have wq : IntKind.i64.wrap ((j : Int) - 1) = (q : Int) := by rw [IntKind.wrap_i64]; omega
            have p0 : (0 : Int) ≤ (j : Int) := by omega
            have p1 : (j : Int) < (n : Int) := by omega
            have q0 : (0 : Int) ≤ (q : Int) := by omega
            have q1 : (q : Int) < (n : Int) := by omega
            have v1 := hT2.out.1.val (i := j) (by omega)
            have v2 := hT2.out.1.val (i := q) (by omega)
            obtain ⟨x, hx⟩ : ∃ x, x = gt cur j := ⟨_, rfl⟩
            obtain ⟨y, hy⟩ : ∃ y, y = gt cur q := ⟨_, rfl⟩
            rw [← hx] at v1
            rw [← hy] at v2
            have x0 : (0 : Int) ≤ (x : Int) := by omega
            have x1 : (x : Int) < 128 := by omega
            have y0 : (0 : Int) ≤ (y : Int) := by omega
            have y1 : (y : Int) < 128 := by omega
            obtain ⟨dx, hdx⟩ : ∃ z, z = kd ds x := ⟨_, rfl⟩
            obtain ⟨dy, hdy⟩ : ∃ z, z = kd ds y := ⟨_, rfl⟩
            have HC : ∀ w2, Below wr.heap.size wr w2 → w2.cell? ⟨g, j, none⟩ = some (.int .i64 (x : Nat)) ∧ w2.cell? ⟨g, q, none⟩ = some (.int .i64 (y : Nat)) ∧ w2.cell? ⟨gd, od + x, none⟩ = some (.int .i64 dx) ∧ w2.cell? ⟨gd, od + y, none⟩ = some (.int .i64 dy) := fun w2 hb => ⟨bcell hb v1.1, bcell hb v2.1, (hT2.out.1.dist.below hb) x (.int .i64 dx) (by simp [dC, kd, hdx, HOK.out.1, v1.2]), (hT2.out.1.dist.below hb) y (.int .i64 dy) (by simp [dC, kd, hdy, HOK.out.1, v2.2])⟩
            have HJ := Lib.hid (And.intro hj (And.intro hja (And.intro hq (And.intro hlen (And.intro hx (And.intro hy (And.intro hdx hdy)))))))
            clear v1 v2 hj hja hq hlen hx hy hdx hdy hN
            by_cases hc : dx < dy
            · have HLT := Lib.hid hc
              have g1 : decide (dx < dy) = true := by simp [hc]
              go_wp2_with fail
              refine Og.walk_lit [[],[0],[1,0],[2,1,0],[2,1,0],[2,1,0],[4,5,2,1,0],[6,2,4,5,1,0],[3,7,2,1,0,6,4,5],[8,2,3,7,1,0,6,4,5],[2,1,0],[2,1,0],[2,1,0],[12,2,1,0],[11,13,2,1,0,12],[14,2,11,13,1,0,12],[10,15,2,1,0,14,11,13,12],[16,2,10,15,1,0,14,11,13,12],[9,17,2,8,3,7,1,0,6,4,5,16,10,15,14,11,13,12],[2,18,1,0,9,17,8,3,7,6,4,5,16,10,15,14,11,13,12]] (fun w2 => Below wr.heap.size wr w2) (fun w1 w2 => Below w1.heap.size w1 w2) (by kernel_rfl) (by kernel_rfl) (bdrew) ?_
              iterate 7 (refine Og.step_pure (fun _ => Below.refl _ _) ?_; apply Exists.intro; refine And.intro ?_ ?_; focus (intro vs w2 hC; simp only [Og.KS, Og.K0, Og.Is, List.getD_cons_zero, List.getD_cons_succ, List.getD_nil, List.contains_cons, List.contains_nil, Nat.reduceAdd, Nat.reduceBEq, Bool.or_false, Bool.false_or, Bool.or_true, Bool.true_or, Bool.false_eq_true, false_implies, true_implies, true_and, and_true, forall_const]; intros; go_simp; rfl))
              refine Og.step_pure (fun _ => Below.refl _ _) ?_; apply Exists.intro; refine And.intro ?_ ?_; focus (intro vs w2 hC; have hm := HC w2 hC; simp only [Og.KS, Og.K0, Og.Is, List.getD_cons_zero, List.getD_cons_succ, List.getD_nil, List.contains_cons, List.contains_nil, Nat.reduceAdd, Nat.reduceBEq, Bool.or_false, Bool.false_or, Bool.or_true, Bool.true_or, Bool.false_eq_true, false_implies, true_implies, true_and, and_true, forall_const]; intros; go_simp; rfl)
              refine Og.step_pure (fun _ => Below.refl _ _) ?_; apply Exists.intro; refine And.intro ?_ ?_; focus (intro vs w2 hC; simp only [Og.KS, Og.K0, Og.Is, List.getD_cons_zero, List.getD_cons_succ, List.getD_nil, List.contains_cons, List.contains_nil, Nat.reduceAdd, Nat.reduceBEq, Bool.or_false, Bool.false_or, Bool.or_true, Bool.true_or, Bool.false_eq_true, false_implies, true_implies, true_and, and_true, forall_const]; intros; go_simp; rfl)
              refine Og.step_pure (fun _ => Below.refl _ _) ?_; apply Exists.intro; refine And.intro ?_ ?_; focus (intro vs w2 hC; have hm := HC w2 hC; simp only [Og.KS, Og.K0, Og.Is, List.getD_cons_zero, List.getD_cons_succ, List.getD_nil, List.contains_cons, List.contains_nil, Nat.reduceAdd, Nat.reduceBEq, Bool.or_false, Bool.false_or, Bool.or_true, Bool.true_or, Bool.false_eq_true, false_implies, true_implies, true_and, and_true, forall_const]; intros; go_simp; rfl)
              iterate 5 (refine Og.step_pure (fun _ => Below.refl _ _) ?_; apply Exists.intro; refine And.intro ?_ ?_; focus (intro vs w2 hC; simp only [Og.KS, Og.K0, Og.Is, List.getD_cons_zero, List.getD_cons_succ, List.getD_nil, List.contains_cons, List.contains_nil, Nat.reduceAdd, Nat.reduceBEq, Bool.or_false, Bool.false_or, Bool.or_true, Bool.true_or, Bool.false_eq_true, false_implies, true_implies, true_and, and_true, forall_const]; intros; go_simp; rfl))
              refine Og.step_pure (fun _ => Below.refl _ _) ?_; apply Exists.intro; refine And.intro ?_ ?_; focus (intro vs w2 hC; have hm := HC w2 hC; simp only [Og.KS, Og.K0, Og.Is, List.getD_cons_zero, List.getD_cons_succ, List.getD_nil, List.contains_cons, List.contains_nil, Nat.reduceAdd, Nat.reduceBEq, Bool.or_false, Bool.false_or, Bool.or_true, Bool.true_or, Bool.false_eq_true, false_implies, true_implies, true_and, and_true, forall_const]; intros; go_simp; rfl)
              refine Og.step_pure (fun _ => Below.refl _ _) ?_; apply Exists.intro; refine And.intro ?_ ?_; focus (intro vs w2 hC; simp only [Og.KS, Og.K0, Og.Is, List.getD_cons_zero, List.getD_cons_succ, List.getD_nil, List.contains_cons, List.contains_nil, Nat.reduceAdd, Nat.reduceBEq, Bool.or_false, Bool.false_or, Bool.or_true, Bool.true_or, Bool.false_eq_true, false_implies, true_implies, true_and, and_true, forall_const]; intros; go_simp; rfl)
              refine Og.step_pure (fun _ => Below.refl _ _) ?_; apply Exists.intro; refine And.intro ?_ ?_; focus (intro vs w2 hC; have hm := HC w2 hC; simp only [Og.KS, Og.K0, Og.Is, List.getD_cons_zero, List.getD_cons_succ, List.getD_nil, List.contains_cons, List.contains_nil, Nat.reduceAdd, Nat.reduceBEq, Bool.or_false, Bool.false_or, Bool.or_true, Bool.true_or, Bool.false_eq_true, false_implies, true_implies, true_and, and_true, forall_const]; intros; go_simp; rfl)
              iterate 2 (refine Og.step_pure (fun _ => Below.refl _ _) ?_; apply Exists.intro; refine And.intro ?_ ?_; focus (intro vs w2 hC; simp only [Og.KS, Og.K0, Og.Is, List.getD_cons_zero, List.getD_cons_succ, List.getD_nil, List.contains_cons, List.contains_nil, Nat.reduceAdd, Nat.reduceBEq, Bool.or_false, Bool.false_or, Bool.or_true, Bool.true_or, Bool.false_eq_true, false_implies, true_implies, true_and, and_true, forall_const]; intros; go_simp; rfl))
              intro vs w2 hC hk
              have hm := HC w2 hC
              simp only [Og.KS, Og.K0, Og.Is, List.getD_cons_zero, List.getD_cons_succ, List.getD_nil, List.contains_cons, List.contains_nil, Nat.reduceAdd, Nat.reduceBEq, Bool.or_false, Bool.false_or, Bool.or_true, Bool.true_or, Bool.false_eq_true, false_implies, true_implies, true_and, and_true, forall_const] at hk
              simp only [hk, Act.put, List.setIfInBounds_toArray, List.set_cons_zero, List.set_cons_succ]
              clear hk
              clear hm HC g1 hc
              have T2 := Lib.hid (And.intro (hT2.out.1.below hC) (hT2.out.2.2.2.trans (hC.mono hT2.out.2.2.2.size)))
              have T3 := Lib.hid (And.intro hT2.out.2.1 hT2.out.2.2.1)
              clear hC hT2
              have hjn : j < cur.length ∧ q < cur.length ∧ j < n ∧ q < n ∧ n ≤ cur.length ∧ j ≤ l ∧ 0 < j ∧ l < cur.length ∧ q < j := by obtain ⟨h1, h2, h3, h4, -⟩ := HJ.out; have := HN.out; omega
              obtain ⟨wA, wB, r1, r2, S2, G2⟩ := T2.out.1.swap hjn.1 hjn.2.1
              rw [← HJ.out.2.2.2.2.2.1] at r1
              rw [← HJ.out.2.2.2.2.1] at r2
              have R1 := Lib.hid r1
              have R2 := Lib.hid r2
              have m1 : w2.drew.cell? ⟨g, j, none⟩ = some (.int .i64 (x : Nat)) := by rw [HJ.out.2.2.2.2.1]; exact (T2.out.1.val hjn.1).1
              have m2 : w2.drew.cell? ⟨g, q, none⟩ = some (.int .i64 (y : Nat)) := by rw [HJ.out.2.2.2.2.2.1]; exact (T2.out.1.val hjn.2.1).1
              have FIN : Hid (SW B gd od cd ds g tl wB (swp cur j q) ∧ RP 0 n (zs ++ [k]) (swp cur j q) ∧ UpX (kd ds) (swp cur j q) 0 l q ∧ Below w.heap.size w wB) := Lib.hid ⟨S2, T3.out.1.trans (RP.swp (Nat.zero_le _) hjn.2.2.1 (Nat.zero_le _) hjn.2.2.2.1 hjn.2.2.2.2.1), by
                obtain ⟨-, -, h4, -, hx, hy, hdx, hdy⟩ := HJ.out
                have hz := HLT.out
                rw [hdx, hdy, hx, hy] at hz
                rw [h4] at hz ⊢
                exact UpX.step T3.out.2 (by omega) (by omega) (by omega) hz, T2.out.2.grown G2 T2.out.2.size (fun k e => by cases e; exact HG.out.1)⟩
              have HQ := Lib.hid (show q ≤ l ∧ q < j by omega)
              clear r1 r2 S2 G2 T2 T3 hjn
              go_wp2_with fail
              refine Og.Joint2.walk_lit 16 [[],[],[],[],[3],[],[],[6],[5,7,6],[8,5,7,6],[],[],[10,11],[12,10,11],[0,1,5,6,7,8,9,13,12,10,11],[14,9,0,1,5,6,7,8,13,12,10,11],[2,4,0,1,3,5,6,7,8,9,10,11,12,13,14,15],[16,13,15,0,1,2,3,4,5,6,7,8,9,10,11,12,14]] (CX w2.drew wA 15 [9, 13]) (fun _ _ => True) (by kernel_rfl) (by kernel_rfl) (by kernel_rfl) (fun vs => CX.ini) ?_
              simp only [List.take_succ_cons, List.take_zero, List.drop_succ_cons, List.drop_zero]
              iterate 9 (refine Og.Joint2.step_pureP (fun p vs v w h => h.other (by decide)) (fun _ => trivial) ?_; apply Exists.intro; refine And.intro ?_ ?_; focus (intro p vs w2 hp hC hk; refine Og.OptB.mk ?_; revert hk; simp only [Og.KS, Og.K0, Og.Is, List.getD_cons_zero, List.getD_cons_succ, List.getD_nil, List.contains_cons, List.contains_nil, Nat.reduceAdd, Nat.reduceBEq, Bool.or_false, Bool.false_or, Bool.or_true, Bool.true_or, Bool.false_eq_true, false_implies, true_implies, true_and, and_true, forall_const]; intros; go_simp; rfl))
              refine Og.Joint2.step_pureP (fun p vs v w h => h.other (by decide)) (fun _ => trivial) ?_; apply Exists.intro; refine And.intro ?_ ?_; focus (intro p vs w2 hp hC hk; obtain rfl := hC.at_ (by decide) hp; refine Og.OptB.mk ?_; revert hk; simp only [Og.KS, Og.K0, Og.Is, List.getD_cons_zero, List.getD_cons_succ, List.getD_nil, List.contains_cons, List.contains_nil, Nat.reduceAdd, Nat.reduceBEq, Bool.or_false, Bool.false_or, Bool.or_true, Bool.true_or, Bool.false_eq_true, false_implies, true_implies, true_and, and_true, forall_const]; intros; go_simp; rfl)
              iterate 3 (refine Og.Joint2.step_pureP (fun p vs v w h => h.other (by decide)) (fun _ => trivial) ?_; apply Exists.intro; refine And.intro ?_ ?_; focus (intro p vs w2 hp hC hk; refine Og.OptB.mk ?_; revert hk; simp only [Og.KS, Og.K0, Og.Is, List.getD_cons_zero, List.getD_cons_succ, List.getD_nil, List.contains_cons, List.contains_nil, Nat.reduceAdd, Nat.reduceBEq, Bool.or_false, Bool.false_or, Bool.or_true, Bool.true_or, Bool.false_eq_true, false_implies, true_implies, true_and, and_true, forall_const]; intros; go_simp; rfl))
              refine Og.Joint2.step_pureP (fun p vs v w h => h.other (by decide)) (fun _ => trivial) ?_; apply Exists.intro; refine And.intro ?_ ?_; focus (intro p vs w2 hp hC hk; obtain rfl := hC.at_ (by decide) hp; refine Og.OptB.mk ?_; revert hk; simp only [Og.KS, Og.K0, Og.Is, List.getD_cons_zero, List.getD_cons_succ, List.getD_nil, List.contains_cons, List.contains_nil, Nat.reduceAdd, Nat.reduceBEq, Bool.or_false, Bool.false_or, Bool.or_true, Bool.true_or, Bool.false_eq_true, false_implies, true_implies, true_and, and_true, forall_const]; intros; go_simp; rfl)
              refine Og.Joint2.step_pureP (fun p vs v w h => h.other (by decide)) (fun _ => trivial) ?_; apply Exists.intro; refine And.intro ?_ ?_; focus (intro p vs w2 hp hC hk; refine Og.OptB.mk ?_; revert hk; simp only [Og.KS, Og.K0, Og.Is, List.getD_cons_zero, List.getD_cons_succ, List.getD_nil, List.contains_cons, List.contains_nil, Nat.reduceAdd, Nat.reduceBEq, Bool.or_false, Bool.false_or, Bool.or_true, Bool.true_or, Bool.false_eq_true, false_implies, true_implies, true_and, and_true, forall_const]; intros; go_simp; rfl)
              refine Og.Joint2.step_any (fun _ _ => True) (fun _ _ _ _ _ => trivial) ?_ ?_; focus (intro p vs w2 hp hC hk; obtain rfl := hC.now hp.1; have hdn : ∀ j ∈ [9, 13], p j = true := (by intro j hj; exact hp.2 j (by revert hj; revert j; decide)); revert hk; simp only [Og.KS, Og.K0, Og.Is, List.getD_cons_zero, List.getD_cons_succ, List.getD_nil, List.contains_cons, List.contains_nil, Nat.reduceAdd, Nat.reduceBEq, Bool.or_false, Bool.false_or, Bool.or_true, Bool.true_or, Bool.false_eq_true, false_implies, true_implies, true_and, and_true, forall_const]; intros; refine optB_storeR (by go_simp) rfl (by go_simp) (by go_simp) R1.out (CX.done hdn))
              intro p vs w5 hp hC hk
              obtain rfl := hC.fin (hp 15 (by decide))
              simp only [Og.KS, Og.K0, Og.Is, List.getD_cons_zero, List.getD_cons_succ, List.getD_nil, List.contains_cons, List.contains_nil, Nat.reduceAdd, Nat.reduceBEq, Bool.or_false, Bool.false_or, Bool.or_true, Bool.true_or, Bool.false_eq_true, false_implies, true_implies, true_and, and_true, forall_const] at hk
              simp only [hk, Act.put, List.setIfInBounds_toArray, List.set_cons_zero, List.set_cons_succ]
              clear hk hp hC
              go_wp2_with (refine wpList_storeR (ty := 3) (x := .tmp 62) (y := .tmp 60) rfl rfl rfl (by go_simp) (by go_simp) R2.out ?_)
              go_wp2_with fail
              go_roundw
              case rel => exact ⟨q, _, HQ.out.1, by go_num, FIN⟩
              case measure => have := HQ.out; simp [intOf]; omega
            · have HLT := Lib.hid hc
              have g1 : decide (dx < dy) = false := by simp [hc]
              go_wp2_with fail
              refine Og.walk_lit [[],[0],[1,0],[2,1,0],[2,1,0],[2,1,0],[4,5,2,1,0],[6,2,4,5,1,0],[3,7,2,1,0,6,4,5],[8,2,3,7,1,0,6,4,5],[2,1,0],[2,1,0],[2,1,0],[12,2,1,0],[11,13,2,1,0,12],[14,2,11,13,1,0,12],[10,15,2,1,0,14,11,13,12],[16,2,10,15,1,0,14,11,13,12],[9,17,2,8,3,7,1,0,6,4,5,16,10,15,14,11,13,12],[2,18,1,0,9,17,8,3,7,6,4,5,16,10,15,14,11,13,12]] (fun w2 => Below wr.heap.size wr w2) (fun w1 w2 => Below w1.heap.size w1 w2) (by kernel_rfl) (by kernel_rfl) (bdrew) ?_
              iterate 7 (refine Og.step_pure (fun _ => Below.refl _ _) ?_; apply Exists.intro; refine And.intro ?_ ?_; focus (intro vs w2 hC; simp only [Og.KS, Og.K0, Og.Is, List.getD_cons_zero, List.getD_cons_succ, List.getD_nil, List.contains_cons, List.contains_nil, Nat.reduceAdd, Nat.reduceBEq, Bool.or_false, Bool.false_or, Bool.or_true, Bool.true_or, Bool.false_eq_true, false_implies, true_implies, true_and, and_true, forall_const]; intros; go_simp; rfl))
              refine Og.step_pure (fun _ => Below.refl _ _) ?_; apply Exists.intro; refine And.intro ?_ ?_; focus (intro vs w2 hC; have hm := HC w2 hC; simp only [Og.KS, Og.K0, Og.Is, List.getD_cons_zero, List.getD_cons_succ, List.getD_nil, List.contains_cons, List.contains_nil, Nat.reduceAdd, Nat.reduceBEq, Bool.or_false, Bool.false_or, Bool.or_true, Bool.true_or, Bool.false_eq_true, false_implies, true_implies, true_and, and_true, forall_const]; intros; go_simp; rfl)
              refine Og.step_pure (fun _ => Below.refl _ _) ?_; apply Exists.intro; refine And.intro ?_ ?_; focus (intro vs w2 hC; simp only [Og.KS, Og.K0, Og.Is, List.getD_cons_zero, List.getD_cons_succ, List.getD_nil, List.contains_cons, List.contains_nil, Nat.reduceAdd, Nat.reduceBEq, Bool.or_false, Bool.false_or, Bool.or_true, Bool.true_or, Bool.false_eq_true, false_implies, true_implies, true_and, and_true, forall_const]; intros; go_simp; rfl)
              refine Og.step_pure (fun _ => Below.refl _ _) ?_; apply Exists.intro; refine And.intro ?_ ?_; focus (intro vs w2 hC; have hm := HC w2 hC; simp only [Og.KS, Og.K0, Og.Is, List.getD_cons_zero, List.getD_cons_succ, List.getD_nil, List.contains_cons, List.contains_nil, Nat.reduceAdd, Nat.reduceBEq, Bool.or_false, Bool.false_or, Bool.or_true, Bool.true_or, Bool.false_eq_true, false_implies, true_implies, true_and, and_true, forall_const]; intros; go_simp; rfl)
              iterate 5 (refine Og.step_pure (fun _ => Below.refl _ _) ?_; apply Exists.intro; refine And.intro ?_ ?_; focus (intro vs w2 hC; simp only [Og.KS, Og.K0, Og.Is, List.getD_cons_zero, List.getD_cons_succ, List.getD_nil, List.contains_cons, List.contains_nil, Nat.reduceAdd, Nat.reduceBEq, Bool.or_false, Bool.false_or, Bool.or_true, Bool.true_or, Bool.false_eq_true, false_implies, true_implies, true_and, and_true, forall_const]; intros; go_simp; rfl))
              refine Og.step_pure (fun _ => Below.refl _ _) ?_; apply Exists.intro; refine And.intro ?_ ?_; focus (intro vs w2 hC; have hm := HC w2 hC; simp only [Og.KS, Og.K0, Og.Is, List.getD_cons_zero, List.getD_cons_succ, List.getD_nil, List.contains_cons, List.contains_nil, Nat.reduceAdd, Nat.reduceBEq, Bool.or_false, Bool.false_or, Bool.or_true, Bool.true_or, Bool.false_eq_true, false_implies, true_implies, true_and, and_true, forall_const]; intros; go_simp; rfl)
              refine Og.step_pure (fun _ => Below.refl _ _) ?_; apply Exists.intro; refine And.intro ?_ ?_; focus (intro vs w2 hC; simp only [Og.KS, Og.K0, Og.Is, List.getD_cons_zero, List.getD_cons_succ, List.getD_nil, List.contains_cons, List.contains_nil, Nat.reduceAdd, Nat.reduceBEq, Bool.or_false, Bool.false_or, Bool.or_true, Bool.true_or, Bool.false_eq_true, false_implies, true_implies, true_and, and_true, forall_const]; intros; go_simp; rfl)
              refine Og.step_pure (fun _ => Below.refl _ _) ?_; apply Exists.intro; refine And.intro ?_ ?_; focus (intro vs w2 hC; have hm := HC w2 hC; simp only [Og.KS, Og.K0, Og.Is, List.getD_cons_zero, List.getD_cons_succ, List.getD_nil, List.contains_cons, List.contains_nil, Nat.reduceAdd, Nat.reduceBEq, Bool.or_false, Bool.false_or, Bool.or_true, Bool.true_or, Bool.false_eq_true, false_implies, true_implies, true_and, and_true, forall_const]; intros; go_simp; rfl)
              iterate 2 (refine Og.step_pure (fun _ => Below.refl _ _) ?_; apply Exists.intro; refine And.intro ?_ ?_; focus (intro vs w2 hC; simp only [Og.KS, Og.K0, Og.Is, List.getD_cons_zero, List.getD_cons_succ, List.getD_nil, List.contains_cons, List.contains_nil, Nat.reduceAdd, Nat.reduceBEq, Bool.or_false, Bool.false_or, Bool.or_true, Bool.true_or, Bool.false_eq_true, false_implies, true_implies, true_and, and_true, forall_const]; intros; go_simp; rfl))
              intro vs w2 hC hk
              have hm := HC w2 hC
              simp only [Og.KS, Og.K0, Og.Is, List.getD_cons_zero, List.getD_cons_succ, List.getD_nil, List.contains_cons, List.contains_nil, Nat.reduceAdd, Nat.reduceBEq, Bool.or_false, Bool.false_or, Bool.or_true, Bool.true_or, Bool.false_eq_true, false_implies, true_implies, true_and, and_true, forall_const] at hk
              simp only [hk, Act.put, List.setIfInBounds_toArray, List.set_cons_zero, List.set_cons_succ]
              clear hk
              have FIN : Hid (w2.ownsRow w.heap.size 3 1 (.slice (some ⟨g, 0, none⟩) n cap) cur.length (cur.flatMap cN) ∧ cur.Perm (allX ds (k + 1)) ∧ Up (kd ds) cur 0 cur.length ∧ Below w.heap.size w w2) := Lib.hid (by
                have hl : cur.length = n := HJ.out.2.2.2.1
                have h5 := hT2.out.1.below hC
                refine ⟨?_, ?_, ?_, hT2.out.2.2.2.trans (hC.mono hT2.out.2.2.2.size)⟩
                · have hl2 : cur.length = (zs ++ [k]).length := by rw [hl, HN.out.1, List.length_append, List.length_singleton]
                  rw [← hl]
                  exact row_mk HG.out.1 h5.row (by rw [hl2]; exact HG.out.2.2.1) HG.out.2.2.2.1 (by rw [hl2]; exact HG.out.2.2.2.2)
                · rw [allX_s, ← HD.out, if_pos HI.out]
                  exact hT2.out.2.1.perm.trans (hT.out.2.1.append_right [k])
                · have h6 := hT2.out.2.2.1.done HJ.out.1 (Nat.zero_le _) (.inr (by obtain ⟨-, -, h4, -, hx, hy, hdx, hdy⟩ := HJ.out; have h5 := HLT.out; rw [hdx, hdy, hx, hy] at h5; rw [← h4]; unfold ky; omega))
                  rw [hl, HN.out.1, ← HN.out.2.1]
                  exact h6)
              have HLN := Lib.hid (show cur.length = n from HJ.out.2.2.2.1)
              clear hm HC hC hT hT2
              go_wp2_with fail
              go_roundw
              case rel => exact ⟨k + 1, _, cur, by have := HK.out; omega, rfl, by go_num, FIN⟩
              case measure => have := HK.out; simp [intOf]; omega
          · have gj : ¬ (0 : Int) < (j : Int) := by omega
            have g0 : decide (0 < j) = false := by simp [hja]
            have HJ := Lib.hid (And.intro hj (And.intro hja hlen))
            have HC : ∀ w2, Below wr.heap.size wr w2 → True := fun _ _ => trivial
            clear hj hlen
            go_wp2_with fail
            refine Og.walk_lit [[],[0],[1,0],[2,1,0],[2,1,0],[2,1,0],[4,5,2,1,0],[6,2,4,5,1,0],[3,7,2,1,0,6,4,5],[8,2,3,7,1,0,6,4,5],[2,1,0],[2,1,0],[2,1,0],[12,2,1,0],[11,13,2,1,0,12],[14,2,11,13,1,0,12],[10,15,2,1,0,14,11,13,12],[16,2,10,15,1,0,14,11,13,12],[9,17,2,8,3,7,1,0,6,4,5,16,10,15,14,11,13,12],[2,18,1,0,9,17,8,3,7,6,4,5,16,10,15,14,11,13,12]] (fun w2 => Below wr.heap.size wr w2) (fun w1 w2 => Below w1.heap.size w1 w2) (by kernel_rfl) (by kernel_rfl) (bdrew) ?_
            iterate 20 (refine Og.step_pure (fun _ => Below.refl _ _) ?_; apply Exists.intro; refine And.intro ?_ ?_; focus (intro vs w2 hC; simp only [Og.KS, Og.K0, Og.Is, List.getD_cons_zero, List.getD_cons_succ, List.getD_nil, List.contains_cons, List.contains_nil, Nat.reduceAdd, Nat.reduceBEq, Bool.or_false, Bool.false_or, Bool.or_true, Bool.true_or, Bool.false_eq_true, false_implies, true_implies, true_and, and_true, forall_const]; intros; go_simp; rfl))
            intro vs w2 hC hk
            have hm := HC w2 hC
            simp only [Og.KS, Og.K0, Og.Is, List.getD_cons_zero, List.getD_cons_succ, List.getD_nil, List.contains_cons, List.contains_nil, Nat.reduceAdd, Nat.reduceBEq, Bool.or_false, Bool.false_or, Bool.or_true, Bool.true_or, Bool.false_eq_true, false_implies, true_implies, true_and, and_true, forall_const] at hk
            simp only [hk, Act.put, List.setIfInBounds_toArray, List.set_cons_zero, List.set_cons_succ]
            clear hk
            have FIN : Hid (w2.ownsRow w.heap.size 3 1 (.slice (some ⟨g, 0, none⟩) n cap) cur.length (cur.flatMap cN) ∧ cur.Perm (allX ds (k + 1)) ∧ Up (kd ds) cur 0 cur.length ∧ Below w.heap.size w w2) := Lib.hid (by
              have hl : cur.length = n := HJ.out.2.2
              have h5 := hT2.out.1.below hC
              refine ⟨?_, ?_, ?_, hT2.out.2.2.2.trans (hC.mono hT2.out.2.2.2.size)⟩
              · have hl2 : cur.length = (zs ++ [k]).length := by rw [hl, HN.out.1, List.length_append, List.length_singleton]
                rw [← hl]
                exact row_mk HG.out.1 h5.row (by rw [hl2]; exact HG.out.2.2.1) HG.out.2.2.2.1 (by rw [hl2]; exact HG.out.2.2.2.2)
              · rw [allX_s, ← HD.out, if_pos HI.out]
                exact hT2.out.2.1.perm.trans (hT.out.2.1.append_right [k])
              · have h6 := hT2.out.2.2.1.done HJ.out.1 (Nat.zero_le _) (.inl (by have := HJ.out; omega))
                rw [hl, HN.out.1, ← HN.out.2.1]
                exact h6)
            have HLN := Lib.hid (show cur.length = n from HJ.out.2.2)
            clear hm HC hC hT hT2
            go_wp2_with fail
            go_roundw
            case rel => exact ⟨k + 1, _, cur, by have := HK.out; omega, rfl, by go_num, FIN⟩
            case measure => have := HK.out; simp [intOf]; omega
      · have hinf' : (1073741824 : Int) ≤ d := by omega
        have HI := Lib.hid hinf
        clear hinf
        go_wp2_with fail
        go_roundw
        case rel => exact ⟨k + 1, _, zs, by have := HK.out; omega, rfl, by go_num, Lib.hid ⟨hT.out.1, by rw [allX_s, ← HD.out, if_neg HI.out, List.append_nil]; exact hT.out.2.1, hT.out.2.2⟩⟩
        case measure => simp [intOf]; omega
    · have hk8 : k = 128 := by omega
      have hk9 : ¬ (k : Int) < 128 := by omega
      have HE := Lib.hid hk8
      clear hk8 hlt hk
      go_wp2_with fail
      go_ret
      exact ⟨⟨_, rfl, zs, hT.out.1, by rw [← HE.out]; exact hT.out.2.1, hT.out.2.2.1⟩, hT.out.2.2.2⟩

end Go.Proofs.YtjbglifmppilfaaDoor
