/- Rings: Relay of a sound graph; conditions as stated. -/
import Derived.Test.YtpklcefiabjplaaS4
namespace Go.Proofs.Ytpklcefiabjplaa
open Go.ChangeShapes Go.WideShapes Go.ChangeAt Go.RowKit
set_option linter.unusedVariables false
set_option linter.unusedSimpArgs false
attribute [local go_sem] Og.Opt Og.OpY

attribute [local go_sem] Og.Opt Og.OpY
def relayS (hds : Nat → List Int) (c : Int) (s p : Nat) (ns : List Nd) : Int × Int :=
  chooseB (fun i => relayB s (chooseB (fun i => nearB (hds s) (hds p) c s i.toNat) (0, 0) ns) (chooseB (fun i => farB (hds i.toNat) (hds p) c s p) (0, 0) ns) i.toNat) (0, 0) ns
set_option maxRecDepth 100000 in
set_option maxHeartbeats 16000000 in
theorem Relay_ok (s p0 : Nat) (c d : Int) (k0 : Nat) (hds : Nat → List Int) (ns : List Nd) (ls : List Lk) (va vb vc : Value) (w : World) (g : GX w va vb vc ns ls)
    (hns : ∃ k : Nat, ns[k]? = some ⟨(s : Int)⟩) (hnp : ∃ k : Nat, ns[k]? = some ⟨(p0 : Int)⟩)
    (hk : ls[k0]? = some ⟨s, p0, c, d⟩) (hat : At (fun x => cmpL x ⟨s, p0, 0, 0⟩) ls k0 true) (hh : ∀ n : Nat, (∃ x ∈ ns, x.i = (n : Int)) → treeP (viewL ls) (n : Int) = some (hds n)) :
    Calls Try.prog 6 #[.agg #[va, vb, vc], .int .i64 s, .int .i64 p0] w fun e w' => e = .returned (.tuple #[bV (relayS hds c s p0 ns), .int .i64 0]) ∧ Below w.heap.size w w' := by
  obtain ⟨ks, hks⟩ := hns
  obtain ⟨kp, hkp⟩ := hnp
  have hms := hh s ⟨_, List.mem_of_getElem? hks, rfl⟩
  have hmp := hh p0 ⟨_, List.mem_of_getElem? hkp, rfl⟩
  have HASK := Lib.hid (fun b w2 (g2 : GX w2 va vb vc ns ls) (h : AtL w2 b 0 (dC [(s : Int), p0])) => ask_ok [(s : Int), p0] 0 s p0 c d ns ls va vb vc b w2 g2 h rfl (by omega) (by
    intro x hx
    simp only [List.mem_cons, List.not_mem_nil, or_false] at hx
    rcases hx with rfl | rfl
    · exact ⟨ks, hks⟩
    · exact ⟨kp, hkp⟩) rfl rfl k0 hk hat)
  have HNR := Lib.hid (fun w2 (g2 : GX w2 va vb vc ns ls) => Near_ok s s p0 c d k0 (hds s) (hds p0) ns ls va vb vc w2 g2 ⟨ks, hks⟩ ⟨ks, hks⟩ ⟨kp, hkp⟩ hk hat hms hmp)
  have HFR := Lib.hid (fun w2 (g2 : GX w2 va vb vc ns ls) => Far_ok p0 s p0 c d k0 hds (hds p0) ns ls va vb vc w2 g2 ⟨kp, hkp⟩ ⟨ks, hks⟩ ⟨kp, hkp⟩ hk hat hh hmp)
  obtain ⟨NR, hNR⟩ : ∃ NR, NR = chooseB (fun i => nearB (hds s) (hds p0) c s i.toNat) (0, 0) ns := ⟨_, rfl⟩
  obtain ⟨FR, hFR⟩ : ∃ FR, FR = chooseB (fun i => farB (hds i.toNat) (hds p0) c s p0) (0, 0) ns := ⟨_, rfl⟩
  rw [← hNR] at HNR
  rw [← hFR] at HFR
  have HS : Hid (relayS hds c s p0 ns = chooseB (fun i => relayB s NR FR i.toNat) (0, 0) ns) := Lib.hid (by rw [hNR, hFR]; rfl)
  unfold bV at HNR HFR
  have GG := Lib.hid g
  obtain ⟨z, hz⟩ : ∃ z, z = w.heap.size := ⟨_, rfl⟩
  have b1 : Below w.heap.size w ((((w.alloc (.cells #[va, vb, vc] 33)).alloc (.cells #[.int .i64 s] 3)).alloc (.cells #[.int .i64 p0] 3)).alloc (.cells #[.int .u64 0, .int .u64 0] 25)) := ((((Below.refl _ _).alloc (Nat.le_refl _) _).alloc (by simp) _).alloc (by simp; omega) _).alloc (by simp; omega) _
  have k3 : ((((w.alloc (.cells #[va, vb, vc] 33)).alloc (.cells #[.int .i64 s] 3)).alloc (.cells #[.int .i64 p0] 3)).alloc (.cells #[.int .u64 0, .int .u64 0] 25)).heap[z]? = some (.cells #[va, vb, vc] 33 (0, 0)) := heap_keep ((Below.refl _ _).alloc (Nat.le_refl _) _) (heap_keep ((Below.refl _ _).alloc (Nat.le_refl _) _) (heap_keep ((Below.refl _ _).alloc (Nat.le_refl _) _) (heap_at hz)))
  have k4 : ((((w.alloc (.cells #[va, vb, vc] 33)).alloc (.cells #[.int .i64 s] 3)).alloc (.cells #[.int .i64 p0] 3)).alloc (.cells #[.int .u64 0, .int .u64 0] 25)).heap[z + 1]? = some (.cells #[.int .i64 s] 3 (0, 0)) := heap_keep ((Below.refl _ _).alloc (Nat.le_refl _) _) (heap_keep ((Below.refl _ _).alloc (Nat.le_refl _) _) (heap_at (by rw [hz]; simp)))
  have k5 : ((((w.alloc (.cells #[va, vb, vc] 33)).alloc (.cells #[.int .i64 s] 3)).alloc (.cells #[.int .i64 p0] 3)).alloc (.cells #[.int .u64 0, .int .u64 0] 25)).heap[z + 1 + 1]? = some (.cells #[.int .i64 p0] 3 (0, 0)) := heap_keep ((Below.refl _ _).alloc (Nat.le_refl _) _) (heap_at (by rw [hz]; simp))
  have k6 : ((((w.alloc (.cells #[va, vb, vc] 33)).alloc (.cells #[.int .i64 s] 3)).alloc (.cells #[.int .i64 p0] 3)).alloc (.cells #[.int .u64 0, .int .u64 0] 25)).heap[z + 1 + 1 + 1]? = some (.cells (bCs (0, 0)) 25 (0, 0)) := heap_at (by rw [hz]; simp)
  have HZ := Lib.hid hz
  clear hk hat g hh hks hkp hms hmp hNR hFR
  go_enter Try.func6, Try.ntmps6
  have B1 := Lib.hid b1
  have K3 := Lib.hid k3
  have K4 := Lib.hid k4
  have K5 := Lib.hid k5
  have K6 := Lib.hid k6
  clear b1 k3 k4 k5 k6
  go_wp2_with (first | (refine wpList_loadL rfl 33 (.tmp 3) rfl w.heap.size 0 (.agg #[va, vb, vc]) rfl (run_loadL (cs := [va, vb, vc]) isAgg33 size33 rfl (AtL_heap (by rw [← HZ.out]; exact K3.out))) ?_))
  rw [← hz]
  clear hz
  have hS : ((((w.alloc (.cells #[va, vb, vc] 33)).alloc (.cells #[.int .i64 s] 3)).alloc (.cells #[.int .i64 p0] 3)).alloc (.cells #[.int .u64 0, .int .u64 0] 25)).heap.size = z + 1 + 1 + 1 + 1 := by rw [HZ.out]; simp
  generalize ((((w.alloc (.cells #[va, vb, vc] 33)).alloc (.cells #[.int .i64 s] 3)).alloc (.cells #[.int .i64 p0] 3)).alloc (.cells #[.int .u64 0, .int .u64 0] 25)) = wa at *
  have b2 : Below wa.heap.size wa (wa.alloc (.cells #[.int .i64 s, .int .i64 p0] 3)) := (Below.refl _ _).alloc (Nat.le_refl _) _
  with_reducible refine (HASK.out _ _ (GG.out.below (bthen B1.out b2)) (AtL_heap (t := 3) (heap_at hS.symm))).mono ?_
  rintro e w1 ⟨rfl, hb1⟩
  have C1 := bthen b2 hb1
  have B2 := Lib.hid (bthen B1.out C1)
  have K13 := Lib.hid (heap_keep C1 K3.out)
  have K14 := Lib.hid (heap_keep C1 K4.out)
  have K15 := Lib.hid (heap_keep C1 K5.out)
  have K16 := Lib.hid (heap_keep C1 K6.out)
  clear b2 hb1 C1 K3 K4 K5 K6 B1 HASK hS
  have y1 : ∀ w2, Below w1.heap.size w1 w2 → w2.cell? ⟨z + 1, 0, none⟩ = some (.int .i64 s) ∧ w2.cell? ⟨z + 1 + 1, 0, none⟩ = some (.int .i64 p0) := fun w2 h => ⟨by rw [cell_of_row _ _ 0 _ _ _ (heap_keep h K14.out)]; rfl, by rw [cell_of_row _ _ 0 _ _ _ (heap_keep h K15.out)]; rfl⟩
  have Y1 := Lib.hid y1
  clear y1
  go_wp2_with (first | (refine wpList_storeN rfl 43 (.tmp 8) (.tmp 21) rfl rfl w1.heap.size #[.int .i64 s, .int .i64 p0, .int .i64 c, .int .i64 d] rfl rfl 43 _ (heap_at rfl) info43s rfl (by simp [Value.oneCell']) ?_; intro w2 hz2 hb2 hn2 hs2; have b3 := below_storeA hb2; have y1 := (Y1.out w2 b3).1; have y2 := (Y1.out w2 b3).2; have C2 := Lib.hid b3; clear hz2 hb2 hn2 hs2 b3) | (refine wpList_loadL rfl 33 (.tmp 3) rfl z 0 (.agg #[va, vb, vc]) rfl (run_loadL (cs := [va, vb, vc]) isAgg33 size33 rfl (AtL_heap (heap_keep C2.out K13.out))) ?_))
  with_reducible refine (HNR.out _ (GG.out.below (bthen B2.out C2.out))).mono ?_
  rintro e w3 ⟨rfl, hb3⟩
  have C3 := Lib.hid (bthen C2.out hb3)
  clear hb3 C2 y1 y2
  go_wp2_with (first | (refine wpList_storeN rfl 25 (.tmp 10) (.tmp 33) rfl rfl w3.heap.size (bCs NR) rfl rfl 25 _ (heap_at rfl) info25s rfl (by simp [Value.oneCell', bCs]) ?_; intro w4 hz4 hb4 hn4 hs4; have b4 := below_storeA hb4; have ZN := Lib.hid hz4; have C4 := Lib.hid (bthen C3.out b4); have y1 := (Y1.out w4 C4.out).1; have y2 := (Y1.out w4 C4.out).2; clear hz4 hb4 hn4 hs4 b4) | (refine wpList_loadL rfl 33 (.tmp 3) rfl z 0 (.agg #[va, vb, vc]) rfl (run_loadL (cs := [va, vb, vc]) isAgg33 size33 rfl (AtL_heap (heap_keep C4.out K13.out))) ?_))
  obtain ⟨gn, hgn⟩ : ∃ gn, gn = w3.heap.size := ⟨_, rfl⟩
  rw [← hgn] at ZN
  rw [← hgn]
  clear hgn
  with_reducible refine (HFR.out _ (GG.out.below (bthen B2.out C4.out))).mono ?_
  rintro e w5 ⟨rfl, hb5⟩
  have C5 := Lib.hid (bthen C4.out hb5)
  have ZN5 := Lib.hid (heap_keep hb5 ZN.out)
  clear hb5 C4 C3 y1 y2 ZN
  go_wp2_with (first | (refine wpList_storeN rfl 25 (.tmp 12) (.tmp 41) rfl rfl w5.heap.size (bCs FR) rfl rfl 25 _ (heap_at rfl) info25s rfl (by simp [Value.oneCell', bCs]) ?_; intro w6 hz6 hb6 hn6 hs6; have b6 := below_storeA hb6; have ZF := Lib.hid hz6; have C6 := Lib.hid (bthen C5.out b6); have ZN6 := Lib.hid (heap_keep b6 ZN5.out); clear hz6 hb6 hn6 hs6 b6) | (refine wpList_loadL rfl 33 (.tmp 3) rfl z 0 (.agg #[va, vb, vc]) rfl (run_loadL (cs := [va, vb, vc]) isAgg33 size33 rfl (AtL_heap (heap_keep C6.out K13.out))) ?_))
  obtain ⟨gf, hgf⟩ : ∃ gf, gf = w5.heap.size := ⟨_, rfl⟩
  rw [← hgf] at ZF
  rw [← hgf]
  clear hgf C5 ZN5
  with_reducible refine (GG.out.below (bthen B2.out C6.out)).of.mono ?_
  rintro e w7 ⟨⟨V, vs0, rfl, hV, hvw⟩, hb7⟩
  have C7 := Lib.hid (bthen C6.out hb7)
  have ZN7 := Lib.hid (heap_keep hb7 ZN6.out)
  have ZF7 := Lib.hid (heap_keep hb7 ZF.out)
  have VW7 := Lib.hid hvw
  clear hb7 hvw hV C6 ZN6 ZF
  have b8 : Below w7.heap.size w7 (w7.alloc (.cells #[.pointer (some ⟨V, 0, none⟩)] 64)) := (Below.refl _ _).alloc (Nat.le_refl _) _
  have K83 : Hid ((w7.alloc (.cells #[.pointer (some ⟨V, 0, none⟩)] 64)).heap[z]? = some (.cells #[va, vb, vc] 33 (0, 0))) := Lib.hid (heap_keep (bthen C7.out b8) K13.out)
  have B8 := Lib.hid b8
  clear b8
  go_wp2_with (refine wpList_loadL rfl 33 (.tmp 3) rfl z 0 (.agg #[va, vb, vc]) rfl (run_loadL (cs := [va, vb, vc]) isAgg33 size33 rfl (AtL_heap K83.out)) ?_)
  obtain ⟨gv, hgv⟩ : ∃ gv, gv = w7.heap.size := ⟨_, rfl⟩
  have kv : (w7.alloc (.cells #[.pointer (some ⟨V, 0, none⟩)] 64)).heap[gv]? = some (.cells #[.pointer (some ⟨V, 0, none⟩)] 64 (0, 0)) := heap_at hgv
  rw [← hgv]
  clear hgv
  generalize (w7.alloc (.cells #[.pointer (some ⟨V, 0, none⟩)] 64)) = w8 at *
  have C8 := Lib.hid (bthen C7.out B8.out)
  have ZN8 := Lib.hid (heap_keep B8.out ZN7.out)
  have ZF8 := Lib.hid (heap_keep B8.out ZF7.out)
  have VW8 := Lib.hid (VW7.out.below B8.out)
  have KV8 := Lib.hid kv
  clear kv
  with_reducible refine (choose22_ok _ _ _ _ _ (fun i => relayB s NR FR i.toNat) ns ls va vb vc w8 (GG.out.below (bthen B2.out C8.out)) (fun x hx w9 h9 => ?_)).mono ?_
  · obtain ⟨n, hn⟩ : ∃ n : Nat, x.i = (n : Int) := ⟨x.i.toNat, by have := GG.out.oks.1 x hx; simp only [oks, Bool.and_eq_true, decide_eq_true_eq] at this; omega⟩
    have hn8 : n < 128 := by have := GG.out.oks.1 x hx; simp only [oks, Bool.and_eq_true, decide_eq_true_eq] at this; omega
    rw [hn, Int.toNat_natCast]
    have y := Y1.out w9 (bthen C8.out h9)
    exact relay1_ok (z + 1) gn gf (z + 1 + 1) gv V s p0 NR FR vs0 (viewL ls) n w9 y.1 y.2 (heap_keep h9 ZN8.out) (heap_keep h9 ZF8.out) (by rw [cell_of_row _ _ 0 _ _ _ (heap_keep h9 KV8.out)]; rfl) (VW8.out.below h9) hn8
  rintro e w9 ⟨rfl, hb9⟩
  obtain ⟨S, hS⟩ : ∃ S, S = chooseB (fun i => relayB s NR FR i.toNat) (0, 0) ns := ⟨_, rfl⟩
  rw [← hS]
  have HSS : Hid (relayS hds c s p0 ns = S) := Lib.hid (by rw [HS.out, hS])
  have C9 := Lib.hid (bthen C8.out hb9)
  have K96 := Lib.hid (heap_keep C9.out K16.out)
  have B9 := Lib.hid (bthen B2.out C9.out)
  clear hb9 hS HS
  unfold bV
  go_wp2_with (first | (refine wpList_storeN rfl 25 (.tmp 6) (.tmp 47) rfl rfl (z + 1 + 1 + 1) (bCs S) rfl rfl 25 _ K96.out info25s rfl (by simp [Value.oneCell', bCs]) ?_; intro wz hzz hbz hnz hsz; have Z9 := Lib.hid hzz; have D9 := Lib.hid (B9.out.trans (hbz _ (by have := HZ.out; omega))); clear hzz hbz hnz hsz))
  refine bodyPost_ret (results_cell_tmp1 rfl rfl (ldB Z9.out)) rfl ?_
  exact ⟨by rw [HSS.out]; rfl, D9.out⟩

end Go.Proofs.Ytpklcefiabjplaa
