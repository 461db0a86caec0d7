/- The reference: Fill of any tree; conditions as stated. -/
import Derived.Test.YtjbglifmppilfaaDoorK21
import Derived.Test.YtjbglifmppilfaaDoorK17
import Derived.RangeFuncNested
import Derived.RangeFuncBound
import Derived.RangeFuncCalls
import Derived.RangeFuncLeaves
import Derived.Shelf.Abstract
import Derived.Shelf.RegionOpen
import Derived.WalkKit
import Derived.OwnWalkIn
import Derived.TacticsInMore
import Derived.LoopNIn
import Derived.LoopIn
namespace Go.Proofs.YtjbglifmppilfaaDoor
open Go.ChangeShapes Go.WideShapes Go.ChangeAt Go.RowKit
set_option linter.unusedVariables false
set_option linter.unusedSimpArgs false
attribute [local go_sem] Og.Opt Og.OpY Oper.semAt_some

set_option maxRecDepth 100000 in
set_option maxHeartbeats 4000000 in
theorem rFill_bad (w : World) (x : Value) (r : Int) (ds : List Int) (ps hs : List Nat) (X : TV w x r ds ps hs) (g : ¬ goodT r ds ps hs) :
    Calls Tryd.prog 8 #[x] w fun e w' => e = .returned (.tuple #[.agg #[.int .i64 0, .slice none 0 0, .slice none 0 0, .slice none 0 0], .int .i64 1]) ∧ Below w.heap.size w w' := by
  obtain ⟨vD, vP, vH, rfl, h1, h2, h3⟩ := X.e
  obtain ⟨W, hW⟩ : ∃ W, W = (w.alloc (Obj.cells #[.int .i64 r, vD, vP, vH] 25)).alloc (Obj.cells #[.int .i64 0, .slice none 0 0, .slice none 0 0, .slice none 0 0] 25) := ⟨_, rfl⟩
  obtain ⟨z, hz⟩ : ∃ z, z = w.heap.size := ⟨_, rfl⟩
  have BW := Lib.hid (show Below w.heap.size w W by rw [hW]; exact ((Below.refl _ _).alloc (Nat.le_refl _) _).alloc (by simp) _)
  have K1 := Lib.hid (show W.heap[z]? = some (.cells #[.int .i64 r, vD, vP, vH] 25 (0, 0)) by rw [hW]; exact heap_keep ((Below.refl _ _).alloc (Nat.le_refl _) _) (heap_at hz))
  have K2 := Lib.hid (show W.heap[z + 1]? = some (.cells #[.int .i64 0, .slice none 0 0, .slice none 0 0, .slice none 0 0] 25 (0, 0)) by rw [hW]; exact heap_at (by rw [hz]; simp))
  have ZW := Lib.hid (show z = w.heap.size ∧ W.heap.size = z + 2 from ⟨hz, by rw [hW, hz]; simp⟩)
  have L1 := Lib.hid (run_loadL (cs := [.int .i64 r, vD, vP, vH]) isAgg25t size25t rfl (AtL_heap K1.out))
  have CHK := Lib.hid (rChk_ok W _ r ds ps hs (X.below BW.out))
  rw [codeT1 g] at CHK
  clear h1 h2 h3 X g
  go_enter Tryd.func8, Tryd.ntmps8
  go_wp2_with (refine wpList_loadL rfl 25 (.tmp 1) rfl z 0 (.agg #[.int .i64 r, vD, vP, vH]) (by rw [hz]; rfl) (by rw [← hW]; exact L1.out) ?_)
  rw [← hW, ← hz]
  clear hW hz
  refine CHK.out.mono ?_
  rintro e w2 ⟨rfl, hb2⟩
  have B2 := Lib.hid hb2
  have K22 := Lib.hid (heap_keep hb2 K2.out)
  clear hb2
  go_wp2_with (first | (refine wpList_storeN rfl 25 (.tmp 2) (.tmp 14) rfl rfl (z + 1) #[.int .i64 0, .slice none 0 0, .slice none 0 0, .slice none 0 0] rfl rfl 25 _ K22.out info99s rfl (by simp [Value.oneCell']) ?_; intro w5 hz5 hb5 hn5 hs5; have Z5 := Lib.hid hz5; have H5 := Lib.hid (hb5 w.heap.size (by have := ZW.out; omega)); clear hz5 hb5 hn5 hs5))
  refine bodyPost_ret (results_cell_tmp1 rfl rfl (run_loadL (cs := [.int .i64 0, .slice none 0 0, .slice none 0 0, .slice none 0 0]) isAgg25t size25t rfl (AtL_heap Z5.out))) rfl ?_
  exact ⟨rfl, (bthen BW.out B2.out).trans H5.out⟩
theorem gcell {w w' : World} {g : Nat} (h : w.grownBy w' (some g)) {a : Addr} {v : Value} (hc : w.cell? a = some v) (hne : a.block ≠ g) : w'.cell? a = some v := (World.cell?_of_block (h.block a.block (World.block_lt_of_cell? w a hc) (fun e => hne (Option.some.inj e)))).trans hc
theorem gAtL {w w' : World} {g b o : Nat} {cs : List Value} (h : w.grownBy w' (some g)) (ha : AtL w b o cs) (hne : b ≠ g) : AtL w' b o cs := fun j v hv => gcell h (ha j v hv) hne
theorem refIn_len (r v : Nat) (hs : List Nat) (u : Nat) : (refIn r v hs u).length = hs.length := by simp [refIn]
theorem refInF_len (r v : Nat) : ∀ (l hs : List Nat), (l.foldl (refIn r v) hs).length = hs.length := by
  intro l
  induction l with
  | nil => intro hs; rfl
  | cons u l ih => intro hs; rw [List.foldl_cons, ih, refIn_len]
theorem refStep_len (r : Nat) (ps hs : List Nat) (v : Nat) : (refStep r ps hs v).length = hs.length := refInF_len r v _ hs
theorem refFold_len (r : Nat) (ps : List Nat) : ∀ (l hs : List Nat), (l.foldl (refStep r ps) hs).length = hs.length := by
  intro l
  induction l with
  | nil => intro hs; rfl
  | cons u l ih => intro hs; rw [List.foldl_cons, ih, refStep_len]
theorem refFill_len (r : Nat) (ps l : List Nat) : (refFill r ps l).length = 128 := by unfold refFill; rw [refFold_len]; simp
theorem refIn_all {r v : Nat} {hs : List Nat} {u : Nat} (hv : v < 128) (h : allM hs) : allM (refIn r v hs u) := by
  intro x hx
  unfold refIn at hx
  rcases List.mem_or_eq_of_mem_set hx with h1 | rfl
  · exact h x h1
  · refine Nat.or_lt_two_pow (gt_lt h v) ?_
    by_cases e : u = r
    · rw [if_pos e]; exact Nat.pow_lt_pow_right (by omega) hv
    · rw [if_neg e]; exact gt_lt h u
theorem refInF_all {r v : Nat} (hv : v < 128) : ∀ (l hs : List Nat), allM hs → allM (l.foldl (refIn r v) hs) := by
  intro l
  induction l with
  | nil => intro hs h; exact h
  | cons u l ih => intro hs h; rw [List.foldl_cons]; exact ih _ (refIn_all hv h)
theorem refFold_all {r : Nat} {ps : List Nat} : ∀ (l hs : List Nat), (∀ v ∈ l, v < 128) → allM hs → allM (l.foldl (refStep r ps) hs) := by
  intro l
  induction l with
  | nil => intro hs _ h; exact h
  | cons u l ih => intro hs hl h; rw [List.foldl_cons]; exact ih _ (fun v hv => hl v (List.mem_cons_of_mem _ hv)) (refInF_all (hl u (List.mem_cons_self ..)) _ _ h)
theorem refFill_all {r : Nat} {ps l : List Nat} (hl : ∀ v ∈ l, v < 128) : allM (refFill r ps l) := refFold_all l _ hl (fun x hx => by rw [List.eq_of_mem_replicate hx]; exact Nat.two_pow_pos 128)
theorem refFill_s {r : Nat} {ps l : List Nat} {i v : Nat} (h : l[i]? = some v) : refFill r ps (l.take (i + 1)) = refStep r ps (refFill r ps (l.take i)) v := by
  unfold refFill
  rw [List.take_add_one, h, List.foldl_append]
  rfl
theorem refIn_s {r v : Nat} {l hs : List Nat} {i u : Nat} (h : l[i]? = some u) : (l.take (i + 1)).foldl (refIn r v) hs = refIn r v ((l.take i).foldl (refIn r v) hs) u := by
  rw [List.take_add_one, h, List.foldl_append]
  rfl
theorem ofM_one (v : Nat) : ofM [v] = 2 ^ v := by
  show putM 0 v = 2 ^ v
  unfold putM
  simp
/-- the tree that is answered -/
def IsT8 (W : World) (a gH : Nat) (ds : List Int) (ps : List Nat) (v : Value) (w : World) : Prop := ∃ vD vP, v = .agg #[.int .i64 (a : Int), vD, vP, .slice (some ⟨gH, 0, none⟩) 128 128] ∧ w.ownsRow W.heap.size 3 1 vD ds.length (ds.flatMap cI) ∧ w.ownsRow W.heap.size 35 2 vP ps.length (ps.flatMap cM)
theorem IsT8.keep {W : World} {a gH : Nat} {ds : List Int} {ps : List Nat} (v : Value) (w w2 : World) (hb : Below w.heap.size w w2) (h : IsT8 W a gH ds ps v w) : IsT8 W a gH ds ps v w2 := by
  obtain ⟨vD, vP, h1, h2, h3⟩ := h
  exact ⟨vD, vP, h1, own_below h2 hb, own_below h3 hb⟩
theorem sl_one {w : World} {g v : Nat} (h : w.heap[g]? = some (.cells #[.int .i64 (v : Int)] 3 (0, 0))) : Sl cN 1 0 w (.slice (some ⟨g, 0, none⟩) 1 1) [v] := by
  refine ⟨some ⟨g, 0, none⟩, 1, rfl, fun i x hi => ?_, fun e => (by cases e), fun a _ => Nat.zero_le _, Nat.le_refl _⟩
  have h1 := (List.getElem?_eq_some_iff.1 hi).1
  obtain rfl : i = 0 := by simpa using h1
  obtain rfl : v = x := by simpa using hi
  exact ⟨g, 0, rfl, AtL_heap h⟩
set_option maxRecDepth 100000 in
set_option maxHeartbeats 8000000 in
theorem rFill_good (w : World) (x : Value) (a : Nat) (ds : List Int) (ps hs : List Nat) (X : TV w x (a : Int) ds ps hs) (g : goodT (a : Int) ds ps hs) :
    Calls Tryd.prog 8 #[x] w fun e w' => (∃ v, e = .returned (.tuple #[v, .int .i64 0]) ∧ ∃ zs, FT w.heap.size a ds ps (refFill a ps zs) v w' ∧ zs.Perm (allX ds 128) ∧ Up (kd ds) zs 0 zs.length) ∧ Below w.heap.size w w' := by
  obtain ⟨_, _, _, rfl, ⟨A, c, rfl, h1, n1, -⟩, ⟨B, d, rfl, h2, n2, -⟩, h3⟩ := X.e
  have l1 := g.1
  have l2 := g.2.1
  obtain ⟨gd, od, rfl, hd⟩ := Rd_all cI_len (by decide) h1 (by omega)
  obtain ⟨gp, op, rfl, hp⟩ := Rd_all cM_len (by decide) h2 (by omega)
  rw [dC_flat] at hd
  obtain ⟨a', ea, ha, ok, nr, g0⟩ := good_facts g
  obtain rfl : a = a' := by omega
  rw [l1, l2] at X ⊢
  rename_i vH
  have oH := Sl_one h3
  have gdw : gd < w.heap.size := World.block_lt_of_cell? w ⟨gd, od + 0, none⟩ (hd 0 (.int .i64 (kd ds 0)) (by simp [dC, kd, l1]))
  have gpw : gp < w.heap.size := by
    obtain ⟨p0, hp0⟩ : ∃ u, (ps.flatMap cM)[0]? = some u := ⟨_, List.getElem?_eq_getElem (by rw [flat_len cM 2 cM_len, l2]; decide)⟩
    exact World.block_lt_of_cell? w _ (hp 0 p0 hp0)
  obtain ⟨W, hW⟩ : ∃ W, W = (w.alloc (Obj.cells #[.int .i64 (a : Int), .slice (some ⟨gd, od, none⟩) 128 c, .slice (some ⟨gp, op, none⟩) 128 d, vH] 25)).alloc (Obj.cells #[.int .i64 0, .slice none 0 0, .slice none 0 0, .slice none 0 0] 25) := ⟨_, rfl⟩
  obtain ⟨z, hz⟩ : ∃ z, z = w.heap.size := ⟨_, rfl⟩
  have BW := Lib.hid (show Below w.heap.size w W by rw [hW]; exact ((Below.refl _ _).alloc (Nat.le_refl _) _).alloc (by simp) _)
  have K1 := Lib.hid (show W.heap[z]? = some (.cells #[.int .i64 (a : Int), .slice (some ⟨gd, od, none⟩) 128 c, .slice (some ⟨gp, op, none⟩) 128 d, vH] 25 (0, 0)) by rw [hW]; exact heap_keep ((Below.refl _ _).alloc (Nat.le_refl _) _) (heap_at hz))
  have K2 := Lib.hid (show W.heap[z + 1]? = some (.cells #[.int .i64 0, .slice none 0 0, .slice none 0 0, .slice none 0 0] 25 (0, 0)) by rw [hW]; exact heap_at (by rw [hz]; simp))
  have ZW := Lib.hid (show z = w.heap.size ∧ W.heap.size = z + 2 from ⟨hz, by rw [hW, hz]; simp⟩)
  have L1 := Lib.hid (run_loadL (cs := [.int .i64 (a : Int), .slice (some ⟨gd, od, none⟩) 128 c, .slice (some ⟨gp, op, none⟩) 128 d, vH]) isAgg25t size25t rfl (AtL_heap K1.out))
  have CHK := Lib.hid (rChk_ok W _ (a : Int) ds ps hs (X.below BW.out))
  rw [codeT0 g] at CHK
  have HH := Lib.hid (And.intro l1 (And.intro l2 (And.intro X.pb (And.intro ok (And.intro ha (And.intro gdw (And.intro gpw oH)))))))
  have HD := Lib.hid (hd.below BW.out)
  have HP := Lib.hid (hp.below BW.out)
  clear h1 h2 h3 X g hd hp ok nr g0 ea ha n1 n2 l1 l2 gdw gpw
  go_enter Tryd.func8, Tryd.ntmps8
  go_wp2_with (refine wpList_loadL rfl 25 (.tmp 1) rfl z 0 _ (by rw [hz]; rfl) (by rw [← hW]; exact L1.out) ?_)
  rw [← hW, ← hz]
  clear hW hz
  refine CHK.out.mono ?_
  rintro e w2 ⟨rfl, hb2⟩
  have B2 := Lib.hid hb2
  have K22 := Lib.hid (heap_keep hb2 K2.out)
  have K12 := Lib.hid (heap_keep hb2 K1.out)
  have D2 := Lib.hid (HD.out.below hb2)
  have P2 := Lib.hid (HP.out.below hb2)
  clear hb2 HD HP CHK
  have hmk := mk97 w2
  obtain ⟨w3, hw3⟩ : ∃ w3, w3 = w2.alloc (.cells z256.toArray 35) := ⟨_, rfl⟩
  obtain ⟨gH, hgH⟩ : ∃ g, g = w2.heap.size := ⟨_, rfl⟩
  have B3 : Hid (Below w2.heap.size w2 w3) := Lib.hid (by rw [hw3]; exact (Below.refl _ _).alloc (Nat.le_refl _) _)
  have KH3 : Hid (w3.heap[gH]? = some (.cells z256.toArray 35 (0, 0))) := Lib.hid (by rw [hw3]; exact heap_at hgH)
  have Z3 : Hid (w3.heap.size = gH + 1 ∧ gH = w2.heap.size) := Lib.hid ⟨by rw [hw3, hgH]; simp, hgH⟩
  have K13 := Lib.hid (heap_keep B3.out K12.out)
  have m1 : w3.cell? ⟨z, 1, none⟩ = some (.slice (some ⟨gd, od, none⟩) 128 c) := by rw [cell_of_row w3 _ 1 _ _ _ K13.out]; rfl
  have ORD := Lib.hid (Order_ok z gd od c ds w3 m1 (D2.out.below B3.out) HH.out.2.2.2.1)
  rw [← hw3, ← hgH] at hmk
  clear hw3 hgH
  go_wp2_with fail
  refine ORD.out.mono ?_
  rintro e w4 ⟨⟨vO, rfl, zs, oO, hzp, hzu⟩, hb4⟩
  have B4 := Lib.hid hb4
  have SO := Sl_of_row cN_len (by decide) oO rfl
  obtain ⟨AO, cO, rfl, rO, -, bO, -⟩ := SO
  obtain ⟨n, hn⟩ : ∃ n, n = zs.length := ⟨_, rfl⟩
  rw [← hn]
  have RO := Lib.hid (And.intro rO (And.intro bO (And.intro hzp (And.intro hzu hn))))
  have ZN : Hid (n ≤ 128 ∧ ∀ v ∈ zs, v < 128) := Lib.hid ⟨by rw [hn, hzp.length_eq]; exact allX_len ds 128, fun v hv => (mem_allX.1 (hzp.mem_iff.1 hv)).1⟩
  have KH4 := Lib.hid (heap_keep hb4 KH3.out)
  have G4 : Hid (Below w.heap.size w w4 ∧ w.heap.size ≤ gH ∧ gH < w4.heap.size ∧ z + 2 ≤ gH ∧ z = w.heap.size) := Lib.hid (by
    have h1 := BW.out; have h2 := B2.out; have h3 := B3.out
    have h4 := (bthen h1 (bthen h2 (bthen h3 hb4)))
    have := ZW.out; have := Z3.out; have := h2.size; have := hb4.size
    exact ⟨h4, by omega, by omega, by omega, by omega⟩)
  have K14 := Lib.hid (heap_keep hb4 K13.out)
  have K24 := Lib.hid (heap_keep hb4 (heap_keep B3.out K22.out))
  have D4 := Lib.hid ((D2.out.below B3.out).below hb4)
  have P4 := Lib.hid ((P2.out.below B3.out).below hb4)
  clear hb4 oO rO bO hzp hzu hn hmk m1 ORD KH3 K13 K12 K22 D2 P2 B3
  go_wp2_with fail
  go_loopw [6] (fun i wr => ∃ k : Nat, k ≤ n ∧ i = .int .i64 k ∧ Hid (w4.grownBy wr (some gH) ∧ wr.heap[gH]? = some (.cells ((refFill a ps (zs.take k)).flatMap cM).toArray 35 (0, 0)))) (fun i _ => n - (intOf i).toNat)
  case atStart => exact ⟨0, Nat.zero_le _, rfl, Lib.hid ⟨grown_refl _ _, by rw [KH4.out, z256_flat]; rfl⟩⟩
  case round =>
    obtain ⟨k, hk, rfl, hT⟩ := hrel
    by_cases hlt : k < n
    · have hwk1 : IntKind.i64.wrap ((k : Int) + 1) = (k : Int) + 1 := by have := ZN.out.1; rw [IntKind.wrap_i64]; omega
      have hk0 : (0 : Int) ≤ (k : Int) := by omega
      have hk7 : (k : Int) < (n : Int) := by omega
      obtain ⟨v, gO, oO, hv, rfl, hat⟩ := Rd_at RO.out.1 (k := k) (by rw [← RO.out.2.2.2.2]; exact hlt)
      have hv8 : v < 128 := ZN.out.2 v (List.mem_of_getElem? hv)
      have hv0 : (0 : Int) ≤ (v : Int) := by omega
      have hv1 : (v : Int) < 128 := by omega
      have gOH : gO ≠ gH := by have h1 := RO.out.2.1 _ rfl; have h2 := Z3.out; simp at h1; omega
      have qO : wr.cell? ⟨gO, oO + k, none⟩ = some (.int .i64 (v : Int)) := by
        have := hat 0 (.int .i64 (v : Int)) rfl
        rw [Nat.add_zero, Nat.mul_one] at this
        exact gcell hT.out.1 this gOH
      obtain ⟨M, hM⟩ : ∃ M, M = gt ps v := ⟨_, rfl⟩
      have HM := Lib.hid (And.intro hM (show M < 2 ^ 128 by rw [hM]; exact gt_lt HH.out.2.2.1 v))
      have gpH : gp ≠ gH := by have := HH.out.2.2.2.2.2.2.1; have := G4.out; omega
      have zH : z ≠ gH := by have := G4.out; omega
      have AT : Hid (AtL wr gp (op + v * 2) (cM M)) := Lib.hid (AtL.sub (n := 2) (v * 2) (gAtL hT.out.1 P4.out gpH) (by rw [hM]; exact flat_tk cM_len (gt_some (by rw [HH.out.2.1]; exact hv8))))
      have LDP := Lib.hid (loadAt_M AT.out)
      have K1r := Lib.hid (show wr.heap[z]? = some (.cells #[.int .i64 (a : Int), .slice (some ⟨gd, od, none⟩) 128 c, .slice (some ⟨gp, op, none⟩) 128 d, vH] 25 (0, 0)) from (hT.out.1.block z (by have := G4.out; omega) (fun e => zH (Option.some.inj e))).trans K14.out)
      have m2 : wr.cell? ⟨z, 2, none⟩ = some (.slice (some ⟨gp, op, none⟩) 128 d) := by rw [cell_of_row wr _ 2 _ _ _ K1r.out]; rfl
      have LIST := Lib.hid (rList_ok M HM.out.2 wr)
      have HV := Lib.hid (And.intro hv (And.intro hv8 hlt))
      clear hv hat hM gOH gpH zH hlt hv8 AT
      go_wp2_with (refine wpList_loadL rfl 35 (.tmp 32) rfl gp (op + v * 2) (mV M) rfl LDP.out ?_)
      refine LIST.out.mono ?_
      rintro e w5 ⟨⟨vU, rfl, oU⟩, hb5⟩
      have B5 := Lib.hid hb5
      have SU := Sl_of_row cN_len (by decide) oU rfl
      obtain ⟨AU, cU, rfl, rU, -, bU, -⟩ := SU
      obtain ⟨m, hm⟩ : ∃ m, m = (listM M).length := ⟨_, rfl⟩
      rw [← hm]
      have RU := Lib.hid (And.intro rU (And.intro bU hm))
      have MN : Hid (m ≤ 128) := Lib.hid (by rw [hm]; exact listM_len M)
      obtain ⟨hs0, hhs0⟩ : ∃ h, h = refFill a ps (zs.take k) := ⟨_, rfl⟩
      have S0 : Hid (hs0.length = 128 ∧ allM hs0 ∧ hs0 = refFill a ps (zs.take k)) := Lib.hid ⟨by rw [hhs0]; exact refFill_len a ps _, by rw [hhs0]; exact refFill_all (fun x hx => ZN.out.2 x (List.mem_of_mem_take hx)), hhs0⟩
      have KH5 : Hid (w5.heap[gH]? = some (.cells (hs0.flatMap cM).toArray 35 (0, 0))) := Lib.hid (by rw [hhs0]; exact heap_keep hb5 hT.out.2)
      have G5 : Hid (w4.grownBy w5 (some gH)) := Lib.hid (gtr hT.out.1 (grown_below'' hb5 _))
      have K15 := Lib.hid (heap_keep hb5 K1r.out)
      have ZS : Hid (gH < wr.heap.size) := Lib.hid (by have := G4.out; have := hT.out.1.size; omega)
      clear hb5 oU rU bU hm hhs0 LIST LDP hT K1r m2 qO
      go_wp2_with fail
      go_loopw [9] (fun i wx => ∃ j : Nat, j ≤ m ∧ i = .int .i64 j ∧ Hid (w5.grownBy wx (some gH) ∧ wx.heap[gH]? = some (.cells ((((listM M).take j).foldl (refIn a v) hs0).flatMap cM).toArray 35 (0, 0)))) (fun i _ => m - (intOf i).toNat)
      case atStart => exact ⟨0, Nat.zero_le _, rfl, Lib.hid ⟨grown_refl _ _, KH5.out⟩⟩
      case round =>
        obtain ⟨j, hj, rfl, hT2⟩ := hrel
        by_cases hjm : j < m
        · have hwj1 : IntKind.i64.wrap ((j : Int) + 1) = (j : Int) + 1 := by have := MN.out; rw [IntKind.wrap_i64]; omega
          have hj0 : (0 : Int) ≤ (j : Int) := by omega
          have hj7 : (j : Int) < (m : Int) := by omega
          obtain ⟨u, gU, oU, hu, rfl, hat⟩ := Rd_at RU.out.1 (k := j) (by rw [← RU.out.2.2]; exact hjm)
          have hu8 : u < 128 := listM_lt (List.mem_of_getElem? hu)
          have hu0 : (0 : Int) ≤ (u : Int) := by omega
          have hu1 : (u : Int) < 128 := by omega
          have gUH : gU ≠ gH := by have h1 := RU.out.2.1 _ rfl; have h2 := ZS.out; simp at h1; omega
          have qU : wr.cell? ⟨gU, oU + j, none⟩ = some (.int .i64 (u : Int)) := by
            have := hat 0 (.int .i64 (u : Int)) rfl
            rw [Nat.add_zero, Nat.mul_one] at this
            exact gcell hT2.out.1 this gUH
          obtain ⟨hs1, hhs1⟩ : ∃ h, h = ((listM M).take j).foldl (refIn a v) hs0 := ⟨_, rfl⟩
          have S1 : Hid (hs1.length = 128 ∧ allM hs1) := Lib.hid ⟨by rw [hhs1, refInF_len]; exact S0.out.1, by rw [hhs1]; exact refInF_all HV.out.2.1 _ _ S0.out.2.1⟩
          have S2 : Hid (((listM M).take (j + 1)).foldl (refIn a v) hs0 = refIn a v hs1 u) := Lib.hid (by rw [hhs1]; exact refIn_s hu)
          have KHr : Hid (wr.heap[gH]? = some (.cells (hs1.flatMap cM).toArray 35 (0, 0))) := Lib.hid (by rw [hhs1]; exact hT2.out.2)
          have GR := Lib.hid hT2.out.1
          obtain ⟨M1, hM1⟩ : ∃ x, x = gt hs1 u := ⟨_, rfl⟩
          obtain ⟨N1, hN1⟩ : ∃ x, x = gt hs1 v := ⟨_, rfl⟩
          have MM := Lib.hid (show M1 = gt hs1 u ∧ N1 = gt hs1 v ∧ M1 < 2 ^ 128 ∧ N1 < 2 ^ 128 from ⟨hM1, hN1, by rw [hM1]; exact gt_lt S1.out.2 u, by rw [hN1]; exact gt_lt S1.out.2 v⟩)
          have ATH : ∀ w2 : World, w2.heap[gH]? = some (.cells (hs1.flatMap cM).toArray 35 (0, 0)) → (loadVar 35 ⟨gH, u * 2, none⟩).run Tryd.prog w2 = .ok (mV M1) w2 ∧ (loadVar 35 ⟨gH, v * 2, none⟩).run Tryd.prog w2 = .ok (mV N1) w2 := fun w2 hk2 => by
            have e1 := AtL.sub (n := 2) (u * 2) (AtL_heap hk2) (flat_tk cM_len (gt_some (by rw [S1.out.1]; exact hu8)))
            have e2 := AtL.sub (n := 2) (v * 2) (AtL_heap hk2) (flat_tk cM_len (gt_some (by rw [S1.out.1]; exact HV.out.2.1)))
            rw [Nat.zero_add, ← hM1] at e1
            rw [Nat.zero_add, ← hN1] at e2
            exact ⟨loadAt_M e1, loadAt_M e2⟩
          have HATH := Lib.hid ATH
          have LDH := Lib.hid (ATH wr KHr.out).1
          have K1r := Lib.hid (show wr.heap[z]? = some (.cells #[.int .i64 (a : Int), .slice (some ⟨gd, od, none⟩) 128 c, .slice (some ⟨gp, op, none⟩) 128 d, vH] 25 (0, 0)) from (GR.out.block z (by have := G4.out; have := G5.out.size; omega) (fun e => by have := G4.out; have := Option.some.inj e; omega)).trans K15.out)
          have HJ := Lib.hid (And.intro hj hjm)
          have QU := Lib.hid qU
          clear hu hat hu8 gUH hhs1 hM1 hN1 ATH hjm hj hT2
          go_wp2_with (first | (refine wpList_loadL rfl 35 (.tmp 46) rfl gH (u * 2) (mV M1) rfl LDH.out ?_) | (refine wpList_storeN rfl 35 (.tmp 10) (.tmp 47) rfl rfl wr.heap.size #[.int .u64 (loM M1), .int .u64 (hiM M1)] rfl rfl 35 _ (heap_at rfl) cinfo25s rfl (by simp [Value.oneCell']) ?_; intro w6 hz6 hb6 hn6 hs6; have Z6 := Lib.hid hz6; have B6 := Lib.hid (show Below wr.heap.size wr w6 from ((Below.refl _ _).alloc (Nat.le_refl _) _).trans (hb6 _ (Nat.le_refl _))); have S6 := Lib.hid (show w6.heap.size = wr.heap.size + 1 by rw [hs6]; simp); clear hz6 hb6 hn6 hs6))
          obtain ⟨b10, hb10⟩ : ∃ b, b = wr.heap.size := ⟨_, rfl⟩
          rw [← hb10] at Z6 S6 ⊢
          have HB10 := Lib.hid hb10
          clear hb10 qU LDH
          have HC : ∀ w2, Below w6.heap.size w6 w2 → w2.cell? ⟨gU, oU + j, none⟩ = some (.int .i64 (u : Int)) ∧ w2.cell? ⟨z, 0, none⟩ = some (.int .i64 (a : Int)) := fun w2 h2 => ⟨bcell (bthen B6.out h2) QU.out, by rw [cell_of_row w2 _ 0 _ _ _ (heap_keep (bthen B6.out h2) K1r.out)]; rfl⟩
          refine Og.walk_lit [[],[],[0,1],[2,0,1],[],[4],[3,5,2,0,1,4]] (fun w2 => Below w6.heap.size w6 w2) (fun w1 w2 => Below w1.heap.size w1 w2) (by kernel_rfl) (by kernel_rfl) (bdrew) ?_
          iterate 7 (refine Og.step_pure (fun _ => Below.refl _ _) ?_; apply Exists.intro; refine And.intro ?_ ?_; focus (intro vs w2 hC hk; have hm := HC w2 hC; revert hk; simp only [Og.KS, Og.K0, Og.Is, List.getD_cons_zero, List.getD_cons_succ, List.getD_nil, List.contains_cons, List.contains_nil, Nat.reduceAdd, Nat.reduceBEq, Bool.or_false, Bool.false_or, Bool.or_true, Bool.true_or, Bool.false_eq_true, false_implies, true_implies, true_and, and_true, forall_const]; intros; go_simp; rfl))
          intro vs w7 hC hk
          have hm := HC w7 hC
          simp only [Og.KS, Og.K0, Og.Is, List.getD_cons_zero, List.getD_cons_succ, List.getD_nil, List.contains_cons, List.contains_nil, Nat.reduceAdd, Nat.reduceBEq, Bool.or_false, Bool.false_or, Bool.or_true, Bool.true_or, Bool.false_eq_true, false_implies, true_implies, true_and, and_true, forall_const] at hk
          simp only [hk, Act.put, List.setIfInBounds_toArray, List.set_cons_zero, List.set_cons_succ]
          clear hk
          clear hm HC
          have B7 := Lib.hid (bthen B6.out hC)
          have Z7 := Lib.hid (heap_keep hC Z6.out)
          clear hC B6 Z6 QU K1r
          by_cases hua : u = a
          · have hui : (u : Int) = (a : Int) := by omega
            have hub : ((u : Int) == (a : Int)) = true := by simp; omega
            have hud : (u == a) = true := by simp; omega
            have UA := Lib.hid hua
            clear hua
            have hsl : ∀ (X : World), Sl cN 1 0 (X.alloc (Obj.cells #[.int .i64 (v : Int)] 3)) (.slice (some ⟨X.heap.size, 0, none⟩) 1 1) [v] := fun X => sl_one (heap_at rfl)
            have OF := Lib.hid (fun X => rOf_ok [v] _ _ (hsl X) (fun x hx => by rw [List.mem_singleton.1 hx]; exact HV.out.2.1) (by simp))
            clear hsl
            go_wp2_with fail
            refine (OF.out _).mono ?_
            rintro e w8 ⟨rfl, hb8⟩
            have hb8' : Below w7.heap.size w7 w8 := ((Below.refl _ _).alloc (Nat.le_refl _) _).trans (hb8.mono (by simp))
            have Z8 := Lib.hid (heap_keep hb8' Z7.out)
            have B8 := Lib.hid (bthen B7.out hb8')
            rw [ofM_one]
            clear hb8 hb8' OF
            obtain ⟨M2, hM2⟩ : ∃ M2, M2 = 2 ^ v := ⟨_, rfl⟩
            rw [← hM2]
            have HM2 := Lib.hid (show M2 < 2 ^ 128 ∧ refIn a v hs1 u = hs1.set v (N1 ||| M2) from ⟨by rw [hM2]; exact Nat.pow_lt_pow_right (by omega) HV.out.2.1, by unfold refIn; rw [if_pos UA.out, MM.out.2.1, hM2]⟩)
            clear hM2
            go_wp2_with (first | (refine wpList_storeN rfl 35 (.tmp 10) (.tmp 59) rfl rfl b10 #[.int .u64 (loM M2), .int .u64 (hiM M2)] rfl rfl 35 _ Z8.out cinfo25s rfl (by simp [Value.oneCell']) ?_; intro w9 hz9 hb9 hn9 hs9; have Z9 := Lib.hid hz9; have B9 := Lib.hid (show Below wr.heap.size wr w9 from B8.out.trans (hb9 _ (by rw [HB10.out]; exact Nat.le_refl _))); clear hz9 hb9 hn9 hs9))
            have KH9 := Lib.hid (heap_keep B9.out KHr.out)
            have HOR := Lib.hid (fun w2 => rOr_ok N1 M2 MM.out.2.2.2 HM2.out.1 w2)
            refine Og.Tail.walk_lit 9 [[],[],[],[],[2,3],[4,2,3],[],[5,6,4,2,3],[0,1,2,3,4,5,6,7],[8,7,0,1,2,3,4,5,6]] (fun w2 => Below w9.heap.size w9 w2) (fun w1 w2 => Below w1.heap.size w1 w2) (by kernel_rfl) (by kernel_rfl) (by kernel_rfl) (bdrew) ?_
            simp only [List.take_succ_cons, List.take_zero, List.drop_succ_cons, List.drop_zero]
            iterate 5 (refine Og.step_pure (fun _ => Below.refl _ _) ?_; apply Exists.intro; refine And.intro ?_ ?_; focus (intro vs w2 hC hk; revert hk; simp only [Og.KS, Og.K0, Og.Is, List.getD_cons_zero, List.getD_cons_succ, List.getD_nil, List.contains_cons, List.contains_nil, Nat.reduceAdd, Nat.reduceBEq, Bool.or_false, Bool.false_or, Bool.or_true, Bool.true_or, Bool.false_eq_true, false_implies, true_implies, true_and, and_true, forall_const]; intros; go_simp; rfl))
            refine Og.step_pure (fun _ => Below.refl _ _) ?_; apply Exists.intro; refine And.intro ?_ ?_; focus (intro vs w2 hC hk; have hl := (HATH.out w2 (heap_keep hC KH9.out)).2; refine Og.OptB.out ?_; revert hk; simp only [Og.KS, Og.K0, Og.Is, List.getD_cons_zero, List.getD_cons_succ, List.getD_nil, List.contains_cons, List.contains_nil, Nat.reduceAdd, Nat.reduceBEq, Bool.or_false, Bool.false_or, Bool.or_true, Bool.true_or, Bool.false_eq_true, false_implies, true_implies, true_and, and_true, forall_const]; intros; exact optB_loadL (by go_simp) rfl (by go_simp) hl ⟨rfl, rfl⟩)
            refine Og.step_pure (fun _ => Below.refl _ _) ?_; apply Exists.intro; refine And.intro ?_ ?_; focus (intro vs w2 hC hk; have hl := cldM (heap_keep hC Z9.out); refine Og.OptB.out ?_; revert hk; simp only [Og.KS, Og.K0, Og.Is, List.getD_cons_zero, List.getD_cons_succ, List.getD_nil, List.contains_cons, List.contains_nil, Nat.reduceAdd, Nat.reduceBEq, Bool.or_false, Bool.false_or, Bool.or_true, Bool.true_or, Bool.false_eq_true, false_implies, true_implies, true_and, and_true, forall_const]; intros; exact optB_loadL (by go_simp) rfl (by go_simp) hl ⟨rfl, rfl⟩)
            refine Og.step_one ?_; apply Exists.intro; refine And.intro ?_ ?_; focus (intro vs w2 hC hk; revert hk; simp only [Og.KS, Og.K0, Og.Is, List.getD_cons_zero, List.getD_cons_succ, List.getD_nil, List.contains_cons, List.contains_nil, Nat.reduceAdd, Nat.reduceBEq, Bool.or_false, Bool.false_or, Bool.or_true, Bool.true_or, Bool.false_eq_true, false_implies, true_implies, true_and, and_true, forall_const]; intros; go_simp; with_reducible refine (HOR.out w2).mono ?_; rintro e w3 ⟨rfl, hb⟩; exact Og.RetV.mk ⟨bthen hC hb, hb, rfl⟩)
            refine Og.step_pure (fun _ => Below.refl _ _) ?_; apply Exists.intro; refine And.intro ?_ ?_; focus (intro vs w2 hC hk; revert hk; simp only [Og.KS, Og.K0, Og.Is, List.getD_cons_zero, List.getD_cons_succ, List.getD_nil, List.contains_cons, List.contains_nil, Nat.reduceAdd, Nat.reduceBEq, Bool.or_false, Bool.false_or, Bool.or_true, Bool.true_or, Bool.false_eq_true, false_implies, true_implies, true_and, and_true, forall_const]; intros; go_simp; rfl)
            intro vs w2 hC hk
            simp only [Og.KS, Og.K0, Og.Is, List.getD_cons_zero, List.getD_cons_succ, List.getD_nil, List.contains_cons, List.contains_nil, Nat.reduceAdd, Nat.reduceBEq, Bool.or_false, Bool.false_or, Bool.or_true, Bool.true_or, Bool.false_eq_true, false_implies, true_implies, true_and, and_true, forall_const] at hk
            simp only [hk, Act.put, List.setIfInBounds_toArray, List.set_cons_zero, List.set_cons_succ]
            clear hk
            have hC9 := Lib.hid hC
            obtain ⟨w11, r11, k11, g11⟩ := run_storeH (k := v) (M := N1 ||| M2) (heap_keep hC KH9.out) (by rw [S1.out.1]; exact HV.out.2.1)
            have R11 := Lib.hid r11
            have FIN : Hid (w5.grownBy w11 (some gH) ∧ w11.heap[gH]? = some (.cells ((((listM M).take (j + 1)).foldl (refIn a v) hs0).flatMap cM).toArray 35 (0, 0))) := Lib.hid ⟨gtr (gtr GR.out (grown_below'' (bthen B9.out hC) _)) g11, by rw [S2.out, HM2.out.2]; exact k11⟩
            clear r11 k11 g11 hC
            go_wp2_with (refine wpList_storeR (ty := 35) (x := .tmp 69) (y := .tmp 68) rfl rfl rfl (by go_simp) (by go_simp) R11.out ?_)
            go_roundw
            case rel => exact ⟨j + 1, by have := HJ.out.2; omega, by go_num, FIN⟩
            case measure => have := HJ.out.2; simp [intOf]; omega
          · have hui : ¬ (u : Int) = (a : Int) := by omega
            have hub : ((u : Int) == (a : Int)) = false := by simp; omega
            have hud : (u == a) = false := by simp; omega
            have UA := Lib.hid hua
            clear hua
            have KH9 := Lib.hid (heap_keep B7.out KHr.out)
            obtain ⟨M2, hM2⟩ : ∃ M2, M2 = M1 := ⟨_, rfl⟩
            have Z9 := Lib.hid (show w7.heap[b10]? = some (.cells #[.int .u64 (loM M2), .int .u64 (hiM M2)] 35 (0, 0)) by rw [hM2]; exact Z7.out)
            have HM2 := Lib.hid (show M2 < 2 ^ 128 ∧ refIn a v hs1 u = hs1.set v (N1 ||| M2) from ⟨by rw [hM2]; exact MM.out.2.2.1, by unfold refIn; rw [if_neg UA.out, MM.out.2.1, hM2, MM.out.1]⟩)
            have HOR := Lib.hid (fun w2 => rOr_ok N1 M2 MM.out.2.2.2 HM2.out.1 w2)
            have B9 := B7
            clear hM2 Z7 B7
            go_wp2_with fail
            refine Og.Tail.walk_lit 9 [[],[],[],[],[2,3],[4,2,3],[],[5,6,4,2,3],[0,1,2,3,4,5,6,7],[8,7,0,1,2,3,4,5,6]] (fun w2 => Below w7.heap.size w7 w2) (fun w1 w2 => Below w1.heap.size w1 w2) (by kernel_rfl) (by kernel_rfl) (by kernel_rfl) (bdrew) ?_
            simp only [List.take_succ_cons, List.take_zero, List.drop_succ_cons, List.drop_zero]
            iterate 5 (refine Og.step_pure (fun _ => Below.refl _ _) ?_; apply Exists.intro; refine And.intro ?_ ?_; focus (intro vs w2 hC hk; revert hk; simp only [Og.KS, Og.K0, Og.Is, List.getD_cons_zero, List.getD_cons_succ, List.getD_nil, List.contains_cons, List.contains_nil, Nat.reduceAdd, Nat.reduceBEq, Bool.or_false, Bool.false_or, Bool.or_true, Bool.true_or, Bool.false_eq_true, false_implies, true_implies, true_and, and_true, forall_const]; intros; go_simp; rfl))
            refine Og.step_pure (fun _ => Below.refl _ _) ?_; apply Exists.intro; refine And.intro ?_ ?_; focus (intro vs w2 hC hk; have hl := (HATH.out w2 (heap_keep hC KH9.out)).2; refine Og.OptB.out ?_; revert hk; simp only [Og.KS, Og.K0, Og.Is, List.getD_cons_zero, List.getD_cons_succ, List.getD_nil, List.contains_cons, List.contains_nil, Nat.reduceAdd, Nat.reduceBEq, Bool.or_false, Bool.false_or, Bool.or_true, Bool.true_or, Bool.false_eq_true, false_implies, true_implies, true_and, and_true, forall_const]; intros; exact optB_loadL (by go_simp) rfl (by go_simp) hl ⟨rfl, rfl⟩)
            refine Og.step_pure (fun _ => Below.refl _ _) ?_; apply Exists.intro; refine And.intro ?_ ?_; focus (intro vs w2 hC hk; have hl := cldM (heap_keep hC Z9.out); refine Og.OptB.out ?_; revert hk; simp only [Og.KS, Og.K0, Og.Is, List.getD_cons_zero, List.getD_cons_succ, List.getD_nil, List.contains_cons, List.contains_nil, Nat.reduceAdd, Nat.reduceBEq, Bool.or_false, Bool.false_or, Bool.or_true, Bool.true_or, Bool.false_eq_true, false_implies, true_implies, true_and, and_true, forall_const]; intros; exact optB_loadL (by go_simp) rfl (by go_simp) hl ⟨rfl, rfl⟩)
            refine Og.step_one ?_; apply Exists.intro; refine And.intro ?_ ?_; focus (intro vs w2 hC hk; revert hk; simp only [Og.KS, Og.K0, Og.Is, List.getD_cons_zero, List.getD_cons_succ, List.getD_nil, List.contains_cons, List.contains_nil, Nat.reduceAdd, Nat.reduceBEq, Bool.or_false, Bool.false_or, Bool.or_true, Bool.true_or, Bool.false_eq_true, false_implies, true_implies, true_and, and_true, forall_const]; intros; go_simp; with_reducible refine (HOR.out w2).mono ?_; rintro e w3 ⟨rfl, hb⟩; exact Og.RetV.mk ⟨bthen hC hb, hb, rfl⟩)
            refine Og.step_pure (fun _ => Below.refl _ _) ?_; apply Exists.intro; refine And.intro ?_ ?_; focus (intro vs w2 hC hk; revert hk; simp only [Og.KS, Og.K0, Og.Is, List.getD_cons_zero, List.getD_cons_succ, List.getD_nil, List.contains_cons, List.contains_nil, Nat.reduceAdd, Nat.reduceBEq, Bool.or_false, Bool.false_or, Bool.or_true, Bool.true_or, Bool.false_eq_true, false_implies, true_implies, true_and, and_true, forall_const]; intros; go_simp; rfl)
            intro vs w2 hC hk
            simp only [Og.KS, Og.K0, Og.Is, List.getD_cons_zero, List.getD_cons_succ, List.getD_nil, List.contains_cons, List.contains_nil, Nat.reduceAdd, Nat.reduceBEq, Bool.or_false, Bool.false_or, Bool.or_true, Bool.true_or, Bool.false_eq_true, false_implies, true_implies, true_and, and_true, forall_const] at hk
            simp only [hk, Act.put, List.setIfInBounds_toArray, List.set_cons_zero, List.set_cons_succ]
            clear hk
            have hC9 := Lib.hid hC
            obtain ⟨w11, r11, k11, g11⟩ := run_storeH (k := v) (M := N1 ||| M2) (heap_keep hC KH9.out) (by rw [S1.out.1]; exact HV.out.2.1)
            have R11 := Lib.hid r11
            have FIN : Hid (w5.grownBy w11 (some gH) ∧ w11.heap[gH]? = some (.cells ((((listM M).take (j + 1)).foldl (refIn a v) hs0).flatMap cM).toArray 35 (0, 0))) := Lib.hid ⟨gtr (gtr GR.out (grown_below'' (bthen B9.out hC) _)) g11, by rw [S2.out, HM2.out.2]; exact k11⟩
            clear r11 k11 g11 hC
            go_wp2_with (refine wpList_storeR (ty := 35) (x := .tmp 69) (y := .tmp 68) rfl rfl rfl (by go_simp) (by go_simp) R11.out ?_)
            go_roundw
            case rel => exact ⟨j + 1, by have := HJ.out.2; omega, by go_num, FIN⟩
            case measure => have := HJ.out.2; simp [intOf]; omega
        · have hjn : ¬ (j : Int) < (m : Int) := by omega
          have hje : j = m := by omega
          have FIN2 : Hid (w4.grownBy wr (some gH) ∧ wr.heap[gH]? = some (.cells ((refFill a ps (zs.take (k + 1))).flatMap cM).toArray 35 (0, 0))) := Lib.hid ⟨gtr G5.out hT2.out.1, by
            rw [refFill_s HV.out.1, ← S0.out.2.2]
            have h1 := hT2.out.2
            rw [hje, RU.out.2.2, List.take_length, HM.out.1] at h1
            exact h1⟩
          clear hje hj hT2
          go_wp2_with fail
          go_roundw
          case rel => exact ⟨k + 1, by have := HV.out.2.2; omega, by go_num, FIN2⟩
          case measure => have := HV.out.2.2; simp [intOf]; omega
    · have hkn : ¬ (k : Int) < (n : Int) := by omega
      have hke : k = n := by omega
      obtain ⟨hF, hhF⟩ : ∃ h, h = refFill a ps zs := ⟨_, rfl⟩
      have KHF : Hid (wr.heap[gH]? = some (.cells (hF.flatMap cM).toArray 35 (0, 0))) := Lib.hid (by
        have h1 := hT.out.2
        rw [hke, RO.out.2.2.2.2, List.take_length, ← hhF] at h1
        exact h1)
      have HHF := Lib.hid hhF
      have GR := Lib.hid hT.out.1
      have zNH : z ≠ gH ∧ z + 1 ≠ gH ∧ gd ≠ gH ∧ gp ≠ gH := by have := G4.out; have h1 := HH.out.2.2.2.2.2.1; have h2 := HH.out.2.2.2.2.2.2.1; omega
      have zL : z + 1 < w4.heap.size := by have := G4.out; omega
      have K1r := Lib.hid (show wr.heap[z]? = some (.cells #[.int .i64 (a : Int), .slice (some ⟨gd, od, none⟩) 128 c, .slice (some ⟨gp, op, none⟩) 128 d, vH] 25 (0, 0)) from (GR.out.block z (by omega) (fun e => zNH.1 (Option.some.inj e))).trans K14.out)
      have K2r := Lib.hid (show wr.heap[z + 1]? = some (.cells #[.int .i64 0, .slice none 0 0, .slice none 0 0, .slice none 0 0] 25 (0, 0)) from (GR.out.block (z + 1) (by omega) (fun e => zNH.2.1 (Option.some.inj e))).trans K24.out)
      have DR := Lib.hid (gAtL GR.out D4.out zNH.2.2.1)
      have PR := Lib.hid (gAtL GR.out P4.out zNH.2.2.2)
      have NN : Hid (((some (⟨gd, od, none⟩ : Addr)) = none → c = 0) ∧ ((some (⟨gp, op, none⟩ : Addr)) = none → d = 0)) := Lib.hid ⟨fun e => (by cases e), fun e => (by cases e)⟩
      have HRR := Lib.hid (show ∀ w2, Below wr.heap.size wr w2 → Rd cI 1 w2 (some ⟨gd, od, none⟩) ds ∧ Rd cM 2 w2 (some ⟨gp, op, none⟩) ps from fun w2 hb => ⟨fun i x hx => ⟨gd, od, rfl, AtL.sub (n := 1) (i * 1) (DR.out.below hb) (by rw [← dC_flat]; exact flat_tk cI_len hx)⟩, fun i x hx => ⟨gp, op, rfl, AtL.sub (n := 2) (i * 2) (PR.out.below hb) (flat_tk cM_len hx)⟩⟩)
      have HLL := Lib.hid (show (ds.length ≤ maxLen ∧ ds.length * 8 ≤ 140737488355328) ∧ (ps.length ≤ maxLen ∧ ps.length * 16 ≤ 140737488355328) from by
        have e1 := HH.out.1; have e2 := HH.out.2.1; unfold maxLen
        exact ⟨⟨by omega, by omega⟩, ⟨by omega, by omega⟩⟩)
      have LD := Lib.hid (And.intro HH.out.1 HH.out.2.1)
      have HC := Lib.hid (show ∀ w2, Below wr.heap.size wr w2 → w2.cell? ⟨z, 0, none⟩ = some (.int .i64 (a : Int)) ∧ w2.cell? ⟨z, 1, none⟩ = some (.slice (some ⟨gd, od, none⟩) ds.length c) ∧ w2.cell? ⟨z, 2, none⟩ = some (.slice (some ⟨gp, op, none⟩) ps.length d) from fun w2 hb => by
        have k := heap_keep hb K1r.out
        rw [LD.out.1, LD.out.2]
        exact ⟨by rw [cell_of_row w2 _ 0 _ _ _ k]; rfl, by rw [cell_of_row w2 _ 1 _ _ _ k]; rfl, by rw [cell_of_row w2 _ 2 _ _ _ k]; rfl⟩)
      have G9 := Lib.hid (show Below w.heap.size w wr ∧ w.heap.size ≤ wr.heap.size ∧ z + 2 ≤ wr.heap.size ∧ gH < wr.heap.size from by
        have h1 := G4.out; have h2 := GR.out.size
        exact ⟨h1.1.grown GR.out h1.1.size (fun k e => by cases e; exact h1.2.1), by have := h1.1.size; omega, by omega, by omega⟩)
      clear hke hT hhF zNH zL hk
      go_wp2_with fail
      refine Og.Joint2.walk_lit 12 [[],[0],[],[],[3],[2,4,3],[],[],[7],[6,8,5,7,2,4,3],[],[1,5,9,10,0,2,4,3,6,8,7],[11,9,0,1,2,3,4,5,6,7,8,10],[12,0,1,2,3,4,5,6,7,8,9,10,11]] (fun _ _ w2 => Below wr.heap.size wr w2) (fun w1 w2 => Below w1.heap.size w1 w2) (by kernel_rfl) (by kernel_rfl) (by kernel_rfl) (fun vs => bdrew) ?_
      simp only [List.take_succ_cons, List.take_zero, List.drop_succ_cons, List.drop_zero]
      iterate 2 (refine Og.Joint2.step_pureP (fun p vs v w h => h) (fun _ => Below.refl _ _) ?_; apply Exists.intro; refine And.intro ?_ ?_; focus (intro p vs w2 hp hC hk; have hm := HC.out w2 hC; refine Og.OptB.mk ?_; revert hk; simp only [Og.KS, Og.K0, Og.Is, List.getD_cons_zero, List.getD_cons_succ, List.getD_nil, List.contains_cons, List.contains_nil, Nat.reduceAdd, Nat.reduceBEq, Bool.or_false, Bool.false_or, Bool.or_true, Bool.true_or, Bool.false_eq_true, false_implies, true_implies, true_and, and_true, forall_const]; intros; go_simp; rfl))
      refine Og.Joint2.step_any (IsEr wr 3) IsEr.keep ?_ ?_; focus (intro p vs w2 hp hC hk; refine Og.OptB.mk ?_; revert hk; simp only [Og.KS, Og.K0, Og.Is, List.getD_cons_zero, List.getD_cons_succ, List.getD_nil, List.contains_cons, List.contains_nil, Nat.reduceAdd, Nat.reduceBEq, Bool.or_false, Bool.false_or, Bool.or_true, Bool.true_or, Bool.false_eq_true, false_implies, true_implies, true_and, and_true, forall_const]; intros; go_simp; exact ⟨bthen hC ((Below.refl _ _).alloc (Nat.le_refl _) _), (Below.refl _ _).alloc (Nat.le_refl _) _, _, rfl, hC.size, heap_at rfl⟩)
      iterate 2 (refine Og.Joint2.step_pureP (fun p vs v w h => h) (fun _ => Below.refl _ _) ?_; apply Exists.intro; refine And.intro ?_ ?_; focus (intro p vs w2 hp hC hk; have hm := HC.out w2 hC; refine Og.OptB.mk ?_; revert hk; simp only [Og.KS, Og.K0, Og.Is, List.getD_cons_zero, List.getD_cons_succ, List.getD_nil, List.contains_cons, List.contains_nil, Nat.reduceAdd, Nat.reduceBEq, Bool.or_false, Bool.false_or, Bool.or_true, Bool.true_or, Bool.false_eq_true, false_implies, true_implies, true_and, and_true, forall_const]; intros; go_simp; rfl))
      refine Og.Joint2.step_any (fun v w5 => w5.ownsRow wr.heap.size 3 1 v ds.length (ds.flatMap cI)) (fun v w w2 hb h => own_below h hb) ?_ ?_; focus (intro p vs w2 hp hC hk; have hr := HRR.out w2 hC; have hl := HLL.out; simp only [Og.KS, Og.K0, Og.Is, List.getD_cons_zero, List.getD_cons_succ, List.getD_nil, List.contains_cons, List.contains_nil, Nat.reduceAdd, Nat.reduceBEq, Bool.or_false, Bool.false_or, Bool.or_true, Bool.true_or, Bool.false_eq_true, false_implies, true_implies, true_and, and_true, forall_const] at hk; obtain ⟨e1, -, hE⟩ := hk; obtain ⟨g, e0, hg, kg⟩ := hE; refine opt_spreadB cI 1 22 3 8 cI_len cI_one (by omega) Tryd.underlying22 cinfo3 rfl (by go_simp) (.tmp 72) (.tmp 74) rfl wr.heap.size g (some ⟨gd, od, none⟩) c ds (by go_simp) (by go_simp) kg hg hC.size hr.1 NN.out.1 hl.1.1 hl.1.2 ?_; intro v' w' ho hb; exact ⟨bthen hC hb, hb, ho⟩)
      refine Og.Joint2.step_any (IsEr wr 35) IsEr.keep ?_ ?_; focus (intro p vs w2 hp hC hk; refine Og.OptB.mk ?_; revert hk; simp only [Og.KS, Og.K0, Og.Is, List.getD_cons_zero, List.getD_cons_succ, List.getD_nil, List.contains_cons, List.contains_nil, Nat.reduceAdd, Nat.reduceBEq, Bool.or_false, Bool.false_or, Bool.or_true, Bool.true_or, Bool.false_eq_true, false_implies, true_implies, true_and, and_true, forall_const]; intros; go_simp; exact ⟨bthen hC ((Below.refl _ _).alloc (Nat.le_refl _) _), (Below.refl _ _).alloc (Nat.le_refl _) _, _, rfl, hC.size, heap_at rfl⟩)
      iterate 2 (refine Og.Joint2.step_pureP (fun p vs v w h => h) (fun _ => Below.refl _ _) ?_; apply Exists.intro; refine And.intro ?_ ?_; focus (intro p vs w2 hp hC hk; have hm := HC.out w2 hC; refine Og.OptB.mk ?_; revert hk; simp only [Og.KS, Og.K0, Og.Is, List.getD_cons_zero, List.getD_cons_succ, List.getD_nil, List.contains_cons, List.contains_nil, Nat.reduceAdd, Nat.reduceBEq, Bool.or_false, Bool.false_or, Bool.or_true, Bool.true_or, Bool.false_eq_true, false_implies, true_implies, true_and, and_true, forall_const]; intros; go_simp; rfl))
      refine Og.Joint2.step_any (fun v w5 => w5.ownsRow wr.heap.size 35 2 v ps.length (ps.flatMap cM)) (fun v w w2 hb h => own_below h hb) ?_ ?_; focus (intro p vs w2 hp hC hk; have hr := HRR.out w2 hC; have hl := HLL.out; simp only [Og.KS, Og.K0, Og.Is, List.getD_cons_zero, List.getD_cons_succ, List.getD_nil, List.contains_cons, List.contains_nil, Nat.reduceAdd, Nat.reduceBEq, Bool.or_false, Bool.false_or, Bool.or_true, Bool.true_or, Bool.false_eq_true, false_implies, true_implies, true_and, and_true, forall_const] at hk; obtain ⟨e1, -, hE, -⟩ := hk; obtain ⟨g, e0, hg, kg⟩ := hE; refine opt_spreadB cM 2 23 35 16 cM_len cM_one (by omega) Tryd.underlying23 cinfo25 rfl (by go_simp) (.tmp 76) (.tmp 78) rfl wr.heap.size g (some ⟨gp, op, none⟩) d ps (by go_simp) (by go_simp) kg hg hC.size hr.2 NN.out.2 hl.2.1 hl.2.2 ?_; intro v' w' ho hb; exact ⟨bthen hC hb, hb, ho⟩)
      refine Og.Joint2.step_pureP (fun p vs v w h => h) (fun _ => Below.refl _ _) ?_; apply Exists.intro; refine And.intro ?_ ?_; focus (intro p vs w2 hp hC hk; have hm := HC.out w2 hC; refine Og.OptB.mk ?_; revert hk; simp only [Og.KS, Og.K0, Og.Is, List.getD_cons_zero, List.getD_cons_succ, List.getD_nil, List.contains_cons, List.contains_nil, Nat.reduceAdd, Nat.reduceBEq, Bool.or_false, Bool.false_or, Bool.or_true, Bool.true_or, Bool.false_eq_true, false_implies, true_implies, true_and, and_true, forall_const]; intros; go_simp; rfl)
      refine Og.Joint2.step_any (IsT8 wr a gH ds ps) IsT8.keep ?_ ?_; focus (intro p vs w2 hp hC hk; refine Og.OptB.mk ?_; simp only [Og.KS, Og.K0, Og.Is, List.getD_cons_zero, List.getD_cons_succ, List.getD_nil, List.contains_cons, List.contains_nil, Nat.reduceAdd, Nat.reduceBEq, Bool.or_false, Bool.false_or, Bool.or_true, Bool.true_or, Bool.false_eq_true, false_implies, true_implies, true_and, and_true, forall_const] at hk; obtain ⟨h10, h9, h8, h7, h6, h5, h4, h3, h2, h1, h0⟩ := hk; obtain ⟨A5, c5, e5⟩ := own_small h5; obtain ⟨A9, c9, e9⟩ := own_small h9; rw [e5] at h5; rw [e9] at h9; have HH := Lib.hid (And.intro hC (And.intro h5 h9)); clear hC h5 h9; go_simp; exact ⟨HH.out.1, Below.refl _ _, _, _, rfl, HH.out.2.1, HH.out.2.2⟩)
      intro p vs w5 hC0 hC hk
      have B5 := Lib.hid hC
      simp only [Og.KS, Og.K0, Og.Is, List.getD_cons_zero, List.getD_cons_succ, List.getD_nil, List.contains_cons, List.contains_nil, Nat.reduceAdd, Nat.reduceBEq, Bool.or_false, Bool.false_or, Bool.or_true, Bool.true_or, Bool.false_eq_true, false_implies, true_implies, true_and, and_true, forall_const] at hk
      obtain ⟨⟨vD, vP, e11, oD, oP⟩, h10, h9, h8, h7, h6, h5, h4, h3, h2, h1, h0⟩ := hk
      have oo := Lib.hid (And.intro oD oP)
      have O1 : Hid (vD.oneCell' = true ∧ vP.oneCell' = true) := Lib.hid (by
        obtain ⟨_, _, e1⟩ := own_small oD
        obtain ⟨_, _, e2⟩ := own_small oP
        rw [e1, e2]
        exact ⟨rfl, rfl⟩)
      simp only [e11, h10, h8, h7, h6, h4, h3, h2, h1, h0, Act.put, List.setIfInBounds_toArray, List.set_cons_zero, List.set_cons_succ]
      clear hC hC0 e11 h10 h9 h8 h7 h6 h5 h4 h3 h2 h1 h0 oD oP
      go_wp2_with (refine wpList_storeN rfl 25 (.tmp 2) (.tmp 81) rfl rfl (z + 1) #[.int .i64 (a : Int), vD, vP, .slice (some ⟨gH, 0, none⟩) 128 128] rfl rfl 25 _ (heap_keep B5.out K2r.out) info99s rfl (by simp [O1.out, show (Value.int IntKind.i64 (a : Int)).oneCell' = true from rfl, show (Value.slice (some ⟨gH, 0, none⟩) 128 128).oneCell' = true from rfl]) ?_; intro w6 hz6 hb6 hn6 hs6; have Z6 := Lib.hid hz6; have H6 := Lib.hid hb6; have N6 := Lib.hid hn6; clear hz6 hb6 hn6 hs6)
      refine bodyPost_ret (results_cell_tmp1 rfl rfl (run_loadL (cs := [.int .i64 (a : Int), vD, vP, .slice (some ⟨gH, 0, none⟩) 128 128]) isAgg25t size25t rfl (AtL_heap Z6.out))) rfl ?_
      have G6 : Hid (w5.grownBy w6 (some (z + 1))) := Lib.hid (by
        have b := H6.out 0 (Nat.zero_le _)
        exact ⟨b.os, b.tape, b.output, b.size, fun k _ hne => N6.out k (fun e => hne (by rw [e]))⟩)
      have hg9 := G9.out
      have KP := Lib.hid (show ∀ (ty m n : Nat) (v : Value) (xs : List Value), w5.ownsRow wr.heap.size ty m v n xs → w6.ownsRow w.heap.size ty m v n xs from fun ty m n v xs h => own_lower (h.kept G6.out (by
        cases hv : v.ownBlock with
        | none => exact .inl rfl
        | some k => exact .inr (fun e => by have h1 := (h.lt k hv).1; have := Option.some.inj e; omega))) hg9.2.1)
      have e1 := LD.out.1
      have e2 := LD.out.2
      have o1 := KP.out _ _ _ _ _ oo.out.1
      have o2 := KP.out _ _ _ _ _ oo.out.2
      rw [e1] at o1
      rw [e2] at o2
      refine ⟨⟨_, rfl, zs, ⟨vD, vP, gH, rfl, o1, o2, by have := G4.out; omega, ?_, fun e => by have h1 := (oo.out.2.lt gH e).1; omega⟩, RO.out.2.2.1, RO.out.2.2.2.1⟩, hg9.1.trans (((B5.out).mono hg9.2.1).trans (H6.out _ (by have := G4.out; omega)))⟩
      rw [← HHF.out]
      exact (N6.out gH (by have := G4.out; omega)).trans (heap_keep B5.out KHF.out)

end Go.Proofs.YtjbglifmppilfaaDoor
