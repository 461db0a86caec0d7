/- full.Of makes the view of a graph; conditions as stated. -/
import Derived.Test.YtpklcefiabjplaaR7
namespace Go.Proofs.Ytpklcefiabjplaa
open Go.ChangeShapes Go.WideShapes Go.ChangeAt Go.RowKit
set_option linter.unusedVariables false
set_option linter.unusedSimpArgs false
attribute [local go_sem] Og.Opt Og.OpY

def vs0 : List Value := List.replicate 256 (.slice none 0 0)
def xs0 : List (List Lk) := List.replicate 256 []
theorem Vw.zero {w : World} {V : Nat} (h : w.heap[V]? = some (.cells Try.zeroCells70 70 (0, 0))) : Vw V w vs0 xs0 := by
  have e : Try.zeroCells70 = (oB ++ vs0).toArray := by kernel_rfl
  have hv : ∀ (j : Nat) (v : Value), vs0[j]? = some v → v = .slice none 0 0 := fun j v hj => by
    unfold vs0 at hj
    rw [List.getElem?_replicate] at hj
    split at hj <;> simp_all
  refine ⟨by rw [← e]; exact h, List.length_replicate, List.length_replicate, fun j v xs hj hx => ?_, fun i j v u _ hi _ => .inl (by rw [hv i v hi]; rfl)⟩
  rw [hv j v hj]
  have : xs = [] := by
    unfold xs0 at hx
    rw [List.getElem?_replicate] at hx
    split at hx <;> simp_all
  subst this
  exact World.ownsRow_nil _ _ _ _
theorem ldLk {w : World} {b : Nat} {l : Lk} (h : w.heap[b]? = some (.cells (cLk l).toArray 43 (0, 0))) : (loadVar 43 ⟨b, 0, none⟩).run Try.prog w = .ok (.agg (cLk l).toArray) w := run_loadL isAgg43 size43 (cLk_len l) (AtL_heap h)
/-- what an append leaves -/
def FinL (V : Nat) (vo : Option Nat) (z : Nat) (ys : List Lk) (v2 : Value) (w2 : World) : Prop := w2.ownsRow (V + 1) 43 4 v2 ys.length (ys.flatMap cLk) ∧ (v2.ownBlock = vo ∨ ∃ g, v2.ownBlock = some g ∧ z ≤ g)
theorem viewL_succ {ls : List Lk} {k : Nat} {l : Lk} (h : ls[k]? = some l) : viewL (ls.take (k + 1)) = addL (viewL (ls.take k)) l := by
  unfold viewL
  have hk := (List.getElem?_eq_some_iff.1 h)
  rw [List.take_add_one, h, List.foldl_append]
  rfl
theorem viewL_len : ∀ (ls : List Lk) (xss : List (List Lk)), xss.length = 256 → (ls.foldl addL xss).length = 256
  | [], xss, h => h
  | l :: ls, xss, h => by
    rw [List.foldl_cons]
    exact viewL_len ls _ (by simp [addL, h])
theorem viewL_small (ls : List Lk) (j : Nat) (xs : List Lk) (h : (viewL ls)[j]? = some xs) : xs.length ≤ 2 * ls.length := by
  have key : ∀ (ls : List Lk) (xss : List (List Lk)) (n : Nat), (∀ (j : Nat) (xs : List Lk), xss[j]? = some xs → xs.length ≤ n) → ∀ (j : Nat) (xs : List Lk), (ls.foldl addL xss)[j]? = some xs → xs.length ≤ n + 2 * ls.length := by
    intro ls
    induction ls with
    | nil => intro xss n h j xs hj; exact Nat.le_trans (h j xs hj) (by omega)
    | cons l ls ih =>
      intro xss n h j xs hj
      rw [List.foldl_cons] at hj
      have := ih (addL xss l) (n + 2) (fun j xs hj => by
        have hg : ∀ (yss : List (List Lk)) (m i : Nat), (∀ (j : Nat) (xs : List Lk), yss[j]? = some xs → xs.length ≤ m) → ∀ (j : Nat) (xs : List Lk), (yss.set i (yss.getD i [] ++ [l]))[j]? = some xs → xs.length ≤ m + 1 := by
          intro yss m i hy j xs hj
          rw [List.getElem?_set] at hj
          split at hj
          · split at hj
            · cases hj
              rw [List.length_append, List.getD_eq_getElem?_getD]
              cases hz : yss[i]? with
              | none => simp
              | some zs => have := hy i zs hz; simp; omega
            · cases hj
          · have := hy j xs hj; omega
        exact hg _ (n + 1) _ (hg xss n _ h) j xs hj) j xs hj
      rw [List.length_cons]
      omega
  have := key ls (List.replicate 256 []) 0 (fun j xs hj => by
    rw [List.getElem?_replicate] at hj
    split at hj
    · cases hj; exact Nat.le_refl _
    · cases hj) j xs h
  omega
set_option maxRecDepth 100000 in
set_option maxHeartbeats 8000000 in
theorem full_Of_ok (ns : List Nd) (ls : List Lk) (va vb vc : Value) (w : World) (sa : Sl cNd 3 0 w va ns) (sb : Sl cLk 4 0 w vb ls) (hl1 : ns.length ≤ 1000) (hl2 : ls.length ≤ 10000) (hn : ∀ x ∈ ns, oks x.i = true) (hl : ∀ l ∈ ls, oks l.f = true ∧ oks l.t = true) :
    Calls Try.prog 20 #[.agg #[va, vb, vc]] w fun e w' => (∃ V vs, e = .returned (.pointer (some ⟨V, 0, none⟩)) ∧ w.heap.size ≤ V ∧ Vw V w' vs (viewL ls)) ∧ Below w.heap.size w w' := by
  obtain ⟨A1, c1, rfl, hr1, -⟩ := sa
  obtain ⟨A2, c2, rfl, hr2, -⟩ := sb
  obtain ⟨n1, hn1⟩ : ∃ n, n = ns.length := ⟨_, rfl⟩
  obtain ⟨n2, hn2⟩ : ∃ n, n = ls.length := ⟨_, rfl⟩
  rw [← hn1] at hl1 ⊢
  rw [← hn2] at hl2 ⊢
  have N1 := Lib.hid hn1
  have N2 := Lib.hid hn2
  have R1 := Lib.hid hr1
  have R2 := Lib.hid hr2
  have HN := Lib.hid hn
  have HL := Lib.hid hl
  obtain ⟨V, hV⟩ : ∃ V, V = w.heap.size + 1 := ⟨_, rfl⟩
  have HV := Lib.hid hV
  clear hr1 hr2 hn1 hn2 hn hl
  go_enter Try.func20, Try.ntmps20
  go_wp2_with fail
  rw [← hV]
  have k0 : ((w.alloc (.cells #[.slice A1 n1 c1, .slice A2 n2 c2, vc] 33)).alloc (.cells Try.zeroCells70 70)).heap[w.heap.size]? = some (.cells #[.slice A1 n1 c1, .slice A2 n2 c2, vc] 33 (0, 0)) := heap_keep ((Below.refl _ _).alloc (Nat.le_refl _) _) (heap_at rfl)
  have k1 : ((w.alloc (.cells #[.slice A1 n1 c1, .slice A2 n2 c2, vc] 33)).alloc (.cells Try.zeroCells70 70)).heap[V]? = some (.cells Try.zeroCells70 70 (0, 0)) := heap_at (by rw [hV]; simp)
  have bb : Below w.heap.size w ((w.alloc (.cells #[.slice A1 n1 c1, .slice A2 n2 c2, vc] 33)).alloc (.cells Try.zeroCells70 70)) := ((Below.refl _ _).alloc (Nat.le_refl _) _).alloc (by simp) _
  have hv0 := Lib.hid (Vw.zero k1)
  have hk0 := Lib.hid k0
  have hbb := Lib.hid bb
  generalize ((w.alloc (.cells #[.slice A1 n1 c1, .slice A2 n2 c2, vc] 33)).alloc (.cells Try.zeroCells70 70)) = wa at *
  clear k0 k1 bb hV
  go_loopw [13] (fun i wr => ∃ k : Nat, k ≤ n1 ∧ i = .int .i64 k ∧ Hid (Below w.heap.size w wr) ∧ Hid (Vw V wr vs0 xs0) ∧ Hid (wr.heap[w.heap.size]? = some (.cells #[.slice A1 n1 c1, .slice A2 n2 c2, vc] 33 (0, 0)))) (fun i _ => n1 - (intOf i).toNat)
  case atStart => exact ⟨0, Nat.zero_le _, rfl, hbb, hv0, hk0⟩
  case round =>
    clear hv0 hk0 hbb
    obtain ⟨k, hk, rfl, hb, hv, hg⟩ := hrel
    by_cases hlt : k < n1
    · have hwk1 : IntKind.i64.wrap ((k : Int) + 1) = (k : Int) + 1 := by rw [IntKind.wrap_i64]; omega
      have hk0 : (0 : Int) ≤ (k : Int) := by omega
      have hkn : (k : Int) < (n1 : Int) := by omega
      obtain ⟨x, hx⟩ : ∃ r, ns[k]? = some r := ⟨_, List.getElem?_eq_getElem (by rw [← N1.out]; exact hlt)⟩
      obtain ⟨b0, o0, rfl, hat⟩ := R1.out k x hx
      have r1 := Lib.hid (run_loadL isAgg41 size41 (cNd_len x) (hat.below hb.out))
      have ho := HN.out x (List.mem_of_getElem? hx)
      obtain ⟨m, hm⟩ : ∃ m : Nat, x.i = (m : Int) := ⟨x.i.toNat, by simp only [oks, Bool.and_eq_true, decide_eq_true_eq] at ho; omega⟩
      have hm8 : m < 128 := by simp only [oks, Bool.and_eq_true, decide_eq_true_eq] at ho; omega
      have hm0 : (0 : Int) ≤ (m : Int) := by omega
      have hm1 : (m : Int) < 128 := by omega
      have M8 := Lib.hid hm8
      have XM := Lib.hid hm
      clear hx hat ho hm hm8
      go_wp2_with (first | (refine wpList_loadL rfl 41 (.tmp 15) rfl b0 (o0 + k * 3) (.agg (cNd x).toArray) rfl r1.out ?_) | (refine wpList_storeN rfl 41 (.tmp 5) (.tmp 16) rfl rfl wr.heap.size (cNd x).toArray rfl rfl 41 _ (heap_at rfl) info41s rfl (by simp [Value.oneCell', cNd]) ?_; intro w3 hz hbb hn9 hs3; have b3 := below_storeA hbb; have Z3 := Lib.hid hz; have B3 := Lib.hid (bthen hb.out b3); have V3 := Lib.hid (hv.out.below b3); have G3 := Lib.hid (heap_keep b3 hg.out); clear b3 hz hbb hn9 hs3))
      have c0 : w3.cell? ⟨wr.heap.size, 0, none⟩ = some (.int .i64 (m : Int)) := by rw [cell_of_row w3 _ 0 _ _ _ Z3.out, ← XM.out]; rfl
      have c1 : w3.cell? ⟨wr.heap.size, 1, none⟩ = some (.bool false) := by rw [cell_of_row w3 _ 1 _ _ _ Z3.out]; rfl
      have HC : ∀ w5, Below w3.heap.size w3 w5 → w5.cell? ⟨wr.heap.size, 0, none⟩ = some (.int .i64 (m : Int)) ∧ w5.cell? ⟨wr.heap.size, 1, none⟩ = some (.bool false) := fun w5 h5 => ⟨bcell h5 c0, bcell h5 c1⟩
      clear c0 c1 r1 hb hv hg XM Z3
      refine Og.Tail.walk_lit 7 [[],[],[1],[],[3],[0],[5,0],[6,2,0,1,3,4,5],[7,4,0,1,2,3,6,5]] (fun w2 => Below w3.heap.size w3 w2) (fun w1 w2 => Below w1.heap.size w1 w2) (by kernel_rfl) (by kernel_rfl) (by kernel_rfl) (bdrew) ?_
      simp only [List.take_succ_cons, List.take_zero, List.drop_succ_cons, List.drop_zero]
      repeat (first | (refine Og.step_pure (fun _ => Below.refl _ _) ?_; apply Exists.intro; refine And.intro ?_ ?_; focus (intro vs w2 hC hk; have hm := HC w2 hC; revert hk; simp only [Og.KS, Og.K0, Og.Is, List.getD_cons_zero, List.getD_cons_succ, List.getD_nil, List.contains_cons, List.contains_nil, Nat.reduceAdd, Nat.reduceBEq, Bool.or_false, Bool.false_or, Bool.or_true, Bool.true_or, Bool.false_eq_true, false_implies, true_implies, true_and, and_true, forall_const]; intros; go_simp; rfl)))
      intro vs w2 hC hk
      have hm := HC w2 hC
      simp only [Og.KS, Og.K0, Og.Is, List.getD_cons_zero, List.getD_cons_succ, List.getD_nil, List.contains_cons, List.contains_nil, Nat.reduceAdd, Nat.reduceBEq, Bool.or_false, Bool.false_or, Bool.or_true, Bool.true_or, Bool.false_eq_true, false_implies, true_implies, true_and, and_true, forall_const] at hk
      simp only [hk, Act.put, List.setIfInBounds_toArray, List.set_cons_zero, List.set_cons_succ]
      clear hk
      have V5 := Lib.hid (V3.out.below hC)
      have B5 := Lib.hid (bthen B3.out hC)
      have G5 := Lib.hid (heap_keep hC G3.out)
      have q3 := V5.out.over M8.out
      have hself : w2.setCell ⟨V, m, none⟩ (.bool false) = w2 := setCell_self V5.out.blk q3
      have fz := V5.out.fz m
      clear hC hm HC V3 B3 G3
      go_wp2_with fail
      go_roundw
      case rel => exact ⟨k + 1, by omega, by go_num, by first | exact ⟨B5, V5, G5⟩ | (rw [hself]; exact ⟨B5, V5, G5⟩)⟩
      case measure => simp [intOf]; omega
    · have hkn : k = n1 := by omega
      subst hkn
      clear hlt hk
      have q0 : wr.cell? ⟨w.heap.size, 1, none⟩ = some (.slice A2 n2 c2) := by rw [cell_of_row wr _ 1 _ _ _ hg.out]; rfl
      go_wp2_with fail
      have WB := Lib.hid (show Vw V wr vs0 (viewL (ls.take 0)) from hv.out)
      have bq := Lib.hid hb.out
      obtain ⟨wq, hwq⟩ : ∃ wq : World, wq = wr := ⟨_, rfl⟩
      clear q0 hv hb hg
      go_loopw [29] (fun i wr => ∃ (k : Nat) (vs : List Value), k ≤ n2 ∧ i = .int .i64 k ∧ Hid (Below w.heap.size w wr) ∧ Hid (Vw V wr vs (viewL (ls.take k)))) (fun i _ => n2 - (intOf i).toNat)
      case atStart => exact ⟨0, _, Nat.zero_le _, rfl, bq, WB⟩
      case round =>
        clear WB bq hwq
        obtain ⟨q, vs, hq, rfl, hb, hv⟩ := hrel
        by_cases hlt : q < n2
        · have hwk1 : IntKind.i64.wrap ((q : Int) + 1) = (q : Int) + 1 := by rw [IntKind.wrap_i64]; omega
          have hq0 : (0 : Int) ≤ (q : Int) := by omega
          have hqn : (q : Int) < (n2 : Int) := by omega
          obtain ⟨l, hl⟩ : ∃ l, ls[q]? = some l := ⟨_, List.getElem?_eq_getElem (by rw [← N2.out]; exact hlt)⟩
          obtain ⟨b0, o0, rfl, hat⟩ := R2.out q l hl
          have r1 := Lib.hid (run_loadL isAgg43 size43 (cLk_len l) (hat.below hb.out))
          obtain ⟨hof, hot⟩ := HL.out l (List.mem_of_getElem? hl)
          simp only [oks, Bool.and_eq_true, decide_eq_true_eq] at hof hot
          obtain ⟨mf, hmf⟩ : ∃ m : Nat, l.f = (m : Int) := ⟨l.f.toNat, by omega⟩
          obtain ⟨mt, hmt⟩ : ∃ m : Nat, l.t = (m : Int) := ⟨l.t.toNat, by omega⟩
          have M8 : Hid (mf < 128 ∧ mt < 128) := Lib.hid (by omega)
          have hf0 : (0 : Int) ≤ (mf : Int) := by omega
          have hf1 : (mf : Int) < 128 := by omega
          have ht0 : (0 : Int) ≤ (mt : Int) := by omega
          have ht1 : (mt : Int) < 128 := by omega
          have MF := Lib.hid hmf
          have MT := Lib.hid hmt
          have LQ := Lib.hid hl
          clear hl hat hof hot hmf hmt
          obtain ⟨bl, hbl⟩ : ∃ bl, bl = wr.heap.size := ⟨_, rfl⟩
          have BL := Lib.hid hbl
          go_wp2_with (first | (refine wpList_loadL rfl 43 (.tmp 31) rfl b0 (o0 + q * 4) (.agg (cLk l).toArray) rfl r1.out ?_) | (refine wpList_storeN rfl 43 (.tmp 7) (.tmp 32) rfl rfl wr.heap.size (cLk l).toArray rfl rfl 43 _ (heap_at rfl) info43s rfl (by simp [Value.oneCell', cLk]) ?_; intro w3 hz hbb hn9 hs3; have b3 := below_storeA hbb; have ZL := Lib.hid hz; have B3 := Lib.hid (bthen hb.out b3); have V3 := Lib.hid (hv.out.below b3); have hs3' : wr.heap.size ≤ w3.heap.size := b3.size; clear b3 hz hbb hn9 hs3))
          rw [← hbl] at ZL ⊢
          have WL : Hid (∀ (j : Nat) (xs : List Lk), (viewL (ls.take q))[j]? = some xs → xs.length ≤ 20000) := Lib.hid (fun j xs hx => Nat.le_trans (viewL_small (ls.take q) j xs hx) (by rw [List.length_take]; have := N2.out; omega))
          have NEW : Hid (∀ (j : Nat) (v : Value), vs[j]? = some v → v.ownBlock ≠ some bl) := Lib.hid (fun j v hj e => by
            obtain ⟨xs, hxs⟩ : ∃ xs, (viewL (ls.take q))[j]? = some xs := ⟨_, List.getElem?_eq_getElem (by rw [hv.out.nx, ← hv.out.nv]; exact (List.getElem?_eq_some_iff.1 hj).1)⟩
            have := ((hv.out.own j v xs hj hxs).lt _ e).2
            omega)
          clear hbl r1 hb hv
          obtain ⟨xs, hxs⟩ : ∃ xs, (viewL (ls.take q))[mf]? = some xs := ⟨_, List.getElem?_eq_getElem (by rw [V3.out.nx]; have := M8.out; omega)⟩
          obtain ⟨vj, hvj, own⟩ := V3.out.at_ hxs
          obtain ⟨A, cc, hvl, -⟩ := Sl_of_row cLk_len (by omega) own rfl
          obtain ⟨mm, hmm⟩ : ∃ mm, mm = xs.length := ⟨_, rfl⟩
          have XN := Lib.hid hmm
          have OWN := Lib.hid own
          rw [← hmm] at hvl
          subst hvl
          have XL : Hid (xs.length ≤ 1000000) := Lib.hid (by have := WL.out (mf) xs hxs; omega)
          have VLT := Lib.hid (V3.out.lt)
          have hvb : (Value.slice A mm cc).ownBlock ≠ some V := own_at own V3.out.blk (by decide)
          have hvr : (Value.slice A mm cc).ownBlock ≠ some bl := NEW.out (mf) _ hvj
          have HVR := Lib.hid hvr
          have HZ : ∀ w5, w3.grownBy w5 (Value.slice A mm cc).ownBlock → w5.heap[bl]? = some (.cells (cLk l).toArray 43 (0, 0)) := fun w5 h5 => heap_grown h5 ZL.out (fun e => hvr e.symm)
          have csl := V3.out.slot hvj
          have HC : ∀ w5, w3.grownBy w5 (Value.slice A mm cc).ownBlock → w5.cell? ⟨V, 128 + mf, none⟩ = some (.slice A mm cc) ∧ w5.cell? ⟨bl, 0, none⟩ = some (.int .i64 (mf : Int)) ∧ w5.cell? ⟨bl, 1, none⟩ = some (.int .i64 (mt : Int)) := fun w5 h5 => by
            have z := HZ w5 h5
            have z2 := heap_grown h5 V3.out.blk (fun e => hvb e.symm)
            refine ⟨?_, by rw [cell_of_row w5 _ 0 _ _ _ z, ← MF.out]; rfl, by rw [cell_of_row w5 _ 1 _ _ _ z, ← MT.out]; rfl⟩
            rw [cell_of_row w5 V _ _ _ _ z2, ← cell_of_row w3 V _ _ _ _ V3.out.blk]
            exact (by first | exact csl | (rw [show 128 + mf = 128 + (mf) by omega]; exact csl))
          have HVJ := Lib.hid hvj
          have HXS := Lib.hid hxs
          clear hxs hvj own hmm hvb hvr csl
          refine Og.Joint2.walk_lit 15 [[],[],[1],[],[],[4],[3],[6,3],[7,5,6,3,4],[8,7,5,6,3,4],[],[10],[9,11,8,7,5,6,3,4,10],[0],[13,0],[14,2,0,1,3,4,5,6,7,8,9,10,11,12,13],[15,12,0,1,2,3,4,5,6,7,8,9,10,11,14,13]] (CA w3 (Value.slice A mm cc).ownBlock 11 12 (cLk l).toArray (FinL V (Value.slice A mm cc).ownBlock w3.heap.size (xs ++ [l]))) (fun _ _ => True) (by kernel_rfl) (by kernel_rfl) (by kernel_rfl) (fun vs => CA.ini bdrew) ?_
          simp only [List.take_succ_cons, List.take_zero, List.drop_succ_cons, List.drop_zero]
          refine Og.Joint2.step_pure (fun p vs v w h => h.other (by decide) (by decide)) (fun _ => trivial) ?_; apply Exists.intro; refine And.intro ?_ ?_; focus (intro p vs w2 hC hk; have hm := HC w2 hC.1; refine Og.OptB.mk ?_; revert hk; simp only [Og.KS, Og.K0, Og.Is, List.getD_cons_zero, List.getD_cons_succ, List.getD_nil, List.contains_cons, List.contains_nil, Nat.reduceAdd, Nat.reduceBEq, Bool.or_false, Bool.false_or, Bool.or_true, Bool.true_or, Bool.false_eq_true, false_implies, true_implies, true_and, and_true, forall_const]; intros; go_simp; rfl)
          refine Og.Joint2.step_pure (fun p vs v w h => h.other (by decide) (by decide)) (fun _ => trivial) ?_; apply Exists.intro; refine And.intro ?_ ?_; focus (intro p vs w2 hC hk; have hm := HC w2 hC.1; refine Og.OptB.mk ?_; revert hk; simp only [Og.KS, Og.K0, Og.Is, List.getD_cons_zero, List.getD_cons_succ, List.getD_nil, List.contains_cons, List.contains_nil, Nat.reduceAdd, Nat.reduceBEq, Bool.or_false, Bool.false_or, Bool.or_true, Bool.true_or, Bool.false_eq_true, false_implies, true_implies, true_and, and_true, forall_const]; intros; go_simp; rfl)
          refine Og.Joint2.step_pure (fun p vs v w h => h.other (by decide) (by decide)) (fun _ => trivial) ?_; apply Exists.intro; refine And.intro ?_ ?_; focus (intro p vs w2 hC hk; have hm := HC w2 hC.1; refine Og.OptB.mk ?_; revert hk; simp only [Og.KS, Og.K0, Og.Is, List.getD_cons_zero, List.getD_cons_succ, List.getD_nil, List.contains_cons, List.contains_nil, Nat.reduceAdd, Nat.reduceBEq, Bool.or_false, Bool.false_or, Bool.or_true, Bool.true_or, Bool.false_eq_true, false_implies, true_implies, true_and, and_true, forall_const]; intros; go_simp; rfl)
          refine Og.Joint2.step_pure (fun p vs v w h => h.other (by decide) (by decide)) (fun _ => trivial) ?_; apply Exists.intro; refine And.intro ?_ ?_; focus (intro p vs w2 hC hk; have hm := HC w2 hC.1; refine Og.OptB.mk ?_; revert hk; simp only [Og.KS, Og.K0, Og.Is, List.getD_cons_zero, List.getD_cons_succ, List.getD_nil, List.contains_cons, List.contains_nil, Nat.reduceAdd, Nat.reduceBEq, Bool.or_false, Bool.false_or, Bool.or_true, Bool.true_or, Bool.false_eq_true, false_implies, true_implies, true_and, and_true, forall_const]; intros; go_simp; rfl)
          refine Og.Joint2.step_pure (fun p vs v w h => h.other (by decide) (by decide)) (fun _ => trivial) ?_; apply Exists.intro; refine And.intro ?_ ?_; focus (intro p vs w2 hC hk; have hm := HC w2 hC.1; refine Og.OptB.mk ?_; revert hk; simp only [Og.KS, Og.K0, Og.Is, List.getD_cons_zero, List.getD_cons_succ, List.getD_nil, List.contains_cons, List.contains_nil, Nat.reduceAdd, Nat.reduceBEq, Bool.or_false, Bool.false_or, Bool.or_true, Bool.true_or, Bool.false_eq_true, false_implies, true_implies, true_and, and_true, forall_const]; intros; go_simp; rfl)
          refine Og.Joint2.step_pure (fun p vs v w h => h.other (by decide) (by decide)) (fun _ => trivial) ?_; apply Exists.intro; refine And.intro ?_ ?_; focus (intro p vs w2 hC hk; have hm := HC w2 hC.1; refine Og.OptB.mk ?_; revert hk; simp only [Og.KS, Og.K0, Og.Is, List.getD_cons_zero, List.getD_cons_succ, List.getD_nil, List.contains_cons, List.contains_nil, Nat.reduceAdd, Nat.reduceBEq, Bool.or_false, Bool.false_or, Bool.or_true, Bool.true_or, Bool.false_eq_true, false_implies, true_implies, true_and, and_true, forall_const]; intros; go_simp; rfl)
          refine Og.Joint2.step_pure (fun p vs v w h => h.other (by decide) (by decide)) (fun _ => trivial) ?_; apply Exists.intro; refine And.intro ?_ ?_; focus (intro p vs w2 hC hk; have hm := HC w2 hC.1; refine Og.OptB.mk ?_; revert hk; simp only [Og.KS, Og.K0, Og.Is, List.getD_cons_zero, List.getD_cons_succ, List.getD_nil, List.contains_cons, List.contains_nil, Nat.reduceAdd, Nat.reduceBEq, Bool.or_false, Bool.false_or, Bool.or_true, Bool.true_or, Bool.false_eq_true, false_implies, true_implies, true_and, and_true, forall_const]; intros; go_simp; rfl)
          refine Og.Joint2.step_pure (fun p vs v w h => h.other (by decide) (by decide)) (fun _ => trivial) ?_; apply Exists.intro; refine And.intro ?_ ?_; focus (intro p vs w2 hC hk; have hm := HC w2 hC.1; refine Og.OptB.mk ?_; revert hk; simp only [Og.KS, Og.K0, Og.Is, List.getD_cons_zero, List.getD_cons_succ, List.getD_nil, List.contains_cons, List.contains_nil, Nat.reduceAdd, Nat.reduceBEq, Bool.or_false, Bool.false_or, Bool.or_true, Bool.true_or, Bool.false_eq_true, false_implies, true_implies, true_and, and_true, forall_const]; intros; go_simp; rfl)
          refine Og.Joint2.step_pure (fun p vs v w h => h.other (by decide) (by decide)) (fun _ => trivial) ?_; apply Exists.intro; refine And.intro ?_ ?_; focus (intro p vs w2 hC hk; have hm := HC w2 hC.1; refine Og.OptB.mk ?_; revert hk; simp only [Og.KS, Og.K0, Og.Is, List.getD_cons_zero, List.getD_cons_succ, List.getD_nil, List.contains_cons, List.contains_nil, Nat.reduceAdd, Nat.reduceBEq, Bool.or_false, Bool.false_or, Bool.or_true, Bool.true_or, Bool.false_eq_true, false_implies, true_implies, true_and, and_true, forall_const]; intros; go_simp; rfl)
          refine Og.Joint2.step_pure (fun p vs v w h => h.other (by decide) (by decide)) (fun _ => trivial) ?_; apply Exists.intro; refine And.intro ?_ ?_; focus (intro p vs w2 hC hk; have hm := HC w2 hC.1; refine Og.OptB.mk ?_; revert hk; simp only [Og.KS, Og.K0, Og.Is, List.getD_cons_zero, List.getD_cons_succ, List.getD_nil, List.contains_cons, List.contains_nil, Nat.reduceAdd, Nat.reduceBEq, Bool.or_false, Bool.false_or, Bool.or_true, Bool.true_or, Bool.false_eq_true, false_implies, true_implies, true_and, and_true, forall_const]; intros; go_simp; rfl)
          refine Og.Joint2.step_pure (fun p vs v w h => h.other (by decide) (by decide)) (fun _ => trivial) ?_; apply Exists.intro; refine And.intro ?_ ?_; focus (intro p vs w2 hC hk; have hz := HZ w2 hC.1; revert hk; simp only [Og.KS, Og.K0, Og.Is, List.getD_cons_zero, List.getD_cons_succ, List.getD_nil, List.contains_cons, List.contains_nil, Nat.reduceAdd, Nat.reduceBEq, Bool.or_false, Bool.false_or, Bool.or_true, Bool.true_or, Bool.false_eq_true, false_implies, true_implies, true_and, and_true, forall_const]; intros; exact optB_loadL (by go_simp) rfl (by go_simp) (ldLk hz) ⟨rfl, rfl⟩)
          refine Og.Joint2.step_any (fun _ _ => True) (fun _ _ _ _ _ => trivial) ?_ ?_; focus (intro p vs w2 hp hC hk; refine Og.OptB.mk ?_; revert hk; simp only [Og.KS, Og.K0, Og.Is, List.getD_cons_zero, List.getD_cons_succ, List.getD_nil, List.contains_cons, List.contains_nil, Nat.reduceAdd, Nat.reduceBEq, Bool.or_false, Bool.false_or, Bool.or_true, Bool.true_or, Bool.false_eq_true, false_implies, true_implies, true_and, and_true, forall_const]; intros; go_simp; exact CA.new hp.1 (by decide) hC)
          refine Og.Joint2.step_any (fun _ _ => True) (fun _ _ _ _ _ => trivial) ?_ ?_; focus (intro p vs w2 hp hC hk; have h1 : p 11 = true := hp.2 11 (by decide); obtain ⟨g1, e1, hg1, hz⟩ := hC.2.2.2.1 h1; have bW := hC.2.2.1 hp.1; obtain ⟨v', w', hr, ho', hg', ha'⟩ := run_appLk (w := w2) (V + 1) g1 30 _ xs l (own_below OWN.out bW) (hz hp.1) (by have := XL.out; omega) (by have := VLT.out; have := bW.size; omega); revert hk; simp only [Og.KS, Og.K0, Og.Is, List.getD_cons_zero, List.getD_cons_succ, List.getD_nil, List.contains_cons, List.contains_nil, Nat.reduceAdd, Nat.reduceBEq, Bool.or_false, Bool.false_or, Bool.or_true, Bool.true_or, Bool.false_eq_true, false_implies, true_implies, true_and, and_true, forall_const]; intros; refine optB_appR (by go_simp) rfl (by go_simp) (by first | (go_simp; done) | (go_simp; exact e1)) hr ?_; exact CA.done (by decide) h1 hp.1 hC hg' ⟨ho', ha'.imp id fun e => ⟨_, e, bW.size⟩⟩)
          refine Og.Joint2.step_pure (fun p vs v w h => h.other (by decide) (by decide)) (fun _ => trivial) ?_; apply Exists.intro; refine And.intro ?_ ?_; focus (intro p vs w2 hC hk; have hm := HC w2 hC.1; refine Og.OptB.mk ?_; revert hk; simp only [Og.KS, Og.K0, Og.Is, List.getD_cons_zero, List.getD_cons_succ, List.getD_nil, List.contains_cons, List.contains_nil, Nat.reduceAdd, Nat.reduceBEq, Bool.or_false, Bool.false_or, Bool.or_true, Bool.true_or, Bool.false_eq_true, false_implies, true_implies, true_and, and_true, forall_const]; intros; go_simp; rfl)
          refine Og.Joint2.step_pure (fun p vs v w h => h.other (by decide) (by decide)) (fun _ => trivial) ?_; apply Exists.intro; refine And.intro ?_ ?_; focus (intro p vs w2 hC hk; have hm := HC w2 hC.1; refine Og.OptB.mk ?_; revert hk; simp only [Og.KS, Og.K0, Og.Is, List.getD_cons_zero, List.getD_cons_succ, List.getD_nil, List.contains_cons, List.contains_nil, Nat.reduceAdd, Nat.reduceBEq, Bool.or_false, Bool.false_or, Bool.or_true, Bool.true_or, Bool.false_eq_true, false_implies, true_implies, true_and, and_true, forall_const]; intros; go_simp; rfl)
          intro p vS w2 hp hC hk
          obtain ⟨hg12, -, -, -, hfin⟩ := hC
          obtain ⟨ho12, ha12⟩ := hfin (hp 12 (by decide))
          simp only [Og.KS, Og.K0, Og.Is, List.getD_cons_zero, List.getD_cons_succ, List.getD_nil, List.contains_cons, List.contains_nil, Nat.reduceAdd, Nat.reduceBEq, Bool.or_false, Bool.false_or, Bool.or_true, Bool.true_or, Bool.false_eq_true, false_implies, true_implies, true_and, and_true, forall_const] at hk
          obtain ⟨gg, ccc, e12, -⟩ := own_some ho12 (fun e => by rw [e] at ho12; have := ho12.1; rcases ho12.2 with ⟨_, h0⟩ | ⟨_, _, _, h0, _⟩; simp at h0; cases h0)
          rw [e12] at ho12 ha12
          have VN := V3.out.app HVJ.out HXS.out hg12 ho12 ha12
          have zz := Lib.hid (HZ w2 hg12)
          have cold := (HC w2 hg12).1
          have fz : w2.frozen? ⟨V, 128 + mf, none⟩ = false := by simp [World.frozen?, heap_grown hg12 V3.out.blk (fun e => own_at OWN.out V3.out.blk (by decide) e.symm)]
          have eL : (xs ++ [l]).length = mm + 1 := by rw [XN.out]; simp
          rw [eL] at e12 VN ha12
          simp only [hk, e12, Act.put, List.setIfInBounds_toArray, List.set_cons_zero, List.set_cons_succ]
          clear hk hp HC HZ e12 ho12
          go_wp2_with fail
          have hgg : gg ≠ bl := by
            rcases ha12 with e | ⟨g, e, hg⟩
            · intro e2; subst e2; exact HVR.out e.symm
            · have e3 : gg = g := by simpa [Value.ownBlock] using e
              have := (Array.getElem?_eq_some_iff.1 ZL.out).1
              omega
          have b4 : Below w.heap.size w (w2.setCell ⟨V, 128 + mf, none⟩ (.slice (some ⟨gg, 0, none⟩) (mm + 1) ccc)) := by
            have h1 : Below w.heap.size w3 w2 := grown_below hg12 (by have := B3.out.size; omega) (fun g e => by have := (OWN.out.lt g e).1; have := HV.out; omega)
            have h2 : w2.heap[V]? = _ := heap_grown hg12 V3.out.blk (fun e => own_at OWN.out V3.out.blk (by decide) e.symm)
            rw [setCell_eq_setRow w2 V _ _ 70 (0, 0) _ h2]
            exact (B3.out.trans h1).trans ⟨rfl, rfl, rfl, by simp [World.setRow], fun j hj => setRow_other w2 V j _ (by have := HV.out; omega)⟩
          have z4 : (w2.setCell ⟨V, 128 + mf, none⟩ (.slice (some ⟨gg, 0, none⟩) (mm + 1) ccc)).heap[bl]? = some (.cells (cLk l).toArray 43 (0, 0)) := by
            have h2 : w2.heap[V]? = _ := heap_grown hg12 V3.out.blk (fun e => own_at OWN.out V3.out.blk (by decide) e.symm)
            rw [setCell_eq_setRow w2 V _ _ 70 (0, 0) _ h2, setRow_other w2 V bl _ (fun e => by
              have h3 := zz.out
              rw [e, h2] at h3
              simp at h3)]
            exact zz.out
          have e4 : bl < (w2.setCell ⟨V, 128 + mf, none⟩ (.slice (some ⟨gg, 0, none⟩) (mm + 1) ccc)).heap.size := (Array.getElem?_eq_some_iff.1 z4).1
          have V4' := VN
          generalize w2.setCell ⟨V, 128 + mf, none⟩ (.slice (some ⟨gg, 0, none⟩) (mm + 1) ccc) = w4 at *
          obtain ⟨yss, hyss⟩ : ∃ yss, yss = (viewL (ls.take q)).set mf (xs ++ [l]) := ⟨_, rfl⟩
          obtain ⟨vs2, hvs2⟩ : ∃ vs2, vs2 = vs.set mf (.slice (some ⟨gg, 0, none⟩) (mm + 1) ccc) := ⟨_, rfl⟩
          rw [← hyss, ← hvs2] at V4'
          have V4 := Lib.hid V4'
          have Z4 := Lib.hid z4
          have B4 := Lib.hid b4
          have E4 := Lib.hid e4
          have NEW2 : Hid (∀ (j : Nat) (v : Value), vs2[j]? = some v → v.ownBlock ≠ some bl) := Lib.hid (fun j v hj => by
            rw [hvs2, List.getElem?_set] at hj
            split at hj
            · split at hj
              · cases hj
                intro e
                have : gg = bl := by simpa [Value.ownBlock] using e
                exact hgg this
              · cases hj
            · exact NEW.out j v hj)
          have WL2 : Hid (∀ (j : Nat) (zs : List Lk), yss[j]? = some zs → zs.length ≤ 20001) := Lib.hid (fun j zs hj => by
            rw [hyss, List.getElem?_set] at hj
            split at hj
            · split at hj
              · cases hj
                have := WL.out mf xs HXS.out
                rw [List.length_append]
                simp only [List.length_cons, List.length_nil]
                omega
              · cases hj
            · have := WL.out j zs hj; omega)
          have YS := Lib.hid hyss
          have EQ1 : Hid (∀ zs, yss[128 + mt]? = some zs → addL (viewL (ls.take q)) l = yss.set (128 + mt) (zs ++ [l])) := Lib.hid (fun zs hz => by
            have a1 : l.f.toNat = mf := by rw [MF.out]; rfl
            have a2 : l.t.toNat = mt := by rw [MT.out]; rfl
            have a3 : (viewL (ls.take q)).getD mf [] = xs := by rw [List.getD_eq_getElem?_getD, HXS.out]; rfl
            unfold addL
            rw [a1, a2, a3, ← hyss]
            have a4 : yss.getD (128 + mt) [] = zs := by rw [List.getD_eq_getElem?_getD, hz]; rfl
            simp only [a4])
          clear hyss hvs2 V4' z4 b4 e4 hgg VN ha12 hg12 cold fz eL zz XN OWN XL VLT HVR HVJ HXS NEW WL ZL V3 B3 hs3'
          obtain ⟨xs, hxs⟩ : ∃ xs, (yss)[128 + mt]? = some xs := ⟨_, List.getElem?_eq_getElem (by rw [V4.out.nx]; have := M8.out; omega)⟩
          obtain ⟨vj, hvj, own⟩ := V4.out.at_ hxs
          obtain ⟨A, cc, hvl, -⟩ := Sl_of_row cLk_len (by omega) own rfl
          obtain ⟨mm, hmm⟩ : ∃ mm, mm = xs.length := ⟨_, rfl⟩
          have XN := Lib.hid hmm
          have OWN := Lib.hid own
          rw [← hmm] at hvl
          subst hvl
          have XL : Hid (xs.length ≤ 1000000) := Lib.hid (by have := WL2.out (128 + mt) xs hxs; omega)
          have VLT := Lib.hid (V4.out.lt)
          have hvb : (Value.slice A mm cc).ownBlock ≠ some V := own_at own V4.out.blk (by decide)
          have hvr : (Value.slice A mm cc).ownBlock ≠ some bl := NEW2.out (128 + mt) _ hvj
          have HVR := Lib.hid hvr
          have HZ : ∀ w5, w4.grownBy w5 (Value.slice A mm cc).ownBlock → w5.heap[bl]? = some (.cells (cLk l).toArray 43 (0, 0)) := fun w5 h5 => heap_grown h5 Z4.out (fun e => hvr e.symm)
          have csl := V4.out.slot hvj
          have HC : ∀ w5, w4.grownBy w5 (Value.slice A mm cc).ownBlock → w5.cell? ⟨V, 256 + mt, none⟩ = some (.slice A mm cc) ∧ w5.cell? ⟨bl, 0, none⟩ = some (.int .i64 (mf : Int)) ∧ w5.cell? ⟨bl, 1, none⟩ = some (.int .i64 (mt : Int)) := fun w5 h5 => by
            have z := HZ w5 h5
            have z2 := heap_grown h5 V4.out.blk (fun e => hvb e.symm)
            refine ⟨?_, by rw [cell_of_row w5 _ 0 _ _ _ z, ← MF.out]; rfl, by rw [cell_of_row w5 _ 1 _ _ _ z, ← MT.out]; rfl⟩
            rw [cell_of_row w5 V _ _ _ _ z2, ← cell_of_row w4 V _ _ _ _ V4.out.blk]
            exact (by first | exact csl | (rw [show 256 + mt = 128 + (128 + mt) by omega]; exact csl))
          have HVJ := Lib.hid hvj
          have HXS := Lib.hid hxs
          clear hxs hvj own hmm hvb hvr csl
          refine Og.Joint2.walk_lit 15 [[],[],[1],[],[],[4],[3],[6,3],[7,5,6,3,4],[8,7,5,6,3,4],[],[10],[9,11,8,7,5,6,3,4,10],[0],[13,0],[14,2,0,1,3,4,5,6,7,8,9,10,11,12,13],[15,12,0,1,2,3,4,5,6,7,8,9,10,11,14,13]] (CA w4 (Value.slice A mm cc).ownBlock 11 12 (cLk l).toArray (FinL V (Value.slice A mm cc).ownBlock w4.heap.size (xs ++ [l]))) (fun _ _ => True) (by kernel_rfl) (by kernel_rfl) (by kernel_rfl) (fun vs => CA.ini bdrew) ?_
          simp only [List.take_succ_cons, List.take_zero, List.drop_succ_cons, List.drop_zero]
          refine Og.Joint2.step_pure (fun p vs v w h => h.other (by decide) (by decide)) (fun _ => trivial) ?_; apply Exists.intro; refine And.intro ?_ ?_; focus (intro p vs w2 hC hk; have hm := HC w2 hC.1; refine Og.OptB.mk ?_; revert hk; simp only [Og.KS, Og.K0, Og.Is, List.getD_cons_zero, List.getD_cons_succ, List.getD_nil, List.contains_cons, List.contains_nil, Nat.reduceAdd, Nat.reduceBEq, Bool.or_false, Bool.false_or, Bool.or_true, Bool.true_or, Bool.false_eq_true, false_implies, true_implies, true_and, and_true, forall_const]; intros; go_simp; rfl)
          refine Og.Joint2.step_pure (fun p vs v w h => h.other (by decide) (by decide)) (fun _ => trivial) ?_; apply Exists.intro; refine And.intro ?_ ?_; focus (intro p vs w2 hC hk; have hm := HC w2 hC.1; refine Og.OptB.mk ?_; revert hk; simp only [Og.KS, Og.K0, Og.Is, List.getD_cons_zero, List.getD_cons_succ, List.getD_nil, List.contains_cons, List.contains_nil, Nat.reduceAdd, Nat.reduceBEq, Bool.or_false, Bool.false_or, Bool.or_true, Bool.true_or, Bool.false_eq_true, false_implies, true_implies, true_and, and_true, forall_const]; intros; go_simp; rfl)
          refine Og.Joint2.step_pure (fun p vs v w h => h.other (by decide) (by decide)) (fun _ => trivial) ?_; apply Exists.intro; refine And.intro ?_ ?_; focus (intro p vs w2 hC hk; have hm := HC w2 hC.1; refine Og.OptB.mk ?_; revert hk; simp only [Og.KS, Og.K0, Og.Is, List.getD_cons_zero, List.getD_cons_succ, List.getD_nil, List.contains_cons, List.contains_nil, Nat.reduceAdd, Nat.reduceBEq, Bool.or_false, Bool.false_or, Bool.or_true, Bool.true_or, Bool.false_eq_true, false_implies, true_implies, true_and, and_true, forall_const]; intros; go_simp; rfl)
          refine Og.Joint2.step_pure (fun p vs v w h => h.other (by decide) (by decide)) (fun _ => trivial) ?_; apply Exists.intro; refine And.intro ?_ ?_; focus (intro p vs w2 hC hk; have hm := HC w2 hC.1; refine Og.OptB.mk ?_; revert hk; simp only [Og.KS, Og.K0, Og.Is, List.getD_cons_zero, List.getD_cons_succ, List.getD_nil, List.contains_cons, List.contains_nil, Nat.reduceAdd, Nat.reduceBEq, Bool.or_false, Bool.false_or, Bool.or_true, Bool.true_or, Bool.false_eq_true, false_implies, true_implies, true_and, and_true, forall_const]; intros; go_simp; rfl)
          refine Og.Joint2.step_pure (fun p vs v w h => h.other (by decide) (by decide)) (fun _ => trivial) ?_; apply Exists.intro; refine And.intro ?_ ?_; focus (intro p vs w2 hC hk; have hm := HC w2 hC.1; refine Og.OptB.mk ?_; revert hk; simp only [Og.KS, Og.K0, Og.Is, List.getD_cons_zero, List.getD_cons_succ, List.getD_nil, List.contains_cons, List.contains_nil, Nat.reduceAdd, Nat.reduceBEq, Bool.or_false, Bool.false_or, Bool.or_true, Bool.true_or, Bool.false_eq_true, false_implies, true_implies, true_and, and_true, forall_const]; intros; go_simp; rfl)
          refine Og.Joint2.step_pure (fun p vs v w h => h.other (by decide) (by decide)) (fun _ => trivial) ?_; apply Exists.intro; refine And.intro ?_ ?_; focus (intro p vs w2 hC hk; have hm := HC w2 hC.1; refine Og.OptB.mk ?_; revert hk; simp only [Og.KS, Og.K0, Og.Is, List.getD_cons_zero, List.getD_cons_succ, List.getD_nil, List.contains_cons, List.contains_nil, Nat.reduceAdd, Nat.reduceBEq, Bool.or_false, Bool.false_or, Bool.or_true, Bool.true_or, Bool.false_eq_true, false_implies, true_implies, true_and, and_true, forall_const]; intros; go_simp; rfl)
          refine Og.Joint2.step_pure (fun p vs v w h => h.other (by decide) (by decide)) (fun _ => trivial) ?_; apply Exists.intro; refine And.intro ?_ ?_; focus (intro p vs w2 hC hk; have hm := HC w2 hC.1; refine Og.OptB.mk ?_; revert hk; simp only [Og.KS, Og.K0, Og.Is, List.getD_cons_zero, List.getD_cons_succ, List.getD_nil, List.contains_cons, List.contains_nil, Nat.reduceAdd, Nat.reduceBEq, Bool.or_false, Bool.false_or, Bool.or_true, Bool.true_or, Bool.false_eq_true, false_implies, true_implies, true_and, and_true, forall_const]; intros; go_simp; rfl)
          refine Og.Joint2.step_pure (fun p vs v w h => h.other (by decide) (by decide)) (fun _ => trivial) ?_; apply Exists.intro; refine And.intro ?_ ?_; focus (intro p vs w2 hC hk; have hm := HC w2 hC.1; refine Og.OptB.mk ?_; revert hk; simp only [Og.KS, Og.K0, Og.Is, List.getD_cons_zero, List.getD_cons_succ, List.getD_nil, List.contains_cons, List.contains_nil, Nat.reduceAdd, Nat.reduceBEq, Bool.or_false, Bool.false_or, Bool.or_true, Bool.true_or, Bool.false_eq_true, false_implies, true_implies, true_and, and_true, forall_const]; intros; go_simp; rfl)
          refine Og.Joint2.step_pure (fun p vs v w h => h.other (by decide) (by decide)) (fun _ => trivial) ?_; apply Exists.intro; refine And.intro ?_ ?_; focus (intro p vs w2 hC hk; have hm := HC w2 hC.1; refine Og.OptB.mk ?_; revert hk; simp only [Og.KS, Og.K0, Og.Is, List.getD_cons_zero, List.getD_cons_succ, List.getD_nil, List.contains_cons, List.contains_nil, Nat.reduceAdd, Nat.reduceBEq, Bool.or_false, Bool.false_or, Bool.or_true, Bool.true_or, Bool.false_eq_true, false_implies, true_implies, true_and, and_true, forall_const]; intros; go_simp; rfl)
          refine Og.Joint2.step_pure (fun p vs v w h => h.other (by decide) (by decide)) (fun _ => trivial) ?_; apply Exists.intro; refine And.intro ?_ ?_; focus (intro p vs w2 hC hk; have hm := HC w2 hC.1; refine Og.OptB.mk ?_; revert hk; simp only [Og.KS, Og.K0, Og.Is, List.getD_cons_zero, List.getD_cons_succ, List.getD_nil, List.contains_cons, List.contains_nil, Nat.reduceAdd, Nat.reduceBEq, Bool.or_false, Bool.false_or, Bool.or_true, Bool.true_or, Bool.false_eq_true, false_implies, true_implies, true_and, and_true, forall_const]; intros; go_simp; rfl)
          refine Og.Joint2.step_pure (fun p vs v w h => h.other (by decide) (by decide)) (fun _ => trivial) ?_; apply Exists.intro; refine And.intro ?_ ?_; focus (intro p vs w2 hC hk; have hz := HZ w2 hC.1; revert hk; simp only [Og.KS, Og.K0, Og.Is, List.getD_cons_zero, List.getD_cons_succ, List.getD_nil, List.contains_cons, List.contains_nil, Nat.reduceAdd, Nat.reduceBEq, Bool.or_false, Bool.false_or, Bool.or_true, Bool.true_or, Bool.false_eq_true, false_implies, true_implies, true_and, and_true, forall_const]; intros; exact optB_loadL (by go_simp) rfl (by go_simp) (ldLk hz) ⟨rfl, rfl⟩)
          refine Og.Joint2.step_any (fun _ _ => True) (fun _ _ _ _ _ => trivial) ?_ ?_; focus (intro p vs w2 hp hC hk; refine Og.OptB.mk ?_; revert hk; simp only [Og.KS, Og.K0, Og.Is, List.getD_cons_zero, List.getD_cons_succ, List.getD_nil, List.contains_cons, List.contains_nil, Nat.reduceAdd, Nat.reduceBEq, Bool.or_false, Bool.false_or, Bool.or_true, Bool.true_or, Bool.false_eq_true, false_implies, true_implies, true_and, and_true, forall_const]; intros; go_simp; exact CA.new hp.1 (by decide) hC)
          refine Og.Joint2.step_any (fun _ _ => True) (fun _ _ _ _ _ => trivial) ?_ ?_; focus (intro p vs w2 hp hC hk; have h1 : p 11 = true := hp.2 11 (by decide); obtain ⟨g1, e1, hg1, hz⟩ := hC.2.2.2.1 h1; have bW := hC.2.2.1 hp.1; obtain ⟨v', w', hr, ho', hg', ha'⟩ := run_appLk (w := w2) (V + 1) g1 30 _ xs l (own_below OWN.out bW) (hz hp.1) (by have := XL.out; omega) (by have := VLT.out; have := bW.size; omega); revert hk; simp only [Og.KS, Og.K0, Og.Is, List.getD_cons_zero, List.getD_cons_succ, List.getD_nil, List.contains_cons, List.contains_nil, Nat.reduceAdd, Nat.reduceBEq, Bool.or_false, Bool.false_or, Bool.or_true, Bool.true_or, Bool.false_eq_true, false_implies, true_implies, true_and, and_true, forall_const]; intros; refine optB_appR (by go_simp) rfl (by go_simp) (by first | (go_simp; done) | (go_simp; exact e1)) hr ?_; exact CA.done (by decide) h1 hp.1 hC hg' ⟨ho', ha'.imp id fun e => ⟨_, e, bW.size⟩⟩)
          refine Og.Joint2.step_pure (fun p vs v w h => h.other (by decide) (by decide)) (fun _ => trivial) ?_; apply Exists.intro; refine And.intro ?_ ?_; focus (intro p vs w2 hC hk; have hm := HC w2 hC.1; refine Og.OptB.mk ?_; revert hk; simp only [Og.KS, Og.K0, Og.Is, List.getD_cons_zero, List.getD_cons_succ, List.getD_nil, List.contains_cons, List.contains_nil, Nat.reduceAdd, Nat.reduceBEq, Bool.or_false, Bool.false_or, Bool.or_true, Bool.true_or, Bool.false_eq_true, false_implies, true_implies, true_and, and_true, forall_const]; intros; go_simp; rfl)
          refine Og.Joint2.step_pure (fun p vs v w h => h.other (by decide) (by decide)) (fun _ => trivial) ?_; apply Exists.intro; refine And.intro ?_ ?_; focus (intro p vs w2 hC hk; have hm := HC w2 hC.1; refine Og.OptB.mk ?_; revert hk; simp only [Og.KS, Og.K0, Og.Is, List.getD_cons_zero, List.getD_cons_succ, List.getD_nil, List.contains_cons, List.contains_nil, Nat.reduceAdd, Nat.reduceBEq, Bool.or_false, Bool.false_or, Bool.or_true, Bool.true_or, Bool.false_eq_true, false_implies, true_implies, true_and, and_true, forall_const]; intros; go_simp; rfl)
          intro p vS w2 hp hC hk
          obtain ⟨hg12, -, -, -, hfin⟩ := hC
          obtain ⟨ho12, ha12⟩ := hfin (hp 12 (by decide))
          simp only [Og.KS, Og.K0, Og.Is, List.getD_cons_zero, List.getD_cons_succ, List.getD_nil, List.contains_cons, List.contains_nil, Nat.reduceAdd, Nat.reduceBEq, Bool.or_false, Bool.false_or, Bool.or_true, Bool.true_or, Bool.false_eq_true, false_implies, true_implies, true_and, and_true, forall_const] at hk
          obtain ⟨gg, ccc, e12, -⟩ := own_some ho12 (fun e => by rw [e] at ho12; have := ho12.1; rcases ho12.2 with ⟨_, h0⟩ | ⟨_, _, _, h0, _⟩; simp at h0; cases h0)
          rw [e12] at ho12 ha12
          have VN := V4.out.app HVJ.out HXS.out hg12 ho12 ha12
          have zz := Lib.hid (HZ w2 hg12)
          have cold := (HC w2 hg12).1
          have fz : w2.frozen? ⟨V, 256 + mt, none⟩ = false := by simp [World.frozen?, heap_grown hg12 V4.out.blk (fun e => own_at OWN.out V4.out.blk (by decide) e.symm)]
          have eL : (xs ++ [l]).length = mm + 1 := by rw [XN.out]; simp
          rw [eL] at e12 VN ha12
          simp only [hk, e12, Act.put, List.setIfInBounds_toArray, List.set_cons_zero, List.set_cons_succ]
          clear hk hp HC HZ e12 ho12
          go_wp2_with fail
          have eqA : 128 + (128 + mt) = 256 + mt := by omega
          rw [eqA] at VN
          have b5 : Below w.heap.size w (w2.setCell ⟨V, 256 + mt, none⟩ (.slice (some ⟨gg, 0, none⟩) (mm + 1) ccc)) := by
            have h1 : Below w.heap.size w4 w2 := grown_below hg12 (by have := B4.out.size; omega) (fun g e => by have := (OWN.out.lt g e).1; have := HV.out; omega)
            have h2 : w2.heap[V]? = _ := heap_grown hg12 V4.out.blk (fun e => own_at OWN.out V4.out.blk (by decide) e.symm)
            rw [setCell_eq_setRow w2 V _ _ 70 (0, 0) _ h2]
            exact (B4.out.trans h1).trans ⟨rfl, rfl, rfl, by simp [World.setRow], fun j hj => setRow_other w2 V j _ (by have := HV.out; omega)⟩
          rw [← EQ1.out xs HXS.out, ← viewL_succ LQ.out] at VN
          have V5 := Lib.hid VN
          have B5 := Lib.hid b5
          clear VN b5 hg12 ha12 cold fz eL zz
          go_roundw
          case rel => exact ⟨q + 1, _, by omega, by go_num, B5, V5⟩
          case measure => simp [intOf]; omega
        · have hqn : q = n2 := by omega
          subst hqn
          have hV : Hid (Vw V wr vs (viewL ls)) := Lib.hid (by
            have := hv.out
            rw [List.take_of_length_le (by have := N2.out; omega)] at this
            exact this)
          have hge : Hid (w.heap.size ≤ V) := Lib.hid (by have := HV.out; omega)
          clear hv hlt hq
          go_wp2_with fail
          go_ret
          exact ⟨⟨V, vs, rfl, hge.out, hV.out⟩, hb.out⟩

end Go.Proofs.Ytpklcefiabjplaa
