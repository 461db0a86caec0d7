/- graph.Check of a sound graph; conditions: it is sound, its places are 0. -/
import Derived.Test.YtjbglifmppilfaaDoorS3
import Derived.Test.YtjbglifmppilfaaDoorS2
namespace Go.Proofs.YtjbglifmppilfaaDoor
open Go.ChangeShapes Go.WideShapes Go.ChangeAt Go.RowKit
set_option linter.unusedVariables false
set_option linter.unusedSimpArgs false
attribute [local go_sem] Og.Opt Og.OpY

/-- the frame behind a name -/
theorem abs_act {P : Program} {c : Code} {Q : Exit → Act → World → Prop} {a : Act} {w : World} (h : ∀ a0 : Act, a0 = a → Code.wp P c Q a0 w) : Code.wp P c Q a w := h a rfl
theorem gd_same {a : Array Value} {i : Nat} {v d : Value} (h : i < a.size) : (a.setIfInBounds i v).getD i d = v := by
  rw [Array.getD_eq_getD_getElem?, Array.getElem?_setIfInBounds_self_of_lt h]; rfl
theorem gd_ne {a : Array Value} {i j : Nat} {v d : Value} (h : i ≠ j) : (a.setIfInBounds i v).getD j d = a.getD j d := by
  rw [Array.getD_eq_getD_getElem?, Array.getD_eq_getD_getElem?, Array.getElem?_setIfInBounds_ne h]
theorem ge_same {a : Array Value} {i : Nat} {v : Value} (h : i < a.size) : (a.setIfInBounds i v)[i]? = some v := Array.getElem?_setIfInBounds_self_of_lt h
theorem ge_ne {a : Array Value} {i j : Nat} {v : Value} (h : i ≠ j) : (a.setIfInBounds i v)[j]? = a[j]? := Array.getElem?_setIfInBounds_ne h
attribute [local go_sem] gd_same gd_ne ge_same ge_ne
/-- facts that are no longer needed are let go -/
theorem walk_weaken {P : Program} {C : World → Prop} {Rel : World → World → Prop} {A : List (List Nat)} {ops : Array Oper} {Q : Act → World → Prop} {K K' : (Nat → Bool) → (Nat → Value) → World → Prop} : ∀ (l : List Oper) (i : Nat) (F : (Nat → Value) → Act) (n : Nat), (∀ b vs w, K b vs w → K' b vs w) → Og.Walk P C Rel A ops Q l i F K' → Og.Walk P C Rel A ops Q l i F K := by
  intro l
  induction l generalizing K K' with
  | nil => intro i F n h hw vs w hc hk; exact hw vs w hc (h _ _ _ hk)
  | cons o r ih =>
    intro i F n h hw
    obtain ⟨D, h1, h2, h3⟩ := hw
    exact ⟨D, h1, fun vs w hc hk => h2 vs w hc (h _ _ _ hk), ih (i + 1) _ n (fun b vs w hk => ⟨hk.1, h _ _ _ hk.2⟩) h3⟩
/-- a sound graph -/
structure SndG (ns : List Nd) (ls : List Lk) (ps : List Pn) : Prop where
  nr : ∀ (i : Nat) x, ns[i]? = some x → rng 0 127 x.i = true
  na : ∀ (i : Nat) x y, ns[i]? = some x → ns[i + 1]? = some y → x.i < y.i
  ll : ls.length ≤ 2048
  lr : ∀ (i : Nat) x, ls[i]? = some x → (∃ n ∈ ns, n.i = x.f) ∧ (∃ n ∈ ns, n.i = x.t) ∧ x.f ≠ x.t ∧ rng 1 65535 x.c = true ∧ rng 0 65535 x.d = true
  la : ∀ (i : Nat) x y, ls[i]? = some x → ls[i + 1]? = some y → cmpL x y < 0
  pl : ps.length ≤ 1024
  pr : ∀ (i : Nat) x, ps[i]? = some x → (∃ n ∈ ns, n.i = x.n) ∧ pfS x.p ∧ rng 0 65535 x.m = true
  pa : ∀ (i : Nat) x y, ps[i]? = some x → ps[i + 1]? = some y → cmpN x y < 0
theorem SndG.at {ns : List Nd} {ls : List Lk} {ps : List Pn} (h : SndG ns ls ps) {v : Int} (hv : ∃ n ∈ ns, n.i = v) : rng 0 127 v = true := by
  obtain ⟨n, hn, rfl⟩ := hv
  obtain ⟨i, hi⟩ := List.mem_iff_getElem?.1 hn
  exact h.nr i n hi
/-- the table of the nodes that are there -/
def TB (w : World) (T : Nat) (ns : List Nd) : Prop := ∃ arr : Array Value, w.heap[T]? = some (.cells arr 95 (0, 0)) ∧ arr.size = 128 ∧ ∀ v : Nat, v < 128 → arr[v]? = some (.bool (decide (∃ n ∈ ns, n.i = (v : Int))))
theorem TB.cell {w : World} {T : Nat} {ns : List Nd} (h : TB w T ns) {v : Nat} (hv : v < 128) (hm : ∃ n ∈ ns, n.i = (v : Int)) : w.cell? ⟨T, v, none⟩ = some (.bool true) := by
  obtain ⟨arr, h1, h2, h3⟩ := h
  rw [cell_of_row w T v arr 95 (0, 0) h1, h3 v hv, decide_eq_true hm]
theorem TB.some {w : World} {T : Nat} {ns : List Nd} (h : TB w T ns) {v : Nat} (hv : v < 128) : w.cell? ⟨T, v, none⟩ = some (.bool (decide (∃ n ∈ ns, n.i = (v : Int)))) := by
  obtain ⟨arr, h1, h2, h3⟩ := h
  rw [cell_of_row w T v arr 95 (0, 0) h1, h3 v hv]
theorem TB.frozen {w : World} {T : Nat} {ns : List Nd} (h : TB w T ns) (v : Nat) : w.frozen? ⟨T, v, none⟩ = false := by
  obtain ⟨arr, h1, h2, h3⟩ := h
  simp [World.frozen?, h1]
theorem TB.below {w w2 : World} {T : Nat} {ns : List Nd} (h : TB w T ns) (hb : Below w.heap.size w w2) : TB w2 T ns := by
  obtain ⟨arr, h1, h2, h3⟩ := h
  exact ⟨arr, heap_keep hb h1, h2, h3⟩
theorem TB.set {w : World} {T u : Nat} {ns ms : List Nd} (h : TB w T ns) (hm : ∀ v : Nat, (∃ n ∈ ms, n.i = (v : Int)) ↔ ((∃ n ∈ ns, n.i = (v : Int)) ∨ v = u)) : TB (w.setCell ⟨T, u, none⟩ (.bool true)) T ms := by
  obtain ⟨arr, h1, h2, h3⟩ := h
  refine ⟨arr.setIfInBounds u (.bool true), ?_, by simpa using h2, fun v hv => ?_⟩
  · rw [setCell_eq_setRow w T u arr 95 (0, 0) _ h1]
    exact setRow_heap w T arr _ 95 (0, 0) h1
  · by_cases hu : u = v
    · subst hu
      rw [Array.getElem?_setIfInBounds_self_of_lt (by omega), decide_eq_true ((hm u).2 (.inr rfl))]
    · rw [Array.getElem?_setIfInBounds_ne hu, h3 v hv]
      congr 2
      exact decide_eq_decide.2 ⟨fun h => (hm v).2 (.inl h), fun h => ((hm v).1 h).resolve_right (fun e => hu e.symm)⟩
theorem take_mem {ns : List Nd} {k u : Nat} (h : ns[k]? = some ⟨(u : Int)⟩) (v : Nat) : (∃ n ∈ ns.take (k + 1), n.i = (v : Int)) ↔ ((∃ n ∈ ns.take k, n.i = (v : Int)) ∨ v = u) := by
  have e : ns.take (k + 1) = ns.take k ++ [⟨(u : Int)⟩] := by
    rw [List.take_add_one, h]; rfl
  rw [e]
  constructor
  · rintro ⟨n, hn, hv⟩
    rcases List.mem_append.1 hn with hn | hn
    · exact .inl ⟨n, hn, hv⟩
    · rw [List.mem_singleton.1 hn] at hv
      exact .inr (by have h : (u : Int) = (v : Int) := hv; omega)
  · rintro (⟨n, hn, hv⟩ | rfl)
    · exact ⟨n, List.mem_append_left _ hn, hv⟩
    · exact ⟨_, List.mem_append_right _ (List.mem_singleton.2 rfl), rfl⟩
theorem nat_of {v : Int} {hi : Int} (h : rng 0 hi v = true) : ∃ u : Nat, v = (u : Int) := ⟨v.toNat, by have := rng_of h; omega⟩

set_option maxRecDepth 100000 in
set_option maxHeartbeats 16000000 in
theorem Check_ok (ns : List Nd) (ls : List Lk) (ps : List Pn) (va vb vc : Value) (w : World) (sa : Sl cNd 3 0 w va ns) (sb : Sl cLk 4 0 w vb ls) (sc : Sl cPn 4 0 w vc ps) (hG : SndG ns ls ps) (hl : ns.length ≤ 128) :
    Calls Tryd.prog 56 #[.agg #[va, vb, vc]] w fun e w' => e = .returned (.int .i64 0) ∧ Below w.heap.size w w' := by
  obtain ⟨A1, c1, rfl, r1, _⟩ := sa
  obtain ⟨A2, c2, rfl, r2, _⟩ := sb
  obtain ⟨A3, c3, rfl, r3, _⟩ := sc
  obtain ⟨n1, hn1⟩ : ∃ n, n = ns.length := ⟨_, rfl⟩
  obtain ⟨n2, hn2⟩ : ∃ n, n = ls.length := ⟨_, rfl⟩
  obtain ⟨n3, hn3⟩ : ∃ n, n = ps.length := ⟨_, rfl⟩
  have hl2 : n2 ≤ 2048 := by rw [hn2]; exact hG.ll
  have hl3 : n3 ≤ 1024 := by rw [hn3]; exact hG.pl
  have hi2 : (n2 : Int) ≤ 2048 := by omega
  have hi3 : (n3 : Int) ≤ 1024 := by omega
  rw [← hn1] at hl ⊢
  rw [← hn2, ← hn3]
  have N1 := Lib.hid hn1
  have N2 := Lib.hid hn2
  have N3 := Lib.hid hn3
  have R1 := Lib.hid r1
  have R2 := Lib.hid r2
  have R3 := Lib.hid r3
  have HG := Lib.hid hG
  clear hn1 hn2 hn3 r1 r2 r3 hG
  go_enter Tryd.func56, Tryd.ntmps56
  go_wp2_with fail
  go_loopw [23] (fun i wr => ∃ k : Nat, k ≤ n1 ∧ i = .int .i64 k ∧ Hid (TB wr (w.heap.size + 1) (ns.take k)) ∧ Hid (wr.heap[w.heap.size]? = some (.cells #[.slice A1 n1 c1, .slice A2 n2 c2, .slice A3 n3 c3] 42 (0, 0))) ∧ Hid (Below w.heap.size w wr)) (fun i _ => n1 - (intOf i).toNat)
  case atStart =>
    refine ⟨0, Nat.zero_le _, rfl, Lib.hid ?_, Lib.hid ?_, Lib.hid (((Below.refl _ _).alloc (Nat.le_refl _) _).alloc (by simp) _)⟩
    · refine ⟨_, heap_at (by simp), rfl, fun v hv => ?_⟩
      have e : Tryd.zeroCells95 = Array.replicate 128 (Value.bool false) := by kernel_rfl
      have e2 : Tryd.zeroCells95[v]? = some (.bool false) := by rw [e]; simp [hv]
      simpa using e2
    · exact heap_keep ((Below.refl _ _).alloc (Nat.le_refl _) _) (heap_at rfl)
  case round =>
    obtain ⟨k, hk, rfl, htb, hg, hbw⟩ := hrel
    by_cases hlt : k < n1
    · obtain ⟨x, hx⟩ : ∃ r, ns[k]? = some r := ⟨_, List.getElem?_eq_getElem (by rw [← N1.out]; exact hlt)⟩
      have hru := HG.out.nr k x hx
      obtain ⟨u, hu⟩ := nat_of hru
      obtain ⟨xi⟩ := x
      simp only at hu hru
      subst hu
      have hu128 : u < 128 := by have := rng_of hru; omega
      have hui : (u : Int) < 128 := by omega
      have hu0 : (0 : Int) ≤ (u : Int) := by omega
      obtain ⟨b, o, rfl, hat⟩ := (R1.out.below hbw.out) k _ hx
      have HXX := Lib.hid hx
      have hwk : IntKind.i64.wrap (k : Int) = k := wrapk (by omega)
      have hwk1 : IntKind.i64.wrap ((k : Int) + 1) = (k : Int) + 1 := by rw [IntKind.wrap_i64]; omega
      have hk0 : (0 : Int) ≤ (k : Int) := by omega
      have hkn : (k : Int) < (n1 : Int) := by omega
      clear hx
      rcases k with _ | k
      · simp only [Nat.zero_mul, Nat.add_zero] at hat
        clear hwk hk0 hwk1
        have HX : Hid (AtL wr b (o) [.int .i64 (u : Int), .bool false, .complex .f64 0 0]) := Lib.hid hat
        have G0c : Hid (wr.cell? ⟨w.heap.size, 0, none⟩ = some (.slice (some ⟨b, o, none⟩) n1 c1)) := Lib.hid (by simp [World.cell?, hg.out])
        clear hat
        go_wp2_with (first | (refine wpList_loadL rfl 53 (.tmp 26) rfl b (o) (.agg #[.int .i64 (u : Int), .bool false, .complex .f64 0 0]) rfl (run_loadL isAgg41 size41 rfl HX.out) ?_) | (refine wpList_storeN rfl 53 (.tmp 5) (.tmp 27) rfl rfl wr.heap.size #[.int .i64 (u : Int), .bool false, .complex .f64 0 0] rfl rfl 53 _ (heap_at rfl) info41s rfl (by simp [Value.oneCell']) ?_; intro w1 hz hb ho hs; have HZ := Lib.hid (AtL_heap (cs := [.int .i64 (u : Int), .bool false, .complex .f64 0 0]) hz); have b1 := below_storeA hb; have B1 := Lib.hid b1; clear hz hb ho hs b1))
        obtain ⟨gz, hgz⟩ : ∃ gz, gz = wr.heap.size := ⟨_, rfl⟩
        rw [← hgz] at HZ
        rw [← hgz]
        clear hgz
        have HC : ∀ w2, Below w1.heap.size w1 w2 → w2.cell? ⟨gz, 0, none⟩ = some (.int .i64 (u : Int)) ∧ w2.cell? ⟨gz, 1, none⟩ = some (.bool false) ∧ w2.cell? ⟨gz, 2, none⟩ = some (.complex .f64 0 0) ∧ w2.cell? ⟨w.heap.size, 0, none⟩ = some (.slice (some ⟨b, o, none⟩) n1 c1) := fun w2 h => ⟨bcell h (by have := HZ.out 0 _ rfl; simpa using this), bcell h (by have := HZ.out 1 _ rfl; simpa using this), bcell h (by have := HZ.out 2 _ rfl; simpa using this), bcell h (bcell B1.out G0c.out)⟩
        have H34 : Hid (∀ w, Calls Tryd.prog 57 #[.int .i64 (u : Int)] w fun e w' => e = .returned (.bool true) ∧ Below w.heap.size w w') := Lib.hid (fun w => by have := in_ok (u : Int) w; rwa [hru] at this)
        refine abs_act fun a0 ha0 => ?_
        have es : a0.tmps.size = 172 := by rw [ha0]; rfl
        have e5 : a0.tmps.getD 5 undef = .pointer (some ⟨gz, 0, none⟩) := by rw [ha0]; rfl
        have f5 : ∀ h : 5 < a0.tmps.size, a0.tmps[5] = .pointer (some ⟨gz, 0, none⟩) := by subst ha0; exact fun _ => rfl
        have e1 : a0.tmps.getD 1 undef = .pointer (some ⟨w.heap.size, 0, none⟩) := by rw [ha0]; rfl
        have f1 : ∀ h : 1 < a0.tmps.size, a0.tmps[1] = .pointer (some ⟨w.heap.size, 0, none⟩) := by subst ha0; exact fun _ => rfl
        have e4 : a0.tmps.getD 4 undef = .int .i64 (0) := by rw [ha0]; rfl
        have f4 : ∀ h : 4 < a0.tmps.size, a0.tmps[4] = .int .i64 (0) := by subst ha0; exact fun _ => rfl
        have HA0 := Lib.hid ha0
        clear ha0
        refine Og.walk_lit [[],[0],[1,0],[2,1,0],[3,2,1,0],[4,3,2,1,0],[5,4,3,2,1,0],[6,4,5,3,2,1,0],[7,4,6,5,3,2,1,0],[4,8,3,2,1,0,7,6,5],[9,7,4,8,3,2,1,0,6,5],[10,9,7,4,8,3,2,1,0,6,5],[11,10,9,7,4,8,3,2,1,0,6,5],[12,10,11,9,7,4,8,3,2,1,0,6,5],[13,12,10,11,9,7,4,8,3,2,1,0,6,5],[14,13,12,10,11,9,7,4,8,3,2,1,0,6,5],[13,12,10,11,9,7,4,8,3,2,1,0,6,5],[16,13,12,10,11,9,7,4,8,3,2,1,0,6,5],[15,17,13,14,12,10,11,9,7,4,8,3,2,1,0,6,5,16],[18,13,15,17,14,12,10,11,9,7,4,8,3,2,1,0,6,5,16],[19,13,18,15,17,14,12,10,11,9,7,4,8,3,2,1,0,6,5,16],[13,12,10,11,9,7,4,8,3,2,1,0,6,5],[21,13,12,10,11,9,7,4,8,3,2,1,0,6,5],[20,22,13,19,18,15,17,14,12,10,11,9,7,4,8,3,2,1,0,6,5,16,21],[13,23,10,12,11,9,7,4,8,3,2,1,0,6,5,20,22,19,18,15,17,14,16,21],[10,24,9,7,4,8,3,2,1,0,6,5,13,23,12,11,20,22,19,18,15,17,14,16,21]] (fun w2 => Below w1.heap.size w1 w2) (fun w1 w2 => Below w1.heap.size w1 w2) (by kernel_rfl) (by kernel_rfl) (bdrew) ?_
        iterate 2 (refine Og.step_pure (fun _ => Below.refl _ _) ?_; apply Exists.intro; refine And.intro ?_ ?_; focus (intro vs w2 hC hk; have hm := HC w2 hC; revert hk; simp only [Og.KS, Og.K0, Og.Is, List.getD_cons_zero, List.getD_cons_succ, List.getD_nil, List.contains_cons, List.contains_nil, Nat.reduceAdd, Nat.reduceBEq, Bool.or_false, Bool.false_or, Bool.or_true, Bool.true_or, Bool.false_eq_true, false_implies, true_implies, true_and, and_true, forall_const]; intros; go_simp; rfl))
        refine Og.step_one ?_; apply Exists.intro; refine And.intro ?_ ?_; focus (intro vs w2 hC hk; have hm := HC w2 hC; revert hk; simp only [Og.KS, Og.K0, Og.Is, List.getD_cons_zero, List.getD_cons_succ, List.getD_nil, List.contains_cons, List.contains_nil, Nat.reduceAdd, Nat.reduceBEq, Bool.or_false, Bool.false_or, Bool.or_true, Bool.true_or, Bool.false_eq_true, false_implies, true_implies, true_and, and_true, forall_const]; intros; go_simp; with_reducible refine (H34.out _).mono ?_; rintro e w3 ⟨rfl, hb⟩; exact Og.RetV.mk ⟨bthen hC hb, hb, rfl⟩)
        refine Og.step_pure (fun _ => Below.refl _ _) ?_; apply Exists.intro; refine And.intro ?_ ?_; focus (intro vs w2 hC hk; have hm := HC w2 hC; revert hk; simp only [Og.KS, Og.K0, Og.Is, List.getD_cons_zero, List.getD_cons_succ, List.getD_nil, List.contains_cons, List.contains_nil, Nat.reduceAdd, Nat.reduceBEq, Bool.or_false, Bool.false_or, Bool.or_true, Bool.true_or, Bool.false_eq_true, false_implies, true_implies, true_and, and_true, forall_const]; intros; go_simp; rfl)
        refine walk_weaken (K' := Og.KS 3 (Og.Is (.bool false)) Og.K0) _ _ _ 0 (fun b vs w h => ⟨h.1, trivial⟩) ?_
        refine Og.step_pure (fun _ => Below.refl _ _) ?_; apply Exists.intro; refine And.intro ?_ ?_; focus (intro vs w2 hC hk; have hm := HC w2 hC; revert hk; simp only [Og.KS, Og.K0, Og.Is, List.getD_cons_zero, List.getD_cons_succ, List.getD_nil, List.contains_cons, List.contains_nil, Nat.reduceAdd, Nat.reduceBEq, Bool.or_false, Bool.false_or, Bool.or_true, Bool.true_or, Bool.false_eq_true, false_implies, true_implies, true_and, and_true, forall_const]; intros; go_simp; rfl)
        refine walk_weaken (K' := Og.KS 4 (Og.Is (.bool false)) Og.K0) _ _ _ 0 (fun b vs w h => ⟨h.1, trivial⟩) ?_
        iterate 2 (refine Og.step_pure (fun _ => Below.refl _ _) ?_; apply Exists.intro; refine And.intro ?_ ?_; focus (intro vs w2 hC hk; have hm := HC w2 hC; revert hk; simp only [Og.KS, Og.K0, Og.Is, List.getD_cons_zero, List.getD_cons_succ, List.getD_nil, List.contains_cons, List.contains_nil, Nat.reduceAdd, Nat.reduceBEq, Bool.or_false, Bool.false_or, Bool.or_true, Bool.true_or, Bool.false_eq_true, false_implies, true_implies, true_and, and_true, forall_const]; intros; go_simp; rfl))
        refine Og.step_one ?_; apply Exists.intro; refine And.intro ?_ ?_; focus (intro vs w2 hC hk; have hm := HC w2 hC; revert hk; simp only [Og.KS, Og.K0, Og.Is, List.getD_cons_zero, List.getD_cons_succ, List.getD_nil, List.contains_cons, List.contains_nil, Nat.reduceAdd, Nat.reduceBEq, Bool.or_false, Bool.false_or, Bool.or_true, Bool.true_or, Bool.false_eq_true, false_implies, true_implies, true_and, and_true, forall_const]; intros; go_simp; with_reducible refine (Ok_ok _).mono ?_; rintro e w3 ⟨rfl, hb⟩; exact Og.RetV.mk ⟨bthen hC hb, hb, rfl⟩)
        iterate 2 (refine Og.step_pure (fun _ => Below.refl _ _) ?_; apply Exists.intro; refine And.intro ?_ ?_; focus (intro vs w2 hC hk; have hm := HC w2 hC; revert hk; simp only [Og.KS, Og.K0, Og.Is, List.getD_cons_zero, List.getD_cons_succ, List.getD_nil, List.contains_cons, List.contains_nil, Nat.reduceAdd, Nat.reduceBEq, Bool.or_false, Bool.false_or, Bool.or_true, Bool.true_or, Bool.false_eq_true, false_implies, true_implies, true_and, and_true, forall_const]; intros; go_simp; rfl))
        refine walk_weaken (K' := Og.KS 9 (Og.Is (.bool false)) Og.K0) _ _ _ 0 (fun b vs w h => ⟨h.1, trivial⟩) ?_
        refine Og.step_pure (fun _ => Below.refl _ _) ?_; apply Exists.intro; refine And.intro ?_ ?_; focus (intro vs w2 hC hk; have hm := HC w2 hC; revert hk; simp only [Og.KS, Og.K0, Og.Is, List.getD_cons_zero, List.getD_cons_succ, List.getD_nil, List.contains_cons, List.contains_nil, Nat.reduceAdd, Nat.reduceBEq, Bool.or_false, Bool.false_or, Bool.or_true, Bool.true_or, Bool.false_eq_true, false_implies, true_implies, true_and, and_true, forall_const]; intros; go_simp; rfl)
        refine walk_weaken (K' := Og.KS 10 (Og.Is (.bool false)) Og.K0) _ _ _ 0 (fun b vs w h => ⟨h.1, trivial⟩) ?_
        iterate 15 (refine Og.step_pure (fun _ => Below.refl _ _) ?_; apply Exists.intro; refine And.intro ?_ ?_; focus (intro vs w2 hC hk; have hm := HC w2 hC; revert hk; simp only [Og.KS, Og.K0, Og.Is, List.getD_cons_zero, List.getD_cons_succ, List.getD_nil, List.contains_cons, List.contains_nil, Nat.reduceAdd, Nat.reduceBEq, Bool.or_false, Bool.false_or, Bool.or_true, Bool.true_or, Bool.false_eq_true, false_implies, true_implies, true_and, and_true, forall_const]; intros; go_simp; rfl))
        intro vs w2 hC hk
        have hm := HC w2 hC
        simp only [Og.KS, Og.K0, Og.Is, List.getD_cons_zero, List.getD_cons_succ, List.getD_nil, List.contains_cons, List.contains_nil, Nat.reduceAdd, Nat.reduceBEq, Bool.or_false, Bool.false_or, Bool.or_true, Bool.true_or, Bool.false_eq_true, false_implies, true_implies, true_and, and_true, forall_const] at hk
        have ha0 := HA0.out
        subst ha0
        clear HA0 es e5 f5 e1 f1 e4 f4
        simp only [hk, Act.put, List.setIfInBounds_toArray, List.set_cons_zero, List.set_cons_succ]
        clear hk
        have B2 := Lib.hid (bthen B1.out hC)
        have TB2 := Lib.hid (htb.out.below B2.out)
        have hz0 := hm.1
        have GK := Lib.hid (heap_keep B2.out hg.out)
        have tc := TB2.out.some hu128
        have tf := TB2.out.frozen u
        clear hC hm HC
        go_wp2_with fail
        go_roundw
        case rel =>
          refine ⟨0 + 1, by omega, by go_num, Lib.hid (TB2.out.set (take_mem HXX.out)), Lib.hid ?_, Lib.hid ((hbw.out.trans (B2.out.mono hbw.out.size)).setCell (by simp) _)⟩
          rw [Below.heap_setCell _ _ _ _ (by simp)]
          exact GK.out
        case measure => simp [intOf]; omega
      · obtain ⟨y, hy⟩ : ∃ r, ns[k]? = some r := ⟨_, List.getElem?_eq_getElem (by rw [← N1.out]; omega)⟩
        obtain ⟨b', o', hA', hat'⟩ := (R1.out.below hbw.out) k y hy
        injection hA' with hA'
        injection hA' with hb' ho' _
        subst hb' ho'
        clear hwk hk0 hkn hwk1
        have hwk : IntKind.i64.wrap (k : Int) = k := wrapk (by omega)
        have hwk1 : IntKind.i64.wrap ((k : Int) + 1) = (k : Int) + 1 := by rw [IntKind.wrap_i64]; omega
        have hk0 : (0 : Int) ≤ (k : Int) := by omega
        have hk1 : (0 : Int) ≤ (k : Int) + 1 := by omega
        have hkn : (k : Int) < (n1 : Int) := by omega
        have hkn1 : (k : Int) + 1 < (n1 : Int) := by omega
        have hwk2 : IntKind.i64.wrap ((k : Int) + 1 + 1) = (k : Int) + 1 + 1 := by rw [IntKind.wrap_i64]; omega
        have HX : Hid (AtL wr b (o + (k + 1) * 3) [.int .i64 (u : Int), .bool false, .complex .f64 0 0]) := Lib.hid hat
        have hpy : y.i < (u : Int) := HG.out.na k _ _ hy HXX.out
        have ty1 : decide ((u : Int) ≤ y.i) = false := decide_eq_false (by omega)
        have hpc : wr.cell? ⟨b, o + k * 3, none⟩ = some (.int .i64 y.i) := by have := hat' 0 _ rfl; simpa using this
        have HPC := Lib.hid hpc
        clear hy hat' hpc
        have G0c : Hid (wr.cell? ⟨w.heap.size, 0, none⟩ = some (.slice (some ⟨b, o, none⟩) n1 c1)) := Lib.hid (by simp [World.cell?, hg.out])
        clear hat
        go_wp2_with (first | (refine wpList_loadL rfl 53 (.tmp 26) rfl b (o + (k + 1) * 3) (.agg #[.int .i64 (u : Int), .bool false, .complex .f64 0 0]) rfl (run_loadL isAgg41 size41 rfl HX.out) ?_) | (refine wpList_storeN rfl 53 (.tmp 5) (.tmp 27) rfl rfl wr.heap.size #[.int .i64 (u : Int), .bool false, .complex .f64 0 0] rfl rfl 53 _ (heap_at rfl) info41s rfl (by simp [Value.oneCell']) ?_; intro w1 hz hb ho hs; have HZ := Lib.hid (AtL_heap (cs := [.int .i64 (u : Int), .bool false, .complex .f64 0 0]) hz); have b1 := below_storeA hb; have B1 := Lib.hid b1; clear hz hb ho hs b1))
        obtain ⟨gz, hgz⟩ : ∃ gz, gz = wr.heap.size := ⟨_, rfl⟩
        rw [← hgz] at HZ
        rw [← hgz]
        clear hgz
        have HC : ∀ w2, Below w1.heap.size w1 w2 → w2.cell? ⟨gz, 0, none⟩ = some (.int .i64 (u : Int)) ∧ w2.cell? ⟨gz, 1, none⟩ = some (.bool false) ∧ w2.cell? ⟨gz, 2, none⟩ = some (.complex .f64 0 0) ∧ w2.cell? ⟨w.heap.size, 0, none⟩ = some (.slice (some ⟨b, o, none⟩) n1 c1) ∧ w2.cell? ⟨b, o + k * 3, none⟩ = some (.int .i64 y.i) := fun w2 h => ⟨bcell h (by have := HZ.out 0 _ rfl; simpa using this), bcell h (by have := HZ.out 1 _ rfl; simpa using this), bcell h (by have := HZ.out 2 _ rfl; simpa using this), bcell h (bcell B1.out G0c.out), bcell h (bcell B1.out HPC.out)⟩
        have H34 : Hid (∀ w, Calls Tryd.prog 57 #[.int .i64 (u : Int)] w fun e w' => e = .returned (.bool true) ∧ Below w.heap.size w w') := Lib.hid (fun w => by have := in_ok (u : Int) w; rwa [hru] at this)
        refine abs_act fun a0 ha0 => ?_
        have es : a0.tmps.size = 172 := by rw [ha0]; rfl
        have e5 : a0.tmps.getD 5 undef = .pointer (some ⟨gz, 0, none⟩) := by rw [ha0]; rfl
        have f5 : ∀ h : 5 < a0.tmps.size, a0.tmps[5] = .pointer (some ⟨gz, 0, none⟩) := by subst ha0; exact fun _ => rfl
        have e1 : a0.tmps.getD 1 undef = .pointer (some ⟨w.heap.size, 0, none⟩) := by rw [ha0]; rfl
        have f1 : ∀ h : 1 < a0.tmps.size, a0.tmps[1] = .pointer (some ⟨w.heap.size, 0, none⟩) := by subst ha0; exact fun _ => rfl
        have e4 : a0.tmps.getD 4 undef = .int .i64 ((k : Int) + 1) := by rw [ha0]; rfl
        have f4 : ∀ h : 4 < a0.tmps.size, a0.tmps[4] = .int .i64 ((k : Int) + 1) := by subst ha0; exact fun _ => rfl
        have HA0 := Lib.hid ha0
        clear ha0
        refine Og.walk_lit [[],[0],[1,0],[2,1,0],[3,2,1,0],[4,3,2,1,0],[5,4,3,2,1,0],[6,4,5,3,2,1,0],[7,4,6,5,3,2,1,0],[4,8,3,2,1,0,7,6,5],[9,7,4,8,3,2,1,0,6,5],[10,9,7,4,8,3,2,1,0,6,5],[11,10,9,7,4,8,3,2,1,0,6,5],[12,10,11,9,7,4,8,3,2,1,0,6,5],[13,12,10,11,9,7,4,8,3,2,1,0,6,5],[14,13,12,10,11,9,7,4,8,3,2,1,0,6,5],[13,12,10,11,9,7,4,8,3,2,1,0,6,5],[16,13,12,10,11,9,7,4,8,3,2,1,0,6,5],[15,17,13,14,12,10,11,9,7,4,8,3,2,1,0,6,5,16],[18,13,15,17,14,12,10,11,9,7,4,8,3,2,1,0,6,5,16],[19,13,18,15,17,14,12,10,11,9,7,4,8,3,2,1,0,6,5,16],[13,12,10,11,9,7,4,8,3,2,1,0,6,5],[21,13,12,10,11,9,7,4,8,3,2,1,0,6,5],[20,22,13,19,18,15,17,14,12,10,11,9,7,4,8,3,2,1,0,6,5,16,21],[13,23,10,12,11,9,7,4,8,3,2,1,0,6,5,20,22,19,18,15,17,14,16,21],[10,24,9,7,4,8,3,2,1,0,6,5,13,23,12,11,20,22,19,18,15,17,14,16,21]] (fun w2 => Below w1.heap.size w1 w2) (fun w1 w2 => Below w1.heap.size w1 w2) (by kernel_rfl) (by kernel_rfl) (bdrew) ?_
        iterate 2 (refine Og.step_pure (fun _ => Below.refl _ _) ?_; apply Exists.intro; refine And.intro ?_ ?_; focus (intro vs w2 hC hk; have hm := HC w2 hC; revert hk; simp only [Og.KS, Og.K0, Og.Is, List.getD_cons_zero, List.getD_cons_succ, List.getD_nil, List.contains_cons, List.contains_nil, Nat.reduceAdd, Nat.reduceBEq, Bool.or_false, Bool.false_or, Bool.or_true, Bool.true_or, Bool.false_eq_true, false_implies, true_implies, true_and, and_true, forall_const]; intros; go_simp; rfl))
        refine Og.step_one ?_; apply Exists.intro; refine And.intro ?_ ?_; focus (intro vs w2 hC hk; have hm := HC w2 hC; revert hk; simp only [Og.KS, Og.K0, Og.Is, List.getD_cons_zero, List.getD_cons_succ, List.getD_nil, List.contains_cons, List.contains_nil, Nat.reduceAdd, Nat.reduceBEq, Bool.or_false, Bool.false_or, Bool.or_true, Bool.true_or, Bool.false_eq_true, false_implies, true_implies, true_and, and_true, forall_const]; intros; go_simp; with_reducible refine (H34.out _).mono ?_; rintro e w3 ⟨rfl, hb⟩; exact Og.RetV.mk ⟨bthen hC hb, hb, rfl⟩)
        refine Og.step_pure (fun _ => Below.refl _ _) ?_; apply Exists.intro; refine And.intro ?_ ?_; focus (intro vs w2 hC hk; have hm := HC w2 hC; revert hk; simp only [Og.KS, Og.K0, Og.Is, List.getD_cons_zero, List.getD_cons_succ, List.getD_nil, List.contains_cons, List.contains_nil, Nat.reduceAdd, Nat.reduceBEq, Bool.or_false, Bool.false_or, Bool.or_true, Bool.true_or, Bool.false_eq_true, false_implies, true_implies, true_and, and_true, forall_const]; intros; go_simp; rfl)
        refine walk_weaken (K' := Og.KS 3 (Og.Is (.bool false)) Og.K0) _ _ _ 0 (fun b vs w h => ⟨h.1, trivial⟩) ?_
        refine Og.step_pure (fun _ => Below.refl _ _) ?_; apply Exists.intro; refine And.intro ?_ ?_; focus (intro vs w2 hC hk; have hm := HC w2 hC; revert hk; simp only [Og.KS, Og.K0, Og.Is, List.getD_cons_zero, List.getD_cons_succ, List.getD_nil, List.contains_cons, List.contains_nil, Nat.reduceAdd, Nat.reduceBEq, Bool.or_false, Bool.false_or, Bool.or_true, Bool.true_or, Bool.false_eq_true, false_implies, true_implies, true_and, and_true, forall_const]; intros; go_simp; rfl)
        refine walk_weaken (K' := Og.KS 4 (Og.Is (.bool false)) Og.K0) _ _ _ 0 (fun b vs w h => ⟨h.1, trivial⟩) ?_
        iterate 2 (refine Og.step_pure (fun _ => Below.refl _ _) ?_; apply Exists.intro; refine And.intro ?_ ?_; focus (intro vs w2 hC hk; have hm := HC w2 hC; revert hk; simp only [Og.KS, Og.K0, Og.Is, List.getD_cons_zero, List.getD_cons_succ, List.getD_nil, List.contains_cons, List.contains_nil, Nat.reduceAdd, Nat.reduceBEq, Bool.or_false, Bool.false_or, Bool.or_true, Bool.true_or, Bool.false_eq_true, false_implies, true_implies, true_and, and_true, forall_const]; intros; go_simp; rfl))
        refine Og.step_one ?_; apply Exists.intro; refine And.intro ?_ ?_; focus (intro vs w2 hC hk; have hm := HC w2 hC; revert hk; simp only [Og.KS, Og.K0, Og.Is, List.getD_cons_zero, List.getD_cons_succ, List.getD_nil, List.contains_cons, List.contains_nil, Nat.reduceAdd, Nat.reduceBEq, Bool.or_false, Bool.false_or, Bool.or_true, Bool.true_or, Bool.false_eq_true, false_implies, true_implies, true_and, and_true, forall_const]; intros; go_simp; with_reducible refine (Ok_ok _).mono ?_; rintro e w3 ⟨rfl, hb⟩; exact Og.RetV.mk ⟨bthen hC hb, hb, rfl⟩)
        iterate 2 (refine Og.step_pure (fun _ => Below.refl _ _) ?_; apply Exists.intro; refine And.intro ?_ ?_; focus (intro vs w2 hC hk; have hm := HC w2 hC; revert hk; simp only [Og.KS, Og.K0, Og.Is, List.getD_cons_zero, List.getD_cons_succ, List.getD_nil, List.contains_cons, List.contains_nil, Nat.reduceAdd, Nat.reduceBEq, Bool.or_false, Bool.false_or, Bool.or_true, Bool.true_or, Bool.false_eq_true, false_implies, true_implies, true_and, and_true, forall_const]; intros; go_simp; rfl))
        refine walk_weaken (K' := Og.KS 9 (Og.Is (.bool false)) Og.K0) _ _ _ 0 (fun b vs w h => ⟨h.1, trivial⟩) ?_
        refine Og.step_pure (fun _ => Below.refl _ _) ?_; apply Exists.intro; refine And.intro ?_ ?_; focus (intro vs w2 hC hk; have hm := HC w2 hC; revert hk; simp only [Og.KS, Og.K0, Og.Is, List.getD_cons_zero, List.getD_cons_succ, List.getD_nil, List.contains_cons, List.contains_nil, Nat.reduceAdd, Nat.reduceBEq, Bool.or_false, Bool.false_or, Bool.or_true, Bool.true_or, Bool.false_eq_true, false_implies, true_implies, true_and, and_true, forall_const]; intros; go_simp; rfl)
        refine walk_weaken (K' := Og.KS 10 (Og.Is (.bool false)) Og.K0) _ _ _ 0 (fun b vs w h => ⟨h.1, trivial⟩) ?_
        iterate 15 (refine Og.step_pure (fun _ => Below.refl _ _) ?_; apply Exists.intro; refine And.intro ?_ ?_; focus (intro vs w2 hC hk; have hm := HC w2 hC; revert hk; simp only [Og.KS, Og.K0, Og.Is, List.getD_cons_zero, List.getD_cons_succ, List.getD_nil, List.contains_cons, List.contains_nil, Nat.reduceAdd, Nat.reduceBEq, Bool.or_false, Bool.false_or, Bool.or_true, Bool.true_or, Bool.false_eq_true, false_implies, true_implies, true_and, and_true, forall_const]; intros; go_simp; rfl))
        intro vs w2 hC hk
        have hm := HC w2 hC
        simp only [Og.KS, Og.K0, Og.Is, List.getD_cons_zero, List.getD_cons_succ, List.getD_nil, List.contains_cons, List.contains_nil, Nat.reduceAdd, Nat.reduceBEq, Bool.or_false, Bool.false_or, Bool.or_true, Bool.true_or, Bool.false_eq_true, false_implies, true_implies, true_and, and_true, forall_const] at hk
        have ha0 := HA0.out
        subst ha0
        clear HA0 es e5 f5 e1 f1 e4 f4
        simp only [hk, Act.put, List.setIfInBounds_toArray, List.set_cons_zero, List.set_cons_succ]
        clear hk
        have B2 := Lib.hid (bthen B1.out hC)
        have TB2 := Lib.hid (htb.out.below B2.out)
        have hz0 := hm.1
        have GK := Lib.hid (heap_keep B2.out hg.out)
        have tc := TB2.out.some hu128
        have tf := TB2.out.frozen u
        clear hC hm HC
        go_wp2_with fail
        go_roundw
        case rel =>
          refine ⟨(k + 1) + 1, by omega, by go_num, Lib.hid (TB2.out.set (take_mem HXX.out)), Lib.hid ?_, Lib.hid ((hbw.out.trans (B2.out.mono hbw.out.size)).setCell (by simp) _)⟩
          rw [Below.heap_setCell _ _ _ _ (by simp)]
          exact GK.out
        case measure => simp [intOf]; omega
    · have hkn : k = n1 := by omega
      subst hkn
      have TT := Lib.hid (show TB wr (w.heap.size + 1) ns by have := htb.out; rwa [N1.out, List.take_length] at this)
      have GG := Lib.hid hg.out
      have BB := Lib.hid hbw.out
      obtain ⟨wo, rfl⟩ : ∃ wo : World, wo = wr := ⟨_, rfl⟩
      have hg1 : wo.cell? ⟨w.heap.size, 1, none⟩ = some (.slice A2 n2 c2) := by simp [World.cell?, GG.out]
      obtain ⟨n1, rfl⟩ : ∃ n1 : Nat, n1 = k := ⟨_, rfl⟩
      clear htb hg hbw hk hlt
      go_wp2_with fail
      clear hg1
      go_loopw [61] (fun i wr => ∃ k : Nat, k ≤ n2 ∧ i = .int .i64 k ∧ Hid (Below wo.heap.size wo wr)) (fun i _ => n2 - (intOf i).toNat)
      case atStart => exact ⟨0, Nat.zero_le _, rfl, Lib.hid (Below.refl _ _)⟩
      case round =>
        obtain ⟨k, hk, rfl, hbo⟩ := hrel
        by_cases hlt : k < n2
        · obtain ⟨x, hx⟩ : ∃ r, ls[k]? = some r := ⟨_, List.getElem?_eq_getElem (by rw [← N2.out]; exact hlt)⟩
          obtain ⟨hmf, hmt, hne, hrc, hrd⟩ := HG.out.lr k x hx
          have hrf := HG.out.at hmf
          have hrt := HG.out.at hmt
          obtain ⟨f, hf⟩ := nat_of hrf
          obtain ⟨t, ht⟩ := nat_of hrt
          have hxx : ls[k]? = some ⟨(f : Int), (t : Int), x.c, x.d⟩ := by rw [← hf, ← ht]; exact hx
          rw [hf] at hmf hrf hne
          rw [ht] at hmt hrt hne
          have hf128 : f < 128 := by have := rng_of hrf; omega
          have hfi : (f : Int) < 128 := by omega
          have hf0 : (0 : Int) ≤ (f : Int) := by omega
          clear hf
          have ht128 : t < 128 := by have := rng_of hrt; omega
          have hti : (t : Int) < 128 := by omega
          have ht0 : (0 : Int) ≤ (t : Int) := by omega
          clear ht hx
          obtain ⟨b, o, rfl, hat⟩ := (R2.out.below (bthen' BB.out BB.out.size hbo.out)) k _ hxx
          have HXX := Lib.hid hxx
          have hwk : IntKind.i64.wrap (k : Int) = k := wrapk (by omega)
          have hwk1 : IntKind.i64.wrap ((k : Int) + 1) = (k : Int) + 1 := by rw [IntKind.wrap_i64]; omega
          have hk0 : (0 : Int) ≤ (k : Int) := by omega
          have hkn : (k : Int) < (n2 : Int) := by omega
          clear hxx
          rcases k with _ | k
          · simp only [Nat.zero_mul, Nat.add_zero] at hat
            clear hwk hk0 hwk1
            have HX : Hid (AtL wr b (o) [.int .i64 (f : Int), .int .i64 (t : Int), .int .i64 x.c, .int .i64 x.d]) := Lib.hid hat
            have G0c : Hid (wr.cell? ⟨w.heap.size, 1, none⟩ = some (.slice (some ⟨b, o, none⟩) n2 c2)) := Lib.hid (bcell hbo.out (by simp [World.cell?, GG.out]))
            have TBr := Lib.hid (TT.out.below hbo.out)
            clear hat
            go_wp2_with (first | (refine wpList_loadL rfl 45 (.tmp 64) rfl b (o) (.agg #[.int .i64 (f : Int), .int .i64 (t : Int), .int .i64 x.c, .int .i64 x.d]) rfl (run_loadL isAgg43 size43 rfl HX.out) ?_) | (refine wpList_storeN rfl 45 (.tmp 7) (.tmp 65) rfl rfl wr.heap.size #[.int .i64 (f : Int), .int .i64 (t : Int), .int .i64 x.c, .int .i64 x.d] rfl rfl 45 _ (heap_at rfl) info43s rfl (by simp [Value.oneCell']) ?_; intro w1 hz hb ho hs; have HZ := Lib.hid (AtL_heap (cs := [.int .i64 (f : Int), .int .i64 (t : Int), .int .i64 x.c, .int .i64 x.d]) hz); have b1 := below_storeA hb; have B1 := Lib.hid b1; clear hz hb ho hs b1))
            obtain ⟨gz, hgz⟩ : ∃ gz, gz = wr.heap.size := ⟨_, rfl⟩
            rw [← hgz] at HZ
            rw [← hgz]
            clear hgz
            have HC : ∀ w2, Below w1.heap.size w1 w2 → w2.cell? ⟨gz, 0, none⟩ = some (.int .i64 (f : Int)) ∧ w2.cell? ⟨gz, 1, none⟩ = some (.int .i64 (t : Int)) ∧ w2.cell? ⟨gz, 2, none⟩ = some (.int .i64 x.c) ∧ w2.cell? ⟨gz, 3, none⟩ = some (.int .i64 x.d) ∧ w2.cell? ⟨w.heap.size, 1, none⟩ = some (.slice (some ⟨b, o, none⟩) n2 c2) ∧ w2.cell? ⟨w.heap.size + 1, f, none⟩ = some (.bool true) ∧ w2.cell? ⟨w.heap.size + 1, t, none⟩ = some (.bool true) := fun w2 h => ⟨bcell h (by have := HZ.out 0 _ rfl; simpa using this), bcell h (by have := HZ.out 1 _ rfl; simpa using this), bcell h (by have := HZ.out 2 _ rfl; simpa using this), bcell h (by have := HZ.out 3 _ rfl; simpa using this), bcell h (bcell B1.out G0c.out), bcell h (bcell B1.out (TBr.out.cell hf128 hmf)), bcell h (bcell B1.out (TBr.out.cell ht128 hmt))⟩
            have H34f : Hid (∀ w, Calls Tryd.prog 57 #[.int .i64 (f : Int)] w fun e w' => e = .returned (.bool true) ∧ Below w.heap.size w w') := Lib.hid (fun w => by have := in_ok (f : Int) w; rwa [hrf] at this)
            have H34t : Hid (∀ w, Calls Tryd.prog 57 #[.int .i64 (t : Int)] w fun e w' => e = .returned (.bool true) ∧ Below w.heap.size w w') := Lib.hid (fun w => by have := in_ok (t : Int) w; rwa [hrt] at this)
            have H36 : Hid (∀ w, Calls Tryd.prog 68 #[.int .i64 x.c] w fun e w' => e = .returned (.bool true) ∧ Below w.heap.size w w') := Lib.hid (fun w => by have := cost_ok x.c w; rwa [hrc] at this)
            have H37 : Hid (∀ w, Calls Tryd.prog 69 #[.int .i64 x.d] w fun e w' => e = .returned (.bool true) ∧ Below w.heap.size w w') := Lib.hid (fun w => by have := delay_ok x.d w; rwa [hrd] at this)
            have hft : ((f : Int) == (t : Int)) = false := by simpa using hne
            refine abs_act fun a0 ha0 => ?_
            have es : a0.tmps.size = 172 := by rw [ha0]; rfl
            have e7 : a0.tmps.getD 7 undef = .pointer (some ⟨gz, 0, none⟩) := by rw [ha0]; rfl
            have f7 : ∀ h : 7 < a0.tmps.size, a0.tmps[7] = .pointer (some ⟨gz, 0, none⟩) := by subst ha0; exact fun _ => rfl
            have e1 : a0.tmps.getD 1 undef = .pointer (some ⟨w.heap.size, 0, none⟩) := by rw [ha0]; rfl
            have f1 : ∀ h : 1 < a0.tmps.size, a0.tmps[1] = .pointer (some ⟨w.heap.size, 0, none⟩) := by subst ha0; exact fun _ => rfl
            have e3 : a0.tmps.getD 3 undef = .pointer (some ⟨w.heap.size + 1, 0, none⟩) := by rw [ha0]; rfl
            have f3 : ∀ h : 3 < a0.tmps.size, a0.tmps[3] = .pointer (some ⟨w.heap.size + 1, 0, none⟩) := by subst ha0; exact fun _ => rfl
            have e6 : a0.tmps.getD 6 undef = .int .i64 (0) := by rw [ha0]; rfl
            have f6 : ∀ h : 6 < a0.tmps.size, a0.tmps[6] = .int .i64 (0) := by subst ha0; exact fun _ => rfl
            have HA0 := Lib.hid ha0
            clear ha0
            refine Og.walk_lit [[],[0],[1,0],[2,1,0],[3,2,1,0],[4,3,2,1,0],[5,4,3,2,1,0],[6,4,5,3,2,1,0],[7,4,6,5,3,2,1,0],[4,8,3,2,1,0,7,6,5],[9,7,4,8,3,2,1,0,6,5],[10,9,7,4,8,3,2,1,0,6,5],[11,10,9,7,4,8,3,2,1,0,6,5],[10,9,7,4,8,3,2,1,0,6,5],[13,10,9,7,4,8,3,2,1,0,6,5],[12,14,10,11,9,7,4,8,3,2,1,0,6,5,13],[10,15,9,7,4,8,3,2,1,0,6,5,12,14,11,13],[16,10,15,9,7,4,8,3,2,1,0,6,5,12,14,11,13],[17,16,10,15,9,7,4,8,3,2,1,0,6,5,12,14,11,13],[18,17,16,10,15,9,7,4,8,3,2,1,0,6,5,12,14,11,13],[19,17,18,16,10,15,9,7,4,8,3,2,1,0,6,5,12,14,11,13],[20,17,19,18,16,10,15,9,7,4,8,3,2,1,0,6,5,12,14,11,13],[21,17,20,19,18,16,10,15,9,7,4,8,3,2,1,0,6,5,12,14,11,13],[17,22,16,10,15,9,7,4,8,3,2,1,0,6,5,12,14,11,13,21,20,19,18],[23,17,22,16,10,15,9,7,4,8,3,2,1,0,6,5,12,14,11,13,21,20,19,18],[24,23,17,22,16,10,15,9,7,4,8,3,2,1,0,6,5,12,14,11,13,21,20,19,18],[25,24,23,17,22,16,10,15,9,7,4,8,3,2,1,0,6,5,12,14,11,13,21,20,19,18],[26,24,25,23,17,22,16,10,15,9,7,4,8,3,2,1,0,6,5,12,14,11,13,21,20,19,18],[27,24,26,25,23,17,22,16,10,15,9,7,4,8,3,2,1,0,6,5,12,14,11,13,21,20,19,18],[28,24,27,26,25,23,17,22,16,10,15,9,7,4,8,3,2,1,0,6,5,12,14,11,13,21,20,19,18],[24,29,23,17,22,16,10,15,9,7,4,8,3,2,1,0,6,5,12,14,11,13,21,20,19,18,28,27,26,25],[30,24,29,23,17,22,16,10,15,9,7,4,8,3,2,1,0,6,5,12,14,11,13,21,20,19,18,28,27,26,25],[31,30,24,29,23,17,22,16,10,15,9,7,4,8,3,2,1,0,6,5,12,14,11,13,21,20,19,18,28,27,26,25],[32,31,30,24,29,23,17,22,16,10,15,9,7,4,8,3,2,1,0,6,5,12,14,11,13,21,20,19,18,28,27,26,25],[33,31,32,30,24,29,23,17,22,16,10,15,9,7,4,8,3,2,1,0,6,5,12,14,11,13,21,20,19,18,28,27,26,25],[34,31,33,32,30,24,29,23,17,22,16,10,15,9,7,4,8,3,2,1,0,6,5,12,14,11,13,21,20,19,18,28,27,26,25],[31,35,30,24,29,23,17,22,16,10,15,9,7,4,8,3,2,1,0,6,5,12,14,11,13,21,20,19,18,28,27,26,25,34,33,32],[36,34,31,35,30,24,29,23,17,22,16,10,15,9,7,4,8,3,2,1,0,6,5,12,14,11,13,21,20,19,18,28,27,26,25,33,32],[37,36,34,31,35,30,24,29,23,17,22,16,10,15,9,7,4,8,3,2,1,0,6,5,12,14,11,13,21,20,19,18,28,27,26,25,33,32],[38,37,36,34,31,35,30,24,29,23,17,22,16,10,15,9,7,4,8,3,2,1,0,6,5,12,14,11,13,21,20,19,18,28,27,26,25,33,32],[39,37,38,36,34,31,35,30,24,29,23,17,22,16,10,15,9,7,4,8,3,2,1,0,6,5,12,14,11,13,21,20,19,18,28,27,26,25,33,32],[40,37,39,38,36,34,31,35,30,24,29,23,17,22,16,10,15,9,7,4,8,3,2,1,0,6,5,12,14,11,13,21,20,19,18,28,27,26,25,33,32],[37,41,36,34,31,35,30,24,29,23,17,22,16,10,15,9,7,4,8,3,2,1,0,6,5,12,14,11,13,21,20,19,18,28,27,26,25,33,32,40,39,38],[42,40,37,41,36,34,31,35,30,24,29,23,17,22,16,10,15,9,7,4,8,3,2,1,0,6,5,12,14,11,13,21,20,19,18,28,27,26,25,33,32,39,38],[43,42,40,37,41,36,34,31,35,30,24,29,23,17,22,16,10,15,9,7,4,8,3,2,1,0,6,5,12,14,11,13,21,20,19,18,28,27,26,25,33,32,39,38],[44,43,42,40,37,41,36,34,31,35,30,24,29,23,17,22,16,10,15,9,7,4,8,3,2,1,0,6,5,12,14,11,13,21,20,19,18,28,27,26,25,33,32,39,38],[45,43,44,42,40,37,41,36,34,31,35,30,24,29,23,17,22,16,10,15,9,7,4,8,3,2,1,0,6,5,12,14,11,13,21,20,19,18,28,27,26,25,33,32,39,38],[46,45,43,44,42,40,37,41,36,34,31,35,30,24,29,23,17,22,16,10,15,9,7,4,8,3,2,1,0,6,5,12,14,11,13,21,20,19,18,28,27,26,25,33,32,39,38],[47,46,45,43,44,42,40,37,41,36,34,31,35,30,24,29,23,17,22,16,10,15,9,7,4,8,3,2,1,0,6,5,12,14,11,13,21,20,19,18,28,27,26,25,33,32,39,38],[46,45,43,44,42,40,37,41,36,34,31,35,30,24,29,23,17,22,16,10,15,9,7,4,8,3,2,1,0,6,5,12,14,11,13,21,20,19,18,28,27,26,25,33,32,39,38],[49,46,45,43,44,42,40,37,41,36,34,31,35,30,24,29,23,17,22,16,10,15,9,7,4,8,3,2,1,0,6,5,12,14,11,13,21,20,19,18,28,27,26,25,33,32,39,38],[48,50,46,47,45,43,44,42,40,37,41,36,34,31,35,30,24,29,23,17,22,16,10,15,9,7,4,8,3,2,1,0,6,5,12,14,11,13,21,20,19,18,28,27,26,25,33,32,39,38,49],[51,46,48,50,47,45,43,44,42,40,37,41,36,34,31,35,30,24,29,23,17,22,16,10,15,9,7,4,8,3,2,1,0,6,5,12,14,11,13,21,20,19,18,28,27,26,25,33,32,39,38,49],[46,45,43,44,42,40,37,41,36,34,31,35,30,24,29,23,17,22,16,10,15,9,7,4,8,3,2,1,0,6,5,12,14,11,13,21,20,19,18,28,27,26,25,33,32,39,38],[52,53,46,51,48,50,47,45,43,44,42,40,37,41,36,34,31,35,30,24,29,23,17,22,16,10,15,9,7,4,8,3,2,1,0,6,5,12,14,11,13,21,20,19,18,28,27,26,25,33,32,39,38,49],[54,46,52,53,51,48,50,47,45,43,44,42,40,37,41,36,34,31,35,30,24,29,23,17,22,16,10,15,9,7,4,8,3,2,1,0,6,5,12,14,11,13,21,20,19,18,28,27,26,25,33,32,39,38,49],[46,55,43,45,44,42,40,37,41,36,34,31,35,30,24,29,23,17,22,16,10,15,9,7,4,8,3,2,1,0,6,5,12,14,11,13,21,20,19,18,28,27,26,25,33,32,39,38,54,52,53,51,48,50,47,49],[43,56,42,40,37,41,36,34,31,35,30,24,29,23,17,22,16,10,15,9,7,4,8,3,2,1,0,6,5,12,14,11,13,21,20,19,18,28,27,26,25,33,32,39,38,46,55,45,44,54,52,53,51,48,50,47,49]] (fun w2 => Below w1.heap.size w1 w2) (fun w1 w2 => Below w1.heap.size w1 w2) (by kernel_rfl) (by kernel_rfl) (bdrew) ?_
            iterate 2 (refine Og.step_pure (fun _ => Below.refl _ _) ?_; apply Exists.intro; refine And.intro ?_ ?_; focus (intro vs w2 hC hk; have hm := HC w2 hC; revert hk; simp only [Og.KS, Og.K0, Og.Is, List.getD_cons_zero, List.getD_cons_succ, List.getD_nil, List.contains_cons, List.contains_nil, Nat.reduceAdd, Nat.reduceBEq, Bool.or_false, Bool.false_or, Bool.or_true, Bool.true_or, Bool.false_eq_true, false_implies, true_implies, true_and, and_true, forall_const]; intros; go_simp; rfl))
            refine Og.step_one ?_; apply Exists.intro; refine And.intro ?_ ?_; focus (intro vs w2 hC hk; have hm := HC w2 hC; revert hk; simp only [Og.KS, Og.K0, Og.Is, List.getD_cons_zero, List.getD_cons_succ, List.getD_nil, List.contains_cons, List.contains_nil, Nat.reduceAdd, Nat.reduceBEq, Bool.or_false, Bool.false_or, Bool.or_true, Bool.true_or, Bool.false_eq_true, false_implies, true_implies, true_and, and_true, forall_const]; intros; go_simp; with_reducible refine (H34f.out _).mono ?_; rintro e w3 ⟨rfl, hb⟩; exact Og.RetV.mk ⟨bthen hC hb, hb, rfl⟩)
            refine Og.step_pure (fun _ => Below.refl _ _) ?_; apply Exists.intro; refine And.intro ?_ ?_; focus (intro vs w2 hC hk; have hm := HC w2 hC; revert hk; simp only [Og.KS, Og.K0, Og.Is, List.getD_cons_zero, List.getD_cons_succ, List.getD_nil, List.contains_cons, List.contains_nil, Nat.reduceAdd, Nat.reduceBEq, Bool.or_false, Bool.false_or, Bool.or_true, Bool.true_or, Bool.false_eq_true, false_implies, true_implies, true_and, and_true, forall_const]; intros; go_simp; rfl)
            refine walk_weaken (K' := Og.KS 3 (Og.Is (.bool false)) Og.K0) _ _ _ 0 (fun b vs w h => ⟨h.1, trivial⟩) ?_
            refine Og.step_pure (fun _ => Below.refl _ _) ?_; apply Exists.intro; refine And.intro ?_ ?_; focus (intro vs w2 hC hk; have hm := HC w2 hC; revert hk; simp only [Og.KS, Og.K0, Og.Is, List.getD_cons_zero, List.getD_cons_succ, List.getD_nil, List.contains_cons, List.contains_nil, Nat.reduceAdd, Nat.reduceBEq, Bool.or_false, Bool.false_or, Bool.or_true, Bool.true_or, Bool.false_eq_true, false_implies, true_implies, true_and, and_true, forall_const]; intros; go_simp; rfl)
            refine walk_weaken (K' := Og.KS 4 (Og.Is (.bool false)) Og.K0) _ _ _ 0 (fun b vs w h => ⟨h.1, trivial⟩) ?_
            iterate 2 (refine Og.step_pure (fun _ => Below.refl _ _) ?_; apply Exists.intro; refine And.intro ?_ ?_; focus (intro vs w2 hC hk; have hm := HC w2 hC; revert hk; simp only [Og.KS, Og.K0, Og.Is, List.getD_cons_zero, List.getD_cons_succ, List.getD_nil, List.contains_cons, List.contains_nil, Nat.reduceAdd, Nat.reduceBEq, Bool.or_false, Bool.false_or, Bool.or_true, Bool.true_or, Bool.false_eq_true, false_implies, true_implies, true_and, and_true, forall_const]; intros; go_simp; rfl))
            refine Og.step_one ?_; apply Exists.intro; refine And.intro ?_ ?_; focus (intro vs w2 hC hk; have hm := HC w2 hC; revert hk; simp only [Og.KS, Og.K0, Og.Is, List.getD_cons_zero, List.getD_cons_succ, List.getD_nil, List.contains_cons, List.contains_nil, Nat.reduceAdd, Nat.reduceBEq, Bool.or_false, Bool.false_or, Bool.or_true, Bool.true_or, Bool.false_eq_true, false_implies, true_implies, true_and, and_true, forall_const]; intros; go_simp; with_reducible refine (H34t.out _).mono ?_; rintro e w3 ⟨rfl, hb⟩; exact Og.RetV.mk ⟨bthen hC hb, hb, rfl⟩)
            iterate 2 (refine Og.step_pure (fun _ => Below.refl _ _) ?_; apply Exists.intro; refine And.intro ?_ ?_; focus (intro vs w2 hC hk; have hm := HC w2 hC; revert hk; simp only [Og.KS, Og.K0, Og.Is, List.getD_cons_zero, List.getD_cons_succ, List.getD_nil, List.contains_cons, List.contains_nil, Nat.reduceAdd, Nat.reduceBEq, Bool.or_false, Bool.false_or, Bool.or_true, Bool.true_or, Bool.false_eq_true, false_implies, true_implies, true_and, and_true, forall_const]; intros; go_simp; rfl))
            refine walk_weaken (K' := Og.KS 9 (Og.Is (.bool false)) Og.K0) _ _ _ 0 (fun b vs w h => ⟨h.1, trivial⟩) ?_
            refine Og.step_pure (fun _ => Below.refl _ _) ?_; apply Exists.intro; refine And.intro ?_ ?_; focus (intro vs w2 hC hk; have hm := HC w2 hC; revert hk; simp only [Og.KS, Og.K0, Og.Is, List.getD_cons_zero, List.getD_cons_succ, List.getD_nil, List.contains_cons, List.contains_nil, Nat.reduceAdd, Nat.reduceBEq, Bool.or_false, Bool.false_or, Bool.or_true, Bool.true_or, Bool.false_eq_true, false_implies, true_implies, true_and, and_true, forall_const]; intros; go_simp; rfl)
            refine walk_weaken (K' := Og.KS 10 (Og.Is (.bool false)) Og.K0) _ _ _ 0 (fun b vs w h => ⟨h.1, trivial⟩) ?_
            iterate 6 (refine Og.step_pure (fun _ => Below.refl _ _) ?_; apply Exists.intro; refine And.intro ?_ ?_; focus (intro vs w2 hC hk; have hm := HC w2 hC; revert hk; simp only [Og.KS, Og.K0, Og.Is, List.getD_cons_zero, List.getD_cons_succ, List.getD_nil, List.contains_cons, List.contains_nil, Nat.reduceAdd, Nat.reduceBEq, Bool.or_false, Bool.false_or, Bool.or_true, Bool.true_or, Bool.false_eq_true, false_implies, true_implies, true_and, and_true, forall_const]; intros; go_simp; rfl))
            refine walk_weaken (K' := Og.KS 16 (Og.Is (.bool false)) Og.K0) _ _ _ 0 (fun b vs w h => ⟨h.1, trivial⟩) ?_
            refine Og.step_pure (fun _ => Below.refl _ _) ?_; apply Exists.intro; refine And.intro ?_ ?_; focus (intro vs w2 hC hk; have hm := HC w2 hC; revert hk; simp only [Og.KS, Og.K0, Og.Is, List.getD_cons_zero, List.getD_cons_succ, List.getD_nil, List.contains_cons, List.contains_nil, Nat.reduceAdd, Nat.reduceBEq, Bool.or_false, Bool.false_or, Bool.or_true, Bool.true_or, Bool.false_eq_true, false_implies, true_implies, true_and, and_true, forall_const]; intros; go_simp; rfl)
            refine walk_weaken (K' := Og.KS 17 (Og.Is (.bool false)) Og.K0) _ _ _ 0 (fun b vs w h => ⟨h.1, trivial⟩) ?_
            iterate 6 (refine Og.step_pure (fun _ => Below.refl _ _) ?_; apply Exists.intro; refine And.intro ?_ ?_; focus (intro vs w2 hC hk; have hm := HC w2 hC; revert hk; simp only [Og.KS, Og.K0, Og.Is, List.getD_cons_zero, List.getD_cons_succ, List.getD_nil, List.contains_cons, List.contains_nil, Nat.reduceAdd, Nat.reduceBEq, Bool.or_false, Bool.false_or, Bool.or_true, Bool.true_or, Bool.false_eq_true, false_implies, true_implies, true_and, and_true, forall_const]; intros; go_simp; rfl))
            refine walk_weaken (K' := Og.KS 23 (Og.Is (.bool false)) Og.K0) _ _ _ 0 (fun b vs w h => ⟨h.1, trivial⟩) ?_
            refine Og.step_pure (fun _ => Below.refl _ _) ?_; apply Exists.intro; refine And.intro ?_ ?_; focus (intro vs w2 hC hk; have hm := HC w2 hC; revert hk; simp only [Og.KS, Og.K0, Og.Is, List.getD_cons_zero, List.getD_cons_succ, List.getD_nil, List.contains_cons, List.contains_nil, Nat.reduceAdd, Nat.reduceBEq, Bool.or_false, Bool.false_or, Bool.or_true, Bool.true_or, Bool.false_eq_true, false_implies, true_implies, true_and, and_true, forall_const]; intros; go_simp; rfl)
            refine walk_weaken (K' := Og.KS 24 (Og.Is (.bool false)) Og.K0) _ _ _ 0 (fun b vs w h => ⟨h.1, trivial⟩) ?_
            iterate 6 (refine Og.step_pure (fun _ => Below.refl _ _) ?_; apply Exists.intro; refine And.intro ?_ ?_; focus (intro vs w2 hC hk; have hm := HC w2 hC; revert hk; simp only [Og.KS, Og.K0, Og.Is, List.getD_cons_zero, List.getD_cons_succ, List.getD_nil, List.contains_cons, List.contains_nil, Nat.reduceAdd, Nat.reduceBEq, Bool.or_false, Bool.false_or, Bool.or_true, Bool.true_or, Bool.false_eq_true, false_implies, true_implies, true_and, and_true, forall_const]; intros; go_simp; rfl))
            refine walk_weaken (K' := Og.KS 30 (Og.Is (.bool false)) Og.K0) _ _ _ 0 (fun b vs w h => ⟨h.1, trivial⟩) ?_
            refine Og.step_pure (fun _ => Below.refl _ _) ?_; apply Exists.intro; refine And.intro ?_ ?_; focus (intro vs w2 hC hk; have hm := HC w2 hC; revert hk; simp only [Og.KS, Og.K0, Og.Is, List.getD_cons_zero, List.getD_cons_succ, List.getD_nil, List.contains_cons, List.contains_nil, Nat.reduceAdd, Nat.reduceBEq, Bool.or_false, Bool.false_or, Bool.or_true, Bool.true_or, Bool.false_eq_true, false_implies, true_implies, true_and, and_true, forall_const]; intros; go_simp; rfl)
            refine walk_weaken (K' := Og.KS 31 (Og.Is (.bool false)) Og.K0) _ _ _ 0 (fun b vs w h => ⟨h.1, trivial⟩) ?_
            iterate 2 (refine Og.step_pure (fun _ => Below.refl _ _) ?_; apply Exists.intro; refine And.intro ?_ ?_; focus (intro vs w2 hC hk; have hm := HC w2 hC; revert hk; simp only [Og.KS, Og.K0, Og.Is, List.getD_cons_zero, List.getD_cons_succ, List.getD_nil, List.contains_cons, List.contains_nil, Nat.reduceAdd, Nat.reduceBEq, Bool.or_false, Bool.false_or, Bool.or_true, Bool.true_or, Bool.false_eq_true, false_implies, true_implies, true_and, and_true, forall_const]; intros; go_simp; rfl))
            refine Og.step_one ?_; apply Exists.intro; refine And.intro ?_ ?_; focus (intro vs w2 hC hk; have hm := HC w2 hC; revert hk; simp only [Og.KS, Og.K0, Og.Is, List.getD_cons_zero, List.getD_cons_succ, List.getD_nil, List.contains_cons, List.contains_nil, Nat.reduceAdd, Nat.reduceBEq, Bool.or_false, Bool.false_or, Bool.or_true, Bool.true_or, Bool.false_eq_true, false_implies, true_implies, true_and, and_true, forall_const]; intros; go_simp; with_reducible refine (H36.out _).mono ?_; rintro e w3 ⟨rfl, hb⟩; exact Og.RetV.mk ⟨bthen hC hb, hb, rfl⟩)
            iterate 2 (refine Og.step_pure (fun _ => Below.refl _ _) ?_; apply Exists.intro; refine And.intro ?_ ?_; focus (intro vs w2 hC hk; have hm := HC w2 hC; revert hk; simp only [Og.KS, Og.K0, Og.Is, List.getD_cons_zero, List.getD_cons_succ, List.getD_nil, List.contains_cons, List.contains_nil, Nat.reduceAdd, Nat.reduceBEq, Bool.or_false, Bool.false_or, Bool.or_true, Bool.true_or, Bool.false_eq_true, false_implies, true_implies, true_and, and_true, forall_const]; intros; go_simp; rfl))
            refine walk_weaken (K' := Og.KS 36 (Og.Is (.bool false)) Og.K0) _ _ _ 0 (fun b vs w h => ⟨h.1, trivial⟩) ?_
            refine Og.step_pure (fun _ => Below.refl _ _) ?_; apply Exists.intro; refine And.intro ?_ ?_; focus (intro vs w2 hC hk; have hm := HC w2 hC; revert hk; simp only [Og.KS, Og.K0, Og.Is, List.getD_cons_zero, List.getD_cons_succ, List.getD_nil, List.contains_cons, List.contains_nil, Nat.reduceAdd, Nat.reduceBEq, Bool.or_false, Bool.false_or, Bool.or_true, Bool.true_or, Bool.false_eq_true, false_implies, true_implies, true_and, and_true, forall_const]; intros; go_simp; rfl)
            refine walk_weaken (K' := Og.KS 37 (Og.Is (.bool false)) Og.K0) _ _ _ 0 (fun b vs w h => ⟨h.1, trivial⟩) ?_
            iterate 2 (refine Og.step_pure (fun _ => Below.refl _ _) ?_; apply Exists.intro; refine And.intro ?_ ?_; focus (intro vs w2 hC hk; have hm := HC w2 hC; revert hk; simp only [Og.KS, Og.K0, Og.Is, List.getD_cons_zero, List.getD_cons_succ, List.getD_nil, List.contains_cons, List.contains_nil, Nat.reduceAdd, Nat.reduceBEq, Bool.or_false, Bool.false_or, Bool.or_true, Bool.true_or, Bool.false_eq_true, false_implies, true_implies, true_and, and_true, forall_const]; intros; go_simp; rfl))
            refine Og.step_one ?_; apply Exists.intro; refine And.intro ?_ ?_; focus (intro vs w2 hC hk; have hm := HC w2 hC; revert hk; simp only [Og.KS, Og.K0, Og.Is, List.getD_cons_zero, List.getD_cons_succ, List.getD_nil, List.contains_cons, List.contains_nil, Nat.reduceAdd, Nat.reduceBEq, Bool.or_false, Bool.false_or, Bool.or_true, Bool.true_or, Bool.false_eq_true, false_implies, true_implies, true_and, and_true, forall_const]; intros; go_simp; with_reducible refine (H37.out _).mono ?_; rintro e w3 ⟨rfl, hb⟩; exact Og.RetV.mk ⟨bthen hC hb, hb, rfl⟩)
            iterate 2 (refine Og.step_pure (fun _ => Below.refl _ _) ?_; apply Exists.intro; refine And.intro ?_ ?_; focus (intro vs w2 hC hk; have hm := HC w2 hC; revert hk; simp only [Og.KS, Og.K0, Og.Is, List.getD_cons_zero, List.getD_cons_succ, List.getD_nil, List.contains_cons, List.contains_nil, Nat.reduceAdd, Nat.reduceBEq, Bool.or_false, Bool.false_or, Bool.or_true, Bool.true_or, Bool.false_eq_true, false_implies, true_implies, true_and, and_true, forall_const]; intros; go_simp; rfl))
            refine walk_weaken (K' := Og.KS 42 (Og.Is (.bool false)) Og.K0) _ _ _ 0 (fun b vs w h => ⟨h.1, trivial⟩) ?_
            refine Og.step_pure (fun _ => Below.refl _ _) ?_; apply Exists.intro; refine And.intro ?_ ?_; focus (intro vs w2 hC hk; have hm := HC w2 hC; revert hk; simp only [Og.KS, Og.K0, Og.Is, List.getD_cons_zero, List.getD_cons_succ, List.getD_nil, List.contains_cons, List.contains_nil, Nat.reduceAdd, Nat.reduceBEq, Bool.or_false, Bool.false_or, Bool.or_true, Bool.true_or, Bool.false_eq_true, false_implies, true_implies, true_and, and_true, forall_const]; intros; go_simp; rfl)
            refine walk_weaken (K' := Og.KS 43 (Og.Is (.bool false)) Og.K0) _ _ _ 0 (fun b vs w h => ⟨h.1, trivial⟩) ?_
            iterate 14 (refine Og.step_pure (fun _ => Below.refl _ _) ?_; apply Exists.intro; refine And.intro ?_ ?_; focus (intro vs w2 hC hk; have hm := HC w2 hC; revert hk; simp only [Og.KS, Og.K0, Og.Is, List.getD_cons_zero, List.getD_cons_succ, List.getD_nil, List.contains_cons, List.contains_nil, Nat.reduceAdd, Nat.reduceBEq, Bool.or_false, Bool.false_or, Bool.or_true, Bool.true_or, Bool.false_eq_true, false_implies, true_implies, true_and, and_true, forall_const]; intros; go_simp; rfl))
            intro vs w2 hC hk
            have hm := HC w2 hC
            simp only [Og.KS, Og.K0, Og.Is, List.getD_cons_zero, List.getD_cons_succ, List.getD_nil, List.contains_cons, List.contains_nil, Nat.reduceAdd, Nat.reduceBEq, Bool.or_false, Bool.false_or, Bool.or_true, Bool.true_or, Bool.false_eq_true, false_implies, true_implies, true_and, and_true, forall_const] at hk
            have ha0 := HA0.out
            subst ha0
            clear HA0 es e7 f7 e1 f1 e3 f3 e6 f6
            simp only [hk, Act.put, List.setIfInBounds_toArray, List.set_cons_zero, List.set_cons_succ]
            clear hk
            have B2 := Lib.hid (hbo.out.trans ((bthen B1.out hC).mono hbo.out.size))
            clear hC hm HC
            go_wp2_with fail
            go_roundw
            case rel => exact ⟨0 + 1, by omega, by go_num, B2⟩
            case measure => simp [intOf]; omega
          · obtain ⟨y, hy⟩ : ∃ r, ls[k]? = some r := ⟨_, List.getElem?_eq_getElem (by rw [← N2.out]; omega)⟩
            obtain ⟨b', o', hA', hat'⟩ := (R2.out.below (bthen' BB.out BB.out.size hbo.out)) k y hy
            injection hA' with hA'
            injection hA' with hb' ho' _
            subst hb' ho'
            clear hwk hk0 hkn hwk1
            have hwk : IntKind.i64.wrap (k : Int) = k := wrapk (by omega)
            have hwk1 : IntKind.i64.wrap ((k : Int) + 1) = (k : Int) + 1 := by rw [IntKind.wrap_i64]; omega
            have hwk2 : IntKind.i64.wrap ((k : Int) + 1 + 1) = (k : Int) + 1 + 1 := by rw [IntKind.wrap_i64]; omega
            have hk0 : (0 : Int) ≤ (k : Int) := by omega
            have hk1 : (0 : Int) ≤ (k : Int) + 1 := by omega
            have hkn : (k : Int) < (n2 : Int) := by omega
            have hkn1 : (k : Int) + 1 < (n2 : Int) := by omega
            have HX : Hid (AtL wr b (o + (k + 1) * 4) [.int .i64 (f : Int), .int .i64 (t : Int), .int .i64 x.c, .int .i64 x.d]) := Lib.hid hat
            have hpy : cmpL y (⟨(f : Int), (t : Int), x.c, x.d⟩ : Lk) < 0 := HG.out.la k _ _ hy HXX.out
            have ty1 : decide (0 ≤ cmpL y (⟨(f : Int), (t : Int), x.c, x.d⟩ : Lk)) = false := decide_eq_false (by omega)
            have HPC : Hid (wr.cell? ⟨b, o + k * 4, none⟩ = some (.int .i64 y.f) ∧ wr.cell? ⟨b, o + k * 4 + 1, none⟩ = some (.int .i64 y.t) ∧ wr.cell? ⟨b, o + k * 4 + 2, none⟩ = some (.int .i64 y.c) ∧ wr.cell? ⟨b, o + k * 4 + 3, none⟩ = some (.int .i64 y.d)) := Lib.hid ⟨by have := hat' 0 _ rfl; simpa using this, by have := hat' 1 _ rfl; simpa using this, by have := hat' 2 _ rfl; simpa using this, by have := hat' 3 _ rfl; simpa using this⟩
            have HCM : Hid (∀ w, Calls Tryd.prog 70 #[.agg #[.int .i64 y.f, .int .i64 y.t, .int .i64 y.c, .int .i64 y.d], .agg #[.int .i64 (f : Int), .int .i64 (t : Int), .int .i64 x.c, .int .i64 x.d]] w fun e w' => e = .returned (.int .i64 (cmpL y (⟨(f : Int), (t : Int), x.c, x.d⟩ : Lk))) ∧ Below w.heap.size w w') := Lib.hid (fun w => cmpL_ok y (⟨(f : Int), (t : Int), x.c, x.d⟩ : Lk) w)
            clear hy hat'
            have G0c : Hid (wr.cell? ⟨w.heap.size, 1, none⟩ = some (.slice (some ⟨b, o, none⟩) n2 c2)) := Lib.hid (bcell hbo.out (by simp [World.cell?, GG.out]))
            have TBr := Lib.hid (TT.out.below hbo.out)
            clear hat
            go_wp2_with (first | (refine wpList_loadL rfl 45 (.tmp 64) rfl b (o + (k + 1) * 4) (.agg #[.int .i64 (f : Int), .int .i64 (t : Int), .int .i64 x.c, .int .i64 x.d]) rfl (run_loadL isAgg43 size43 rfl HX.out) ?_) | (refine wpList_storeN rfl 45 (.tmp 7) (.tmp 65) rfl rfl wr.heap.size #[.int .i64 (f : Int), .int .i64 (t : Int), .int .i64 x.c, .int .i64 x.d] rfl rfl 45 _ (heap_at rfl) info43s rfl (by simp [Value.oneCell']) ?_; intro w1 hz hb ho hs; have HZ := Lib.hid (AtL_heap (cs := [.int .i64 (f : Int), .int .i64 (t : Int), .int .i64 x.c, .int .i64 x.d]) hz); have b1 := below_storeA hb; have B1 := Lib.hid b1; clear hz hb ho hs b1))
            obtain ⟨gz, hgz⟩ : ∃ gz, gz = wr.heap.size := ⟨_, rfl⟩
            rw [← hgz] at HZ
            rw [← hgz]
            clear hgz
            have HC : ∀ w2, Below w1.heap.size w1 w2 → w2.cell? ⟨gz, 0, none⟩ = some (.int .i64 (f : Int)) ∧ w2.cell? ⟨gz, 1, none⟩ = some (.int .i64 (t : Int)) ∧ w2.cell? ⟨gz, 2, none⟩ = some (.int .i64 x.c) ∧ w2.cell? ⟨gz, 3, none⟩ = some (.int .i64 x.d) ∧ w2.cell? ⟨w.heap.size, 1, none⟩ = some (.slice (some ⟨b, o, none⟩) n2 c2) ∧ w2.cell? ⟨w.heap.size + 1, f, none⟩ = some (.bool true) ∧ w2.cell? ⟨w.heap.size + 1, t, none⟩ = some (.bool true) ∧ w2.cell? ⟨b, o + k * 4, none⟩ = some (.int .i64 y.f) ∧ w2.cell? ⟨b, o + k * 4 + 1, none⟩ = some (.int .i64 y.t) ∧ w2.cell? ⟨b, o + k * 4 + 2, none⟩ = some (.int .i64 y.c) ∧ w2.cell? ⟨b, o + k * 4 + 3, none⟩ = some (.int .i64 y.d) := fun w2 h => ⟨bcell h (by have := HZ.out 0 _ rfl; simpa using this), bcell h (by have := HZ.out 1 _ rfl; simpa using this), bcell h (by have := HZ.out 2 _ rfl; simpa using this), bcell h (by have := HZ.out 3 _ rfl; simpa using this), bcell h (bcell B1.out G0c.out), bcell h (bcell B1.out (TBr.out.cell hf128 hmf)), bcell h (bcell B1.out (TBr.out.cell ht128 hmt)), bcell h (bcell B1.out HPC.out.1), bcell h (bcell B1.out HPC.out.2.1), bcell h (bcell B1.out HPC.out.2.2.1), bcell h (bcell B1.out HPC.out.2.2.2)⟩
            have H34f : Hid (∀ w, Calls Tryd.prog 57 #[.int .i64 (f : Int)] w fun e w' => e = .returned (.bool true) ∧ Below w.heap.size w w') := Lib.hid (fun w => by have := in_ok (f : Int) w; rwa [hrf] at this)
            have H34t : Hid (∀ w, Calls Tryd.prog 57 #[.int .i64 (t : Int)] w fun e w' => e = .returned (.bool true) ∧ Below w.heap.size w w') := Lib.hid (fun w => by have := in_ok (t : Int) w; rwa [hrt] at this)
            have H36 : Hid (∀ w, Calls Tryd.prog 68 #[.int .i64 x.c] w fun e w' => e = .returned (.bool true) ∧ Below w.heap.size w w') := Lib.hid (fun w => by have := cost_ok x.c w; rwa [hrc] at this)
            have H37 : Hid (∀ w, Calls Tryd.prog 69 #[.int .i64 x.d] w fun e w' => e = .returned (.bool true) ∧ Below w.heap.size w w') := Lib.hid (fun w => by have := delay_ok x.d w; rwa [hrd] at this)
            have hft : ((f : Int) == (t : Int)) = false := by simpa using hne
            refine abs_act fun a0 ha0 => ?_
            have es : a0.tmps.size = 172 := by rw [ha0]; rfl
            have e7 : a0.tmps.getD 7 undef = .pointer (some ⟨gz, 0, none⟩) := by rw [ha0]; rfl
            have f7 : ∀ h : 7 < a0.tmps.size, a0.tmps[7] = .pointer (some ⟨gz, 0, none⟩) := by subst ha0; exact fun _ => rfl
            have e1 : a0.tmps.getD 1 undef = .pointer (some ⟨w.heap.size, 0, none⟩) := by rw [ha0]; rfl
            have f1 : ∀ h : 1 < a0.tmps.size, a0.tmps[1] = .pointer (some ⟨w.heap.size, 0, none⟩) := by subst ha0; exact fun _ => rfl
            have e3 : a0.tmps.getD 3 undef = .pointer (some ⟨w.heap.size + 1, 0, none⟩) := by rw [ha0]; rfl
            have f3 : ∀ h : 3 < a0.tmps.size, a0.tmps[3] = .pointer (some ⟨w.heap.size + 1, 0, none⟩) := by subst ha0; exact fun _ => rfl
            have e6 : a0.tmps.getD 6 undef = .int .i64 ((k : Int) + 1) := by rw [ha0]; rfl
            have f6 : ∀ h : 6 < a0.tmps.size, a0.tmps[6] = .int .i64 ((k : Int) + 1) := by subst ha0; exact fun _ => rfl
            have HA0 := Lib.hid ha0
            clear ha0
            refine Og.walk_lit [[],[0],[1,0],[2,1,0],[3,2,1,0],[4,3,2,1,0],[5,4,3,2,1,0],[6,4,5,3,2,1,0],[7,4,6,5,3,2,1,0],[4,8,3,2,1,0,7,6,5],[9,7,4,8,3,2,1,0,6,5],[10,9,7,4,8,3,2,1,0,6,5],[11,10,9,7,4,8,3,2,1,0,6,5],[10,9,7,4,8,3,2,1,0,6,5],[13,10,9,7,4,8,3,2,1,0,6,5],[12,14,10,11,9,7,4,8,3,2,1,0,6,5,13],[10,15,9,7,4,8,3,2,1,0,6,5,12,14,11,13],[16,10,15,9,7,4,8,3,2,1,0,6,5,12,14,11,13],[17,16,10,15,9,7,4,8,3,2,1,0,6,5,12,14,11,13],[18,17,16,10,15,9,7,4,8,3,2,1,0,6,5,12,14,11,13],[19,17,18,16,10,15,9,7,4,8,3,2,1,0,6,5,12,14,11,13],[20,17,19,18,16,10,15,9,7,4,8,3,2,1,0,6,5,12,14,11,13],[21,17,20,19,18,16,10,15,9,7,4,8,3,2,1,0,6,5,12,14,11,13],[17,22,16,10,15,9,7,4,8,3,2,1,0,6,5,12,14,11,13,21,20,19,18],[23,17,22,16,10,15,9,7,4,8,3,2,1,0,6,5,12,14,11,13,21,20,19,18],[24,23,17,22,16,10,15,9,7,4,8,3,2,1,0,6,5,12,14,11,13,21,20,19,18],[25,24,23,17,22,16,10,15,9,7,4,8,3,2,1,0,6,5,12,14,11,13,21,20,19,18],[26,24,25,23,17,22,16,10,15,9,7,4,8,3,2,1,0,6,5,12,14,11,13,21,20,19,18],[27,24,26,25,23,17,22,16,10,15,9,7,4,8,3,2,1,0,6,5,12,14,11,13,21,20,19,18],[28,24,27,26,25,23,17,22,16,10,15,9,7,4,8,3,2,1,0,6,5,12,14,11,13,21,20,19,18],[24,29,23,17,22,16,10,15,9,7,4,8,3,2,1,0,6,5,12,14,11,13,21,20,19,18,28,27,26,25],[30,24,29,23,17,22,16,10,15,9,7,4,8,3,2,1,0,6,5,12,14,11,13,21,20,19,18,28,27,26,25],[31,30,24,29,23,17,22,16,10,15,9,7,4,8,3,2,1,0,6,5,12,14,11,13,21,20,19,18,28,27,26,25],[32,31,30,24,29,23,17,22,16,10,15,9,7,4,8,3,2,1,0,6,5,12,14,11,13,21,20,19,18,28,27,26,25],[33,31,32,30,24,29,23,17,22,16,10,15,9,7,4,8,3,2,1,0,6,5,12,14,11,13,21,20,19,18,28,27,26,25],[34,31,33,32,30,24,29,23,17,22,16,10,15,9,7,4,8,3,2,1,0,6,5,12,14,11,13,21,20,19,18,28,27,26,25],[31,35,30,24,29,23,17,22,16,10,15,9,7,4,8,3,2,1,0,6,5,12,14,11,13,21,20,19,18,28,27,26,25,34,33,32],[36,34,31,35,30,24,29,23,17,22,16,10,15,9,7,4,8,3,2,1,0,6,5,12,14,11,13,21,20,19,18,28,27,26,25,33,32],[37,36,34,31,35,30,24,29,23,17,22,16,10,15,9,7,4,8,3,2,1,0,6,5,12,14,11,13,21,20,19,18,28,27,26,25,33,32],[38,37,36,34,31,35,30,24,29,23,17,22,16,10,15,9,7,4,8,3,2,1,0,6,5,12,14,11,13,21,20,19,18,28,27,26,25,33,32],[39,37,38,36,34,31,35,30,24,29,23,17,22,16,10,15,9,7,4,8,3,2,1,0,6,5,12,14,11,13,21,20,19,18,28,27,26,25,33,32],[40,37,39,38,36,34,31,35,30,24,29,23,17,22,16,10,15,9,7,4,8,3,2,1,0,6,5,12,14,11,13,21,20,19,18,28,27,26,25,33,32],[37,41,36,34,31,35,30,24,29,23,17,22,16,10,15,9,7,4,8,3,2,1,0,6,5,12,14,11,13,21,20,19,18,28,27,26,25,33,32,40,39,38],[42,40,37,41,36,34,31,35,30,24,29,23,17,22,16,10,15,9,7,4,8,3,2,1,0,6,5,12,14,11,13,21,20,19,18,28,27,26,25,33,32,39,38],[43,42,40,37,41,36,34,31,35,30,24,29,23,17,22,16,10,15,9,7,4,8,3,2,1,0,6,5,12,14,11,13,21,20,19,18,28,27,26,25,33,32,39,38],[44,43,42,40,37,41,36,34,31,35,30,24,29,23,17,22,16,10,15,9,7,4,8,3,2,1,0,6,5,12,14,11,13,21,20,19,18,28,27,26,25,33,32,39,38],[45,43,44,42,40,37,41,36,34,31,35,30,24,29,23,17,22,16,10,15,9,7,4,8,3,2,1,0,6,5,12,14,11,13,21,20,19,18,28,27,26,25,33,32,39,38],[46,45,43,44,42,40,37,41,36,34,31,35,30,24,29,23,17,22,16,10,15,9,7,4,8,3,2,1,0,6,5,12,14,11,13,21,20,19,18,28,27,26,25,33,32,39,38],[47,46,45,43,44,42,40,37,41,36,34,31,35,30,24,29,23,17,22,16,10,15,9,7,4,8,3,2,1,0,6,5,12,14,11,13,21,20,19,18,28,27,26,25,33,32,39,38],[46,45,43,44,42,40,37,41,36,34,31,35,30,24,29,23,17,22,16,10,15,9,7,4,8,3,2,1,0,6,5,12,14,11,13,21,20,19,18,28,27,26,25,33,32,39,38],[49,46,45,43,44,42,40,37,41,36,34,31,35,30,24,29,23,17,22,16,10,15,9,7,4,8,3,2,1,0,6,5,12,14,11,13,21,20,19,18,28,27,26,25,33,32,39,38],[48,50,46,47,45,43,44,42,40,37,41,36,34,31,35,30,24,29,23,17,22,16,10,15,9,7,4,8,3,2,1,0,6,5,12,14,11,13,21,20,19,18,28,27,26,25,33,32,39,38,49],[51,46,48,50,47,45,43,44,42,40,37,41,36,34,31,35,30,24,29,23,17,22,16,10,15,9,7,4,8,3,2,1,0,6,5,12,14,11,13,21,20,19,18,28,27,26,25,33,32,39,38,49],[46,45,43,44,42,40,37,41,36,34,31,35,30,24,29,23,17,22,16,10,15,9,7,4,8,3,2,1,0,6,5,12,14,11,13,21,20,19,18,28,27,26,25,33,32,39,38],[52,53,46,51,48,50,47,45,43,44,42,40,37,41,36,34,31,35,30,24,29,23,17,22,16,10,15,9,7,4,8,3,2,1,0,6,5,12,14,11,13,21,20,19,18,28,27,26,25,33,32,39,38,49],[54,46,52,53,51,48,50,47,45,43,44,42,40,37,41,36,34,31,35,30,24,29,23,17,22,16,10,15,9,7,4,8,3,2,1,0,6,5,12,14,11,13,21,20,19,18,28,27,26,25,33,32,39,38,49],[46,55,43,45,44,42,40,37,41,36,34,31,35,30,24,29,23,17,22,16,10,15,9,7,4,8,3,2,1,0,6,5,12,14,11,13,21,20,19,18,28,27,26,25,33,32,39,38,54,52,53,51,48,50,47,49],[43,56,42,40,37,41,36,34,31,35,30,24,29,23,17,22,16,10,15,9,7,4,8,3,2,1,0,6,5,12,14,11,13,21,20,19,18,28,27,26,25,33,32,39,38,46,55,45,44,54,52,53,51,48,50,47,49]] (fun w2 => Below w1.heap.size w1 w2) (fun w1 w2 => Below w1.heap.size w1 w2) (by kernel_rfl) (by kernel_rfl) (bdrew) ?_
            iterate 2 (refine Og.step_pure (fun _ => Below.refl _ _) ?_; apply Exists.intro; refine And.intro ?_ ?_; focus (intro vs w2 hC hk; have hm := HC w2 hC; revert hk; simp only [Og.KS, Og.K0, Og.Is, List.getD_cons_zero, List.getD_cons_succ, List.getD_nil, List.contains_cons, List.contains_nil, Nat.reduceAdd, Nat.reduceBEq, Bool.or_false, Bool.false_or, Bool.or_true, Bool.true_or, Bool.false_eq_true, false_implies, true_implies, true_and, and_true, forall_const]; intros; go_simp; rfl))
            refine Og.step_one ?_; apply Exists.intro; refine And.intro ?_ ?_; focus (intro vs w2 hC hk; have hm := HC w2 hC; revert hk; simp only [Og.KS, Og.K0, Og.Is, List.getD_cons_zero, List.getD_cons_succ, List.getD_nil, List.contains_cons, List.contains_nil, Nat.reduceAdd, Nat.reduceBEq, Bool.or_false, Bool.false_or, Bool.or_true, Bool.true_or, Bool.false_eq_true, false_implies, true_implies, true_and, and_true, forall_const]; intros; go_simp; with_reducible refine (H34f.out _).mono ?_; rintro e w3 ⟨rfl, hb⟩; exact Og.RetV.mk ⟨bthen hC hb, hb, rfl⟩)
            refine Og.step_pure (fun _ => Below.refl _ _) ?_; apply Exists.intro; refine And.intro ?_ ?_; focus (intro vs w2 hC hk; have hm := HC w2 hC; revert hk; simp only [Og.KS, Og.K0, Og.Is, List.getD_cons_zero, List.getD_cons_succ, List.getD_nil, List.contains_cons, List.contains_nil, Nat.reduceAdd, Nat.reduceBEq, Bool.or_false, Bool.false_or, Bool.or_true, Bool.true_or, Bool.false_eq_true, false_implies, true_implies, true_and, and_true, forall_const]; intros; go_simp; rfl)
            refine walk_weaken (K' := Og.KS 3 (Og.Is (.bool false)) Og.K0) _ _ _ 0 (fun b vs w h => ⟨h.1, trivial⟩) ?_
            refine Og.step_pure (fun _ => Below.refl _ _) ?_; apply Exists.intro; refine And.intro ?_ ?_; focus (intro vs w2 hC hk; have hm := HC w2 hC; revert hk; simp only [Og.KS, Og.K0, Og.Is, List.getD_cons_zero, List.getD_cons_succ, List.getD_nil, List.contains_cons, List.contains_nil, Nat.reduceAdd, Nat.reduceBEq, Bool.or_false, Bool.false_or, Bool.or_true, Bool.true_or, Bool.false_eq_true, false_implies, true_implies, true_and, and_true, forall_const]; intros; go_simp; rfl)
            refine walk_weaken (K' := Og.KS 4 (Og.Is (.bool false)) Og.K0) _ _ _ 0 (fun b vs w h => ⟨h.1, trivial⟩) ?_
            iterate 2 (refine Og.step_pure (fun _ => Below.refl _ _) ?_; apply Exists.intro; refine And.intro ?_ ?_; focus (intro vs w2 hC hk; have hm := HC w2 hC; revert hk; simp only [Og.KS, Og.K0, Og.Is, List.getD_cons_zero, List.getD_cons_succ, List.getD_nil, List.contains_cons, List.contains_nil, Nat.reduceAdd, Nat.reduceBEq, Bool.or_false, Bool.false_or, Bool.or_true, Bool.true_or, Bool.false_eq_true, false_implies, true_implies, true_and, and_true, forall_const]; intros; go_simp; rfl))
            refine Og.step_one ?_; apply Exists.intro; refine And.intro ?_ ?_; focus (intro vs w2 hC hk; have hm := HC w2 hC; revert hk; simp only [Og.KS, Og.K0, Og.Is, List.getD_cons_zero, List.getD_cons_succ, List.getD_nil, List.contains_cons, List.contains_nil, Nat.reduceAdd, Nat.reduceBEq, Bool.or_false, Bool.false_or, Bool.or_true, Bool.true_or, Bool.false_eq_true, false_implies, true_implies, true_and, and_true, forall_const]; intros; go_simp; with_reducible refine (H34t.out _).mono ?_; rintro e w3 ⟨rfl, hb⟩; exact Og.RetV.mk ⟨bthen hC hb, hb, rfl⟩)
            iterate 2 (refine Og.step_pure (fun _ => Below.refl _ _) ?_; apply Exists.intro; refine And.intro ?_ ?_; focus (intro vs w2 hC hk; have hm := HC w2 hC; revert hk; simp only [Og.KS, Og.K0, Og.Is, List.getD_cons_zero, List.getD_cons_succ, List.getD_nil, List.contains_cons, List.contains_nil, Nat.reduceAdd, Nat.reduceBEq, Bool.or_false, Bool.false_or, Bool.or_true, Bool.true_or, Bool.false_eq_true, false_implies, true_implies, true_and, and_true, forall_const]; intros; go_simp; rfl))
            refine walk_weaken (K' := Og.KS 9 (Og.Is (.bool false)) Og.K0) _ _ _ 0 (fun b vs w h => ⟨h.1, trivial⟩) ?_
            refine Og.step_pure (fun _ => Below.refl _ _) ?_; apply Exists.intro; refine And.intro ?_ ?_; focus (intro vs w2 hC hk; have hm := HC w2 hC; revert hk; simp only [Og.KS, Og.K0, Og.Is, List.getD_cons_zero, List.getD_cons_succ, List.getD_nil, List.contains_cons, List.contains_nil, Nat.reduceAdd, Nat.reduceBEq, Bool.or_false, Bool.false_or, Bool.or_true, Bool.true_or, Bool.false_eq_true, false_implies, true_implies, true_and, and_true, forall_const]; intros; go_simp; rfl)
            refine walk_weaken (K' := Og.KS 10 (Og.Is (.bool false)) Og.K0) _ _ _ 0 (fun b vs w h => ⟨h.1, trivial⟩) ?_
            iterate 6 (refine Og.step_pure (fun _ => Below.refl _ _) ?_; apply Exists.intro; refine And.intro ?_ ?_; focus (intro vs w2 hC hk; have hm := HC w2 hC; revert hk; simp only [Og.KS, Og.K0, Og.Is, List.getD_cons_zero, List.getD_cons_succ, List.getD_nil, List.contains_cons, List.contains_nil, Nat.reduceAdd, Nat.reduceBEq, Bool.or_false, Bool.false_or, Bool.or_true, Bool.true_or, Bool.false_eq_true, false_implies, true_implies, true_and, and_true, forall_const]; intros; go_simp; rfl))
            refine walk_weaken (K' := Og.KS 16 (Og.Is (.bool false)) Og.K0) _ _ _ 0 (fun b vs w h => ⟨h.1, trivial⟩) ?_
            refine Og.step_pure (fun _ => Below.refl _ _) ?_; apply Exists.intro; refine And.intro ?_ ?_; focus (intro vs w2 hC hk; have hm := HC w2 hC; revert hk; simp only [Og.KS, Og.K0, Og.Is, List.getD_cons_zero, List.getD_cons_succ, List.getD_nil, List.contains_cons, List.contains_nil, Nat.reduceAdd, Nat.reduceBEq, Bool.or_false, Bool.false_or, Bool.or_true, Bool.true_or, Bool.false_eq_true, false_implies, true_implies, true_and, and_true, forall_const]; intros; go_simp; rfl)
            refine walk_weaken (K' := Og.KS 17 (Og.Is (.bool false)) Og.K0) _ _ _ 0 (fun b vs w h => ⟨h.1, trivial⟩) ?_
            iterate 6 (refine Og.step_pure (fun _ => Below.refl _ _) ?_; apply Exists.intro; refine And.intro ?_ ?_; focus (intro vs w2 hC hk; have hm := HC w2 hC; revert hk; simp only [Og.KS, Og.K0, Og.Is, List.getD_cons_zero, List.getD_cons_succ, List.getD_nil, List.contains_cons, List.contains_nil, Nat.reduceAdd, Nat.reduceBEq, Bool.or_false, Bool.false_or, Bool.or_true, Bool.true_or, Bool.false_eq_true, false_implies, true_implies, true_and, and_true, forall_const]; intros; go_simp; rfl))
            refine walk_weaken (K' := Og.KS 23 (Og.Is (.bool false)) Og.K0) _ _ _ 0 (fun b vs w h => ⟨h.1, trivial⟩) ?_
            refine Og.step_pure (fun _ => Below.refl _ _) ?_; apply Exists.intro; refine And.intro ?_ ?_; focus (intro vs w2 hC hk; have hm := HC w2 hC; revert hk; simp only [Og.KS, Og.K0, Og.Is, List.getD_cons_zero, List.getD_cons_succ, List.getD_nil, List.contains_cons, List.contains_nil, Nat.reduceAdd, Nat.reduceBEq, Bool.or_false, Bool.false_or, Bool.or_true, Bool.true_or, Bool.false_eq_true, false_implies, true_implies, true_and, and_true, forall_const]; intros; go_simp; rfl)
            refine walk_weaken (K' := Og.KS 24 (Og.Is (.bool false)) Og.K0) _ _ _ 0 (fun b vs w h => ⟨h.1, trivial⟩) ?_
            iterate 6 (refine Og.step_pure (fun _ => Below.refl _ _) ?_; apply Exists.intro; refine And.intro ?_ ?_; focus (intro vs w2 hC hk; have hm := HC w2 hC; revert hk; simp only [Og.KS, Og.K0, Og.Is, List.getD_cons_zero, List.getD_cons_succ, List.getD_nil, List.contains_cons, List.contains_nil, Nat.reduceAdd, Nat.reduceBEq, Bool.or_false, Bool.false_or, Bool.or_true, Bool.true_or, Bool.false_eq_true, false_implies, true_implies, true_and, and_true, forall_const]; intros; go_simp; rfl))
            refine walk_weaken (K' := Og.KS 30 (Og.Is (.bool false)) Og.K0) _ _ _ 0 (fun b vs w h => ⟨h.1, trivial⟩) ?_
            refine Og.step_pure (fun _ => Below.refl _ _) ?_; apply Exists.intro; refine And.intro ?_ ?_; focus (intro vs w2 hC hk; have hm := HC w2 hC; revert hk; simp only [Og.KS, Og.K0, Og.Is, List.getD_cons_zero, List.getD_cons_succ, List.getD_nil, List.contains_cons, List.contains_nil, Nat.reduceAdd, Nat.reduceBEq, Bool.or_false, Bool.false_or, Bool.or_true, Bool.true_or, Bool.false_eq_true, false_implies, true_implies, true_and, and_true, forall_const]; intros; go_simp; rfl)
            refine walk_weaken (K' := Og.KS 31 (Og.Is (.bool false)) Og.K0) _ _ _ 0 (fun b vs w h => ⟨h.1, trivial⟩) ?_
            iterate 2 (refine Og.step_pure (fun _ => Below.refl _ _) ?_; apply Exists.intro; refine And.intro ?_ ?_; focus (intro vs w2 hC hk; have hm := HC w2 hC; revert hk; simp only [Og.KS, Og.K0, Og.Is, List.getD_cons_zero, List.getD_cons_succ, List.getD_nil, List.contains_cons, List.contains_nil, Nat.reduceAdd, Nat.reduceBEq, Bool.or_false, Bool.false_or, Bool.or_true, Bool.true_or, Bool.false_eq_true, false_implies, true_implies, true_and, and_true, forall_const]; intros; go_simp; rfl))
            refine Og.step_one ?_; apply Exists.intro; refine And.intro ?_ ?_; focus (intro vs w2 hC hk; have hm := HC w2 hC; revert hk; simp only [Og.KS, Og.K0, Og.Is, List.getD_cons_zero, List.getD_cons_succ, List.getD_nil, List.contains_cons, List.contains_nil, Nat.reduceAdd, Nat.reduceBEq, Bool.or_false, Bool.false_or, Bool.or_true, Bool.true_or, Bool.false_eq_true, false_implies, true_implies, true_and, and_true, forall_const]; intros; go_simp; with_reducible refine (H36.out _).mono ?_; rintro e w3 ⟨rfl, hb⟩; exact Og.RetV.mk ⟨bthen hC hb, hb, rfl⟩)
            iterate 2 (refine Og.step_pure (fun _ => Below.refl _ _) ?_; apply Exists.intro; refine And.intro ?_ ?_; focus (intro vs w2 hC hk; have hm := HC w2 hC; revert hk; simp only [Og.KS, Og.K0, Og.Is, List.getD_cons_zero, List.getD_cons_succ, List.getD_nil, List.contains_cons, List.contains_nil, Nat.reduceAdd, Nat.reduceBEq, Bool.or_false, Bool.false_or, Bool.or_true, Bool.true_or, Bool.false_eq_true, false_implies, true_implies, true_and, and_true, forall_const]; intros; go_simp; rfl))
            refine walk_weaken (K' := Og.KS 36 (Og.Is (.bool false)) Og.K0) _ _ _ 0 (fun b vs w h => ⟨h.1, trivial⟩) ?_
            refine Og.step_pure (fun _ => Below.refl _ _) ?_; apply Exists.intro; refine And.intro ?_ ?_; focus (intro vs w2 hC hk; have hm := HC w2 hC; revert hk; simp only [Og.KS, Og.K0, Og.Is, List.getD_cons_zero, List.getD_cons_succ, List.getD_nil, List.contains_cons, List.contains_nil, Nat.reduceAdd, Nat.reduceBEq, Bool.or_false, Bool.false_or, Bool.or_true, Bool.true_or, Bool.false_eq_true, false_implies, true_implies, true_and, and_true, forall_const]; intros; go_simp; rfl)
            refine walk_weaken (K' := Og.KS 37 (Og.Is (.bool false)) Og.K0) _ _ _ 0 (fun b vs w h => ⟨h.1, trivial⟩) ?_
            iterate 2 (refine Og.step_pure (fun _ => Below.refl _ _) ?_; apply Exists.intro; refine And.intro ?_ ?_; focus (intro vs w2 hC hk; have hm := HC w2 hC; revert hk; simp only [Og.KS, Og.K0, Og.Is, List.getD_cons_zero, List.getD_cons_succ, List.getD_nil, List.contains_cons, List.contains_nil, Nat.reduceAdd, Nat.reduceBEq, Bool.or_false, Bool.false_or, Bool.or_true, Bool.true_or, Bool.false_eq_true, false_implies, true_implies, true_and, and_true, forall_const]; intros; go_simp; rfl))
            refine Og.step_one ?_; apply Exists.intro; refine And.intro ?_ ?_; focus (intro vs w2 hC hk; have hm := HC w2 hC; revert hk; simp only [Og.KS, Og.K0, Og.Is, List.getD_cons_zero, List.getD_cons_succ, List.getD_nil, List.contains_cons, List.contains_nil, Nat.reduceAdd, Nat.reduceBEq, Bool.or_false, Bool.false_or, Bool.or_true, Bool.true_or, Bool.false_eq_true, false_implies, true_implies, true_and, and_true, forall_const]; intros; go_simp; with_reducible refine (H37.out _).mono ?_; rintro e w3 ⟨rfl, hb⟩; exact Og.RetV.mk ⟨bthen hC hb, hb, rfl⟩)
            iterate 2 (refine Og.step_pure (fun _ => Below.refl _ _) ?_; apply Exists.intro; refine And.intro ?_ ?_; focus (intro vs w2 hC hk; have hm := HC w2 hC; revert hk; simp only [Og.KS, Og.K0, Og.Is, List.getD_cons_zero, List.getD_cons_succ, List.getD_nil, List.contains_cons, List.contains_nil, Nat.reduceAdd, Nat.reduceBEq, Bool.or_false, Bool.false_or, Bool.or_true, Bool.true_or, Bool.false_eq_true, false_implies, true_implies, true_and, and_true, forall_const]; intros; go_simp; rfl))
            refine walk_weaken (K' := Og.KS 42 (Og.Is (.bool false)) Og.K0) _ _ _ 0 (fun b vs w h => ⟨h.1, trivial⟩) ?_
            refine Og.step_pure (fun _ => Below.refl _ _) ?_; apply Exists.intro; refine And.intro ?_ ?_; focus (intro vs w2 hC hk; have hm := HC w2 hC; revert hk; simp only [Og.KS, Og.K0, Og.Is, List.getD_cons_zero, List.getD_cons_succ, List.getD_nil, List.contains_cons, List.contains_nil, Nat.reduceAdd, Nat.reduceBEq, Bool.or_false, Bool.false_or, Bool.or_true, Bool.true_or, Bool.false_eq_true, false_implies, true_implies, true_and, and_true, forall_const]; intros; go_simp; rfl)
            refine walk_weaken (K' := Og.KS 43 (Og.Is (.bool false)) Og.K0) _ _ _ 0 (fun b vs w h => ⟨h.1, trivial⟩) ?_
            iterate 10 (refine Og.step_pure (fun _ => Below.refl _ _) ?_; apply Exists.intro; refine And.intro ?_ ?_; focus (intro vs w2 hC hk; have hm := HC w2 hC; revert hk; simp only [Og.KS, Og.K0, Og.Is, List.getD_cons_zero, List.getD_cons_succ, List.getD_nil, List.contains_cons, List.contains_nil, Nat.reduceAdd, Nat.reduceBEq, Bool.or_false, Bool.false_or, Bool.or_true, Bool.true_or, Bool.false_eq_true, false_implies, true_implies, true_and, and_true, forall_const]; intros; go_simp; rfl))
            refine Og.step_one ?_; apply Exists.intro; refine And.intro ?_ ?_; focus (intro vs w2 hC hk; have hm := HC w2 hC; revert hk; simp only [Og.KS, Og.K0, Og.Is, List.getD_cons_zero, List.getD_cons_succ, List.getD_nil, List.contains_cons, List.contains_nil, Nat.reduceAdd, Nat.reduceBEq, Bool.or_false, Bool.false_or, Bool.or_true, Bool.true_or, Bool.false_eq_true, false_implies, true_implies, true_and, and_true, forall_const]; intros; go_simp; with_reducible refine (HCM.out _).mono ?_; rintro e w3 ⟨rfl, hb⟩; exact Og.RetV.mk ⟨bthen hC hb, hb, rfl⟩)
            iterate 3 (refine Og.step_pure (fun _ => Below.refl _ _) ?_; apply Exists.intro; refine And.intro ?_ ?_; focus (intro vs w2 hC hk; have hm := HC w2 hC; revert hk; simp only [Og.KS, Og.K0, Og.Is, List.getD_cons_zero, List.getD_cons_succ, List.getD_nil, List.contains_cons, List.contains_nil, Nat.reduceAdd, Nat.reduceBEq, Bool.or_false, Bool.false_or, Bool.or_true, Bool.true_or, Bool.false_eq_true, false_implies, true_implies, true_and, and_true, forall_const]; intros; go_simp; rfl))
            intro vs w2 hC hk
            have hm := HC w2 hC
            simp only [Og.KS, Og.K0, Og.Is, List.getD_cons_zero, List.getD_cons_succ, List.getD_nil, List.contains_cons, List.contains_nil, Nat.reduceAdd, Nat.reduceBEq, Bool.or_false, Bool.false_or, Bool.or_true, Bool.true_or, Bool.false_eq_true, false_implies, true_implies, true_and, and_true, forall_const] at hk
            have ha0 := HA0.out
            subst ha0
            clear HA0 es e7 f7 e1 f1 e3 f3 e6 f6
            simp only [hk, Act.put, List.setIfInBounds_toArray, List.set_cons_zero, List.set_cons_succ]
            clear hk
            have B2 := Lib.hid (hbo.out.trans ((bthen B1.out hC).mono hbo.out.size))
            clear hC hm HC
            go_wp2_with fail
            go_roundw
            case rel => exact ⟨(k + 1) + 1, by omega, by go_num, B2⟩
            case measure => simp [intOf]; omega
        · have hkn : k = n2 := by omega
          subst hkn
          have hg2 : wr.cell? ⟨w.heap.size, 2, none⟩ = some (.slice A3 n3 c3) := bcell hbo.out (by simp [World.cell?, GG.out])
          obtain ⟨wp, rfl⟩ : ∃ wp : World, wp = wr := ⟨_, rfl⟩
          have BP := Lib.hid hbo.out
          obtain ⟨n2, rfl⟩ : ∃ n2 : Nat, n2 = k := ⟨_, rfl⟩
          clear hbo hk hlt
          go_wp2_with fail
          clear hg2
          go_loopw [128] (fun i wr => ∃ k : Nat, k ≤ n3 ∧ i = .int .i64 k ∧ Hid (Below wo.heap.size wo wr)) (fun i _ => n3 - (intOf i).toNat)
          case atStart => exact ⟨0, Nat.zero_le _, rfl, BP⟩
          case round =>
            clear BP
            obtain ⟨k, hk, rfl, hbo⟩ := hrel
            by_cases hlt : k < n3
            · obtain ⟨x, hx⟩ : ∃ r, ps[k]? = some r := ⟨_, List.getElem?_eq_getElem (by rw [← N3.out]; exact hlt)⟩
              obtain ⟨hmt, hpf, hrd⟩ := HG.out.pr k x hx
              have hrt := HG.out.at hmt
              obtain ⟨t, ht⟩ := nat_of hrt
              have hxx : ps[k]? = some ⟨x.p, (t : Int), x.m⟩ := by rw [← ht]; exact hx
              rw [ht] at hmt hrt
              have ht128 : t < 128 := by have := rng_of hrt; omega
              have hti : (t : Int) < 128 := by omega
              have ht0 : (0 : Int) ≤ (t : Int) := by omega
              clear ht hx
              obtain ⟨b, o, rfl, hat⟩ := (R3.out.below (bthen' BB.out BB.out.size hbo.out)) k _ hxx
              have HXX := Lib.hid hxx
              have hwk : IntKind.i64.wrap (k : Int) = k := wrapk (by omega)
              have hwk1 : IntKind.i64.wrap ((k : Int) + 1) = (k : Int) + 1 := by rw [IntKind.wrap_i64]; omega
              have hk0 : (0 : Int) ≤ (k : Int) := by omega
              have hkn : (k : Int) < (n3 : Int) := by omega
              clear hxx
              rcases k with _ | k
              · simp only [Nat.zero_mul, Nat.add_zero] at hat
                clear hwk hk0 hwk1
                have HX : Hid (AtL wr b (o) [.int .u32 x.p.a, .int .i64 x.p.l, .int .i64 (t : Int), .int .i64 x.m]) := Lib.hid hat
                have G0c : Hid (wr.cell? ⟨w.heap.size, 2, none⟩ = some (.slice (some ⟨b, o, none⟩) n3 c3)) := Lib.hid (bcell hbo.out (by simp [World.cell?, GG.out]))
                have TBr := Lib.hid (TT.out.below hbo.out)
                clear hat
                go_wp2_with (first | (refine wpList_loadL rfl 124 (.tmp 131) rfl b (o) (.agg #[.int .u32 x.p.a, .int .i64 x.p.l, .int .i64 (t : Int), .int .i64 x.m]) rfl (run_loadL isAgg49 size49 rfl HX.out) ?_) | (refine wpList_storeN rfl 124 (.tmp 9) (.tmp 132) rfl rfl wr.heap.size #[.int .u32 x.p.a, .int .i64 x.p.l, .int .i64 (t : Int), .int .i64 x.m] rfl rfl 124 _ (heap_at rfl) info49s rfl (by simp [Value.oneCell']) ?_; intro w1 hz hb ho hs; have HZ := Lib.hid (AtL_heap (cs := [.int .u32 x.p.a, .int .i64 x.p.l, .int .i64 (t : Int), .int .i64 x.m]) hz); have b1 := below_storeA hb; have B1 := Lib.hid b1; clear hz hb ho hs b1))
                obtain ⟨gz, hgz⟩ : ∃ gz, gz = wr.heap.size := ⟨_, rfl⟩
                rw [← hgz] at HZ
                rw [← hgz]
                clear hgz
                have HC : ∀ w2, Below w1.heap.size w1 w2 → w2.cell? ⟨gz, 0, none⟩ = some (.int .u32 x.p.a) ∧ w2.cell? ⟨gz, 1, none⟩ = some (.int .i64 x.p.l) ∧ w2.cell? ⟨gz, 2, none⟩ = some (.int .i64 (t : Int)) ∧ w2.cell? ⟨gz, 3, none⟩ = some (.int .i64 x.m) ∧ w2.cell? ⟨w.heap.size, 2, none⟩ = some (.slice (some ⟨b, o, none⟩) n3 c3) ∧ w2.cell? ⟨w.heap.size + 1, t, none⟩ = some (.bool true) := fun w2 h => ⟨bcell h (by have := HZ.out 0 _ rfl; simpa using this), bcell h (by have := HZ.out 1 _ rfl; simpa using this), bcell h (by have := HZ.out 2 _ rfl; simpa using this), bcell h (by have := HZ.out 3 _ rfl; simpa using this), bcell h (bcell B1.out G0c.out), bcell h (bcell B1.out (TBr.out.cell ht128 hmt))⟩
                have H34t : Hid (∀ w, Calls Tryd.prog 57 #[.int .i64 (t : Int)] w fun e w' => e = .returned (.bool true) ∧ Below w.heap.size w w') := Lib.hid (fun w => by have := in_ok (t : Int) w; rwa [hrt] at this)
                have H39 : Hid (∀ w, Calls Tryd.prog 71 #[.agg #[.int .u32 x.p.a, .int .i64 x.p.l]] w fun e w' => e = .returned (.bool true) ∧ Below w.heap.size w w') := Lib.hid (fun w => pok_ok x.p hpf w)
                have H40 : Hid (∀ w, Calls Tryd.prog 72 #[.int .i64 x.m] w fun e w' => e = .returned (.bool true) ∧ Below w.heap.size w w') := Lib.hid (fun w => by have := metric_ok x.m w; rwa [hrd] at this)
                refine abs_act fun a0 ha0 => ?_
                have es : a0.tmps.size = 172 := by rw [ha0]; rfl
                have e9 : a0.tmps.getD 9 undef = .pointer (some ⟨gz, 0, none⟩) := by rw [ha0]; rfl
                have f9 : ∀ h : 9 < a0.tmps.size, a0.tmps[9] = .pointer (some ⟨gz, 0, none⟩) := by subst ha0; exact fun _ => rfl
                have e1 : a0.tmps.getD 1 undef = .pointer (some ⟨w.heap.size, 0, none⟩) := by rw [ha0]; rfl
                have f1 : ∀ h : 1 < a0.tmps.size, a0.tmps[1] = .pointer (some ⟨w.heap.size, 0, none⟩) := by subst ha0; exact fun _ => rfl
                have e3 : a0.tmps.getD 3 undef = .pointer (some ⟨w.heap.size + 1, 0, none⟩) := by rw [ha0]; rfl
                have f3 : ∀ h : 3 < a0.tmps.size, a0.tmps[3] = .pointer (some ⟨w.heap.size + 1, 0, none⟩) := by subst ha0; exact fun _ => rfl
                have e8 : a0.tmps.getD 8 undef = .int .i64 (0) := by rw [ha0]; rfl
                have f8 : ∀ h : 8 < a0.tmps.size, a0.tmps[8] = .int .i64 (0) := by subst ha0; exact fun _ => rfl
                have HA0 := Lib.hid ha0
                clear ha0
                refine Og.walk_lit [[],[0],[1,0],[2,1,0],[3,2,1,0],[4,3,2,1,0],[5,4,3,2,1,0],[6,4,5,3,2,1,0],[7,4,6,5,3,2,1,0],[8,4,7,6,5,3,2,1,0],[4,9,3,2,1,0,8,7,6,5],[10,4,9,3,2,1,0,8,7,6,5],[11,10,4,9,3,2,1,0,8,7,6,5],[12,11,10,4,9,3,2,1,0,8,7,6,5],[13,11,12,10,4,9,3,2,1,0,8,7,6,5],[14,11,13,12,10,4,9,3,2,1,0,8,7,6,5],[11,15,10,4,9,3,2,1,0,8,7,6,5,14,13,12],[16,14,11,15,10,4,9,3,2,1,0,8,7,6,5,13,12],[17,16,14,11,15,10,4,9,3,2,1,0,8,7,6,5,13,12],[18,17,16,14,11,15,10,4,9,3,2,1,0,8,7,6,5,13,12],[19,17,18,16,14,11,15,10,4,9,3,2,1,0,8,7,6,5,13,12],[20,17,19,18,16,14,11,15,10,4,9,3,2,1,0,8,7,6,5,13,12],[17,21,16,14,11,15,10,4,9,3,2,1,0,8,7,6,5,13,12,20,19,18],[22,20,17,21,16,14,11,15,10,4,9,3,2,1,0,8,7,6,5,13,12,19,18],[23,22,20,17,21,16,14,11,15,10,4,9,3,2,1,0,8,7,6,5,13,12,19,18],[24,23,22,20,17,21,16,14,11,15,10,4,9,3,2,1,0,8,7,6,5,13,12,19,18],[25,23,24,22,20,17,21,16,14,11,15,10,4,9,3,2,1,0,8,7,6,5,13,12,19,18],[26,25,23,24,22,20,17,21,16,14,11,15,10,4,9,3,2,1,0,8,7,6,5,13,12,19,18],[27,26,25,23,24,22,20,17,21,16,14,11,15,10,4,9,3,2,1,0,8,7,6,5,13,12,19,18],[26,25,23,24,22,20,17,21,16,14,11,15,10,4,9,3,2,1,0,8,7,6,5,13,12,19,18],[29,26,25,23,24,22,20,17,21,16,14,11,15,10,4,9,3,2,1,0,8,7,6,5,13,12,19,18],[28,30,26,27,25,23,24,22,20,17,21,16,14,11,15,10,4,9,3,2,1,0,8,7,6,5,13,12,19,18,29],[31,26,28,30,27,25,23,24,22,20,17,21,16,14,11,15,10,4,9,3,2,1,0,8,7,6,5,13,12,19,18,29],[26,25,23,24,22,20,17,21,16,14,11,15,10,4,9,3,2,1,0,8,7,6,5,13,12,19,18],[32,33,26,31,28,30,27,25,23,24,22,20,17,21,16,14,11,15,10,4,9,3,2,1,0,8,7,6,5,13,12,19,18,29],[34,26,32,33,31,28,30,27,25,23,24,22,20,17,21,16,14,11,15,10,4,9,3,2,1,0,8,7,6,5,13,12,19,18,29],[26,35,23,25,24,22,20,17,21,16,14,11,15,10,4,9,3,2,1,0,8,7,6,5,13,12,19,18,34,32,33,31,28,30,27,29],[23,36,22,20,17,21,16,14,11,15,10,4,9,3,2,1,0,8,7,6,5,13,12,19,18,26,35,25,24,34,32,33,31,28,30,27,29]] (fun w2 => Below w1.heap.size w1 w2) (fun w1 w2 => Below w1.heap.size w1 w2) (by kernel_rfl) (by kernel_rfl) (bdrew) ?_
                iterate 2 (refine Og.step_pure (fun _ => Below.refl _ _) ?_; apply Exists.intro; refine And.intro ?_ ?_; focus (intro vs w2 hC hk; have hm := HC w2 hC; revert hk; simp only [Og.KS, Og.K0, Og.Is, List.getD_cons_zero, List.getD_cons_succ, List.getD_nil, List.contains_cons, List.contains_nil, Nat.reduceAdd, Nat.reduceBEq, Bool.or_false, Bool.false_or, Bool.or_true, Bool.true_or, Bool.false_eq_true, false_implies, true_implies, true_and, and_true, forall_const]; intros; go_simp; rfl))
                refine Og.step_one ?_; apply Exists.intro; refine And.intro ?_ ?_; focus (intro vs w2 hC hk; have hm := HC w2 hC; revert hk; simp only [Og.KS, Og.K0, Og.Is, List.getD_cons_zero, List.getD_cons_succ, List.getD_nil, List.contains_cons, List.contains_nil, Nat.reduceAdd, Nat.reduceBEq, Bool.or_false, Bool.false_or, Bool.or_true, Bool.true_or, Bool.false_eq_true, false_implies, true_implies, true_and, and_true, forall_const]; intros; go_simp; with_reducible refine (H34t.out _).mono ?_; rintro e w3 ⟨rfl, hb⟩; exact Og.RetV.mk ⟨bthen hC hb, hb, rfl⟩)
                refine Og.step_pure (fun _ => Below.refl _ _) ?_; apply Exists.intro; refine And.intro ?_ ?_; focus (intro vs w2 hC hk; have hm := HC w2 hC; revert hk; simp only [Og.KS, Og.K0, Og.Is, List.getD_cons_zero, List.getD_cons_succ, List.getD_nil, List.contains_cons, List.contains_nil, Nat.reduceAdd, Nat.reduceBEq, Bool.or_false, Bool.false_or, Bool.or_true, Bool.true_or, Bool.false_eq_true, false_implies, true_implies, true_and, and_true, forall_const]; intros; go_simp; rfl)
                refine walk_weaken (K' := Og.KS 3 (Og.Is (.bool false)) Og.K0) _ _ _ 0 (fun b vs w h => ⟨h.1, trivial⟩) ?_
                refine Og.step_pure (fun _ => Below.refl _ _) ?_; apply Exists.intro; refine And.intro ?_ ?_; focus (intro vs w2 hC hk; have hm := HC w2 hC; revert hk; simp only [Og.KS, Og.K0, Og.Is, List.getD_cons_zero, List.getD_cons_succ, List.getD_nil, List.contains_cons, List.contains_nil, Nat.reduceAdd, Nat.reduceBEq, Bool.or_false, Bool.false_or, Bool.or_true, Bool.true_or, Bool.false_eq_true, false_implies, true_implies, true_and, and_true, forall_const]; intros; go_simp; rfl)
                refine walk_weaken (K' := Og.KS 4 (Og.Is (.bool false)) Og.K0) _ _ _ 0 (fun b vs w h => ⟨h.1, trivial⟩) ?_
                iterate 6 (refine Og.step_pure (fun _ => Below.refl _ _) ?_; apply Exists.intro; refine And.intro ?_ ?_; focus (intro vs w2 hC hk; have hm := HC w2 hC; revert hk; simp only [Og.KS, Og.K0, Og.Is, List.getD_cons_zero, List.getD_cons_succ, List.getD_nil, List.contains_cons, List.contains_nil, Nat.reduceAdd, Nat.reduceBEq, Bool.or_false, Bool.false_or, Bool.or_true, Bool.true_or, Bool.false_eq_true, false_implies, true_implies, true_and, and_true, forall_const]; intros; go_simp; rfl))
                refine walk_weaken (K' := Og.KS 10 (Og.Is (.bool false)) Og.K0) _ _ _ 0 (fun b vs w h => ⟨h.1, trivial⟩) ?_
                refine Og.step_pure (fun _ => Below.refl _ _) ?_; apply Exists.intro; refine And.intro ?_ ?_; focus (intro vs w2 hC hk; have hm := HC w2 hC; revert hk; simp only [Og.KS, Og.K0, Og.Is, List.getD_cons_zero, List.getD_cons_succ, List.getD_nil, List.contains_cons, List.contains_nil, Nat.reduceAdd, Nat.reduceBEq, Bool.or_false, Bool.false_or, Bool.or_true, Bool.true_or, Bool.false_eq_true, false_implies, true_implies, true_and, and_true, forall_const]; intros; go_simp; rfl)
                refine walk_weaken (K' := Og.KS 11 (Og.Is (.bool false)) Og.K0) _ _ _ 0 (fun b vs w h => ⟨h.1, trivial⟩) ?_
                iterate 2 (refine Og.step_pure (fun _ => Below.refl _ _) ?_; apply Exists.intro; refine And.intro ?_ ?_; focus (intro vs w2 hC hk; have hm := HC w2 hC; revert hk; simp only [Og.KS, Og.K0, Og.Is, List.getD_cons_zero, List.getD_cons_succ, List.getD_nil, List.contains_cons, List.contains_nil, Nat.reduceAdd, Nat.reduceBEq, Bool.or_false, Bool.false_or, Bool.or_true, Bool.true_or, Bool.false_eq_true, false_implies, true_implies, true_and, and_true, forall_const]; intros; go_simp; rfl))
                refine Og.step_one ?_; apply Exists.intro; refine And.intro ?_ ?_; focus (intro vs w2 hC hk; have hm := HC w2 hC; revert hk; simp only [Og.KS, Og.K0, Og.Is, List.getD_cons_zero, List.getD_cons_succ, List.getD_nil, List.contains_cons, List.contains_nil, Nat.reduceAdd, Nat.reduceBEq, Bool.or_false, Bool.false_or, Bool.or_true, Bool.true_or, Bool.false_eq_true, false_implies, true_implies, true_and, and_true, forall_const]; intros; go_simp; with_reducible refine (H39.out _).mono ?_; rintro e w3 ⟨rfl, hb⟩; exact Og.RetV.mk ⟨bthen hC hb, hb, rfl⟩)
                iterate 2 (refine Og.step_pure (fun _ => Below.refl _ _) ?_; apply Exists.intro; refine And.intro ?_ ?_; focus (intro vs w2 hC hk; have hm := HC w2 hC; revert hk; simp only [Og.KS, Og.K0, Og.Is, List.getD_cons_zero, List.getD_cons_succ, List.getD_nil, List.contains_cons, List.contains_nil, Nat.reduceAdd, Nat.reduceBEq, Bool.or_false, Bool.false_or, Bool.or_true, Bool.true_or, Bool.false_eq_true, false_implies, true_implies, true_and, and_true, forall_const]; intros; go_simp; rfl))
                refine walk_weaken (K' := Og.KS 16 (Og.Is (.bool false)) Og.K0) _ _ _ 0 (fun b vs w h => ⟨h.1, trivial⟩) ?_
                refine Og.step_pure (fun _ => Below.refl _ _) ?_; apply Exists.intro; refine And.intro ?_ ?_; focus (intro vs w2 hC hk; have hm := HC w2 hC; revert hk; simp only [Og.KS, Og.K0, Og.Is, List.getD_cons_zero, List.getD_cons_succ, List.getD_nil, List.contains_cons, List.contains_nil, Nat.reduceAdd, Nat.reduceBEq, Bool.or_false, Bool.false_or, Bool.or_true, Bool.true_or, Bool.false_eq_true, false_implies, true_implies, true_and, and_true, forall_const]; intros; go_simp; rfl)
                refine walk_weaken (K' := Og.KS 17 (Og.Is (.bool false)) Og.K0) _ _ _ 0 (fun b vs w h => ⟨h.1, trivial⟩) ?_
                iterate 2 (refine Og.step_pure (fun _ => Below.refl _ _) ?_; apply Exists.intro; refine And.intro ?_ ?_; focus (intro vs w2 hC hk; have hm := HC w2 hC; revert hk; simp only [Og.KS, Og.K0, Og.Is, List.getD_cons_zero, List.getD_cons_succ, List.getD_nil, List.contains_cons, List.contains_nil, Nat.reduceAdd, Nat.reduceBEq, Bool.or_false, Bool.false_or, Bool.or_true, Bool.true_or, Bool.false_eq_true, false_implies, true_implies, true_and, and_true, forall_const]; intros; go_simp; rfl))
                refine Og.step_one ?_; apply Exists.intro; refine And.intro ?_ ?_; focus (intro vs w2 hC hk; have hm := HC w2 hC; revert hk; simp only [Og.KS, Og.K0, Og.Is, List.getD_cons_zero, List.getD_cons_succ, List.getD_nil, List.contains_cons, List.contains_nil, Nat.reduceAdd, Nat.reduceBEq, Bool.or_false, Bool.false_or, Bool.or_true, Bool.true_or, Bool.false_eq_true, false_implies, true_implies, true_and, and_true, forall_const]; intros; go_simp; with_reducible refine (H40.out _).mono ?_; rintro e w3 ⟨rfl, hb⟩; exact Og.RetV.mk ⟨bthen hC hb, hb, rfl⟩)
                iterate 2 (refine Og.step_pure (fun _ => Below.refl _ _) ?_; apply Exists.intro; refine And.intro ?_ ?_; focus (intro vs w2 hC hk; have hm := HC w2 hC; revert hk; simp only [Og.KS, Og.K0, Og.Is, List.getD_cons_zero, List.getD_cons_succ, List.getD_nil, List.contains_cons, List.contains_nil, Nat.reduceAdd, Nat.reduceBEq, Bool.or_false, Bool.false_or, Bool.or_true, Bool.true_or, Bool.false_eq_true, false_implies, true_implies, true_and, and_true, forall_const]; intros; go_simp; rfl))
                refine walk_weaken (K' := Og.KS 22 (Og.Is (.bool false)) Og.K0) _ _ _ 0 (fun b vs w h => ⟨h.1, trivial⟩) ?_
                refine Og.step_pure (fun _ => Below.refl _ _) ?_; apply Exists.intro; refine And.intro ?_ ?_; focus (intro vs w2 hC hk; have hm := HC w2 hC; revert hk; simp only [Og.KS, Og.K0, Og.Is, List.getD_cons_zero, List.getD_cons_succ, List.getD_nil, List.contains_cons, List.contains_nil, Nat.reduceAdd, Nat.reduceBEq, Bool.or_false, Bool.false_or, Bool.or_true, Bool.true_or, Bool.false_eq_true, false_implies, true_implies, true_and, and_true, forall_const]; intros; go_simp; rfl)
                refine walk_weaken (K' := Og.KS 23 (Og.Is (.bool false)) Og.K0) _ _ _ 0 (fun b vs w h => ⟨h.1, trivial⟩) ?_
                iterate 14 (refine Og.step_pure (fun _ => Below.refl _ _) ?_; apply Exists.intro; refine And.intro ?_ ?_; focus (intro vs w2 hC hk; have hm := HC w2 hC; revert hk; simp only [Og.KS, Og.K0, Og.Is, List.getD_cons_zero, List.getD_cons_succ, List.getD_nil, List.contains_cons, List.contains_nil, Nat.reduceAdd, Nat.reduceBEq, Bool.or_false, Bool.false_or, Bool.or_true, Bool.true_or, Bool.false_eq_true, false_implies, true_implies, true_and, and_true, forall_const]; intros; go_simp; rfl))
                intro vs w2 hC hk
                have hm := HC w2 hC
                simp only [Og.KS, Og.K0, Og.Is, List.getD_cons_zero, List.getD_cons_succ, List.getD_nil, List.contains_cons, List.contains_nil, Nat.reduceAdd, Nat.reduceBEq, Bool.or_false, Bool.false_or, Bool.or_true, Bool.true_or, Bool.false_eq_true, false_implies, true_implies, true_and, and_true, forall_const] at hk
                have ha0 := HA0.out
                subst ha0
                clear HA0 es e9 f9 e1 f1 e3 f3 e8 f8
                simp only [hk, Act.put, List.setIfInBounds_toArray, List.set_cons_zero, List.set_cons_succ]
                clear hk
                have B2 := Lib.hid (hbo.out.trans ((bthen B1.out hC).mono hbo.out.size))
                clear hC hm HC
                go_wp2_with fail
                go_roundw
                case rel => exact ⟨0 + 1, by omega, by go_num, B2⟩
                case measure => simp [intOf]; omega
              · obtain ⟨y, hy⟩ : ∃ r, ps[k]? = some r := ⟨_, List.getElem?_eq_getElem (by rw [← N3.out]; omega)⟩
                obtain ⟨b', o', hA', hat'⟩ := (R3.out.below (bthen' BB.out BB.out.size hbo.out)) k y hy
                injection hA' with hA'
                injection hA' with hb' ho' _
                subst hb' ho'
                clear hwk hk0 hkn hwk1
                have hwk : IntKind.i64.wrap (k : Int) = k := wrapk (by omega)
                have hwk1 : IntKind.i64.wrap ((k : Int) + 1) = (k : Int) + 1 := by rw [IntKind.wrap_i64]; omega
                have hwk2 : IntKind.i64.wrap ((k : Int) + 1 + 1) = (k : Int) + 1 + 1 := by rw [IntKind.wrap_i64]; omega
                have hk0 : (0 : Int) ≤ (k : Int) := by omega
                have hk1 : (0 : Int) ≤ (k : Int) + 1 := by omega
                have hkn : (k : Int) < (n3 : Int) := by omega
                have hkn1 : (k : Int) + 1 < (n3 : Int) := by omega
                have HX : Hid (AtL wr b (o + (k + 1) * 4) [.int .u32 x.p.a, .int .i64 x.p.l, .int .i64 (t : Int), .int .i64 x.m]) := Lib.hid hat
                have hpy : cmpN y (⟨x.p, (t : Int), x.m⟩ : Pn) < 0 := HG.out.pa k _ _ hy HXX.out
                have ty1 : decide (0 ≤ cmpN y (⟨x.p, (t : Int), x.m⟩ : Pn)) = false := decide_eq_false (by omega)
                have HPC : Hid (wr.cell? ⟨b, o + k * 4, none⟩ = some (.int .u32 y.p.a) ∧ wr.cell? ⟨b, o + k * 4 + 1, none⟩ = some (.int .i64 y.p.l) ∧ wr.cell? ⟨b, o + k * 4 + 2, none⟩ = some (.int .i64 y.n) ∧ wr.cell? ⟨b, o + k * 4 + 3, none⟩ = some (.int .i64 y.m)) := Lib.hid ⟨by have := hat' 0 _ rfl; simpa using this, by have := hat' 1 _ rfl; simpa using this, by have := hat' 2 _ rfl; simpa using this, by have := hat' 3 _ rfl; simpa using this⟩
                have HCM : Hid (∀ w, Calls Tryd.prog 73 #[.agg #[.int .u32 y.p.a, .int .i64 y.p.l, .int .i64 y.n, .int .i64 y.m], .agg #[.int .u32 x.p.a, .int .i64 x.p.l, .int .i64 (t : Int), .int .i64 x.m]] w fun e w' => e = .returned (.int .i64 (cmpN y (⟨x.p, (t : Int), x.m⟩ : Pn))) ∧ Below w.heap.size w w') := Lib.hid (fun w => cmpN_ok y (⟨x.p, (t : Int), x.m⟩ : Pn) w)
                clear hy hat'
                have G0c : Hid (wr.cell? ⟨w.heap.size, 2, none⟩ = some (.slice (some ⟨b, o, none⟩) n3 c3)) := Lib.hid (bcell hbo.out (by simp [World.cell?, GG.out]))
                have TBr := Lib.hid (TT.out.below hbo.out)
                clear hat
                go_wp2_with (first | (refine wpList_loadL rfl 124 (.tmp 131) rfl b (o + (k + 1) * 4) (.agg #[.int .u32 x.p.a, .int .i64 x.p.l, .int .i64 (t : Int), .int .i64 x.m]) rfl (run_loadL isAgg49 size49 rfl HX.out) ?_) | (refine wpList_storeN rfl 124 (.tmp 9) (.tmp 132) rfl rfl wr.heap.size #[.int .u32 x.p.a, .int .i64 x.p.l, .int .i64 (t : Int), .int .i64 x.m] rfl rfl 124 _ (heap_at rfl) info49s rfl (by simp [Value.oneCell']) ?_; intro w1 hz hb ho hs; have HZ := Lib.hid (AtL_heap (cs := [.int .u32 x.p.a, .int .i64 x.p.l, .int .i64 (t : Int), .int .i64 x.m]) hz); have b1 := below_storeA hb; have B1 := Lib.hid b1; clear hz hb ho hs b1))
                obtain ⟨gz, hgz⟩ : ∃ gz, gz = wr.heap.size := ⟨_, rfl⟩
                rw [← hgz] at HZ
                rw [← hgz]
                clear hgz
                have HC : ∀ w2, Below w1.heap.size w1 w2 → w2.cell? ⟨gz, 0, none⟩ = some (.int .u32 x.p.a) ∧ w2.cell? ⟨gz, 1, none⟩ = some (.int .i64 x.p.l) ∧ w2.cell? ⟨gz, 2, none⟩ = some (.int .i64 (t : Int)) ∧ w2.cell? ⟨gz, 3, none⟩ = some (.int .i64 x.m) ∧ w2.cell? ⟨w.heap.size, 2, none⟩ = some (.slice (some ⟨b, o, none⟩) n3 c3) ∧ w2.cell? ⟨w.heap.size + 1, t, none⟩ = some (.bool true) ∧ w2.cell? ⟨b, o + k * 4, none⟩ = some (.int .u32 y.p.a) ∧ w2.cell? ⟨b, o + k * 4 + 1, none⟩ = some (.int .i64 y.p.l) ∧ w2.cell? ⟨b, o + k * 4 + 2, none⟩ = some (.int .i64 y.n) ∧ w2.cell? ⟨b, o + k * 4 + 3, none⟩ = some (.int .i64 y.m) := fun w2 h => ⟨bcell h (by have := HZ.out 0 _ rfl; simpa using this), bcell h (by have := HZ.out 1 _ rfl; simpa using this), bcell h (by have := HZ.out 2 _ rfl; simpa using this), bcell h (by have := HZ.out 3 _ rfl; simpa using this), bcell h (bcell B1.out G0c.out), bcell h (bcell B1.out (TBr.out.cell ht128 hmt)), bcell h (bcell B1.out HPC.out.1), bcell h (bcell B1.out HPC.out.2.1), bcell h (bcell B1.out HPC.out.2.2.1), bcell h (bcell B1.out HPC.out.2.2.2)⟩
                have H34t : Hid (∀ w, Calls Tryd.prog 57 #[.int .i64 (t : Int)] w fun e w' => e = .returned (.bool true) ∧ Below w.heap.size w w') := Lib.hid (fun w => by have := in_ok (t : Int) w; rwa [hrt] at this)
                have H39 : Hid (∀ w, Calls Tryd.prog 71 #[.agg #[.int .u32 x.p.a, .int .i64 x.p.l]] w fun e w' => e = .returned (.bool true) ∧ Below w.heap.size w w') := Lib.hid (fun w => pok_ok x.p hpf w)
                have H40 : Hid (∀ w, Calls Tryd.prog 72 #[.int .i64 x.m] w fun e w' => e = .returned (.bool true) ∧ Below w.heap.size w w') := Lib.hid (fun w => by have := metric_ok x.m w; rwa [hrd] at this)
                refine abs_act fun a0 ha0 => ?_
                have es : a0.tmps.size = 172 := by rw [ha0]; rfl
                have e9 : a0.tmps.getD 9 undef = .pointer (some ⟨gz, 0, none⟩) := by rw [ha0]; rfl
                have f9 : ∀ h : 9 < a0.tmps.size, a0.tmps[9] = .pointer (some ⟨gz, 0, none⟩) := by subst ha0; exact fun _ => rfl
                have e1 : a0.tmps.getD 1 undef = .pointer (some ⟨w.heap.size, 0, none⟩) := by rw [ha0]; rfl
                have f1 : ∀ h : 1 < a0.tmps.size, a0.tmps[1] = .pointer (some ⟨w.heap.size, 0, none⟩) := by subst ha0; exact fun _ => rfl
                have e3 : a0.tmps.getD 3 undef = .pointer (some ⟨w.heap.size + 1, 0, none⟩) := by rw [ha0]; rfl
                have f3 : ∀ h : 3 < a0.tmps.size, a0.tmps[3] = .pointer (some ⟨w.heap.size + 1, 0, none⟩) := by subst ha0; exact fun _ => rfl
                have e8 : a0.tmps.getD 8 undef = .int .i64 ((k : Int) + 1) := by rw [ha0]; rfl
                have f8 : ∀ h : 8 < a0.tmps.size, a0.tmps[8] = .int .i64 ((k : Int) + 1) := by subst ha0; exact fun _ => rfl
                have HA0 := Lib.hid ha0
                clear ha0
                refine Og.walk_lit [[],[0],[1,0],[2,1,0],[3,2,1,0],[4,3,2,1,0],[5,4,3,2,1,0],[6,4,5,3,2,1,0],[7,4,6,5,3,2,1,0],[8,4,7,6,5,3,2,1,0],[4,9,3,2,1,0,8,7,6,5],[10,4,9,3,2,1,0,8,7,6,5],[11,10,4,9,3,2,1,0,8,7,6,5],[12,11,10,4,9,3,2,1,0,8,7,6,5],[13,11,12,10,4,9,3,2,1,0,8,7,6,5],[14,11,13,12,10,4,9,3,2,1,0,8,7,6,5],[11,15,10,4,9,3,2,1,0,8,7,6,5,14,13,12],[16,14,11,15,10,4,9,3,2,1,0,8,7,6,5,13,12],[17,16,14,11,15,10,4,9,3,2,1,0,8,7,6,5,13,12],[18,17,16,14,11,15,10,4,9,3,2,1,0,8,7,6,5,13,12],[19,17,18,16,14,11,15,10,4,9,3,2,1,0,8,7,6,5,13,12],[20,17,19,18,16,14,11,15,10,4,9,3,2,1,0,8,7,6,5,13,12],[17,21,16,14,11,15,10,4,9,3,2,1,0,8,7,6,5,13,12,20,19,18],[22,20,17,21,16,14,11,15,10,4,9,3,2,1,0,8,7,6,5,13,12,19,18],[23,22,20,17,21,16,14,11,15,10,4,9,3,2,1,0,8,7,6,5,13,12,19,18],[24,23,22,20,17,21,16,14,11,15,10,4,9,3,2,1,0,8,7,6,5,13,12,19,18],[25,23,24,22,20,17,21,16,14,11,15,10,4,9,3,2,1,0,8,7,6,5,13,12,19,18],[26,25,23,24,22,20,17,21,16,14,11,15,10,4,9,3,2,1,0,8,7,6,5,13,12,19,18],[27,26,25,23,24,22,20,17,21,16,14,11,15,10,4,9,3,2,1,0,8,7,6,5,13,12,19,18],[26,25,23,24,22,20,17,21,16,14,11,15,10,4,9,3,2,1,0,8,7,6,5,13,12,19,18],[29,26,25,23,24,22,20,17,21,16,14,11,15,10,4,9,3,2,1,0,8,7,6,5,13,12,19,18],[28,30,26,27,25,23,24,22,20,17,21,16,14,11,15,10,4,9,3,2,1,0,8,7,6,5,13,12,19,18,29],[31,26,28,30,27,25,23,24,22,20,17,21,16,14,11,15,10,4,9,3,2,1,0,8,7,6,5,13,12,19,18,29],[26,25,23,24,22,20,17,21,16,14,11,15,10,4,9,3,2,1,0,8,7,6,5,13,12,19,18],[32,33,26,31,28,30,27,25,23,24,22,20,17,21,16,14,11,15,10,4,9,3,2,1,0,8,7,6,5,13,12,19,18,29],[34,26,32,33,31,28,30,27,25,23,24,22,20,17,21,16,14,11,15,10,4,9,3,2,1,0,8,7,6,5,13,12,19,18,29],[26,35,23,25,24,22,20,17,21,16,14,11,15,10,4,9,3,2,1,0,8,7,6,5,13,12,19,18,34,32,33,31,28,30,27,29],[23,36,22,20,17,21,16,14,11,15,10,4,9,3,2,1,0,8,7,6,5,13,12,19,18,26,35,25,24,34,32,33,31,28,30,27,29]] (fun w2 => Below w1.heap.size w1 w2) (fun w1 w2 => Below w1.heap.size w1 w2) (by kernel_rfl) (by kernel_rfl) (bdrew) ?_
                iterate 2 (refine Og.step_pure (fun _ => Below.refl _ _) ?_; apply Exists.intro; refine And.intro ?_ ?_; focus (intro vs w2 hC hk; have hm := HC w2 hC; revert hk; simp only [Og.KS, Og.K0, Og.Is, List.getD_cons_zero, List.getD_cons_succ, List.getD_nil, List.contains_cons, List.contains_nil, Nat.reduceAdd, Nat.reduceBEq, Bool.or_false, Bool.false_or, Bool.or_true, Bool.true_or, Bool.false_eq_true, false_implies, true_implies, true_and, and_true, forall_const]; intros; go_simp; rfl))
                refine Og.step_one ?_; apply Exists.intro; refine And.intro ?_ ?_; focus (intro vs w2 hC hk; have hm := HC w2 hC; revert hk; simp only [Og.KS, Og.K0, Og.Is, List.getD_cons_zero, List.getD_cons_succ, List.getD_nil, List.contains_cons, List.contains_nil, Nat.reduceAdd, Nat.reduceBEq, Bool.or_false, Bool.false_or, Bool.or_true, Bool.true_or, Bool.false_eq_true, false_implies, true_implies, true_and, and_true, forall_const]; intros; go_simp; with_reducible refine (H34t.out _).mono ?_; rintro e w3 ⟨rfl, hb⟩; exact Og.RetV.mk ⟨bthen hC hb, hb, rfl⟩)
                refine Og.step_pure (fun _ => Below.refl _ _) ?_; apply Exists.intro; refine And.intro ?_ ?_; focus (intro vs w2 hC hk; have hm := HC w2 hC; revert hk; simp only [Og.KS, Og.K0, Og.Is, List.getD_cons_zero, List.getD_cons_succ, List.getD_nil, List.contains_cons, List.contains_nil, Nat.reduceAdd, Nat.reduceBEq, Bool.or_false, Bool.false_or, Bool.or_true, Bool.true_or, Bool.false_eq_true, false_implies, true_implies, true_and, and_true, forall_const]; intros; go_simp; rfl)
                refine walk_weaken (K' := Og.KS 3 (Og.Is (.bool false)) Og.K0) _ _ _ 0 (fun b vs w h => ⟨h.1, trivial⟩) ?_
                refine Og.step_pure (fun _ => Below.refl _ _) ?_; apply Exists.intro; refine And.intro ?_ ?_; focus (intro vs w2 hC hk; have hm := HC w2 hC; revert hk; simp only [Og.KS, Og.K0, Og.Is, List.getD_cons_zero, List.getD_cons_succ, List.getD_nil, List.contains_cons, List.contains_nil, Nat.reduceAdd, Nat.reduceBEq, Bool.or_false, Bool.false_or, Bool.or_true, Bool.true_or, Bool.false_eq_true, false_implies, true_implies, true_and, and_true, forall_const]; intros; go_simp; rfl)
                refine walk_weaken (K' := Og.KS 4 (Og.Is (.bool false)) Og.K0) _ _ _ 0 (fun b vs w h => ⟨h.1, trivial⟩) ?_
                iterate 6 (refine Og.step_pure (fun _ => Below.refl _ _) ?_; apply Exists.intro; refine And.intro ?_ ?_; focus (intro vs w2 hC hk; have hm := HC w2 hC; revert hk; simp only [Og.KS, Og.K0, Og.Is, List.getD_cons_zero, List.getD_cons_succ, List.getD_nil, List.contains_cons, List.contains_nil, Nat.reduceAdd, Nat.reduceBEq, Bool.or_false, Bool.false_or, Bool.or_true, Bool.true_or, Bool.false_eq_true, false_implies, true_implies, true_and, and_true, forall_const]; intros; go_simp; rfl))
                refine walk_weaken (K' := Og.KS 10 (Og.Is (.bool false)) Og.K0) _ _ _ 0 (fun b vs w h => ⟨h.1, trivial⟩) ?_
                refine Og.step_pure (fun _ => Below.refl _ _) ?_; apply Exists.intro; refine And.intro ?_ ?_; focus (intro vs w2 hC hk; have hm := HC w2 hC; revert hk; simp only [Og.KS, Og.K0, Og.Is, List.getD_cons_zero, List.getD_cons_succ, List.getD_nil, List.contains_cons, List.contains_nil, Nat.reduceAdd, Nat.reduceBEq, Bool.or_false, Bool.false_or, Bool.or_true, Bool.true_or, Bool.false_eq_true, false_implies, true_implies, true_and, and_true, forall_const]; intros; go_simp; rfl)
                refine walk_weaken (K' := Og.KS 11 (Og.Is (.bool false)) Og.K0) _ _ _ 0 (fun b vs w h => ⟨h.1, trivial⟩) ?_
                iterate 2 (refine Og.step_pure (fun _ => Below.refl _ _) ?_; apply Exists.intro; refine And.intro ?_ ?_; focus (intro vs w2 hC hk; have hm := HC w2 hC; revert hk; simp only [Og.KS, Og.K0, Og.Is, List.getD_cons_zero, List.getD_cons_succ, List.getD_nil, List.contains_cons, List.contains_nil, Nat.reduceAdd, Nat.reduceBEq, Bool.or_false, Bool.false_or, Bool.or_true, Bool.true_or, Bool.false_eq_true, false_implies, true_implies, true_and, and_true, forall_const]; intros; go_simp; rfl))
                refine Og.step_one ?_; apply Exists.intro; refine And.intro ?_ ?_; focus (intro vs w2 hC hk; have hm := HC w2 hC; revert hk; simp only [Og.KS, Og.K0, Og.Is, List.getD_cons_zero, List.getD_cons_succ, List.getD_nil, List.contains_cons, List.contains_nil, Nat.reduceAdd, Nat.reduceBEq, Bool.or_false, Bool.false_or, Bool.or_true, Bool.true_or, Bool.false_eq_true, false_implies, true_implies, true_and, and_true, forall_const]; intros; go_simp; with_reducible refine (H39.out _).mono ?_; rintro e w3 ⟨rfl, hb⟩; exact Og.RetV.mk ⟨bthen hC hb, hb, rfl⟩)
                iterate 2 (refine Og.step_pure (fun _ => Below.refl _ _) ?_; apply Exists.intro; refine And.intro ?_ ?_; focus (intro vs w2 hC hk; have hm := HC w2 hC; revert hk; simp only [Og.KS, Og.K0, Og.Is, List.getD_cons_zero, List.getD_cons_succ, List.getD_nil, List.contains_cons, List.contains_nil, Nat.reduceAdd, Nat.reduceBEq, Bool.or_false, Bool.false_or, Bool.or_true, Bool.true_or, Bool.false_eq_true, false_implies, true_implies, true_and, and_true, forall_const]; intros; go_simp; rfl))
                refine walk_weaken (K' := Og.KS 16 (Og.Is (.bool false)) Og.K0) _ _ _ 0 (fun b vs w h => ⟨h.1, trivial⟩) ?_
                refine Og.step_pure (fun _ => Below.refl _ _) ?_; apply Exists.intro; refine And.intro ?_ ?_; focus (intro vs w2 hC hk; have hm := HC w2 hC; revert hk; simp only [Og.KS, Og.K0, Og.Is, List.getD_cons_zero, List.getD_cons_succ, List.getD_nil, List.contains_cons, List.contains_nil, Nat.reduceAdd, Nat.reduceBEq, Bool.or_false, Bool.false_or, Bool.or_true, Bool.true_or, Bool.false_eq_true, false_implies, true_implies, true_and, and_true, forall_const]; intros; go_simp; rfl)
                refine walk_weaken (K' := Og.KS 17 (Og.Is (.bool false)) Og.K0) _ _ _ 0 (fun b vs w h => ⟨h.1, trivial⟩) ?_
                iterate 2 (refine Og.step_pure (fun _ => Below.refl _ _) ?_; apply Exists.intro; refine And.intro ?_ ?_; focus (intro vs w2 hC hk; have hm := HC w2 hC; revert hk; simp only [Og.KS, Og.K0, Og.Is, List.getD_cons_zero, List.getD_cons_succ, List.getD_nil, List.contains_cons, List.contains_nil, Nat.reduceAdd, Nat.reduceBEq, Bool.or_false, Bool.false_or, Bool.or_true, Bool.true_or, Bool.false_eq_true, false_implies, true_implies, true_and, and_true, forall_const]; intros; go_simp; rfl))
                refine Og.step_one ?_; apply Exists.intro; refine And.intro ?_ ?_; focus (intro vs w2 hC hk; have hm := HC w2 hC; revert hk; simp only [Og.KS, Og.K0, Og.Is, List.getD_cons_zero, List.getD_cons_succ, List.getD_nil, List.contains_cons, List.contains_nil, Nat.reduceAdd, Nat.reduceBEq, Bool.or_false, Bool.false_or, Bool.or_true, Bool.true_or, Bool.false_eq_true, false_implies, true_implies, true_and, and_true, forall_const]; intros; go_simp; with_reducible refine (H40.out _).mono ?_; rintro e w3 ⟨rfl, hb⟩; exact Og.RetV.mk ⟨bthen hC hb, hb, rfl⟩)
                iterate 2 (refine Og.step_pure (fun _ => Below.refl _ _) ?_; apply Exists.intro; refine And.intro ?_ ?_; focus (intro vs w2 hC hk; have hm := HC w2 hC; revert hk; simp only [Og.KS, Og.K0, Og.Is, List.getD_cons_zero, List.getD_cons_succ, List.getD_nil, List.contains_cons, List.contains_nil, Nat.reduceAdd, Nat.reduceBEq, Bool.or_false, Bool.false_or, Bool.or_true, Bool.true_or, Bool.false_eq_true, false_implies, true_implies, true_and, and_true, forall_const]; intros; go_simp; rfl))
                refine walk_weaken (K' := Og.KS 22 (Og.Is (.bool false)) Og.K0) _ _ _ 0 (fun b vs w h => ⟨h.1, trivial⟩) ?_
                refine Og.step_pure (fun _ => Below.refl _ _) ?_; apply Exists.intro; refine And.intro ?_ ?_; focus (intro vs w2 hC hk; have hm := HC w2 hC; revert hk; simp only [Og.KS, Og.K0, Og.Is, List.getD_cons_zero, List.getD_cons_succ, List.getD_nil, List.contains_cons, List.contains_nil, Nat.reduceAdd, Nat.reduceBEq, Bool.or_false, Bool.false_or, Bool.or_true, Bool.true_or, Bool.false_eq_true, false_implies, true_implies, true_and, and_true, forall_const]; intros; go_simp; rfl)
                refine walk_weaken (K' := Og.KS 23 (Og.Is (.bool false)) Og.K0) _ _ _ 0 (fun b vs w h => ⟨h.1, trivial⟩) ?_
                iterate 10 (refine Og.step_pure (fun _ => Below.refl _ _) ?_; apply Exists.intro; refine And.intro ?_ ?_; focus (intro vs w2 hC hk; have hm := HC w2 hC; revert hk; simp only [Og.KS, Og.K0, Og.Is, List.getD_cons_zero, List.getD_cons_succ, List.getD_nil, List.contains_cons, List.contains_nil, Nat.reduceAdd, Nat.reduceBEq, Bool.or_false, Bool.false_or, Bool.or_true, Bool.true_or, Bool.false_eq_true, false_implies, true_implies, true_and, and_true, forall_const]; intros; go_simp; rfl))
                refine Og.step_one ?_; apply Exists.intro; refine And.intro ?_ ?_; focus (intro vs w2 hC hk; have hm := HC w2 hC; revert hk; simp only [Og.KS, Og.K0, Og.Is, List.getD_cons_zero, List.getD_cons_succ, List.getD_nil, List.contains_cons, List.contains_nil, Nat.reduceAdd, Nat.reduceBEq, Bool.or_false, Bool.false_or, Bool.or_true, Bool.true_or, Bool.false_eq_true, false_implies, true_implies, true_and, and_true, forall_const]; intros; go_simp; with_reducible refine (HCM.out _).mono ?_; rintro e w3 ⟨rfl, hb⟩; exact Og.RetV.mk ⟨bthen hC hb, hb, rfl⟩)
                iterate 3 (refine Og.step_pure (fun _ => Below.refl _ _) ?_; apply Exists.intro; refine And.intro ?_ ?_; focus (intro vs w2 hC hk; have hm := HC w2 hC; revert hk; simp only [Og.KS, Og.K0, Og.Is, List.getD_cons_zero, List.getD_cons_succ, List.getD_nil, List.contains_cons, List.contains_nil, Nat.reduceAdd, Nat.reduceBEq, Bool.or_false, Bool.false_or, Bool.or_true, Bool.true_or, Bool.false_eq_true, false_implies, true_implies, true_and, and_true, forall_const]; intros; go_simp; rfl))
                intro vs w2 hC hk
                have hm := HC w2 hC
                simp only [Og.KS, Og.K0, Og.Is, List.getD_cons_zero, List.getD_cons_succ, List.getD_nil, List.contains_cons, List.contains_nil, Nat.reduceAdd, Nat.reduceBEq, Bool.or_false, Bool.false_or, Bool.or_true, Bool.true_or, Bool.false_eq_true, false_implies, true_implies, true_and, and_true, forall_const] at hk
                have ha0 := HA0.out
                subst ha0
                clear HA0 es e9 f9 e1 f1 e3 f3 e8 f8
                simp only [hk, Act.put, List.setIfInBounds_toArray, List.set_cons_zero, List.set_cons_succ]
                clear hk
                have B2 := Lib.hid (hbo.out.trans ((bthen B1.out hC).mono hbo.out.size))
                clear hC hm HC
                go_wp2_with fail
                go_roundw
                case rel => exact ⟨(k + 1) + 1, by omega, by go_num, B2⟩
                case measure => simp [intOf]; omega
            · have hkn : k = n3 := by omega
              subst hkn
              have BF := Lib.hid (bthen' BB.out BB.out.size hbo.out)
              go_wp2_with fail
              go_ret
              exact ⟨rfl, BF.out⟩

end Go.Proofs.YtjbglifmppilfaaDoor
