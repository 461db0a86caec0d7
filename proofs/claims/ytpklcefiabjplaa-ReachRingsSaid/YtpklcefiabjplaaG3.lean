/- Own rows of nodes, links and pins: appending, inserting, deleting one; conditions: the rows fit the memory. -/
import Derived.Test.YtpklcefiabjplaaG0
namespace Go.Proofs.Ytpklcefiabjplaa
open Go.ChangeShapes Go.WideShapes Go.ChangeAt Go.RowKit
set_option linter.unusedVariables false
set_option linter.unusedSimpArgs false
attribute [local go_sem] Og.Opt Og.OpY
theorem step_append_runI {P : Program} {ops : Array Oper} {o : Oper} {a : Act} {w : World} {K : Act → World → Prop} {Q : Exit → Act → World → Prop} {E : Prop}
    (hg : o.guard = none) (d x : Operand) (dT sT : TypeId) (hop : o.op = Op.call { callee := Callee.builtin Builtin.append, args := #[d, x], argTypes := #[dT, sT] })
    (v u : Value) (hd : a.eval d = v) (hx : a.eval x = u) {v' : Value} {w' : World} (hr : (Builtin.append_ #[dT, sT] o.type #[v, u]).run P w = .ok v' w') (hK : K (a.put o.dst v') w') :
    if Region.wanted o (yielded ops a.tmps) = true then Oper.wp P o a w K Q else E := by
  have hw : Region.wanted o (yielded ops a.tmps) = true := by simp [Region.wanted, hg]
  rw [if_pos hw]
  unfold Oper.wp
  simp [execOp, hop, resolve, invoke, builtin, hd, hx, hr, Result.andThen]
  exact hK
def zNd : Nd := ⟨0⟩
/-- what an insertion in place leaves -/
theorem ins_getNd {cur : List Value} {xs : List Nd} {n k : Nat} {r : Nd} (h : cur.take (n * 3) = xs.flatMap cNd) (hn : xs.length = n) (hk : k ≤ n) (hc : (n + 1) * 3 ≤ cur.length) (cur1 cur2 : List Value)
    (h1 : cur1 = cur.take ((k + 1) * 3) ++ (xs.drop k).flatMap cNd ++ cur.drop ((k + 1) * 3 + ((xs.drop k).flatMap cNd).length)) (h2 : cur2 = cur1.take (k * 3) ++ cNd r ++ cur1.drop (k * 3 + (cNd r).length)) :
    cur1.length = cur.length ∧ cur2.length = cur.length ∧ cur2.take ((n + 1) * 3) = (xs.take k ++ r :: xs.drop k).flatMap cNd := by
  have hd : ((xs.drop k).flatMap cNd).length = (n - k) * 3 := by rw [flat_len cNd 3 cNd_len, List.length_drop, hn]
  have ht : ((xs.take k).flatMap cNd).length = k * 3 := by rw [flat_len cNd 3 cNd_len, List.length_take, hn, Nat.min_eq_left hk]
  have l1 : cur1.length = cur.length := by
    rw [h1, List.length_append, List.length_append, List.length_take, List.length_drop, hd]
    omega
  have e1 : cur1.take (k * 3) = (xs.take k).flatMap cNd := by
    rw [← flat_take cNd 3 cNd_len xs k, ← h, List.take_take, Nat.min_eq_left (by omega), h1, List.append_assoc, List.take_append_of_le_length (by rw [List.length_take]; omega), List.take_take, Nat.min_eq_left (by omega)]
  have e2 : ∃ R, cur1.drop (k * 3 + (cNd r).length) = (xs.drop k).flatMap cNd ++ R := by
    refine ⟨cur.drop ((k + 1) * 3 + ((xs.drop k).flatMap cNd).length), ?_⟩
    rw [h1, List.append_assoc, cNd_len, show k * 3 + 3 = (k + 1) * 3 by omega, List.drop_append_of_le_length (by rw [List.length_take]; omega), List.drop_of_length_le (by rw [List.length_take]; omega), List.nil_append]
  obtain ⟨R, e2⟩ := e2
  refine ⟨l1, ?_, ?_⟩
  · rw [h2, List.length_append, List.length_append, List.length_take, List.length_drop, cNd_len, l1]
    omega
  · have e3 : cur2 = ((xs.take k).flatMap cNd ++ cNd r ++ (xs.drop k).flatMap cNd) ++ R := by rw [h2, e1, e2]; simp only [List.append_assoc]
    rw [e3, List.take_left' (by simp only [List.length_append, ht, hd, cNd_len]; omega), List.flatMap_append, List.flatMap_cons, List.append_assoc]
set_option maxHeartbeats 4000000 in
set_option maxRecDepth 100000 in
theorem Insert_endNd (xs : List Nd) (r : Nd) (base n vb : Nat) (v : Value) (w : World) (hown : w.ownsRow base 41 3 v n (xs.flatMap cNd)) (hn : xs.length = n) (hvb : w.heap[vb]? = some (.cells (cNd r).toArray 41 (0, 0))) (hbase : base ≤ w.heap.size) (hl : n ≤ 1172812402926) :
    Calls Try.prog 62 #[v, .int .i64 (n : Int), .slice (some ⟨vb, 0, none⟩) 1 1] w fun e w' => ∃ v', e = .returned v' ∧ w'.ownsRow base 41 3 v' (n + 1) ((xs ++ [r]).flatMap cNd) ∧ w.grownBy w' v.ownBlock := by
  obtain ⟨i, hi, hz, hsz, hby⟩ := info_parts info41
  have hk0 : (0 : Int) ≤ (n : Int) := by omega
  have e1 : (xs ++ [r]).flatMap cNd = xs.flatMap cNd ++ cNd r := by simp
  have HA := fun (o : Oper) (rest : List Oper) (ops : Array Oper) (a : Act) (Q : Exit → Act → World → Prop) hgd s x ho hs hx h => wpList_append_own (P := Try.prog) (ops := ops) (rest := rest) (o := o) (a := a) (Q := Q) w hgd s x 29 ho base 41 i _ 3 32 Try.underlying29 hi hz hsz hby rfl (by omega) v n (xs.flatMap cNd) hs hown ⟨vb, 0, none⟩ 1 1 (cNd r) hx (by rw [cNd_len]) (news_heap hvb) (cNd_one r) (by have := maxLen_ge; omega) (by omega) hbase h
  have HH := Lib.hid HA
  have ho := Lib.hid hown
  rcases hown.2 with ⟨rfl, rfl⟩ | ⟨g, cap, cur, rfl, hb, hg, hnc, hcm, hcs, htk⟩
  · clear hown HA
    go_enter Try.func62, Try.ntmps62
    go_wp2_with (at_builtin; refine HH.out _ _ _ _ _ rfl _ _ rfl rfl rfl ?_; intro v' w' r1 r2 r3)
    all_goals go_ret
    all_goals exact ⟨v', rfl, r1, r2⟩
  · have hnci : (n : Int) ≤ (cap : Int) := by omega
    have hcm' : (cap : Int) ≤ 9223372036854775807 := by unfold maxLen at hcm; omega
    clear hown HA hg hcs htk
    go_enter Try.func62, Try.ntmps62
    go_wp2_with (at_builtin; refine HH.out _ _ _ _ _ rfl _ _ rfl rfl rfl ?_; intro v' w' r1 r2 r3)
    all_goals go_ret
    all_goals exact ⟨v', rfl, r1, r2⟩

set_option maxHeartbeats 4000000 in
set_option maxRecDepth 100000 in
theorem Insert_inNd (xs : List Nd) (r : Nd) (base n k vb g cap : Nat) (cur : Array Value) (w : World) (hb : base ≤ g) (hg : w.heap[g]? = some (.cells cur 41 (0, 0))) (hcm : cap ≤ maxLen) (hcs : cur.size = cap * 3) (htk : cur.toList.take (n * 3) = xs.flatMap cNd)
    (hn : xs.length = n) (hk : k < n) (hnc : n + 1 ≤ cap) (hvg : vb ≠ g) (hvb : w.heap[vb]? = some (.cells (cNd r).toArray 41 (0, 0))) (hbase : base ≤ w.heap.size) (hl : n ≤ 1172812402926) :
    Calls Try.prog 62 #[.slice (some ⟨g, 0, none⟩) n cap, .int .i64 (k : Int), .slice (some ⟨vb, 0, none⟩) 1 1] w fun e w' => ∃ v', e = .returned v' ∧ w'.ownsRow base 41 3 v' (n + 1) ((xs.take k ++ r :: xs.drop k).flatMap cNd) ∧ w.grownBy w' (some g) := by
  have hdl : ((xs.drop k).flatMap cNd).length = (n - k) * 3 := by rw [flat_len cNd 3 cNd_len, List.length_drop, hn]
  have hcl : cur.toList.length = cap * 3 := by rw [Array.length_toList]; exact hcs
  obtain ⟨c1, hc1⟩ : ∃ l, l = cur.toList.take ((k + 1) * 3) ++ (xs.drop k).flatMap cNd ++ cur.toList.drop ((k + 1) * 3 + ((xs.drop k).flatMap cNd).length) := ⟨_, rfl⟩
  obtain ⟨c2, hc2⟩ : ∃ l, l = c1.take (k * 3) ++ cNd r ++ c1.drop (k * 3 + (cNd r).length) := ⟨_, rfl⟩
  obtain ⟨l1, l2, t2⟩ := ins_getNd (r := r) htk hn (Nat.le_of_lt hk) (by rw [hcl]; exact Nat.mul_le_mul_right 3 hnc) c1 c2 hc1 hc2
  obtain ⟨W1, hW1⟩ : ∃ W1, W1 = w.drew.setRow g c1.toArray := ⟨_, rfl⟩
  obtain ⟨W2, hW2⟩ : ∃ W2, W2 = W1.setRow g c2.toArray := ⟨_, rfl⟩
  have hcp1 : ∀ ty dc sc, (Builtin.copy_ #[29, 29] ty #[.slice (some ⟨g, (k + 1) * 3, none⟩) (n + 1 - (k + 1)) dc, .slice (some ⟨g, k * 3, none⟩) (n + 1 - k) sc]).run Try.prog w.drew = .ok (goInt ((n - k : Nat) : Int)) W1 := fun ty dc sc => by
    have hm : Nat.min (n + 1 - k) (n + 1 - (k + 1)) = n - k := by simp only [Nat.min_def]; split <;> omega
    have := run_copy_own (P := Try.prog) w.drew 29 29 ty 41 3 g ((k + 1) * 3) (n + 1 - (k + 1)) dc ⟨g, k * 3, none⟩ (n + 1 - k) sc cur 41 ((xs.drop k).flatMap cNd) Try.underlying29 info41s hg (by rw [hdl, hm]) (fun j u hu => by
      rw [Addr.add_lit]
      show w.cell? _ = _
      rw [cell_of_row w g (k * 3 + j) cur 41 (0, 0) hg]
      have hj := (List.getElem?_eq_some_iff.1 hu).1
      rw [hdl] at hj
      rw [← flat_drop cNd 3 cNd_len, ← htk, List.getElem?_drop, List.getElem?_take_of_lt (by omega)] at hu
      simpa using hu) (by rw [hdl, hcs]; omega) (flat_one cNd_one _)
    rw [hm, ← hc1, ← hW1] at this
    exact this
  have hcp2 : ∀ ty dc, (Builtin.copy_ #[29, 29] ty #[.slice (some ⟨g, k * 3, none⟩) (n + 1 - k) dc, .slice (some ⟨vb, 0, none⟩) 1 1]).run Try.prog W1 = .ok (goInt ((1 : Nat) : Int)) W2 := fun ty dc => by
    have hm : Nat.min 1 (n + 1 - k) = 1 := by simp only [Nat.min_def]; split <;> omega
    have := run_copy_own (P := Try.prog) W1 29 29 ty 41 3 g (k * 3) (n + 1 - k) dc ⟨vb, 0, none⟩ 1 1 c1.toArray 41 (cNd r) Try.underlying29 info41s (by rw [hW1]; exact setRow_heap w.drew g cur _ 41 (0, 0) hg) (by rw [hm, cNd_len]) (fun j u hu => by
      rw [hW1]
      have := news_heap hvb j u (by simpa using hu)
      rw [Addr.add_lit] at this ⊢
      rw [cell_setRow_other _ _ _ _ hvg]
      exact this) (by rw [cNd_len, List.size_toArray, l1, hcl]; omega) (cNd_one r)
    rw [hm] at this
    simp only [List.toList_toArray] at this
    rw [← hc2, ← hW2] at this
    exact this
  have hov : ∀ lb cb, (callFunc 100 #[.slice (some ⟨vb, 0, none⟩) 1 1, .slice (some ⟨g, (k + 1) * 3, none⟩) lb cb]).run Try.prog w = .ok (.value (.bool false)) w := fun lb cb => by
    rw [run_callFunc_extern Try.func100 (by kernel_rfl) (by kernel_rfl) (by kernel_rfl) (e := Extern.SlicesOverlaps.overlaps #[29, 29] #[4]) (by kernel_rfl),
      Lib.run_overlaps_apart w 29 4 41 Try.underlying29 3 size41 ⟨vb, 0, none⟩ ⟨g, (k + 1) * 3, none⟩ 1 1 lb cb hvg 41 41 3 cur.size (by simp [World.shape?, hvb, cNd_len]) (by simp [World.shape?, hg]) (by rw [hcs]; omega) (by simp [World.frozen?, hvb]) (by simp [World.frozen?, hvb])]
    rfl
  have hfin : W2.ownsRow base 41 3 (.slice (some ⟨g, 0, none⟩) (n + 1) cap) (n + 1) ((xs.take k ++ r :: xs.drop k).flatMap cNd) ∧ w.grownBy W2 (some g) := by
    have hg1 : W1.heap[g]? = some (.cells c1.toArray 41 (0, 0)) := by rw [hW1]; exact setRow_heap w.drew g cur _ 41 (0, 0) hg
    refine ⟨⟨?_, .inr ⟨g, cap, c2.toArray, rfl, hb, by rw [hW2]; exact setRow_heap W1 g _ _ 41 (0, 0) hg1, hnc, hcm, by rw [List.size_toArray, l2, hcl], by simpa using t2⟩⟩, ?_⟩
    · rw [flat_len cNd 3 cNd_len, List.length_append, List.length_cons, List.length_take, List.length_drop, hn]; congr 1; omega
    · rw [hW2, hW1]
      refine ⟨rfl, rfl, rfl, by simp, fun j hj hne => ?_⟩
      rw [setRow_other _ _ _ _ (fun e => hne (by rw [e])), setRow_other _ _ _ _ (fun e => hne (by rw [e]))]
      rfl
  have mixed : Try.prog.follows Departure.mixedOrders = true := by kernel_rfl
  have HCP := Lib.hid (And.intro hcp1 hcp2)
  have HOV := Lib.hid hov
  have HF := Lib.hid hfin
  have hz1 : ¬ ((1 : Int) = 0) := by omega
  have hz2 : ¬ ((k : Int) = (n : Int)) := by omega
  have hk0 : (0 : Int) ≤ (k : Int) := by omega
  have hk1 : (k : Int) ≤ (n : Int) := by omega
  have hk2 : (n : Int) + 1 ≤ (cap : Int) := by omega
  have hb2 : ¬ (cap = k + 1) := by omega
  have hb3 : (k : Int) + 1 ≤ (n : Int) + 1 := by omega
  have hb5 : (k : Int) ≤ (n : Int) + 1 := by omega
  have hb4 : ¬ (cap = k) := by omega
  have hbn : (0 : Int) ≤ (n : Int) + 1 := by omega
  have hbk : (0 : Int) ≤ (k : Int) + 1 := by omega
  have htn : ((n : Int) + 1).toNat = n + 1 := by omega
  have htk1 : ((k : Int) + 1).toNat = k + 1 := by omega
  have hw1 : IntKind.i64.wrap ((k : Int) + 1) = (k : Int) + 1 := by rw [IntKind.wrap_i64]; omega
  have hw2 : IntKind.i64.wrap ((n : Int) + 1) = (n : Int) + 1 := by rw [IntKind.wrap_i64]; omega
  have hcm' : (cap : Int) ≤ 9223372036854775807 := by unfold maxLen at hcm; omega
  clear hfin hov hcp1 hcp2 hdl hcl l1 l2 t2 hc1 hc2 hg hcs htk hvb hcm hW2 hW1
  go_enter Try.func62, Try.ntmps62
  go_wp2_with (simp only [HOV.out])
  go_region_law_o (refine step_copy_runI rfl _ _ 29 29 rfl (.slice (some ⟨g, (k + 1) * 3, none⟩) (n + 1 - (k + 1)) (cap - (k + 1))) (.slice (some ⟨g, k * 3, none⟩) (n + 1 - k) (cap - k)) (by simp [Act.eval, Act.put]) (by simp [Act.eval, Act.put]) (HCP.out.1 _ _ _) ?_)
  go_wp2_with (simp only [HCP.out.2])
  go_ret
  exact ⟨_, rfl, HF.out.1, HF.out.2⟩

/-- what an insertion into a new row leaves -/
theorem ins_newNd {row : List Value} {xs : List Nd} {n k : Nat} {r : Nd} (h : row.take (k * 3) = (xs.take k).flatMap cNd) (hn : xs.length = n) (hk : k ≤ n) (hc : (n + 1) * 3 ≤ row.length) (c1 c2 : List Value)
    (h1 : c1 = row.take (k * 3) ++ cNd r ++ row.drop (k * 3 + (cNd r).length)) (h2 : c2 = c1.take ((k + 1) * 3) ++ (xs.drop k).flatMap cNd ++ c1.drop ((k + 1) * 3 + ((xs.drop k).flatMap cNd).length)) :
    c1.length = row.length ∧ c2.length = row.length ∧ c2.take ((n + 1) * 3) = (xs.take k ++ r :: xs.drop k).flatMap cNd := by
  have hd : ((xs.drop k).flatMap cNd).length = (n - k) * 3 := by rw [flat_len cNd 3 cNd_len, List.length_drop, hn]
  have ht : ((xs.take k).flatMap cNd).length = k * 3 := by rw [flat_len cNd 3 cNd_len, List.length_take, hn, Nat.min_eq_left hk]
  have l1 : c1.length = row.length := by
    rw [h1, List.length_append, List.length_append, List.length_take, List.length_drop, cNd_len]
    omega
  have e1 : c1.take ((k + 1) * 3) = (xs.take k).flatMap cNd ++ cNd r := by
    rw [h1, h, List.take_left' (by rw [List.length_append, ht, cNd_len]; omega)]
  refine ⟨l1, ?_, ?_⟩
  · rw [h2, List.length_append, List.length_append, List.length_take, List.length_drop, hd, l1]
    omega
  · rw [h2, e1, List.take_left' (by simp only [List.length_append, ht, hd, cNd_len]; omega), List.flatMap_append, List.flatMap_cons, List.append_assoc]

set_option maxHeartbeats 4000000 in
set_option maxRecDepth 100000 in
theorem Insert_growNd (xs : List Nd) (r : Nd) (base n k vb g cap : Nat) (cur : Array Value) (w : World) (hg : w.heap[g]? = some (.cells cur 41 (0, 0))) (htk : cur.toList.take (n * 3) = xs.flatMap cNd)
    (hn : xs.length = n) (hk : k < n) (hnc : n ≤ cap) (hroom : cap < n + 1) (hvb : w.heap[vb]? = some (.cells (cNd r).toArray 41 (0, 0))) (hbase : base ≤ w.heap.size) (hl : n ≤ 1172812402926) :
    Calls Try.prog 62 #[.slice (some ⟨g, 0, none⟩) n cap, .int .i64 (k : Int), .slice (some ⟨vb, 0, none⟩) 1 1] w fun e w' => ∃ v', e = .returned v' ∧ w'.ownsRow base 41 3 v' (n + 1) ((xs.take k ++ r :: xs.drop k).flatMap cNd) ∧ w.grownBy w' (some g) := by
  obtain ⟨i, hi, hz, hsz, hby⟩ := info_parts info41
  have hgl : g < w.heap.size := (Array.getElem?_eq_some_iff.1 hg).1
  have hvl : vb < w.heap.size := (Array.getElem?_eq_some_iff.1 hvb).1
  have hdl : ((xs.drop k).flatMap cNd).length = (n - k) * 3 := by rw [flat_len cNd 3 cNd_len, List.length_drop, hn]
  have htl : ((xs.take k).flatMap cNd).length = k * 3 := by rw [flat_len cNd 3 cNd_len, List.length_take, hn, Nat.min_eq_left (Nat.le_of_lt hk)]
  have hcell : ∀ j u, (xs.flatMap cNd)[j]? = some u → w.cell? ⟨g, j, none⟩ = some u := fun j u hu => by
    rw [cell_of_row w g j cur 41 (0, 0) hg]
    have hj := (List.getElem?_eq_some_iff.1 hu).1
    rw [flat_len cNd 3 cNd_len, hn] at hj
    rw [← htk, List.getElem?_take_of_lt hj] at hu
    simpa using hu
  have hold : (Builtin.firstCells i.size k (.slice (some ⟨g, 0, none⟩) k cap)).run Try.prog w.drew = .ok ((xs.take k).flatMap cNd).toArray w.drew :=
    run_firstCells_some w.drew i.size k ⟨g, 0, none⟩ k cap ((xs.take k).flatMap cNd) (by rw [htl, hsz]) (fun j u hu => by
      rw [Addr.add_lit, Nat.zero_add]
      refine hcell j u ?_
      rw [← flat_take cNd 3 cNd_len] at hu
      rw [List.getElem?_take] at hu
      split at hu
      · exact hu
      · cases hu)
  have hkk : (n : Int) + 1 - (k : Int) = ((n + 1 - k : Nat) : Int) := by omega
  have hik : k + (n + 1 - k) = n + 1 := by omega
  obtain ⟨G, hG⟩ : ∃ G, G = grownCap w (n + 1) cap 41 := ⟨_, rfl⟩
  have hGn : n + 1 ≤ G := by rw [hG]; exact grownCap_ge w _ _ _
  have hGm : G ≤ maxLen := by rw [hG]; exact grownCap_le_maxLen w (n + 1) cap 41 (by have := maxLen_ge; omega)
  obtain ⟨ROW, hROW⟩ : ∃ ROW : Array Value, ROW = ((xs.take k).flatMap cNd).toArray ++ Builtin.zeroCells (Value.agg #[.int .i64 0, .bool false, .complex .f64 0 0]).cells (n + 1 - k) ++ Builtin.zeroCells (Value.agg #[.int .i64 0, .bool false, .complex .f64 0 0]).cells (G - (n + 1)) := ⟨_, rfl⟩
  obtain ⟨W1, hW1⟩ : ∃ W1, W1 = w.drew.alloc (.cells ROW 41) := ⟨_, rfl⟩
  have hrz : ∀ ty, (Builtin.append_ #[29, 3] ty #[.slice (some ⟨g, 0, none⟩) k cap, .int .i64 ((n : Int) + 1 - (k : Int))]).run Try.prog w = .ok (.slice (some ⟨w.heap.size, 0, none⟩) (n + 1) G) W1 := fun ty => by
    have h := Lib.run_append_grow_zeros w 29 3 ty 41 i _ .i64 .i64 Try.underlying29 Try.underlying3 hi hz (some ⟨g, 0, none⟩) k cap ((xs.take k).flatMap cNd) hold (n + 1 - k) (by omega) (by omega) (by omega) (by omega) (by rw [hby]; omega) (by rw [hby, hik]; exact growslice_fits hroom (by omega))
    rw [hik, ← hG, ← hROW, ← hW1] at h
    rw [hkk]
    exact h
  have hRs : ROW.size = G * 3 := by
    rw [hROW, Array.size_append, Array.size_append, size_zeroCells, size_zeroCells, List.size_toArray, htl]
    show k * 3 + (n + 1 - k) * 3 + (G - (n + 1)) * 3 = G * 3
    omega
  have hRl : ROW.toList.length = G * 3 := by rw [Array.length_toList]; exact hRs
  have hRt : ROW.toList.take (k * 3) = (xs.take k).flatMap cNd := by
    rw [hROW]
    simp only [Array.toList_append, List.append_assoc]
    exact List.take_left' htl
  obtain ⟨c1, hc1⟩ : ∃ l, l = ROW.toList.take (k * 3) ++ cNd r ++ ROW.toList.drop (k * 3 + (cNd r).length) := ⟨_, rfl⟩
  obtain ⟨c2, hc2⟩ : ∃ l, l = c1.take ((k + 1) * 3) ++ (xs.drop k).flatMap cNd ++ c1.drop ((k + 1) * 3 + ((xs.drop k).flatMap cNd).length) := ⟨_, rfl⟩
  obtain ⟨l1, l2, t2⟩ := ins_newNd (r := r) hRt hn (Nat.le_of_lt hk) (by rw [hRl]; exact Nat.mul_le_mul_right 3 hGn) c1 c2 hc1 hc2
  obtain ⟨W2, hW2⟩ : ∃ W2, W2 = W1.setRow w.heap.size c1.toArray := ⟨_, rfl⟩
  obtain ⟨W3, hW3⟩ : ∃ W3, W3 = W2.drew.setRow w.heap.size c2.toArray := ⟨_, rfl⟩
  have hH1 : W1.heap[w.heap.size]? = some (.cells ROW 41 (0, 0)) := by rw [hW1]; exact heap_alloc_new w.drew _
  have hH2 : W2.heap[w.heap.size]? = some (.cells c1.toArray 41 (0, 0)) := by rw [hW2]; exact setRow_heap W1 _ ROW _ 41 (0, 0) hH1
  have hold1 : ∀ j, j < w.heap.size → W1.heap[j]? = w.heap[j]? := fun j hj => by rw [hW1]; exact heap_alloc_old w.drew _ hj
  have hold2 : ∀ j, j < w.heap.size → W2.heap[j]? = w.heap[j]? := fun j hj => by rw [hW2, setRow_other _ _ _ _ (by omega)]; exact hold1 j hj
  have hcp1 : ∀ ty dc, (Builtin.copy_ #[29, 29] ty #[.slice (some ⟨w.heap.size, k * 3, none⟩) (n + 1 - k) dc, .slice (some ⟨vb, 0, none⟩) 1 1]).run Try.prog W1 = .ok (goInt ((1 : Nat) : Int)) W2 := fun ty dc => by
    have hm : Nat.min 1 (n + 1 - k) = 1 := by simp only [Nat.min_def]; split <;> omega
    have := run_copy_own (P := Try.prog) W1 29 29 ty 41 3 w.heap.size (k * 3) (n + 1 - k) dc ⟨vb, 0, none⟩ 1 1 ROW 41 (cNd r) Try.underlying29 info41s hH1 (by rw [hm, cNd_len]) (fun j u hu => by
      have := news_heap hvb j u (by simpa using hu)
      rw [Addr.add_lit] at this ⊢
      exact (World.cell?_of_block (hold1 vb hvl)).trans this) (by rw [cNd_len, hRs]; omega) (cNd_one r)
    rw [hm, ← hc1, ← hW2] at this
    exact this
  have hcp2 : ∀ ty dc sc, (Builtin.copy_ #[29, 29] ty #[.slice (some ⟨w.heap.size, (k + 1) * 3, none⟩) (n + 1 - (k + 1)) dc, .slice (some ⟨g, k * 3, none⟩) (n - k) sc]).run Try.prog W2.drew = .ok (goInt ((n - k : Nat) : Int)) W3 := fun ty dc sc => by
    have hm : Nat.min (n - k) (n + 1 - (k + 1)) = n - k := by simp only [Nat.min_def]; split <;> omega
    have := run_copy_own (P := Try.prog) W2.drew 29 29 ty 41 3 w.heap.size ((k + 1) * 3) (n + 1 - (k + 1)) dc ⟨g, k * 3, none⟩ (n - k) sc c1.toArray 41 ((xs.drop k).flatMap cNd) Try.underlying29 info41s hH2 (by rw [hdl, hm]) (fun j u hu => by
      rw [Addr.add_lit]
      show W2.cell? _ = _
      refine (World.cell?_of_block (hold2 g hgl)).trans (hcell _ u ?_)
      rw [← flat_drop cNd 3 cNd_len, List.getElem?_drop] at hu
      exact hu) (by rw [hdl, List.size_toArray, l1, hRl]; omega) (flat_one cNd_one _)
    rw [hm] at this
    simp only [List.toList_toArray] at this
    rw [← hc2, ← hW3] at this
    exact this
  have hfin : W3.ownsRow base 41 3 (.slice (some ⟨w.heap.size, 0, none⟩) (n + 1) G) (n + 1) ((xs.take k ++ r :: xs.drop k).flatMap cNd) ∧ w.grownBy W3 (some g) := by
    refine ⟨⟨?_, .inr ⟨w.heap.size, G, c2.toArray, rfl, hbase, by rw [hW3]; exact setRow_heap W2.drew _ _ _ 41 (0, 0) hH2, hGn, hGm, by rw [List.size_toArray, l2, hRl], by simpa using t2⟩⟩, ?_⟩
    · rw [flat_len cNd 3 cNd_len, List.length_append, List.length_cons, List.length_take, List.length_drop, hn]; congr 1; omega
    · refine ⟨?_, ?_, ?_, ?_, fun j hj hne => ?_⟩
      · rw [hW3, hW2, hW1]; rfl
      · rw [hW3, hW2, hW1]; rfl
      · rw [hW3, hW2, hW1]; rfl
      · rw [hW3, hW2, hW1]; simp [World.setRow]
      · rw [hW3, setRow_other _ _ _ _ (by omega)]
        exact hold2 j hj
  have mixed : Try.prog.follows Departure.mixedOrders = true := by kernel_rfl
  have HCP := Lib.hid (And.intro hcp1 hcp2)
  have HRZ := Lib.hid hrz
  have HF := Lib.hid hfin
  have hz1 : ¬ ((1 : Int) = 0) := by omega
  have hz2 : ¬ ((k : Int) = (n : Int)) := by omega
  have hz3 : (cap : Int) < (n : Int) + 1 := by omega
  have hk0 : (0 : Int) ≤ (k : Int) := by omega
  have hk1 : (k : Int) ≤ (n : Int) := by omega
  have hk2 : (k : Int) ≤ (cap : Int) := by omega
  have hk3 : (k : Int) ≤ (n : Int) + 1 := by omega
  have hk4 : (k : Int) + 1 ≤ (n : Int) + 1 := by omega
  have hbk : (0 : Int) ≤ (k : Int) + 1 := by omega
  have hGi : ¬ (G = k) := by omega
  have hGi1 : ¬ (G = k + 1) := by omega
  have hci : ¬ (cap = k) := by omega
  have htk1 : ((k : Int) + 1).toNat = k + 1 := by omega
  have hw1 : IntKind.i64.wrap ((k : Int) + 1) = (k : Int) + 1 := by rw [IntKind.wrap_i64]; omega
  have hw2 : IntKind.i64.wrap ((n : Int) + 1) = (n : Int) + 1 := by rw [IntKind.wrap_i64]; omega
  have hw3 : IntKind.i64.wrap ((n : Int) + 1 - (k : Int)) = (n : Int) + 1 - (k : Int) := by rw [IntKind.wrap_i64]; omega
  have hGm' : (G : Int) ≤ 9223372036854775807 := by unfold maxLen at hGm; omega
  have hGn' : (n : Int) + 1 ≤ (G : Int) := by omega
  have hcm' : (cap : Int) ≤ 9223372036854775807 := by omega
  obtain ⟨H, hH⟩ : ∃ H, H = w.heap.size := ⟨_, rfl⟩
  rw [← hH] at HCP HRZ HF
  clear hH hfin hrz hcp1 hcp2 hold2 hold1 hH2 hH1 l1 l2 t2 hc1 hc2 hRt hRl hRs hROW hGm hG hold hcell hdl htl hg htk hvb hi hz hsz hby hW3 hW2 hW1 hkk hik hgl hvl
  go_enter Try.func62, Try.ntmps62
  go_wp2_with (at_builtin; refine Lib.wpList_append_run _ rfl _ _ 29 3 rfl _ _ rfl rfl _ _ (HRZ.out _) ?_)
  go_wp2_with (simp only [HCP.out.1])
  go_region_law_o (refine step_copy_runI rfl _ _ 29 29 rfl (.slice (some ⟨H, (k + 1) * 3, none⟩) (n + 1 - (k + 1)) (G - (k + 1))) (.slice (some ⟨g, k * 3, none⟩) (n - k) (cap - k)) (by simp [Act.eval, Act.put]) (by simp [Act.eval, Act.put]) (HCP.out.2 _ _ _) ?_)
  go_wp2_with fail
  go_ret
  exact ⟨_, rfl, HF.out.1, HF.out.2⟩
theorem Insert_okNd (xs : List Nd) (r : Nd) (base n k vb : Nat) (v : Value) (w : World) (hown : w.ownsRow base 41 3 v n (xs.flatMap cNd)) (hn : xs.length = n) (hk : k ≤ n) (hvb : w.heap[vb]? = some (.cells (cNd r).toArray 41 (0, 0))) (hne : v.ownBlock ≠ some vb) (hbase : base ≤ w.heap.size) (hl : n ≤ 1172812402926) :
    Calls Try.prog 62 #[v, .int .i64 (k : Int), .slice (some ⟨vb, 0, none⟩) 1 1] w fun e w' => ∃ v', e = .returned v' ∧ w'.ownsRow base 41 3 v' (n + 1) ((xs.take k ++ r :: xs.drop k).flatMap cNd) ∧ w.grownBy w' v.ownBlock := by
  by_cases hkn : k = n
  · subst hkn
    have h := Insert_endNd xs r base k vb v w hown hn hvb hbase hl
    rw [List.take_of_length_le (by omega), List.drop_of_length_le (by omega)]
    exact h
  · rcases hown.2 with ⟨rfl, rfl⟩ | ⟨g, cap, cur, rfl, hb, hg, hnc, hcm, hcs, htk⟩
    · exact absurd (by omega) hkn
    · have hvg : vb ≠ g := fun e => hne (by rw [e]; rfl)
      by_cases hroom : n + 1 ≤ cap
      · exact Insert_inNd xs r base n k vb g cap cur w hb hg hcm hcs htk hn (by omega) hroom hvg hvb hbase hl
      · exact Insert_growNd xs r base n k vb g cap cur w hg htk hn (by omega) hnc (by omega) hvb hbase hl

/-- what a deletion leaves -/
theorem del_getNd {cur : List Value} {xs : List Nd} {n k : Nat} (h : cur.take ((n + 1) * 3) = xs.flatMap cNd) (hn : xs.length = n + 1) (hk : k ≤ n) (hc : (n + 1) * 3 ≤ cur.length) (c1 c2 : List Value)
    (h1 : c1 = cur.take (k * 3) ++ (xs.drop (k + 1)).flatMap cNd ++ cur.drop (k * 3 + ((xs.drop (k + 1)).flatMap cNd).length)) (h2 : c2 = c1.take (n * 3) ++ cNd zNd ++ c1.drop (n * 3 + (cNd zNd).length)) :
    c1.length = cur.length ∧ c2.length = cur.length ∧ c2.take (n * 3) = (xs.eraseIdx k).flatMap cNd := by
  have hd : ((xs.drop (k + 1)).flatMap cNd).length = (n - k) * 3 := by rw [flat_len cNd 3 cNd_len, List.length_drop, hn]; congr 1; omega
  have ht : ((xs.take k).flatMap cNd).length = k * 3 := by rw [flat_len cNd 3 cNd_len, List.length_take, hn, Nat.min_eq_left (by omega)]
  have l1 : c1.length = cur.length := by
    rw [h1, List.length_append, List.length_append, List.length_take, List.length_drop, hd]
    omega
  have e0 : cur.take (k * 3) = (xs.take k).flatMap cNd := by rw [← flat_take cNd 3 cNd_len xs k, ← h, List.take_take, Nat.min_eq_left (by omega)]
  have e1 : c1.take (n * 3) = (xs.eraseIdx k).flatMap cNd := by
    rw [h1, e0, List.take_left' (by rw [List.length_append, ht, hd]; omega), List.eraseIdx_eq_take_drop_succ, List.flatMap_append]
  refine ⟨l1, ?_, ?_⟩
  · rw [h2, List.length_append, List.length_append, List.length_take, List.length_drop, cNd_len, l1]
    omega
  · rw [h2, ← e1, List.append_assoc, List.take_left' (by rw [List.length_take]; omega)]

set_option maxHeartbeats 4000000 in
set_option maxRecDepth 100000 in
theorem Delete_okNd (xs : List Nd) (base n k g cap : Nat) (w : World) (hown : w.ownsRow base 41 3 (.slice (some ⟨g, 0, none⟩) (n + 1) cap) (n + 1) (xs.flatMap cNd)) (hn : xs.length = n + 1) (hk : k ≤ n) (hl : n ≤ 1172812402926) :
    Calls Try.prog 63 #[.slice (some ⟨g, 0, none⟩) (n + 1) cap, .int .i64 (k : Int), .int .i64 ((k : Int) + 1)] w fun e w' => e = .returned (.slice (some ⟨g, 0, none⟩) n cap) ∧ w'.ownsRow base 41 3 (.slice (some ⟨g, 0, none⟩) n cap) n ((xs.eraseIdx k).flatMap cNd) ∧ w.grownBy w' (some g) := by
  obtain ⟨i, hi, hz, hsz, hby⟩ := info_parts info41
  rcases hown.2 with ⟨h0, _⟩ | ⟨g', cap', cur, hv, hb, hg, hnc, hcm, hcs, htk⟩
  · cases h0
  cases hv
  have hdl : ((xs.drop (k + 1)).flatMap cNd).length = (n - k) * 3 := by rw [flat_len cNd 3 cNd_len, List.length_drop, hn]; congr 1; omega
  have hcl : cur.toList.length = cap * 3 := by rw [Array.length_toList]; exact hcs
  obtain ⟨c1, hc1⟩ : ∃ l, l = cur.toList.take (k * 3) ++ (xs.drop (k + 1)).flatMap cNd ++ cur.toList.drop (k * 3 + ((xs.drop (k + 1)).flatMap cNd).length) := ⟨_, rfl⟩
  obtain ⟨c2, hc2⟩ : ∃ l, l = c1.take (n * 3) ++ cNd zNd ++ c1.drop (n * 3 + (cNd zNd).length) := ⟨_, rfl⟩
  obtain ⟨l1, l2, t2⟩ := del_getNd htk hn hk (by rw [hcl]; exact Nat.mul_le_mul_right 3 hnc) c1 c2 hc1 hc2
  obtain ⟨W1, hW1⟩ : ∃ W1, W1 = w.drew.setRow g c1.toArray := ⟨_, rfl⟩
  obtain ⟨W2, hW2⟩ : ∃ W2, W2 = W1.setRow g c2.toArray := ⟨_, rfl⟩
  have hg1 : W1.heap[g]? = some (.cells c1.toArray 41 (0, 0)) := by rw [hW1]; exact setRow_heap w.drew g cur _ 41 (0, 0) hg
  have hap : ∀ ty (a : Addr) c m, m = n - k → (a = ⟨g, (k + 1) * 3, none⟩ ∨ k = n) → (Builtin.append_ #[29, 29] ty #[.slice (some ⟨g, 0, none⟩) k cap, .slice (some a) m c]).run Try.prog w.drew = .ok (.slice (some ⟨g, 0, none⟩) n cap) W1 := fun ty a c m hm ha => by
    subst hm
    have := run_append_room (P := Try.prog) w.drew 29 ty 41 i Try.underlying29 hi g k cap cur hg a (n - k) c ((xs.drop (k + 1)).flatMap cNd) (by rw [hdl, hsz]) (fun j u hu => by
      rcases ha with rfl | rfl
      · rw [Addr.add_lit]
        show w.cell? _ = _
        rw [cell_of_row w g _ cur 41 (0, 0) hg]
        have hj := (List.getElem?_eq_some_iff.1 hu).1
        rw [hdl] at hj
        rw [← flat_drop cNd 3 cNd_len, ← htk, List.getElem?_drop, List.getElem?_take_of_lt (by omega)] at hu
        simpa using hu
      · have hj := (List.getElem?_eq_some_iff.1 hu).1
        rw [hdl] at hj
        omega) (flat_one cNd_one _) (by omega) (by rw [hdl, hsz, hcs]; omega)
    rw [hsz, ← hc1, ← hW1, show k + (n - k) = n by omega] at this
    exact this
  have hcl1 : ∀ ty dc, (Builtin.clear_ #[29] ty #[.slice (some ⟨g, n * 3, none⟩) 1 dc]).run Try.prog W1 = .ok (.tuple #[]) W2 := fun ty dc => by
    have hst := run_storeCells_at Try.prog g (n * 3) 41 (cNd zNd) 0 c1.toArray W1 hg1 (by rw [cNd_len, List.size_toArray, l1, hcl]; omega) (cNd_one zNd)
    simp only [Nat.add_zero, List.toList_toArray] at hst
    rw [← hc2, ← hW2] at hst
    have hzc : (Builtin.zeroCells (Value.agg #[.int .i64 0, .bool false, .complex .f64 0 0]).cells 1).toList = cNd zNd := by kernel_rfl
    simp [Builtin.clear_, run_underlying Try.underlying29, zero41, hzc, hst]
  have hfin : W2.ownsRow base 41 3 (.slice (some ⟨g, 0, none⟩) n cap) n ((xs.eraseIdx k).flatMap cNd) ∧ w.grownBy W2 (some g) := by
    refine ⟨⟨?_, .inr ⟨g, cap, c2.toArray, rfl, hb, by rw [hW2]; exact setRow_heap W1 g _ _ 41 (0, 0) hg1, by omega, hcm, by rw [List.size_toArray, l2, hcl], by simpa using t2⟩⟩, ?_⟩
    · rw [flat_len cNd 3 cNd_len, List.length_eraseIdx_of_lt (by omega), hn]; rfl
    · rw [hW2, hW1]
      refine ⟨rfl, rfl, rfl, by simp [World.setRow], fun j hj hne => ?_⟩
      rw [setRow_other _ _ _ _ (fun e => hne (by rw [e])), setRow_other _ _ _ _ (fun e => hne (by rw [e]))]
      rfl
  have mixed : Try.prog.follows Departure.mixedOrders = true := by kernel_rfl
  have HAP := Lib.hid hap
  have HCL := Lib.hid hcl1
  have HF := Lib.hid hfin
  have hk0 : (0 : Int) ≤ (k : Int) := by omega
  have hk1 : (k : Int) ≤ (k : Int) + 1 := by omega
  have hk2 : (k : Int) + 1 ≤ (n : Int) + 1 := by omega
  have hk3 : (n : Int) + 1 ≤ (cap : Int) := by omega
  have hk4 : (k : Int) ≤ (cap : Int) := by omega
  have hk5 : (k : Int) ≤ (n : Int) := by omega
  have hne : ¬ ((k : Int) = (k : Int) + 1) := by omega
  have hcn : ¬ (cap = n) := by omega
  have hn0 : (0 : Int) ≤ (n : Int) := by omega
  have hn1 : (n : Int) ≤ (n : Int) + 1 := by omega
  have hbk : (0 : Int) ≤ (k : Int) + 1 := by omega
  have hbn : (0 : Int) ≤ (n : Int) + 1 := by omega
  have htk1 : ((k : Int) + 1).toNat = k + 1 := by omega
  have htn1 : ((n : Int) + 1).toNat = n + 1 := by omega
  have hcm' : (cap : Int) ≤ 9223372036854775807 := by unfold maxLen at hcm; omega
  clear hfin hcl1 hap hg1 l1 l2 t2 hc1 hc2 hdl hcl hcs htk hg hown hcm hi hz hsz hby hW2 hW1
  by_cases hck : cap = k + 1
  · have hkn : k = n := by omega
    subst hkn
    have HAP1 : Hid (∀ ty, (Builtin.append_ #[29, 29] ty #[.slice (some ⟨g, 0, none⟩) k (k + 1), .slice (some ⟨g, 0, none⟩) 0 0]).run Try.prog w.drew = .ok (.slice (some ⟨g, 0, none⟩) k (k + 1)) W1) := Lib.hid (fun ty => by
      have := HAP.out ty ⟨g, 0, none⟩ 0 0 (by omega) (.inr rfl)
      rw [hck] at this
      exact this)
    clear HAP
    go_enter Try.func63, Try.ntmps63
    go_wp2_with fail
    go_region_law_o (refine step_append_runI rfl _ _ 29 29 rfl (.slice (some ⟨g, 0, none⟩) k (k + 1)) (.slice (some ⟨g, 0, none⟩) 0 0) (by simp [Act.eval, Act.put]) (by simp [Act.eval, Act.put]) (HAP1.out _) ?_)
    go_wp2_with (simp only [HCL.out])
    go_ret
    exact ⟨by rw [hck]; rfl, HF.out.1, HF.out.2⟩
  · go_enter Try.func63, Try.ntmps63
    go_wp2_with fail
    go_region_law_o (refine step_append_runI rfl _ _ 29 29 rfl (.slice (some ⟨g, 0, none⟩) k cap) (.slice (some ⟨g, (k + 1) * 3, none⟩) (n + 1 - (k + 1)) (cap - (k + 1))) (by simp [Act.eval, Act.put]) (by simp [Act.eval, Act.put, hck]) (HAP.out _ _ _ _ (by omega) (.inl rfl)) ?_)
    go_wp2_with (simp only [HCL.out])
    go_ret
    exact ⟨rfl, HF.out.1, HF.out.2⟩
/-- one more -/
theorem snocNd {w : World} {B : Nat} {v : Value} {pre : List Nd} {x : Nd} (h : w.ownsRow B 41 3 v (pre.length + 1) (pre.flatMap cNd ++ cNd x)) : w.ownsRow B 41 3 v (pre ++ [x]).length ((pre ++ [x]).flatMap cNd) := by
  rw [List.length_append, List.flatMap_append, List.flatMap_cons, List.flatMap_nil, List.append_nil]
  exact h
theorem wpList_appNd {ops : Array Oper} {rest : List Oper} {o : Oper} {a : Act} {w : World} {Q : Exit → Act → World → Prop} (hgd : o.guard = none) (s x : Operand) (ho : o.op = .call { callee := .builtin .append, args := #[s, x], argTypes := #[29, 29] })
    (base g : Nat) (v : Value) (pre : List Nd) (r : Nd) (hs : a.eval s = v) (hx : a.eval x = .slice (some ⟨g, 0, none⟩) 1 1) (hown : w.ownsRow base 41 3 v pre.length (pre.flatMap cNd)) (hg : w.heap[g]? = some (.cells (cNd r).toArray 41 (0, 0))) (hl : pre.length ≤ 1172812402926) (hbase : base ≤ w.heap.size)
    (h : ∀ v' w', w'.ownsRow base 41 3 v' (pre ++ [r]).length ((pre ++ [r]).flatMap cNd) → w.grownBy w' v.ownBlock → wpList Try.prog ops Q rest (a.put o.dst v') w') : wpList Try.prog ops Q (o :: rest) a w := by
  obtain ⟨i, hi, hz, hsz, hby⟩ := info_parts info41
  exact wpList_append_own w hgd s x 29 ho base 41 i _ 3 32 Try.underlying29 hi hz hsz hby rfl (by omega) v pre.length (pre.flatMap cNd) hs hown ⟨g, 0, none⟩ 1 1 (cNd r) hx (by rw [cNd_len]) (news_heap hg) (cNd_one r) (by have := maxLen_ge; omega) (by omega) hbase (fun v' w' h1 h2 _ => h v' w' (snocNd h1) h2)
/-- append([]T(nil), xs...) -/
theorem run_spreadNd {w : World} (ty : TypeId) (xs : List Nd) (v : Value) (hs : Sl cNd 3 0 w v xs) (hl : xs.length ≤ 1172812402926) :
    ∃ v' w', (Builtin.append_ #[29, 29] ty #[.slice none 0 0, v]).run Try.prog w = .ok v' w' ∧ w'.ownsRow w.heap.size 41 3 v' xs.length (xs.flatMap cNd) ∧ w.grownBy w' none := by
  obtain ⟨i, hi, hz, hsz, hby⟩ := info_parts info41
  obtain ⟨A, c, rfl, hr, hA0, _⟩ := hs
  cases A with
  | some ad =>
    obtain ⟨v', w', h1, h2, h3, h4⟩ := run_append_own (P := Try.prog) w w.heap.size 29 ty 41 i _ 3 32 Try.underlying29 hi hz hsz hby rfl (by omega) (.slice none 0 0) 0 [] (World.ownsRow_nil _ _ _ _) ad xs.length c (xs.flatMap cNd) (flat_len _ 3 cNd_len xs) (news_rd cNd_len (by omega) hr) (flat_one cNd_one xs) (by have := maxLen_ge; omega) (by omega) (Nat.le_refl _)
    exact ⟨v', w', h1, by simpa using h2, h3⟩
  | none =>
    obtain rfl := hr.none
    obtain rfl := hA0 rfl
    exact ⟨.slice none 0 0, w, run_append_owned_none (P := Try.prog) w w.heap.size 29 ty 41 i 3 Try.underlying29 hi _ 0 [] (World.ownsRow_nil _ _ _ _), World.ownsRow_nil _ _ _ _, World.grownBy.refl _ _⟩
def zLk : Lk := ⟨0, 0, 0, 0⟩
/-- what an insertion in place leaves -/
theorem ins_getLk {cur : List Value} {xs : List Lk} {n k : Nat} {r : Lk} (h : cur.take (n * 4) = xs.flatMap cLk) (hn : xs.length = n) (hk : k ≤ n) (hc : (n + 1) * 4 ≤ cur.length) (cur1 cur2 : List Value)
    (h1 : cur1 = cur.take ((k + 1) * 4) ++ (xs.drop k).flatMap cLk ++ cur.drop ((k + 1) * 4 + ((xs.drop k).flatMap cLk).length)) (h2 : cur2 = cur1.take (k * 4) ++ cLk r ++ cur1.drop (k * 4 + (cLk r).length)) :
    cur1.length = cur.length ∧ cur2.length = cur.length ∧ cur2.take ((n + 1) * 4) = (xs.take k ++ r :: xs.drop k).flatMap cLk := by
  have hd : ((xs.drop k).flatMap cLk).length = (n - k) * 4 := by rw [flat_len cLk 4 cLk_len, List.length_drop, hn]
  have ht : ((xs.take k).flatMap cLk).length = k * 4 := by rw [flat_len cLk 4 cLk_len, List.length_take, hn, Nat.min_eq_left hk]
  have l1 : cur1.length = cur.length := by
    rw [h1, List.length_append, List.length_append, List.length_take, List.length_drop, hd]
    omega
  have e1 : cur1.take (k * 4) = (xs.take k).flatMap cLk := by
    rw [← flat_take cLk 4 cLk_len xs k, ← h, List.take_take, Nat.min_eq_left (by omega), h1, List.append_assoc, List.take_append_of_le_length (by rw [List.length_take]; omega), List.take_take, Nat.min_eq_left (by omega)]
  have e2 : ∃ R, cur1.drop (k * 4 + (cLk r).length) = (xs.drop k).flatMap cLk ++ R := by
    refine ⟨cur.drop ((k + 1) * 4 + ((xs.drop k).flatMap cLk).length), ?_⟩
    rw [h1, List.append_assoc, cLk_len, show k * 4 + 4 = (k + 1) * 4 by omega, List.drop_append_of_le_length (by rw [List.length_take]; omega), List.drop_of_length_le (by rw [List.length_take]; omega), List.nil_append]
  obtain ⟨R, e2⟩ := e2
  refine ⟨l1, ?_, ?_⟩
  · rw [h2, List.length_append, List.length_append, List.length_take, List.length_drop, cLk_len, l1]
    omega
  · have e3 : cur2 = ((xs.take k).flatMap cLk ++ cLk r ++ (xs.drop k).flatMap cLk) ++ R := by rw [h2, e1, e2]; simp only [List.append_assoc]
    rw [e3, List.take_left' (by simp only [List.length_append, ht, hd, cLk_len]; omega), List.flatMap_append, List.flatMap_cons, List.append_assoc]
set_option maxHeartbeats 4000000 in
set_option maxRecDepth 100000 in
theorem Insert_endLk (xs : List Lk) (r : Lk) (base n vb : Nat) (v : Value) (w : World) (hown : w.ownsRow base 43 4 v n (xs.flatMap cLk)) (hn : xs.length = n) (hvb : w.heap[vb]? = some (.cells (cLk r).toArray 43 (0, 0))) (hbase : base ≤ w.heap.size) (hl : n ≤ 1172812402926) :
    Calls Try.prog 108 #[v, .int .i64 (n : Int), .slice (some ⟨vb, 0, none⟩) 1 1] w fun e w' => ∃ v', e = .returned v' ∧ w'.ownsRow base 43 4 v' (n + 1) ((xs ++ [r]).flatMap cLk) ∧ w.grownBy w' v.ownBlock := by
  obtain ⟨i, hi, hz, hsz, hby⟩ := info_parts info43
  have hk0 : (0 : Int) ≤ (n : Int) := by omega
  have e1 : (xs ++ [r]).flatMap cLk = xs.flatMap cLk ++ cLk r := by simp
  have HA := fun (o : Oper) (rest : List Oper) (ops : Array Oper) (a : Act) (Q : Exit → Act → World → Prop) hgd s x ho hs hx h => wpList_append_own (P := Try.prog) (ops := ops) (rest := rest) (o := o) (a := a) (Q := Q) w hgd s x 30 ho base 43 i _ 4 32 Try.underlying30 hi hz hsz hby rfl (by omega) v n (xs.flatMap cLk) hs hown ⟨vb, 0, none⟩ 1 1 (cLk r) hx (by rw [cLk_len]) (news_heap hvb) (cLk_one r) (by have := maxLen_ge; omega) (by omega) hbase h
  have HH := Lib.hid HA
  have ho := Lib.hid hown
  rcases hown.2 with ⟨rfl, rfl⟩ | ⟨g, cap, cur, rfl, hb, hg, hnc, hcm, hcs, htk⟩
  · clear hown HA
    go_enter Try.func108, Try.ntmps108
    go_wp2_with (at_builtin; refine HH.out _ _ _ _ _ rfl _ _ rfl rfl rfl ?_; intro v' w' r1 r2 r3)
    all_goals go_ret
    all_goals exact ⟨v', rfl, r1, r2⟩
  · have hnci : (n : Int) ≤ (cap : Int) := by omega
    have hcm' : (cap : Int) ≤ 9223372036854775807 := by unfold maxLen at hcm; omega
    clear hown HA hg hcs htk
    go_enter Try.func108, Try.ntmps108
    go_wp2_with (at_builtin; refine HH.out _ _ _ _ _ rfl _ _ rfl rfl rfl ?_; intro v' w' r1 r2 r3)
    all_goals go_ret
    all_goals exact ⟨v', rfl, r1, r2⟩

set_option maxHeartbeats 4000000 in
set_option maxRecDepth 100000 in
theorem Insert_inLk (xs : List Lk) (r : Lk) (base n k vb g cap : Nat) (cur : Array Value) (w : World) (hb : base ≤ g) (hg : w.heap[g]? = some (.cells cur 43 (0, 0))) (hcm : cap ≤ maxLen) (hcs : cur.size = cap * 4) (htk : cur.toList.take (n * 4) = xs.flatMap cLk)
    (hn : xs.length = n) (hk : k < n) (hnc : n + 1 ≤ cap) (hvg : vb ≠ g) (hvb : w.heap[vb]? = some (.cells (cLk r).toArray 43 (0, 0))) (hbase : base ≤ w.heap.size) (hl : n ≤ 1172812402926) :
    Calls Try.prog 108 #[.slice (some ⟨g, 0, none⟩) n cap, .int .i64 (k : Int), .slice (some ⟨vb, 0, none⟩) 1 1] w fun e w' => ∃ v', e = .returned v' ∧ w'.ownsRow base 43 4 v' (n + 1) ((xs.take k ++ r :: xs.drop k).flatMap cLk) ∧ w.grownBy w' (some g) := by
  have hdl : ((xs.drop k).flatMap cLk).length = (n - k) * 4 := by rw [flat_len cLk 4 cLk_len, List.length_drop, hn]
  have hcl : cur.toList.length = cap * 4 := by rw [Array.length_toList]; exact hcs
  obtain ⟨c1, hc1⟩ : ∃ l, l = cur.toList.take ((k + 1) * 4) ++ (xs.drop k).flatMap cLk ++ cur.toList.drop ((k + 1) * 4 + ((xs.drop k).flatMap cLk).length) := ⟨_, rfl⟩
  obtain ⟨c2, hc2⟩ : ∃ l, l = c1.take (k * 4) ++ cLk r ++ c1.drop (k * 4 + (cLk r).length) := ⟨_, rfl⟩
  obtain ⟨l1, l2, t2⟩ := ins_getLk (r := r) htk hn (Nat.le_of_lt hk) (by rw [hcl]; exact Nat.mul_le_mul_right 4 hnc) c1 c2 hc1 hc2
  obtain ⟨W1, hW1⟩ : ∃ W1, W1 = w.drew.setRow g c1.toArray := ⟨_, rfl⟩
  obtain ⟨W2, hW2⟩ : ∃ W2, W2 = W1.setRow g c2.toArray := ⟨_, rfl⟩
  have hcp1 : ∀ ty dc sc, (Builtin.copy_ #[30, 30] ty #[.slice (some ⟨g, (k + 1) * 4, none⟩) (n + 1 - (k + 1)) dc, .slice (some ⟨g, k * 4, none⟩) (n + 1 - k) sc]).run Try.prog w.drew = .ok (goInt ((n - k : Nat) : Int)) W1 := fun ty dc sc => by
    have hm : Nat.min (n + 1 - k) (n + 1 - (k + 1)) = n - k := by simp only [Nat.min_def]; split <;> omega
    have := run_copy_own (P := Try.prog) w.drew 30 30 ty 43 4 g ((k + 1) * 4) (n + 1 - (k + 1)) dc ⟨g, k * 4, none⟩ (n + 1 - k) sc cur 43 ((xs.drop k).flatMap cLk) Try.underlying30 info43s hg (by rw [hdl, hm]) (fun j u hu => by
      rw [Addr.add_lit]
      show w.cell? _ = _
      rw [cell_of_row w g (k * 4 + j) cur 43 (0, 0) hg]
      have hj := (List.getElem?_eq_some_iff.1 hu).1
      rw [hdl] at hj
      rw [← flat_drop cLk 4 cLk_len, ← htk, List.getElem?_drop, List.getElem?_take_of_lt (by omega)] at hu
      simpa using hu) (by rw [hdl, hcs]; omega) (flat_one cLk_one _)
    rw [hm, ← hc1, ← hW1] at this
    exact this
  have hcp2 : ∀ ty dc, (Builtin.copy_ #[30, 30] ty #[.slice (some ⟨g, k * 4, none⟩) (n + 1 - k) dc, .slice (some ⟨vb, 0, none⟩) 1 1]).run Try.prog W1 = .ok (goInt ((1 : Nat) : Int)) W2 := fun ty dc => by
    have hm : Nat.min 1 (n + 1 - k) = 1 := by simp only [Nat.min_def]; split <;> omega
    have := run_copy_own (P := Try.prog) W1 30 30 ty 43 4 g (k * 4) (n + 1 - k) dc ⟨vb, 0, none⟩ 1 1 c1.toArray 43 (cLk r) Try.underlying30 info43s (by rw [hW1]; exact setRow_heap w.drew g cur _ 43 (0, 0) hg) (by rw [hm, cLk_len]) (fun j u hu => by
      rw [hW1]
      have := news_heap hvb j u (by simpa using hu)
      rw [Addr.add_lit] at this ⊢
      rw [cell_setRow_other _ _ _ _ hvg]
      exact this) (by rw [cLk_len, List.size_toArray, l1, hcl]; omega) (cLk_one r)
    rw [hm] at this
    simp only [List.toList_toArray] at this
    rw [← hc2, ← hW2] at this
    exact this
  have hov : ∀ lb cb, (callFunc 127 #[.slice (some ⟨vb, 0, none⟩) 1 1, .slice (some ⟨g, (k + 1) * 4, none⟩) lb cb]).run Try.prog w = .ok (.value (.bool false)) w := fun lb cb => by
    rw [run_callFunc_extern Try.func127 (by kernel_rfl) (by kernel_rfl) (by kernel_rfl) (e := Extern.SlicesOverlaps.overlaps #[30, 30] #[4]) (by kernel_rfl),
      Lib.run_overlaps_apart w 30 4 43 Try.underlying30 4 size43 ⟨vb, 0, none⟩ ⟨g, (k + 1) * 4, none⟩ 1 1 lb cb hvg 43 43 4 cur.size (by simp [World.shape?, hvb, cLk_len]) (by simp [World.shape?, hg]) (by rw [hcs]; omega) (by simp [World.frozen?, hvb]) (by simp [World.frozen?, hvb])]
    rfl
  have hfin : W2.ownsRow base 43 4 (.slice (some ⟨g, 0, none⟩) (n + 1) cap) (n + 1) ((xs.take k ++ r :: xs.drop k).flatMap cLk) ∧ w.grownBy W2 (some g) := by
    have hg1 : W1.heap[g]? = some (.cells c1.toArray 43 (0, 0)) := by rw [hW1]; exact setRow_heap w.drew g cur _ 43 (0, 0) hg
    refine ⟨⟨?_, .inr ⟨g, cap, c2.toArray, rfl, hb, by rw [hW2]; exact setRow_heap W1 g _ _ 43 (0, 0) hg1, hnc, hcm, by rw [List.size_toArray, l2, hcl], by simpa using t2⟩⟩, ?_⟩
    · rw [flat_len cLk 4 cLk_len, List.length_append, List.length_cons, List.length_take, List.length_drop, hn]; congr 1; omega
    · rw [hW2, hW1]
      refine ⟨rfl, rfl, rfl, by simp, fun j hj hne => ?_⟩
      rw [setRow_other _ _ _ _ (fun e => hne (by rw [e])), setRow_other _ _ _ _ (fun e => hne (by rw [e]))]
      rfl
  have mixed : Try.prog.follows Departure.mixedOrders = true := by kernel_rfl
  have HCP := Lib.hid (And.intro hcp1 hcp2)
  have HOV := Lib.hid hov
  have HF := Lib.hid hfin
  have hz1 : ¬ ((1 : Int) = 0) := by omega
  have hz2 : ¬ ((k : Int) = (n : Int)) := by omega
  have hk0 : (0 : Int) ≤ (k : Int) := by omega
  have hk1 : (k : Int) ≤ (n : Int) := by omega
  have hk2 : (n : Int) + 1 ≤ (cap : Int) := by omega
  have hb2 : ¬ (cap = k + 1) := by omega
  have hb3 : (k : Int) + 1 ≤ (n : Int) + 1 := by omega
  have hb5 : (k : Int) ≤ (n : Int) + 1 := by omega
  have hb4 : ¬ (cap = k) := by omega
  have hbn : (0 : Int) ≤ (n : Int) + 1 := by omega
  have hbk : (0 : Int) ≤ (k : Int) + 1 := by omega
  have htn : ((n : Int) + 1).toNat = n + 1 := by omega
  have htk1 : ((k : Int) + 1).toNat = k + 1 := by omega
  have hw1 : IntKind.i64.wrap ((k : Int) + 1) = (k : Int) + 1 := by rw [IntKind.wrap_i64]; omega
  have hw2 : IntKind.i64.wrap ((n : Int) + 1) = (n : Int) + 1 := by rw [IntKind.wrap_i64]; omega
  have hcm' : (cap : Int) ≤ 9223372036854775807 := by unfold maxLen at hcm; omega
  clear hfin hov hcp1 hcp2 hdl hcl l1 l2 t2 hc1 hc2 hg hcs htk hvb hcm hW2 hW1
  go_enter Try.func108, Try.ntmps108
  go_wp2_with (simp only [HOV.out])
  go_region_law_o (refine step_copy_runI rfl _ _ 30 30 rfl (.slice (some ⟨g, (k + 1) * 4, none⟩) (n + 1 - (k + 1)) (cap - (k + 1))) (.slice (some ⟨g, k * 4, none⟩) (n + 1 - k) (cap - k)) (by simp [Act.eval, Act.put]) (by simp [Act.eval, Act.put]) (HCP.out.1 _ _ _) ?_)
  go_wp2_with (simp only [HCP.out.2])
  go_ret
  exact ⟨_, rfl, HF.out.1, HF.out.2⟩

/-- what an insertion into a new row leaves -/
theorem ins_newLk {row : List Value} {xs : List Lk} {n k : Nat} {r : Lk} (h : row.take (k * 4) = (xs.take k).flatMap cLk) (hn : xs.length = n) (hk : k ≤ n) (hc : (n + 1) * 4 ≤ row.length) (c1 c2 : List Value)
    (h1 : c1 = row.take (k * 4) ++ cLk r ++ row.drop (k * 4 + (cLk r).length)) (h2 : c2 = c1.take ((k + 1) * 4) ++ (xs.drop k).flatMap cLk ++ c1.drop ((k + 1) * 4 + ((xs.drop k).flatMap cLk).length)) :
    c1.length = row.length ∧ c2.length = row.length ∧ c2.take ((n + 1) * 4) = (xs.take k ++ r :: xs.drop k).flatMap cLk := by
  have hd : ((xs.drop k).flatMap cLk).length = (n - k) * 4 := by rw [flat_len cLk 4 cLk_len, List.length_drop, hn]
  have ht : ((xs.take k).flatMap cLk).length = k * 4 := by rw [flat_len cLk 4 cLk_len, List.length_take, hn, Nat.min_eq_left hk]
  have l1 : c1.length = row.length := by
    rw [h1, List.length_append, List.length_append, List.length_take, List.length_drop, cLk_len]
    omega
  have e1 : c1.take ((k + 1) * 4) = (xs.take k).flatMap cLk ++ cLk r := by
    rw [h1, h, List.take_left' (by rw [List.length_append, ht, cLk_len]; omega)]
  refine ⟨l1, ?_, ?_⟩
  · rw [h2, List.length_append, List.length_append, List.length_take, List.length_drop, hd, l1]
    omega
  · rw [h2, e1, List.take_left' (by simp only [List.length_append, ht, hd, cLk_len]; omega), List.flatMap_append, List.flatMap_cons, List.append_assoc]

set_option maxHeartbeats 4000000 in
set_option maxRecDepth 100000 in
theorem Insert_growLk (xs : List Lk) (r : Lk) (base n k vb g cap : Nat) (cur : Array Value) (w : World) (hg : w.heap[g]? = some (.cells cur 43 (0, 0))) (htk : cur.toList.take (n * 4) = xs.flatMap cLk)
    (hn : xs.length = n) (hk : k < n) (hnc : n ≤ cap) (hroom : cap < n + 1) (hvb : w.heap[vb]? = some (.cells (cLk r).toArray 43 (0, 0))) (hbase : base ≤ w.heap.size) (hl : n ≤ 1172812402926) :
    Calls Try.prog 108 #[.slice (some ⟨g, 0, none⟩) n cap, .int .i64 (k : Int), .slice (some ⟨vb, 0, none⟩) 1 1] w fun e w' => ∃ v', e = .returned v' ∧ w'.ownsRow base 43 4 v' (n + 1) ((xs.take k ++ r :: xs.drop k).flatMap cLk) ∧ w.grownBy w' (some g) := by
  obtain ⟨i, hi, hz, hsz, hby⟩ := info_parts info43
  have hgl : g < w.heap.size := (Array.getElem?_eq_some_iff.1 hg).1
  have hvl : vb < w.heap.size := (Array.getElem?_eq_some_iff.1 hvb).1
  have hdl : ((xs.drop k).flatMap cLk).length = (n - k) * 4 := by rw [flat_len cLk 4 cLk_len, List.length_drop, hn]
  have htl : ((xs.take k).flatMap cLk).length = k * 4 := by rw [flat_len cLk 4 cLk_len, List.length_take, hn, Nat.min_eq_left (Nat.le_of_lt hk)]
  have hcell : ∀ j u, (xs.flatMap cLk)[j]? = some u → w.cell? ⟨g, j, none⟩ = some u := fun j u hu => by
    rw [cell_of_row w g j cur 43 (0, 0) hg]
    have hj := (List.getElem?_eq_some_iff.1 hu).1
    rw [flat_len cLk 4 cLk_len, hn] at hj
    rw [← htk, List.getElem?_take_of_lt hj] at hu
    simpa using hu
  have hold : (Builtin.firstCells i.size k (.slice (some ⟨g, 0, none⟩) k cap)).run Try.prog w.drew = .ok ((xs.take k).flatMap cLk).toArray w.drew :=
    run_firstCells_some w.drew i.size k ⟨g, 0, none⟩ k cap ((xs.take k).flatMap cLk) (by rw [htl, hsz]) (fun j u hu => by
      rw [Addr.add_lit, Nat.zero_add]
      refine hcell j u ?_
      rw [← flat_take cLk 4 cLk_len] at hu
      rw [List.getElem?_take] at hu
      split at hu
      · exact hu
      · cases hu)
  have hkk : (n : Int) + 1 - (k : Int) = ((n + 1 - k : Nat) : Int) := by omega
  have hik : k + (n + 1 - k) = n + 1 := by omega
  obtain ⟨G, hG⟩ : ∃ G, G = grownCap w (n + 1) cap 43 := ⟨_, rfl⟩
  have hGn : n + 1 ≤ G := by rw [hG]; exact grownCap_ge w _ _ _
  have hGm : G ≤ maxLen := by rw [hG]; exact grownCap_le_maxLen w (n + 1) cap 43 (by have := maxLen_ge; omega)
  obtain ⟨ROW, hROW⟩ : ∃ ROW : Array Value, ROW = ((xs.take k).flatMap cLk).toArray ++ Builtin.zeroCells (Value.agg #[.int .i64 0, .int .i64 0, .int .i64 0, .int .i64 0]).cells (n + 1 - k) ++ Builtin.zeroCells (Value.agg #[.int .i64 0, .int .i64 0, .int .i64 0, .int .i64 0]).cells (G - (n + 1)) := ⟨_, rfl⟩
  obtain ⟨W1, hW1⟩ : ∃ W1, W1 = w.drew.alloc (.cells ROW 43) := ⟨_, rfl⟩
  have hrz : ∀ ty, (Builtin.append_ #[30, 3] ty #[.slice (some ⟨g, 0, none⟩) k cap, .int .i64 ((n : Int) + 1 - (k : Int))]).run Try.prog w = .ok (.slice (some ⟨w.heap.size, 0, none⟩) (n + 1) G) W1 := fun ty => by
    have h := Lib.run_append_grow_zeros w 30 3 ty 43 i _ .i64 .i64 Try.underlying30 Try.underlying3 hi hz (some ⟨g, 0, none⟩) k cap ((xs.take k).flatMap cLk) hold (n + 1 - k) (by omega) (by omega) (by omega) (by omega) (by rw [hby]; omega) (by rw [hby, hik]; exact growslice_fits hroom (by omega))
    rw [hik, ← hG, ← hROW, ← hW1] at h
    rw [hkk]
    exact h
  have hRs : ROW.size = G * 4 := by
    rw [hROW, Array.size_append, Array.size_append, size_zeroCells, size_zeroCells, List.size_toArray, htl]
    show k * 4 + (n + 1 - k) * 4 + (G - (n + 1)) * 4 = G * 4
    omega
  have hRl : ROW.toList.length = G * 4 := by rw [Array.length_toList]; exact hRs
  have hRt : ROW.toList.take (k * 4) = (xs.take k).flatMap cLk := by
    rw [hROW]
    simp only [Array.toList_append, List.append_assoc]
    exact List.take_left' htl
  obtain ⟨c1, hc1⟩ : ∃ l, l = ROW.toList.take (k * 4) ++ cLk r ++ ROW.toList.drop (k * 4 + (cLk r).length) := ⟨_, rfl⟩
  obtain ⟨c2, hc2⟩ : ∃ l, l = c1.take ((k + 1) * 4) ++ (xs.drop k).flatMap cLk ++ c1.drop ((k + 1) * 4 + ((xs.drop k).flatMap cLk).length) := ⟨_, rfl⟩
  obtain ⟨l1, l2, t2⟩ := ins_newLk (r := r) hRt hn (Nat.le_of_lt hk) (by rw [hRl]; exact Nat.mul_le_mul_right 4 hGn) c1 c2 hc1 hc2
  obtain ⟨W2, hW2⟩ : ∃ W2, W2 = W1.setRow w.heap.size c1.toArray := ⟨_, rfl⟩
  obtain ⟨W3, hW3⟩ : ∃ W3, W3 = W2.drew.setRow w.heap.size c2.toArray := ⟨_, rfl⟩
  have hH1 : W1.heap[w.heap.size]? = some (.cells ROW 43 (0, 0)) := by rw [hW1]; exact heap_alloc_new w.drew _
  have hH2 : W2.heap[w.heap.size]? = some (.cells c1.toArray 43 (0, 0)) := by rw [hW2]; exact setRow_heap W1 _ ROW _ 43 (0, 0) hH1
  have hold1 : ∀ j, j < w.heap.size → W1.heap[j]? = w.heap[j]? := fun j hj => by rw [hW1]; exact heap_alloc_old w.drew _ hj
  have hold2 : ∀ j, j < w.heap.size → W2.heap[j]? = w.heap[j]? := fun j hj => by rw [hW2, setRow_other _ _ _ _ (by omega)]; exact hold1 j hj
  have hcp1 : ∀ ty dc, (Builtin.copy_ #[30, 30] ty #[.slice (some ⟨w.heap.size, k * 4, none⟩) (n + 1 - k) dc, .slice (some ⟨vb, 0, none⟩) 1 1]).run Try.prog W1 = .ok (goInt ((1 : Nat) : Int)) W2 := fun ty dc => by
    have hm : Nat.min 1 (n + 1 - k) = 1 := by simp only [Nat.min_def]; split <;> omega
    have := run_copy_own (P := Try.prog) W1 30 30 ty 43 4 w.heap.size (k * 4) (n + 1 - k) dc ⟨vb, 0, none⟩ 1 1 ROW 43 (cLk r) Try.underlying30 info43s hH1 (by rw [hm, cLk_len]) (fun j u hu => by
      have := news_heap hvb j u (by simpa using hu)
      rw [Addr.add_lit] at this ⊢
      exact (World.cell?_of_block (hold1 vb hvl)).trans this) (by rw [cLk_len, hRs]; omega) (cLk_one r)
    rw [hm, ← hc1, ← hW2] at this
    exact this
  have hcp2 : ∀ ty dc sc, (Builtin.copy_ #[30, 30] ty #[.slice (some ⟨w.heap.size, (k + 1) * 4, none⟩) (n + 1 - (k + 1)) dc, .slice (some ⟨g, k * 4, none⟩) (n - k) sc]).run Try.prog W2.drew = .ok (goInt ((n - k : Nat) : Int)) W3 := fun ty dc sc => by
    have hm : Nat.min (n - k) (n + 1 - (k + 1)) = n - k := by simp only [Nat.min_def]; split <;> omega
    have := run_copy_own (P := Try.prog) W2.drew 30 30 ty 43 4 w.heap.size ((k + 1) * 4) (n + 1 - (k + 1)) dc ⟨g, k * 4, none⟩ (n - k) sc c1.toArray 43 ((xs.drop k).flatMap cLk) Try.underlying30 info43s hH2 (by rw [hdl, hm]) (fun j u hu => by
      rw [Addr.add_lit]
      show W2.cell? _ = _
      refine (World.cell?_of_block (hold2 g hgl)).trans (hcell _ u ?_)
      rw [← flat_drop cLk 4 cLk_len, List.getElem?_drop] at hu
      exact hu) (by rw [hdl, List.size_toArray, l1, hRl]; omega) (flat_one cLk_one _)
    rw [hm] at this
    simp only [List.toList_toArray] at this
    rw [← hc2, ← hW3] at this
    exact this
  have hfin : W3.ownsRow base 43 4 (.slice (some ⟨w.heap.size, 0, none⟩) (n + 1) G) (n + 1) ((xs.take k ++ r :: xs.drop k).flatMap cLk) ∧ w.grownBy W3 (some g) := by
    refine ⟨⟨?_, .inr ⟨w.heap.size, G, c2.toArray, rfl, hbase, by rw [hW3]; exact setRow_heap W2.drew _ _ _ 43 (0, 0) hH2, hGn, hGm, by rw [List.size_toArray, l2, hRl], by simpa using t2⟩⟩, ?_⟩
    · rw [flat_len cLk 4 cLk_len, List.length_append, List.length_cons, List.length_take, List.length_drop, hn]; congr 1; omega
    · refine ⟨?_, ?_, ?_, ?_, fun j hj hne => ?_⟩
      · rw [hW3, hW2, hW1]; rfl
      · rw [hW3, hW2, hW1]; rfl
      · rw [hW3, hW2, hW1]; rfl
      · rw [hW3, hW2, hW1]; simp [World.setRow]
      · rw [hW3, setRow_other _ _ _ _ (by omega)]
        exact hold2 j hj
  have mixed : Try.prog.follows Departure.mixedOrders = true := by kernel_rfl
  have HCP := Lib.hid (And.intro hcp1 hcp2)
  have HRZ := Lib.hid hrz
  have HF := Lib.hid hfin
  have hz1 : ¬ ((1 : Int) = 0) := by omega
  have hz2 : ¬ ((k : Int) = (n : Int)) := by omega
  have hz3 : (cap : Int) < (n : Int) + 1 := by omega
  have hk0 : (0 : Int) ≤ (k : Int) := by omega
  have hk1 : (k : Int) ≤ (n : Int) := by omega
  have hk2 : (k : Int) ≤ (cap : Int) := by omega
  have hk3 : (k : Int) ≤ (n : Int) + 1 := by omega
  have hk4 : (k : Int) + 1 ≤ (n : Int) + 1 := by omega
  have hbk : (0 : Int) ≤ (k : Int) + 1 := by omega
  have hGi : ¬ (G = k) := by omega
  have hGi1 : ¬ (G = k + 1) := by omega
  have hci : ¬ (cap = k) := by omega
  have htk1 : ((k : Int) + 1).toNat = k + 1 := by omega
  have hw1 : IntKind.i64.wrap ((k : Int) + 1) = (k : Int) + 1 := by rw [IntKind.wrap_i64]; omega
  have hw2 : IntKind.i64.wrap ((n : Int) + 1) = (n : Int) + 1 := by rw [IntKind.wrap_i64]; omega
  have hw3 : IntKind.i64.wrap ((n : Int) + 1 - (k : Int)) = (n : Int) + 1 - (k : Int) := by rw [IntKind.wrap_i64]; omega
  have hGm' : (G : Int) ≤ 9223372036854775807 := by unfold maxLen at hGm; omega
  have hGn' : (n : Int) + 1 ≤ (G : Int) := by omega
  have hcm' : (cap : Int) ≤ 9223372036854775807 := by omega
  obtain ⟨H, hH⟩ : ∃ H, H = w.heap.size := ⟨_, rfl⟩
  rw [← hH] at HCP HRZ HF
  clear hH hfin hrz hcp1 hcp2 hold2 hold1 hH2 hH1 l1 l2 t2 hc1 hc2 hRt hRl hRs hROW hGm hG hold hcell hdl htl hg htk hvb hi hz hsz hby hW3 hW2 hW1 hkk hik hgl hvl
  go_enter Try.func108, Try.ntmps108
  go_wp2_with (at_builtin; refine Lib.wpList_append_run _ rfl _ _ 30 3 rfl _ _ rfl rfl _ _ (HRZ.out _) ?_)
  go_wp2_with (simp only [HCP.out.1])
  go_region_law_o (refine step_copy_runI rfl _ _ 30 30 rfl (.slice (some ⟨H, (k + 1) * 4, none⟩) (n + 1 - (k + 1)) (G - (k + 1))) (.slice (some ⟨g, k * 4, none⟩) (n - k) (cap - k)) (by simp [Act.eval, Act.put]) (by simp [Act.eval, Act.put]) (HCP.out.2 _ _ _) ?_)
  go_wp2_with fail
  go_ret
  exact ⟨_, rfl, HF.out.1, HF.out.2⟩
theorem Insert_okLk (xs : List Lk) (r : Lk) (base n k vb : Nat) (v : Value) (w : World) (hown : w.ownsRow base 43 4 v n (xs.flatMap cLk)) (hn : xs.length = n) (hk : k ≤ n) (hvb : w.heap[vb]? = some (.cells (cLk r).toArray 43 (0, 0))) (hne : v.ownBlock ≠ some vb) (hbase : base ≤ w.heap.size) (hl : n ≤ 1172812402926) :
    Calls Try.prog 108 #[v, .int .i64 (k : Int), .slice (some ⟨vb, 0, none⟩) 1 1] w fun e w' => ∃ v', e = .returned v' ∧ w'.ownsRow base 43 4 v' (n + 1) ((xs.take k ++ r :: xs.drop k).flatMap cLk) ∧ w.grownBy w' v.ownBlock := by
  by_cases hkn : k = n
  · subst hkn
    have h := Insert_endLk xs r base k vb v w hown hn hvb hbase hl
    rw [List.take_of_length_le (by omega), List.drop_of_length_le (by omega)]
    exact h
  · rcases hown.2 with ⟨rfl, rfl⟩ | ⟨g, cap, cur, rfl, hb, hg, hnc, hcm, hcs, htk⟩
    · exact absurd (by omega) hkn
    · have hvg : vb ≠ g := fun e => hne (by rw [e]; rfl)
      by_cases hroom : n + 1 ≤ cap
      · exact Insert_inLk xs r base n k vb g cap cur w hb hg hcm hcs htk hn (by omega) hroom hvg hvb hbase hl
      · exact Insert_growLk xs r base n k vb g cap cur w hg htk hn (by omega) hnc (by omega) hvb hbase hl

/-- what a deletion leaves -/
theorem del_getLk {cur : List Value} {xs : List Lk} {n k : Nat} (h : cur.take ((n + 1) * 4) = xs.flatMap cLk) (hn : xs.length = n + 1) (hk : k ≤ n) (hc : (n + 1) * 4 ≤ cur.length) (c1 c2 : List Value)
    (h1 : c1 = cur.take (k * 4) ++ (xs.drop (k + 1)).flatMap cLk ++ cur.drop (k * 4 + ((xs.drop (k + 1)).flatMap cLk).length)) (h2 : c2 = c1.take (n * 4) ++ cLk zLk ++ c1.drop (n * 4 + (cLk zLk).length)) :
    c1.length = cur.length ∧ c2.length = cur.length ∧ c2.take (n * 4) = (xs.eraseIdx k).flatMap cLk := by
  have hd : ((xs.drop (k + 1)).flatMap cLk).length = (n - k) * 4 := by rw [flat_len cLk 4 cLk_len, List.length_drop, hn]; congr 1; omega
  have ht : ((xs.take k).flatMap cLk).length = k * 4 := by rw [flat_len cLk 4 cLk_len, List.length_take, hn, Nat.min_eq_left (by omega)]
  have l1 : c1.length = cur.length := by
    rw [h1, List.length_append, List.length_append, List.length_take, List.length_drop, hd]
    omega
  have e0 : cur.take (k * 4) = (xs.take k).flatMap cLk := by rw [← flat_take cLk 4 cLk_len xs k, ← h, List.take_take, Nat.min_eq_left (by omega)]
  have e1 : c1.take (n * 4) = (xs.eraseIdx k).flatMap cLk := by
    rw [h1, e0, List.take_left' (by rw [List.length_append, ht, hd]; omega), List.eraseIdx_eq_take_drop_succ, List.flatMap_append]
  refine ⟨l1, ?_, ?_⟩
  · rw [h2, List.length_append, List.length_append, List.length_take, List.length_drop, cLk_len, l1]
    omega
  · rw [h2, ← e1, List.append_assoc, List.take_left' (by rw [List.length_take]; omega)]

set_option maxHeartbeats 4000000 in
set_option maxRecDepth 100000 in
theorem Delete_okLk (xs : List Lk) (base n k g cap : Nat) (w : World) (hown : w.ownsRow base 43 4 (.slice (some ⟨g, 0, none⟩) (n + 1) cap) (n + 1) (xs.flatMap cLk)) (hn : xs.length = n + 1) (hk : k ≤ n) (hl : n ≤ 1172812402926) :
    Calls Try.prog 109 #[.slice (some ⟨g, 0, none⟩) (n + 1) cap, .int .i64 (k : Int), .int .i64 ((k : Int) + 1)] w fun e w' => e = .returned (.slice (some ⟨g, 0, none⟩) n cap) ∧ w'.ownsRow base 43 4 (.slice (some ⟨g, 0, none⟩) n cap) n ((xs.eraseIdx k).flatMap cLk) ∧ w.grownBy w' (some g) := by
  obtain ⟨i, hi, hz, hsz, hby⟩ := info_parts info43
  rcases hown.2 with ⟨h0, _⟩ | ⟨g', cap', cur, hv, hb, hg, hnc, hcm, hcs, htk⟩
  · cases h0
  cases hv
  have hdl : ((xs.drop (k + 1)).flatMap cLk).length = (n - k) * 4 := by rw [flat_len cLk 4 cLk_len, List.length_drop, hn]; congr 1; omega
  have hcl : cur.toList.length = cap * 4 := by rw [Array.length_toList]; exact hcs
  obtain ⟨c1, hc1⟩ : ∃ l, l = cur.toList.take (k * 4) ++ (xs.drop (k + 1)).flatMap cLk ++ cur.toList.drop (k * 4 + ((xs.drop (k + 1)).flatMap cLk).length) := ⟨_, rfl⟩
  obtain ⟨c2, hc2⟩ : ∃ l, l = c1.take (n * 4) ++ cLk zLk ++ c1.drop (n * 4 + (cLk zLk).length) := ⟨_, rfl⟩
  obtain ⟨l1, l2, t2⟩ := del_getLk htk hn hk (by rw [hcl]; exact Nat.mul_le_mul_right 4 hnc) c1 c2 hc1 hc2
  obtain ⟨W1, hW1⟩ : ∃ W1, W1 = w.drew.setRow g c1.toArray := ⟨_, rfl⟩
  obtain ⟨W2, hW2⟩ : ∃ W2, W2 = W1.setRow g c2.toArray := ⟨_, rfl⟩
  have hg1 : W1.heap[g]? = some (.cells c1.toArray 43 (0, 0)) := by rw [hW1]; exact setRow_heap w.drew g cur _ 43 (0, 0) hg
  have hap : ∀ ty (a : Addr) c m, m = n - k → (a = ⟨g, (k + 1) * 4, none⟩ ∨ k = n) → (Builtin.append_ #[30, 30] ty #[.slice (some ⟨g, 0, none⟩) k cap, .slice (some a) m c]).run Try.prog w.drew = .ok (.slice (some ⟨g, 0, none⟩) n cap) W1 := fun ty a c m hm ha => by
    subst hm
    have := run_append_room (P := Try.prog) w.drew 30 ty 43 i Try.underlying30 hi g k cap cur hg a (n - k) c ((xs.drop (k + 1)).flatMap cLk) (by rw [hdl, hsz]) (fun j u hu => by
      rcases ha with rfl | rfl
      · rw [Addr.add_lit]
        show w.cell? _ = _
        rw [cell_of_row w g _ cur 43 (0, 0) hg]
        have hj := (List.getElem?_eq_some_iff.1 hu).1
        rw [hdl] at hj
        rw [← flat_drop cLk 4 cLk_len, ← htk, List.getElem?_drop, List.getElem?_take_of_lt (by omega)] at hu
        simpa using hu
      · have hj := (List.getElem?_eq_some_iff.1 hu).1
        rw [hdl] at hj
        omega) (flat_one cLk_one _) (by omega) (by rw [hdl, hsz, hcs]; omega)
    rw [hsz, ← hc1, ← hW1, show k + (n - k) = n by omega] at this
    exact this
  have hcl1 : ∀ ty dc, (Builtin.clear_ #[30] ty #[.slice (some ⟨g, n * 4, none⟩) 1 dc]).run Try.prog W1 = .ok (.tuple #[]) W2 := fun ty dc => by
    have hst := run_storeCells_at Try.prog g (n * 4) 43 (cLk zLk) 0 c1.toArray W1 hg1 (by rw [cLk_len, List.size_toArray, l1, hcl]; omega) (cLk_one zLk)
    simp only [Nat.add_zero, List.toList_toArray] at hst
    rw [← hc2, ← hW2] at hst
    have hzc : (Builtin.zeroCells (Value.agg #[.int .i64 0, .int .i64 0, .int .i64 0, .int .i64 0]).cells 1).toList = cLk zLk := by kernel_rfl
    simp [Builtin.clear_, run_underlying Try.underlying30, zero43, hzc, hst]
  have hfin : W2.ownsRow base 43 4 (.slice (some ⟨g, 0, none⟩) n cap) n ((xs.eraseIdx k).flatMap cLk) ∧ w.grownBy W2 (some g) := by
    refine ⟨⟨?_, .inr ⟨g, cap, c2.toArray, rfl, hb, by rw [hW2]; exact setRow_heap W1 g _ _ 43 (0, 0) hg1, by omega, hcm, by rw [List.size_toArray, l2, hcl], by simpa using t2⟩⟩, ?_⟩
    · rw [flat_len cLk 4 cLk_len, List.length_eraseIdx_of_lt (by omega), hn]; rfl
    · rw [hW2, hW1]
      refine ⟨rfl, rfl, rfl, by simp [World.setRow], fun j hj hne => ?_⟩
      rw [setRow_other _ _ _ _ (fun e => hne (by rw [e])), setRow_other _ _ _ _ (fun e => hne (by rw [e]))]
      rfl
  have mixed : Try.prog.follows Departure.mixedOrders = true := by kernel_rfl
  have HAP := Lib.hid hap
  have HCL := Lib.hid hcl1
  have HF := Lib.hid hfin
  have hk0 : (0 : Int) ≤ (k : Int) := by omega
  have hk1 : (k : Int) ≤ (k : Int) + 1 := by omega
  have hk2 : (k : Int) + 1 ≤ (n : Int) + 1 := by omega
  have hk3 : (n : Int) + 1 ≤ (cap : Int) := by omega
  have hk4 : (k : Int) ≤ (cap : Int) := by omega
  have hk5 : (k : Int) ≤ (n : Int) := by omega
  have hne : ¬ ((k : Int) = (k : Int) + 1) := by omega
  have hcn : ¬ (cap = n) := by omega
  have hn0 : (0 : Int) ≤ (n : Int) := by omega
  have hn1 : (n : Int) ≤ (n : Int) + 1 := by omega
  have hbk : (0 : Int) ≤ (k : Int) + 1 := by omega
  have hbn : (0 : Int) ≤ (n : Int) + 1 := by omega
  have htk1 : ((k : Int) + 1).toNat = k + 1 := by omega
  have htn1 : ((n : Int) + 1).toNat = n + 1 := by omega
  have hcm' : (cap : Int) ≤ 9223372036854775807 := by unfold maxLen at hcm; omega
  clear hfin hcl1 hap hg1 l1 l2 t2 hc1 hc2 hdl hcl hcs htk hg hown hcm hi hz hsz hby hW2 hW1
  by_cases hck : cap = k + 1
  · have hkn : k = n := by omega
    subst hkn
    have HAP1 : Hid (∀ ty, (Builtin.append_ #[30, 30] ty #[.slice (some ⟨g, 0, none⟩) k (k + 1), .slice (some ⟨g, 0, none⟩) 0 0]).run Try.prog w.drew = .ok (.slice (some ⟨g, 0, none⟩) k (k + 1)) W1) := Lib.hid (fun ty => by
      have := HAP.out ty ⟨g, 0, none⟩ 0 0 (by omega) (.inr rfl)
      rw [hck] at this
      exact this)
    clear HAP
    go_enter Try.func109, Try.ntmps109
    go_wp2_with fail
    go_region_law_o (refine step_append_runI rfl _ _ 30 30 rfl (.slice (some ⟨g, 0, none⟩) k (k + 1)) (.slice (some ⟨g, 0, none⟩) 0 0) (by simp [Act.eval, Act.put]) (by simp [Act.eval, Act.put]) (HAP1.out _) ?_)
    go_wp2_with (simp only [HCL.out])
    go_ret
    exact ⟨by rw [hck]; rfl, HF.out.1, HF.out.2⟩
  · go_enter Try.func109, Try.ntmps109
    go_wp2_with fail
    go_region_law_o (refine step_append_runI rfl _ _ 30 30 rfl (.slice (some ⟨g, 0, none⟩) k cap) (.slice (some ⟨g, (k + 1) * 4, none⟩) (n + 1 - (k + 1)) (cap - (k + 1))) (by simp [Act.eval, Act.put]) (by simp [Act.eval, Act.put, hck]) (HAP.out _ _ _ _ (by omega) (.inl rfl)) ?_)
    go_wp2_with (simp only [HCL.out])
    go_ret
    exact ⟨rfl, HF.out.1, HF.out.2⟩
/-- one more -/
theorem snocLk {w : World} {B : Nat} {v : Value} {pre : List Lk} {x : Lk} (h : w.ownsRow B 43 4 v (pre.length + 1) (pre.flatMap cLk ++ cLk x)) : w.ownsRow B 43 4 v (pre ++ [x]).length ((pre ++ [x]).flatMap cLk) := by
  rw [List.length_append, List.flatMap_append, List.flatMap_cons, List.flatMap_nil, List.append_nil]
  exact h
theorem wpList_appLk {ops : Array Oper} {rest : List Oper} {o : Oper} {a : Act} {w : World} {Q : Exit → Act → World → Prop} (hgd : o.guard = none) (s x : Operand) (ho : o.op = .call { callee := .builtin .append, args := #[s, x], argTypes := #[30, 30] })
    (base g : Nat) (v : Value) (pre : List Lk) (r : Lk) (hs : a.eval s = v) (hx : a.eval x = .slice (some ⟨g, 0, none⟩) 1 1) (hown : w.ownsRow base 43 4 v pre.length (pre.flatMap cLk)) (hg : w.heap[g]? = some (.cells (cLk r).toArray 43 (0, 0))) (hl : pre.length ≤ 1172812402926) (hbase : base ≤ w.heap.size)
    (h : ∀ v' w', w'.ownsRow base 43 4 v' (pre ++ [r]).length ((pre ++ [r]).flatMap cLk) → w.grownBy w' v.ownBlock → wpList Try.prog ops Q rest (a.put o.dst v') w') : wpList Try.prog ops Q (o :: rest) a w := by
  obtain ⟨i, hi, hz, hsz, hby⟩ := info_parts info43
  exact wpList_append_own w hgd s x 30 ho base 43 i _ 4 32 Try.underlying30 hi hz hsz hby rfl (by omega) v pre.length (pre.flatMap cLk) hs hown ⟨g, 0, none⟩ 1 1 (cLk r) hx (by rw [cLk_len]) (news_heap hg) (cLk_one r) (by have := maxLen_ge; omega) (by omega) hbase (fun v' w' h1 h2 _ => h v' w' (snocLk h1) h2)
/-- append([]T(nil), xs...) -/
theorem run_spreadLk {w : World} (ty : TypeId) (xs : List Lk) (v : Value) (hs : Sl cLk 4 0 w v xs) (hl : xs.length ≤ 1172812402926) :
    ∃ v' w', (Builtin.append_ #[30, 30] ty #[.slice none 0 0, v]).run Try.prog w = .ok v' w' ∧ w'.ownsRow w.heap.size 43 4 v' xs.length (xs.flatMap cLk) ∧ w.grownBy w' none := by
  obtain ⟨i, hi, hz, hsz, hby⟩ := info_parts info43
  obtain ⟨A, c, rfl, hr, hA0, _⟩ := hs
  cases A with
  | some ad =>
    obtain ⟨v', w', h1, h2, h3, h4⟩ := run_append_own (P := Try.prog) w w.heap.size 30 ty 43 i _ 4 32 Try.underlying30 hi hz hsz hby rfl (by omega) (.slice none 0 0) 0 [] (World.ownsRow_nil _ _ _ _) ad xs.length c (xs.flatMap cLk) (flat_len _ 4 cLk_len xs) (news_rd cLk_len (by omega) hr) (flat_one cLk_one xs) (by have := maxLen_ge; omega) (by omega) (Nat.le_refl _)
    exact ⟨v', w', h1, by simpa using h2, h3⟩
  | none =>
    obtain rfl := hr.none
    obtain rfl := hA0 rfl
    exact ⟨.slice none 0 0, w, run_append_owned_none (P := Try.prog) w w.heap.size 30 ty 43 i 4 Try.underlying30 hi _ 0 [] (World.ownsRow_nil _ _ _ _), World.ownsRow_nil _ _ _ _, World.grownBy.refl _ _⟩
def zPn : Pn := ⟨⟨0, 0⟩, 0, 0⟩
/-- what an insertion in place leaves -/
theorem ins_getPn {cur : List Value} {xs : List Pn} {n k : Nat} {r : Pn} (h : cur.take (n * 4) = xs.flatMap cPn) (hn : xs.length = n) (hk : k ≤ n) (hc : (n + 1) * 4 ≤ cur.length) (cur1 cur2 : List Value)
    (h1 : cur1 = cur.take ((k + 1) * 4) ++ (xs.drop k).flatMap cPn ++ cur.drop ((k + 1) * 4 + ((xs.drop k).flatMap cPn).length)) (h2 : cur2 = cur1.take (k * 4) ++ cPn r ++ cur1.drop (k * 4 + (cPn r).length)) :
    cur1.length = cur.length ∧ cur2.length = cur.length ∧ cur2.take ((n + 1) * 4) = (xs.take k ++ r :: xs.drop k).flatMap cPn := by
  have hd : ((xs.drop k).flatMap cPn).length = (n - k) * 4 := by rw [flat_len cPn 4 cPn_len, List.length_drop, hn]
  have ht : ((xs.take k).flatMap cPn).length = k * 4 := by rw [flat_len cPn 4 cPn_len, List.length_take, hn, Nat.min_eq_left hk]
  have l1 : cur1.length = cur.length := by
    rw [h1, List.length_append, List.length_append, List.length_take, List.length_drop, hd]
    omega
  have e1 : cur1.take (k * 4) = (xs.take k).flatMap cPn := by
    rw [← flat_take cPn 4 cPn_len xs k, ← h, List.take_take, Nat.min_eq_left (by omega), h1, List.append_assoc, List.take_append_of_le_length (by rw [List.length_take]; omega), List.take_take, Nat.min_eq_left (by omega)]
  have e2 : ∃ R, cur1.drop (k * 4 + (cPn r).length) = (xs.drop k).flatMap cPn ++ R := by
    refine ⟨cur.drop ((k + 1) * 4 + ((xs.drop k).flatMap cPn).length), ?_⟩
    rw [h1, List.append_assoc, cPn_len, show k * 4 + 4 = (k + 1) * 4 by omega, List.drop_append_of_le_length (by rw [List.length_take]; omega), List.drop_of_length_le (by rw [List.length_take]; omega), List.nil_append]
  obtain ⟨R, e2⟩ := e2
  refine ⟨l1, ?_, ?_⟩
  · rw [h2, List.length_append, List.length_append, List.length_take, List.length_drop, cPn_len, l1]
    omega
  · have e3 : cur2 = ((xs.take k).flatMap cPn ++ cPn r ++ (xs.drop k).flatMap cPn) ++ R := by rw [h2, e1, e2]; simp only [List.append_assoc]
    rw [e3, List.take_left' (by simp only [List.length_append, ht, hd, cPn_len]; omega), List.flatMap_append, List.flatMap_cons, List.append_assoc]
set_option maxHeartbeats 4000000 in
set_option maxRecDepth 100000 in
theorem Insert_endPn (xs : List Pn) (r : Pn) (base n vb : Nat) (v : Value) (w : World) (hown : w.ownsRow base 49 4 v n (xs.flatMap cPn)) (hn : xs.length = n) (hvb : w.heap[vb]? = some (.cells (cPn r).toArray 49 (0, 0))) (hbase : base ≤ w.heap.size) (hl : n ≤ 1172812402926) :
    Calls Try.prog 106 #[v, .int .i64 (n : Int), .slice (some ⟨vb, 0, none⟩) 1 1] w fun e w' => ∃ v', e = .returned v' ∧ w'.ownsRow base 49 4 v' (n + 1) ((xs ++ [r]).flatMap cPn) ∧ w.grownBy w' v.ownBlock := by
  obtain ⟨i, hi, hz, hsz, hby⟩ := info_parts info49
  have hk0 : (0 : Int) ≤ (n : Int) := by omega
  have e1 : (xs ++ [r]).flatMap cPn = xs.flatMap cPn ++ cPn r := by simp
  have HA := fun (o : Oper) (rest : List Oper) (ops : Array Oper) (a : Act) (Q : Exit → Act → World → Prop) hgd s x ho hs hx h => wpList_append_own (P := Try.prog) (ops := ops) (rest := rest) (o := o) (a := a) (Q := Q) w hgd s x 31 ho base 49 i _ 4 32 Try.underlying31 hi hz hsz hby rfl (by omega) v n (xs.flatMap cPn) hs hown ⟨vb, 0, none⟩ 1 1 (cPn r) hx (by rw [cPn_len]) (news_heap hvb) (cPn_one r) (by have := maxLen_ge; omega) (by omega) hbase h
  have HH := Lib.hid HA
  have ho := Lib.hid hown
  rcases hown.2 with ⟨rfl, rfl⟩ | ⟨g, cap, cur, rfl, hb, hg, hnc, hcm, hcs, htk⟩
  · clear hown HA
    go_enter Try.func106, Try.ntmps106
    go_wp2_with (at_builtin; refine HH.out _ _ _ _ _ rfl _ _ rfl rfl rfl ?_; intro v' w' r1 r2 r3)
    all_goals go_ret
    all_goals exact ⟨v', rfl, r1, r2⟩
  · have hnci : (n : Int) ≤ (cap : Int) := by omega
    have hcm' : (cap : Int) ≤ 9223372036854775807 := by unfold maxLen at hcm; omega
    clear hown HA hg hcs htk
    go_enter Try.func106, Try.ntmps106
    go_wp2_with (at_builtin; refine HH.out _ _ _ _ _ rfl _ _ rfl rfl rfl ?_; intro v' w' r1 r2 r3)
    all_goals go_ret
    all_goals exact ⟨v', rfl, r1, r2⟩

set_option maxHeartbeats 4000000 in
set_option maxRecDepth 100000 in
theorem Insert_inPn (xs : List Pn) (r : Pn) (base n k vb g cap : Nat) (cur : Array Value) (w : World) (hb : base ≤ g) (hg : w.heap[g]? = some (.cells cur 49 (0, 0))) (hcm : cap ≤ maxLen) (hcs : cur.size = cap * 4) (htk : cur.toList.take (n * 4) = xs.flatMap cPn)
    (hn : xs.length = n) (hk : k < n) (hnc : n + 1 ≤ cap) (hvg : vb ≠ g) (hvb : w.heap[vb]? = some (.cells (cPn r).toArray 49 (0, 0))) (hbase : base ≤ w.heap.size) (hl : n ≤ 1172812402926) :
    Calls Try.prog 106 #[.slice (some ⟨g, 0, none⟩) n cap, .int .i64 (k : Int), .slice (some ⟨vb, 0, none⟩) 1 1] w fun e w' => ∃ v', e = .returned v' ∧ w'.ownsRow base 49 4 v' (n + 1) ((xs.take k ++ r :: xs.drop k).flatMap cPn) ∧ w.grownBy w' (some g) := by
  have hdl : ((xs.drop k).flatMap cPn).length = (n - k) * 4 := by rw [flat_len cPn 4 cPn_len, List.length_drop, hn]
  have hcl : cur.toList.length = cap * 4 := by rw [Array.length_toList]; exact hcs
  obtain ⟨c1, hc1⟩ : ∃ l, l = cur.toList.take ((k + 1) * 4) ++ (xs.drop k).flatMap cPn ++ cur.toList.drop ((k + 1) * 4 + ((xs.drop k).flatMap cPn).length) := ⟨_, rfl⟩
  obtain ⟨c2, hc2⟩ : ∃ l, l = c1.take (k * 4) ++ cPn r ++ c1.drop (k * 4 + (cPn r).length) := ⟨_, rfl⟩
  obtain ⟨l1, l2, t2⟩ := ins_getPn (r := r) htk hn (Nat.le_of_lt hk) (by rw [hcl]; exact Nat.mul_le_mul_right 4 hnc) c1 c2 hc1 hc2
  obtain ⟨W1, hW1⟩ : ∃ W1, W1 = w.drew.setRow g c1.toArray := ⟨_, rfl⟩
  obtain ⟨W2, hW2⟩ : ∃ W2, W2 = W1.setRow g c2.toArray := ⟨_, rfl⟩
  have hcp1 : ∀ ty dc sc, (Builtin.copy_ #[31, 31] ty #[.slice (some ⟨g, (k + 1) * 4, none⟩) (n + 1 - (k + 1)) dc, .slice (some ⟨g, k * 4, none⟩) (n + 1 - k) sc]).run Try.prog w.drew = .ok (goInt ((n - k : Nat) : Int)) W1 := fun ty dc sc => by
    have hm : Nat.min (n + 1 - k) (n + 1 - (k + 1)) = n - k := by simp only [Nat.min_def]; split <;> omega
    have := run_copy_own (P := Try.prog) w.drew 31 31 ty 49 4 g ((k + 1) * 4) (n + 1 - (k + 1)) dc ⟨g, k * 4, none⟩ (n + 1 - k) sc cur 49 ((xs.drop k).flatMap cPn) Try.underlying31 info49s hg (by rw [hdl, hm]) (fun j u hu => by
      rw [Addr.add_lit]
      show w.cell? _ = _
      rw [cell_of_row w g (k * 4 + j) cur 49 (0, 0) hg]
      have hj := (List.getElem?_eq_some_iff.1 hu).1
      rw [hdl] at hj
      rw [← flat_drop cPn 4 cPn_len, ← htk, List.getElem?_drop, List.getElem?_take_of_lt (by omega)] at hu
      simpa using hu) (by rw [hdl, hcs]; omega) (flat_one cPn_one _)
    rw [hm, ← hc1, ← hW1] at this
    exact this
  have hcp2 : ∀ ty dc, (Builtin.copy_ #[31, 31] ty #[.slice (some ⟨g, k * 4, none⟩) (n + 1 - k) dc, .slice (some ⟨vb, 0, none⟩) 1 1]).run Try.prog W1 = .ok (goInt ((1 : Nat) : Int)) W2 := fun ty dc => by
    have hm : Nat.min 1 (n + 1 - k) = 1 := by simp only [Nat.min_def]; split <;> omega
    have := run_copy_own (P := Try.prog) W1 31 31 ty 49 4 g (k * 4) (n + 1 - k) dc ⟨vb, 0, none⟩ 1 1 c1.toArray 49 (cPn r) Try.underlying31 info49s (by rw [hW1]; exact setRow_heap w.drew g cur _ 49 (0, 0) hg) (by rw [hm, cPn_len]) (fun j u hu => by
      rw [hW1]
      have := news_heap hvb j u (by simpa using hu)
      rw [Addr.add_lit] at this ⊢
      rw [cell_setRow_other _ _ _ _ hvg]
      exact this) (by rw [cPn_len, List.size_toArray, l1, hcl]; omega) (cPn_one r)
    rw [hm] at this
    simp only [List.toList_toArray] at this
    rw [← hc2, ← hW2] at this
    exact this
  have hov : ∀ lb cb, (callFunc 125 #[.slice (some ⟨vb, 0, none⟩) 1 1, .slice (some ⟨g, (k + 1) * 4, none⟩) lb cb]).run Try.prog w = .ok (.value (.bool false)) w := fun lb cb => by
    rw [run_callFunc_extern Try.func125 (by kernel_rfl) (by kernel_rfl) (by kernel_rfl) (e := Extern.SlicesOverlaps.overlaps #[31, 31] #[4]) (by kernel_rfl),
      Lib.run_overlaps_apart w 31 4 49 Try.underlying31 4 size49 ⟨vb, 0, none⟩ ⟨g, (k + 1) * 4, none⟩ 1 1 lb cb hvg 49 49 4 cur.size (by simp [World.shape?, hvb, cPn_len]) (by simp [World.shape?, hg]) (by rw [hcs]; omega) (by simp [World.frozen?, hvb]) (by simp [World.frozen?, hvb])]
    rfl
  have hfin : W2.ownsRow base 49 4 (.slice (some ⟨g, 0, none⟩) (n + 1) cap) (n + 1) ((xs.take k ++ r :: xs.drop k).flatMap cPn) ∧ w.grownBy W2 (some g) := by
    have hg1 : W1.heap[g]? = some (.cells c1.toArray 49 (0, 0)) := by rw [hW1]; exact setRow_heap w.drew g cur _ 49 (0, 0) hg
    refine ⟨⟨?_, .inr ⟨g, cap, c2.toArray, rfl, hb, by rw [hW2]; exact setRow_heap W1 g _ _ 49 (0, 0) hg1, hnc, hcm, by rw [List.size_toArray, l2, hcl], by simpa using t2⟩⟩, ?_⟩
    · rw [flat_len cPn 4 cPn_len, List.length_append, List.length_cons, List.length_take, List.length_drop, hn]; congr 1; omega
    · rw [hW2, hW1]
      refine ⟨rfl, rfl, rfl, by simp, fun j hj hne => ?_⟩
      rw [setRow_other _ _ _ _ (fun e => hne (by rw [e])), setRow_other _ _ _ _ (fun e => hne (by rw [e]))]
      rfl
  have mixed : Try.prog.follows Departure.mixedOrders = true := by kernel_rfl
  have HCP := Lib.hid (And.intro hcp1 hcp2)
  have HOV := Lib.hid hov
  have HF := Lib.hid hfin
  have hz1 : ¬ ((1 : Int) = 0) := by omega
  have hz2 : ¬ ((k : Int) = (n : Int)) := by omega
  have hk0 : (0 : Int) ≤ (k : Int) := by omega
  have hk1 : (k : Int) ≤ (n : Int) := by omega
  have hk2 : (n : Int) + 1 ≤ (cap : Int) := by omega
  have hb2 : ¬ (cap = k + 1) := by omega
  have hb3 : (k : Int) + 1 ≤ (n : Int) + 1 := by omega
  have hb5 : (k : Int) ≤ (n : Int) + 1 := by omega
  have hb4 : ¬ (cap = k) := by omega
  have hbn : (0 : Int) ≤ (n : Int) + 1 := by omega
  have hbk : (0 : Int) ≤ (k : Int) + 1 := by omega
  have htn : ((n : Int) + 1).toNat = n + 1 := by omega
  have htk1 : ((k : Int) + 1).toNat = k + 1 := by omega
  have hw1 : IntKind.i64.wrap ((k : Int) + 1) = (k : Int) + 1 := by rw [IntKind.wrap_i64]; omega
  have hw2 : IntKind.i64.wrap ((n : Int) + 1) = (n : Int) + 1 := by rw [IntKind.wrap_i64]; omega
  have hcm' : (cap : Int) ≤ 9223372036854775807 := by unfold maxLen at hcm; omega
  clear hfin hov hcp1 hcp2 hdl hcl l1 l2 t2 hc1 hc2 hg hcs htk hvb hcm hW2 hW1
  go_enter Try.func106, Try.ntmps106
  go_wp2_with (simp only [HOV.out])
  go_region_law_o (refine step_copy_runI rfl _ _ 31 31 rfl (.slice (some ⟨g, (k + 1) * 4, none⟩) (n + 1 - (k + 1)) (cap - (k + 1))) (.slice (some ⟨g, k * 4, none⟩) (n + 1 - k) (cap - k)) (by simp [Act.eval, Act.put]) (by simp [Act.eval, Act.put]) (HCP.out.1 _ _ _) ?_)
  go_wp2_with (simp only [HCP.out.2])
  go_ret
  exact ⟨_, rfl, HF.out.1, HF.out.2⟩

/-- what an insertion into a new row leaves -/
theorem ins_newPn {row : List Value} {xs : List Pn} {n k : Nat} {r : Pn} (h : row.take (k * 4) = (xs.take k).flatMap cPn) (hn : xs.length = n) (hk : k ≤ n) (hc : (n + 1) * 4 ≤ row.length) (c1 c2 : List Value)
    (h1 : c1 = row.take (k * 4) ++ cPn r ++ row.drop (k * 4 + (cPn r).length)) (h2 : c2 = c1.take ((k + 1) * 4) ++ (xs.drop k).flatMap cPn ++ c1.drop ((k + 1) * 4 + ((xs.drop k).flatMap cPn).length)) :
    c1.length = row.length ∧ c2.length = row.length ∧ c2.take ((n + 1) * 4) = (xs.take k ++ r :: xs.drop k).flatMap cPn := by
  have hd : ((xs.drop k).flatMap cPn).length = (n - k) * 4 := by rw [flat_len cPn 4 cPn_len, List.length_drop, hn]
  have ht : ((xs.take k).flatMap cPn).length = k * 4 := by rw [flat_len cPn 4 cPn_len, List.length_take, hn, Nat.min_eq_left hk]
  have l1 : c1.length = row.length := by
    rw [h1, List.length_append, List.length_append, List.length_take, List.length_drop, cPn_len]
    omega
  have e1 : c1.take ((k + 1) * 4) = (xs.take k).flatMap cPn ++ cPn r := by
    rw [h1, h, List.take_left' (by rw [List.length_append, ht, cPn_len]; omega)]
  refine ⟨l1, ?_, ?_⟩
  · rw [h2, List.length_append, List.length_append, List.length_take, List.length_drop, hd, l1]
    omega
  · rw [h2, e1, List.take_left' (by simp only [List.length_append, ht, hd, cPn_len]; omega), List.flatMap_append, List.flatMap_cons, List.append_assoc]

set_option maxHeartbeats 4000000 in
set_option maxRecDepth 100000 in
theorem Insert_growPn (xs : List Pn) (r : Pn) (base n k vb g cap : Nat) (cur : Array Value) (w : World) (hg : w.heap[g]? = some (.cells cur 49 (0, 0))) (htk : cur.toList.take (n * 4) = xs.flatMap cPn)
    (hn : xs.length = n) (hk : k < n) (hnc : n ≤ cap) (hroom : cap < n + 1) (hvb : w.heap[vb]? = some (.cells (cPn r).toArray 49 (0, 0))) (hbase : base ≤ w.heap.size) (hl : n ≤ 1172812402926) :
    Calls Try.prog 106 #[.slice (some ⟨g, 0, none⟩) n cap, .int .i64 (k : Int), .slice (some ⟨vb, 0, none⟩) 1 1] w fun e w' => ∃ v', e = .returned v' ∧ w'.ownsRow base 49 4 v' (n + 1) ((xs.take k ++ r :: xs.drop k).flatMap cPn) ∧ w.grownBy w' (some g) := by
  obtain ⟨i, hi, hz, hsz, hby⟩ := info_parts info49
  have hgl : g < w.heap.size := (Array.getElem?_eq_some_iff.1 hg).1
  have hvl : vb < w.heap.size := (Array.getElem?_eq_some_iff.1 hvb).1
  have hdl : ((xs.drop k).flatMap cPn).length = (n - k) * 4 := by rw [flat_len cPn 4 cPn_len, List.length_drop, hn]
  have htl : ((xs.take k).flatMap cPn).length = k * 4 := by rw [flat_len cPn 4 cPn_len, List.length_take, hn, Nat.min_eq_left (Nat.le_of_lt hk)]
  have hcell : ∀ j u, (xs.flatMap cPn)[j]? = some u → w.cell? ⟨g, j, none⟩ = some u := fun j u hu => by
    rw [cell_of_row w g j cur 49 (0, 0) hg]
    have hj := (List.getElem?_eq_some_iff.1 hu).1
    rw [flat_len cPn 4 cPn_len, hn] at hj
    rw [← htk, List.getElem?_take_of_lt hj] at hu
    simpa using hu
  have hold : (Builtin.firstCells i.size k (.slice (some ⟨g, 0, none⟩) k cap)).run Try.prog w.drew = .ok ((xs.take k).flatMap cPn).toArray w.drew :=
    run_firstCells_some w.drew i.size k ⟨g, 0, none⟩ k cap ((xs.take k).flatMap cPn) (by rw [htl, hsz]) (fun j u hu => by
      rw [Addr.add_lit, Nat.zero_add]
      refine hcell j u ?_
      rw [← flat_take cPn 4 cPn_len] at hu
      rw [List.getElem?_take] at hu
      split at hu
      · exact hu
      · cases hu)
  have hkk : (n : Int) + 1 - (k : Int) = ((n + 1 - k : Nat) : Int) := by omega
  have hik : k + (n + 1 - k) = n + 1 := by omega
  obtain ⟨G, hG⟩ : ∃ G, G = grownCap w (n + 1) cap 49 := ⟨_, rfl⟩
  have hGn : n + 1 ≤ G := by rw [hG]; exact grownCap_ge w _ _ _
  have hGm : G ≤ maxLen := by rw [hG]; exact grownCap_le_maxLen w (n + 1) cap 49 (by have := maxLen_ge; omega)
  obtain ⟨ROW, hROW⟩ : ∃ ROW : Array Value, ROW = ((xs.take k).flatMap cPn).toArray ++ Builtin.zeroCells (Value.agg #[.int .u32 0, .int .i64 0, .int .i64 0, .int .i64 0]).cells (n + 1 - k) ++ Builtin.zeroCells (Value.agg #[.int .u32 0, .int .i64 0, .int .i64 0, .int .i64 0]).cells (G - (n + 1)) := ⟨_, rfl⟩
  obtain ⟨W1, hW1⟩ : ∃ W1, W1 = w.drew.alloc (.cells ROW 49) := ⟨_, rfl⟩
  have hrz : ∀ ty, (Builtin.append_ #[31, 3] ty #[.slice (some ⟨g, 0, none⟩) k cap, .int .i64 ((n : Int) + 1 - (k : Int))]).run Try.prog w = .ok (.slice (some ⟨w.heap.size, 0, none⟩) (n + 1) G) W1 := fun ty => by
    have h := Lib.run_append_grow_zeros w 31 3 ty 49 i _ .i64 .i64 Try.underlying31 Try.underlying3 hi hz (some ⟨g, 0, none⟩) k cap ((xs.take k).flatMap cPn) hold (n + 1 - k) (by omega) (by omega) (by omega) (by omega) (by rw [hby]; omega) (by rw [hby, hik]; exact growslice_fits hroom (by omega))
    rw [hik, ← hG, ← hROW, ← hW1] at h
    rw [hkk]
    exact h
  have hRs : ROW.size = G * 4 := by
    rw [hROW, Array.size_append, Array.size_append, size_zeroCells, size_zeroCells, List.size_toArray, htl]
    show k * 4 + (n + 1 - k) * 4 + (G - (n + 1)) * 4 = G * 4
    omega
  have hRl : ROW.toList.length = G * 4 := by rw [Array.length_toList]; exact hRs
  have hRt : ROW.toList.take (k * 4) = (xs.take k).flatMap cPn := by
    rw [hROW]
    simp only [Array.toList_append, List.append_assoc]
    exact List.take_left' htl
  obtain ⟨c1, hc1⟩ : ∃ l, l = ROW.toList.take (k * 4) ++ cPn r ++ ROW.toList.drop (k * 4 + (cPn r).length) := ⟨_, rfl⟩
  obtain ⟨c2, hc2⟩ : ∃ l, l = c1.take ((k + 1) * 4) ++ (xs.drop k).flatMap cPn ++ c1.drop ((k + 1) * 4 + ((xs.drop k).flatMap cPn).length) := ⟨_, rfl⟩
  obtain ⟨l1, l2, t2⟩ := ins_newPn (r := r) hRt hn (Nat.le_of_lt hk) (by rw [hRl]; exact Nat.mul_le_mul_right 4 hGn) c1 c2 hc1 hc2
  obtain ⟨W2, hW2⟩ : ∃ W2, W2 = W1.setRow w.heap.size c1.toArray := ⟨_, rfl⟩
  obtain ⟨W3, hW3⟩ : ∃ W3, W3 = W2.drew.setRow w.heap.size c2.toArray := ⟨_, rfl⟩
  have hH1 : W1.heap[w.heap.size]? = some (.cells ROW 49 (0, 0)) := by rw [hW1]; exact heap_alloc_new w.drew _
  have hH2 : W2.heap[w.heap.size]? = some (.cells c1.toArray 49 (0, 0)) := by rw [hW2]; exact setRow_heap W1 _ ROW _ 49 (0, 0) hH1
  have hold1 : ∀ j, j < w.heap.size → W1.heap[j]? = w.heap[j]? := fun j hj => by rw [hW1]; exact heap_alloc_old w.drew _ hj
  have hold2 : ∀ j, j < w.heap.size → W2.heap[j]? = w.heap[j]? := fun j hj => by rw [hW2, setRow_other _ _ _ _ (by omega)]; exact hold1 j hj
  have hcp1 : ∀ ty dc, (Builtin.copy_ #[31, 31] ty #[.slice (some ⟨w.heap.size, k * 4, none⟩) (n + 1 - k) dc, .slice (some ⟨vb, 0, none⟩) 1 1]).run Try.prog W1 = .ok (goInt ((1 : Nat) : Int)) W2 := fun ty dc => by
    have hm : Nat.min 1 (n + 1 - k) = 1 := by simp only [Nat.min_def]; split <;> omega
    have := run_copy_own (P := Try.prog) W1 31 31 ty 49 4 w.heap.size (k * 4) (n + 1 - k) dc ⟨vb, 0, none⟩ 1 1 ROW 49 (cPn r) Try.underlying31 info49s hH1 (by rw [hm, cPn_len]) (fun j u hu => by
      have := news_heap hvb j u (by simpa using hu)
      rw [Addr.add_lit] at this ⊢
      exact (World.cell?_of_block (hold1 vb hvl)).trans this) (by rw [cPn_len, hRs]; omega) (cPn_one r)
    rw [hm, ← hc1, ← hW2] at this
    exact this
  have hcp2 : ∀ ty dc sc, (Builtin.copy_ #[31, 31] ty #[.slice (some ⟨w.heap.size, (k + 1) * 4, none⟩) (n + 1 - (k + 1)) dc, .slice (some ⟨g, k * 4, none⟩) (n - k) sc]).run Try.prog W2.drew = .ok (goInt ((n - k : Nat) : Int)) W3 := fun ty dc sc => by
    have hm : Nat.min (n - k) (n + 1 - (k + 1)) = n - k := by simp only [Nat.min_def]; split <;> omega
    have := run_copy_own (P := Try.prog) W2.drew 31 31 ty 49 4 w.heap.size ((k + 1) * 4) (n + 1 - (k + 1)) dc ⟨g, k * 4, none⟩ (n - k) sc c1.toArray 49 ((xs.drop k).flatMap cPn) Try.underlying31 info49s hH2 (by rw [hdl, hm]) (fun j u hu => by
      rw [Addr.add_lit]
      show W2.cell? _ = _
      refine (World.cell?_of_block (hold2 g hgl)).trans (hcell _ u ?_)
      rw [← flat_drop cPn 4 cPn_len, List.getElem?_drop] at hu
      exact hu) (by rw [hdl, List.size_toArray, l1, hRl]; omega) (flat_one cPn_one _)
    rw [hm] at this
    simp only [List.toList_toArray] at this
    rw [← hc2, ← hW3] at this
    exact this
  have hfin : W3.ownsRow base 49 4 (.slice (some ⟨w.heap.size, 0, none⟩) (n + 1) G) (n + 1) ((xs.take k ++ r :: xs.drop k).flatMap cPn) ∧ w.grownBy W3 (some g) := by
    refine ⟨⟨?_, .inr ⟨w.heap.size, G, c2.toArray, rfl, hbase, by rw [hW3]; exact setRow_heap W2.drew _ _ _ 49 (0, 0) hH2, hGn, hGm, by rw [List.size_toArray, l2, hRl], by simpa using t2⟩⟩, ?_⟩
    · rw [flat_len cPn 4 cPn_len, List.length_append, List.length_cons, List.length_take, List.length_drop, hn]; congr 1; omega
    · refine ⟨?_, ?_, ?_, ?_, fun j hj hne => ?_⟩
      · rw [hW3, hW2, hW1]; rfl
      · rw [hW3, hW2, hW1]; rfl
      · rw [hW3, hW2, hW1]; rfl
      · rw [hW3, hW2, hW1]; simp [World.setRow]
      · rw [hW3, setRow_other _ _ _ _ (by omega)]
        exact hold2 j hj
  have mixed : Try.prog.follows Departure.mixedOrders = true := by kernel_rfl
  have HCP := Lib.hid (And.intro hcp1 hcp2)
  have HRZ := Lib.hid hrz
  have HF := Lib.hid hfin
  have hz1 : ¬ ((1 : Int) = 0) := by omega
  have hz2 : ¬ ((k : Int) = (n : Int)) := by omega
  have hz3 : (cap : Int) < (n : Int) + 1 := by omega
  have hk0 : (0 : Int) ≤ (k : Int) := by omega
  have hk1 : (k : Int) ≤ (n : Int) := by omega
  have hk2 : (k : Int) ≤ (cap : Int) := by omega
  have hk3 : (k : Int) ≤ (n : Int) + 1 := by omega
  have hk4 : (k : Int) + 1 ≤ (n : Int) + 1 := by omega
  have hbk : (0 : Int) ≤ (k : Int) + 1 := by omega
  have hGi : ¬ (G = k) := by omega
  have hGi1 : ¬ (G = k + 1) := by omega
  have hci : ¬ (cap = k) := by omega
  have htk1 : ((k : Int) + 1).toNat = k + 1 := by omega
  have hw1 : IntKind.i64.wrap ((k : Int) + 1) = (k : Int) + 1 := by rw [IntKind.wrap_i64]; omega
  have hw2 : IntKind.i64.wrap ((n : Int) + 1) = (n : Int) + 1 := by rw [IntKind.wrap_i64]; omega
  have hw3 : IntKind.i64.wrap ((n : Int) + 1 - (k : Int)) = (n : Int) + 1 - (k : Int) := by rw [IntKind.wrap_i64]; omega
  have hGm' : (G : Int) ≤ 9223372036854775807 := by unfold maxLen at hGm; omega
  have hGn' : (n : Int) + 1 ≤ (G : Int) := by omega
  have hcm' : (cap : Int) ≤ 9223372036854775807 := by omega
  obtain ⟨H, hH⟩ : ∃ H, H = w.heap.size := ⟨_, rfl⟩
  rw [← hH] at HCP HRZ HF
  clear hH hfin hrz hcp1 hcp2 hold2 hold1 hH2 hH1 l1 l2 t2 hc1 hc2 hRt hRl hRs hROW hGm hG hold hcell hdl htl hg htk hvb hi hz hsz hby hW3 hW2 hW1 hkk hik hgl hvl
  go_enter Try.func106, Try.ntmps106
  go_wp2_with (at_builtin; refine Lib.wpList_append_run _ rfl _ _ 31 3 rfl _ _ rfl rfl _ _ (HRZ.out _) ?_)
  go_wp2_with (simp only [HCP.out.1])
  go_region_law_o (refine step_copy_runI rfl _ _ 31 31 rfl (.slice (some ⟨H, (k + 1) * 4, none⟩) (n + 1 - (k + 1)) (G - (k + 1))) (.slice (some ⟨g, k * 4, none⟩) (n - k) (cap - k)) (by simp [Act.eval, Act.put]) (by simp [Act.eval, Act.put]) (HCP.out.2 _ _ _) ?_)
  go_wp2_with fail
  go_ret
  exact ⟨_, rfl, HF.out.1, HF.out.2⟩
theorem Insert_okPn (xs : List Pn) (r : Pn) (base n k vb : Nat) (v : Value) (w : World) (hown : w.ownsRow base 49 4 v n (xs.flatMap cPn)) (hn : xs.length = n) (hk : k ≤ n) (hvb : w.heap[vb]? = some (.cells (cPn r).toArray 49 (0, 0))) (hne : v.ownBlock ≠ some vb) (hbase : base ≤ w.heap.size) (hl : n ≤ 1172812402926) :
    Calls Try.prog 106 #[v, .int .i64 (k : Int), .slice (some ⟨vb, 0, none⟩) 1 1] w fun e w' => ∃ v', e = .returned v' ∧ w'.ownsRow base 49 4 v' (n + 1) ((xs.take k ++ r :: xs.drop k).flatMap cPn) ∧ w.grownBy w' v.ownBlock := by
  by_cases hkn : k = n
  · subst hkn
    have h := Insert_endPn xs r base k vb v w hown hn hvb hbase hl
    rw [List.take_of_length_le (by omega), List.drop_of_length_le (by omega)]
    exact h
  · rcases hown.2 with ⟨rfl, rfl⟩ | ⟨g, cap, cur, rfl, hb, hg, hnc, hcm, hcs, htk⟩
    · exact absurd (by omega) hkn
    · have hvg : vb ≠ g := fun e => hne (by rw [e]; rfl)
      by_cases hroom : n + 1 ≤ cap
      · exact Insert_inPn xs r base n k vb g cap cur w hb hg hcm hcs htk hn (by omega) hroom hvg hvb hbase hl
      · exact Insert_growPn xs r base n k vb g cap cur w hg htk hn (by omega) hnc (by omega) hvb hbase hl

/-- what a deletion leaves -/
theorem del_getPn {cur : List Value} {xs : List Pn} {n k : Nat} (h : cur.take ((n + 1) * 4) = xs.flatMap cPn) (hn : xs.length = n + 1) (hk : k ≤ n) (hc : (n + 1) * 4 ≤ cur.length) (c1 c2 : List Value)
    (h1 : c1 = cur.take (k * 4) ++ (xs.drop (k + 1)).flatMap cPn ++ cur.drop (k * 4 + ((xs.drop (k + 1)).flatMap cPn).length)) (h2 : c2 = c1.take (n * 4) ++ cPn zPn ++ c1.drop (n * 4 + (cPn zPn).length)) :
    c1.length = cur.length ∧ c2.length = cur.length ∧ c2.take (n * 4) = (xs.eraseIdx k).flatMap cPn := by
  have hd : ((xs.drop (k + 1)).flatMap cPn).length = (n - k) * 4 := by rw [flat_len cPn 4 cPn_len, List.length_drop, hn]; congr 1; omega
  have ht : ((xs.take k).flatMap cPn).length = k * 4 := by rw [flat_len cPn 4 cPn_len, List.length_take, hn, Nat.min_eq_left (by omega)]
  have l1 : c1.length = cur.length := by
    rw [h1, List.length_append, List.length_append, List.length_take, List.length_drop, hd]
    omega
  have e0 : cur.take (k * 4) = (xs.take k).flatMap cPn := by rw [← flat_take cPn 4 cPn_len xs k, ← h, List.take_take, Nat.min_eq_left (by omega)]
  have e1 : c1.take (n * 4) = (xs.eraseIdx k).flatMap cPn := by
    rw [h1, e0, List.take_left' (by rw [List.length_append, ht, hd]; omega), List.eraseIdx_eq_take_drop_succ, List.flatMap_append]
  refine ⟨l1, ?_, ?_⟩
  · rw [h2, List.length_append, List.length_append, List.length_take, List.length_drop, cPn_len, l1]
    omega
  · rw [h2, ← e1, List.append_assoc, List.take_left' (by rw [List.length_take]; omega)]

set_option maxHeartbeats 4000000 in
set_option maxRecDepth 100000 in
theorem Delete_okPn (xs : List Pn) (base n k g cap : Nat) (w : World) (hown : w.ownsRow base 49 4 (.slice (some ⟨g, 0, none⟩) (n + 1) cap) (n + 1) (xs.flatMap cPn)) (hn : xs.length = n + 1) (hk : k ≤ n) (hl : n ≤ 1172812402926) :
    Calls Try.prog 105 #[.slice (some ⟨g, 0, none⟩) (n + 1) cap, .int .i64 (k : Int), .int .i64 ((k : Int) + 1)] w fun e w' => e = .returned (.slice (some ⟨g, 0, none⟩) n cap) ∧ w'.ownsRow base 49 4 (.slice (some ⟨g, 0, none⟩) n cap) n ((xs.eraseIdx k).flatMap cPn) ∧ w.grownBy w' (some g) := by
  obtain ⟨i, hi, hz, hsz, hby⟩ := info_parts info49
  rcases hown.2 with ⟨h0, _⟩ | ⟨g', cap', cur, hv, hb, hg, hnc, hcm, hcs, htk⟩
  · cases h0
  cases hv
  have hdl : ((xs.drop (k + 1)).flatMap cPn).length = (n - k) * 4 := by rw [flat_len cPn 4 cPn_len, List.length_drop, hn]; congr 1; omega
  have hcl : cur.toList.length = cap * 4 := by rw [Array.length_toList]; exact hcs
  obtain ⟨c1, hc1⟩ : ∃ l, l = cur.toList.take (k * 4) ++ (xs.drop (k + 1)).flatMap cPn ++ cur.toList.drop (k * 4 + ((xs.drop (k + 1)).flatMap cPn).length) := ⟨_, rfl⟩
  obtain ⟨c2, hc2⟩ : ∃ l, l = c1.take (n * 4) ++ cPn zPn ++ c1.drop (n * 4 + (cPn zPn).length) := ⟨_, rfl⟩
  obtain ⟨l1, l2, t2⟩ := del_getPn htk hn hk (by rw [hcl]; exact Nat.mul_le_mul_right 4 hnc) c1 c2 hc1 hc2
  obtain ⟨W1, hW1⟩ : ∃ W1, W1 = w.drew.setRow g c1.toArray := ⟨_, rfl⟩
  obtain ⟨W2, hW2⟩ : ∃ W2, W2 = W1.setRow g c2.toArray := ⟨_, rfl⟩
  have hg1 : W1.heap[g]? = some (.cells c1.toArray 49 (0, 0)) := by rw [hW1]; exact setRow_heap w.drew g cur _ 49 (0, 0) hg
  have hap : ∀ ty (a : Addr) c m, m = n - k → (a = ⟨g, (k + 1) * 4, none⟩ ∨ k = n) → (Builtin.append_ #[31, 31] ty #[.slice (some ⟨g, 0, none⟩) k cap, .slice (some a) m c]).run Try.prog w.drew = .ok (.slice (some ⟨g, 0, none⟩) n cap) W1 := fun ty a c m hm ha => by
    subst hm
    have := run_append_room (P := Try.prog) w.drew 31 ty 49 i Try.underlying31 hi g k cap cur hg a (n - k) c ((xs.drop (k + 1)).flatMap cPn) (by rw [hdl, hsz]) (fun j u hu => by
      rcases ha with rfl | rfl
      · rw [Addr.add_lit]
        show w.cell? _ = _
        rw [cell_of_row w g _ cur 49 (0, 0) hg]
        have hj := (List.getElem?_eq_some_iff.1 hu).1
        rw [hdl] at hj
        rw [← flat_drop cPn 4 cPn_len, ← htk, List.getElem?_drop, List.getElem?_take_of_lt (by omega)] at hu
        simpa using hu
      · have hj := (List.getElem?_eq_some_iff.1 hu).1
        rw [hdl] at hj
        omega) (flat_one cPn_one _) (by omega) (by rw [hdl, hsz, hcs]; omega)
    rw [hsz, ← hc1, ← hW1, show k + (n - k) = n by omega] at this
    exact this
  have hcl1 : ∀ ty dc, (Builtin.clear_ #[31] ty #[.slice (some ⟨g, n * 4, none⟩) 1 dc]).run Try.prog W1 = .ok (.tuple #[]) W2 := fun ty dc => by
    have hst := run_storeCells_at Try.prog g (n * 4) 49 (cPn zPn) 0 c1.toArray W1 hg1 (by rw [cPn_len, List.size_toArray, l1, hcl]; omega) (cPn_one zPn)
    simp only [Nat.add_zero, List.toList_toArray] at hst
    rw [← hc2, ← hW2] at hst
    have hzc : (Builtin.zeroCells (Value.agg #[.int .u32 0, .int .i64 0, .int .i64 0, .int .i64 0]).cells 1).toList = cPn zPn := by kernel_rfl
    simp [Builtin.clear_, run_underlying Try.underlying31, zero49, hzc, hst]
  have hfin : W2.ownsRow base 49 4 (.slice (some ⟨g, 0, none⟩) n cap) n ((xs.eraseIdx k).flatMap cPn) ∧ w.grownBy W2 (some g) := by
    refine ⟨⟨?_, .inr ⟨g, cap, c2.toArray, rfl, hb, by rw [hW2]; exact setRow_heap W1 g _ _ 49 (0, 0) hg1, by omega, hcm, by rw [List.size_toArray, l2, hcl], by simpa using t2⟩⟩, ?_⟩
    · rw [flat_len cPn 4 cPn_len, List.length_eraseIdx_of_lt (by omega), hn]; rfl
    · rw [hW2, hW1]
      refine ⟨rfl, rfl, rfl, by simp [World.setRow], fun j hj hne => ?_⟩
      rw [setRow_other _ _ _ _ (fun e => hne (by rw [e])), setRow_other _ _ _ _ (fun e => hne (by rw [e]))]
      rfl
  have mixed : Try.prog.follows Departure.mixedOrders = true := by kernel_rfl
  have HAP := Lib.hid hap
  have HCL := Lib.hid hcl1
  have HF := Lib.hid hfin
  have hk0 : (0 : Int) ≤ (k : Int) := by omega
  have hk1 : (k : Int) ≤ (k : Int) + 1 := by omega
  have hk2 : (k : Int) + 1 ≤ (n : Int) + 1 := by omega
  have hk3 : (n : Int) + 1 ≤ (cap : Int) := by omega
  have hk4 : (k : Int) ≤ (cap : Int) := by omega
  have hk5 : (k : Int) ≤ (n : Int) := by omega
  have hne : ¬ ((k : Int) = (k : Int) + 1) := by omega
  have hcn : ¬ (cap = n) := by omega
  have hn0 : (0 : Int) ≤ (n : Int) := by omega
  have hn1 : (n : Int) ≤ (n : Int) + 1 := by omega
  have hbk : (0 : Int) ≤ (k : Int) + 1 := by omega
  have hbn : (0 : Int) ≤ (n : Int) + 1 := by omega
  have htk1 : ((k : Int) + 1).toNat = k + 1 := by omega
  have htn1 : ((n : Int) + 1).toNat = n + 1 := by omega
  have hcm' : (cap : Int) ≤ 9223372036854775807 := by unfold maxLen at hcm; omega
  clear hfin hcl1 hap hg1 l1 l2 t2 hc1 hc2 hdl hcl hcs htk hg hown hcm hi hz hsz hby hW2 hW1
  by_cases hck : cap = k + 1
  · have hkn : k = n := by omega
    subst hkn
    have HAP1 : Hid (∀ ty, (Builtin.append_ #[31, 31] ty #[.slice (some ⟨g, 0, none⟩) k (k + 1), .slice (some ⟨g, 0, none⟩) 0 0]).run Try.prog w.drew = .ok (.slice (some ⟨g, 0, none⟩) k (k + 1)) W1) := Lib.hid (fun ty => by
      have := HAP.out ty ⟨g, 0, none⟩ 0 0 (by omega) (.inr rfl)
      rw [hck] at this
      exact this)
    clear HAP
    go_enter Try.func105, Try.ntmps105
    go_wp2_with fail
    go_region_law_o (refine step_append_runI rfl _ _ 31 31 rfl (.slice (some ⟨g, 0, none⟩) k (k + 1)) (.slice (some ⟨g, 0, none⟩) 0 0) (by simp [Act.eval, Act.put]) (by simp [Act.eval, Act.put]) (HAP1.out _) ?_)
    go_wp2_with (simp only [HCL.out])
    go_ret
    exact ⟨by rw [hck]; rfl, HF.out.1, HF.out.2⟩
  · go_enter Try.func105, Try.ntmps105
    go_wp2_with fail
    go_region_law_o (refine step_append_runI rfl _ _ 31 31 rfl (.slice (some ⟨g, 0, none⟩) k cap) (.slice (some ⟨g, (k + 1) * 4, none⟩) (n + 1 - (k + 1)) (cap - (k + 1))) (by simp [Act.eval, Act.put]) (by simp [Act.eval, Act.put, hck]) (HAP.out _ _ _ _ (by omega) (.inl rfl)) ?_)
    go_wp2_with (simp only [HCL.out])
    go_ret
    exact ⟨rfl, HF.out.1, HF.out.2⟩
/-- one more -/
theorem snocPn {w : World} {B : Nat} {v : Value} {pre : List Pn} {x : Pn} (h : w.ownsRow B 49 4 v (pre.length + 1) (pre.flatMap cPn ++ cPn x)) : w.ownsRow B 49 4 v (pre ++ [x]).length ((pre ++ [x]).flatMap cPn) := by
  rw [List.length_append, List.flatMap_append, List.flatMap_cons, List.flatMap_nil, List.append_nil]
  exact h
theorem wpList_appPn {ops : Array Oper} {rest : List Oper} {o : Oper} {a : Act} {w : World} {Q : Exit → Act → World → Prop} (hgd : o.guard = none) (s x : Operand) (ho : o.op = .call { callee := .builtin .append, args := #[s, x], argTypes := #[31, 31] })
    (base g : Nat) (v : Value) (pre : List Pn) (r : Pn) (hs : a.eval s = v) (hx : a.eval x = .slice (some ⟨g, 0, none⟩) 1 1) (hown : w.ownsRow base 49 4 v pre.length (pre.flatMap cPn)) (hg : w.heap[g]? = some (.cells (cPn r).toArray 49 (0, 0))) (hl : pre.length ≤ 1172812402926) (hbase : base ≤ w.heap.size)
    (h : ∀ v' w', w'.ownsRow base 49 4 v' (pre ++ [r]).length ((pre ++ [r]).flatMap cPn) → w.grownBy w' v.ownBlock → wpList Try.prog ops Q rest (a.put o.dst v') w') : wpList Try.prog ops Q (o :: rest) a w := by
  obtain ⟨i, hi, hz, hsz, hby⟩ := info_parts info49
  exact wpList_append_own w hgd s x 31 ho base 49 i _ 4 32 Try.underlying31 hi hz hsz hby rfl (by omega) v pre.length (pre.flatMap cPn) hs hown ⟨g, 0, none⟩ 1 1 (cPn r) hx (by rw [cPn_len]) (news_heap hg) (cPn_one r) (by have := maxLen_ge; omega) (by omega) hbase (fun v' w' h1 h2 _ => h v' w' (snocPn h1) h2)
/-- append([]T(nil), xs...) -/
theorem run_spreadPn {w : World} (ty : TypeId) (xs : List Pn) (v : Value) (hs : Sl cPn 4 0 w v xs) (hl : xs.length ≤ 1172812402926) :
    ∃ v' w', (Builtin.append_ #[31, 31] ty #[.slice none 0 0, v]).run Try.prog w = .ok v' w' ∧ w'.ownsRow w.heap.size 49 4 v' xs.length (xs.flatMap cPn) ∧ w.grownBy w' none := by
  obtain ⟨i, hi, hz, hsz, hby⟩ := info_parts info49
  obtain ⟨A, c, rfl, hr, hA0, _⟩ := hs
  cases A with
  | some ad =>
    obtain ⟨v', w', h1, h2, h3, h4⟩ := run_append_own (P := Try.prog) w w.heap.size 31 ty 49 i _ 4 32 Try.underlying31 hi hz hsz hby rfl (by omega) (.slice none 0 0) 0 [] (World.ownsRow_nil _ _ _ _) ad xs.length c (xs.flatMap cPn) (flat_len _ 4 cPn_len xs) (news_rd cPn_len (by omega) hr) (flat_one cPn_one xs) (by have := maxLen_ge; omega) (by omega) (Nat.le_refl _)
    exact ⟨v', w', h1, by simpa using h2, h3⟩
  | none =>
    obtain rfl := hr.none
    obtain rfl := hA0 rfl
    exact ⟨.slice none 0 0, w, run_append_owned_none (P := Try.prog) w w.heap.size 31 ty 49 i 4 Try.underlying31 hi _ 0 [] (World.ownsRow_nil _ _ _ _), World.ownsRow_nil _ _ _ _, World.grownBy.refl _ _⟩

end Go.Proofs.Ytpklcefiabjplaa
