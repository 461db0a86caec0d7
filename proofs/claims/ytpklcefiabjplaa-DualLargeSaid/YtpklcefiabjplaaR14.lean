/- Own rows of labels: inserting one; conditions: the rows fit the memory. -/
import Derived.Test.YtpklcefiabjplaaR13
import Derived.Test.YtpklcefiabjplaaG3
namespace Go.Proofs.Ytpklcefiabjplaa
open Go.ChangeShapes Go.WideShapes Go.ChangeAt Go.RowKit
set_option linter.unusedVariables false
set_option linter.unusedSimpArgs false
attribute [local go_sem] Og.Opt Og.OpY

theorem info91 : (Try.prog.info? 91).map (fun i => (i.zero, i.size, i.bytes)) = some (some (.agg #[.complex .f64 0 0, .int .i64 0]), 2, 24) := by kernel_rfl
theorem zero91 (w : World) : (zeroValue 91).run Try.prog w = .ok (.agg #[.complex .f64 0 0, .int .i64 0]) w := by kernel_rfl
theorem isAgg129 (w : World) : (isAgg 129).run Try.prog w = .ok false w := by kernel_rfl
def zLa : La := ⟨0, 0, 0⟩
theorem zLa_cells : cLa zLa = [.complex .f64 0 0, .int .i64 0] := by
  show [Value.complex .f64 (fb 0) (fb 0), .int .i64 0] = _
  rw [fb_zero]
/-- what an insertion in place leaves -/
theorem ins_getLa {cur : List Value} {xs : List La} {n k : Nat} {r : La} (h : cur.take (n * 2) = xs.flatMap cLa) (hn : xs.length = n) (hk : k ≤ n) (hc : (n + 1) * 2 ≤ cur.length) (cur1 cur2 : List Value)
    (h1 : cur1 = cur.take ((k + 1) * 2) ++ (xs.drop k).flatMap cLa ++ cur.drop ((k + 1) * 2 + ((xs.drop k).flatMap cLa).length)) (h2 : cur2 = cur1.take (k * 2) ++ cLa r ++ cur1.drop (k * 2 + (cLa r).length)) :
    cur1.length = cur.length ∧ cur2.length = cur.length ∧ cur2.take ((n + 1) * 2) = (xs.take k ++ r :: xs.drop k).flatMap cLa := by
  have hd : ((xs.drop k).flatMap cLa).length = (n - k) * 2 := by rw [flat_len cLa 2 cLa_len, List.length_drop, hn]
  have ht : ((xs.take k).flatMap cLa).length = k * 2 := by rw [flat_len cLa 2 cLa_len, List.length_take, hn, Nat.min_eq_left hk]
  have l1 : cur1.length = cur.length := by
    rw [h1, List.length_append, List.length_append, List.length_take, List.length_drop, hd]
    omega
  have e1 : cur1.take (k * 2) = (xs.take k).flatMap cLa := by
    rw [← flat_take cLa 2 cLa_len xs k, ← h, List.take_take, Nat.min_eq_left (by omega), h1, List.append_assoc, List.take_append_of_le_length (by rw [List.length_take]; omega), List.take_take, Nat.min_eq_left (by omega)]
  have e2 : ∃ R, cur1.drop (k * 2 + (cLa r).length) = (xs.drop k).flatMap cLa ++ R := by
    refine ⟨cur.drop ((k + 1) * 2 + ((xs.drop k).flatMap cLa).length), ?_⟩
    rw [h1, List.append_assoc, cLa_len, show k * 2 + 2 = (k + 1) * 2 by omega, List.drop_append_of_le_length (by rw [List.length_take]; omega), List.drop_of_length_le (by rw [List.length_take]; omega), List.nil_append]
  obtain ⟨R, e2⟩ := e2
  refine ⟨l1, ?_, ?_⟩
  · rw [h2, List.length_append, List.length_append, List.length_take, List.length_drop, cLa_len, l1]
    omega
  · have e3 : cur2 = ((xs.take k).flatMap cLa ++ cLa r ++ (xs.drop k).flatMap cLa) ++ R := by rw [h2, e1, e2]; simp only [List.append_assoc]
    rw [e3, List.take_left' (by simp only [List.length_append, ht, hd, cLa_len]; omega), List.flatMap_append, List.flatMap_cons, List.append_assoc]
set_option maxHeartbeats 4000000 in
set_option maxRecDepth 100000 in
theorem Insert_endLa (xs : List La) (r : La) (base n vb : Nat) (v : Value) (w : World) (hown : w.ownsRow base 91 2 v n (xs.flatMap cLa)) (hn : xs.length = n) (hvb : w.heap[vb]? = some (.cells (cLa r).toArray 91 (0, 0))) (hbase : base ≤ w.heap.size) (hl : n ≤ 1172812402926) :
    Calls Try.prog 115 #[v, .int .i64 (n : Int), .slice (some ⟨vb, 0, none⟩) 1 1] w fun e w' => ∃ v', e = .returned v' ∧ w'.ownsRow base 91 2 v' (n + 1) ((xs ++ [r]).flatMap cLa) ∧ w.grownBy w' v.ownBlock ∧ (v'.ownBlock = v.ownBlock ∨ v'.ownBlock = some w.heap.size) := by
  obtain ⟨i, hi, hz, hsz, hby⟩ := info_parts info91
  have hk0 : (0 : Int) ≤ (n : Int) := by omega
  have e1 : (xs ++ [r]).flatMap cLa = xs.flatMap cLa ++ cLa r := by simp
  have HA := fun (o : Oper) (rest : List Oper) (ops : Array Oper) (a : Act) (Q : Exit → Act → World → Prop) hgd s x ho hs hx h => wpList_append_own_at (P := Try.prog) (w := w) (ops := ops) (rest := rest) (o := o) (a := a) (Q := Q) hgd s x 129 ho base 91 i _ 2 24 Try.underlying129 hi hz hsz hby rfl (by omega) v n (xs.flatMap cLa) hs hown ⟨vb, 0, none⟩ 1 1 (cLa r) hx (by rw [cLa_len]) (news_heap hvb) (cLa_one r) (by have := maxLen_ge; omega) (by omega) hbase h
  have HH := Lib.hid HA
  have ho := Lib.hid hown
  rcases hown.2 with ⟨rfl, rfl⟩ | ⟨g, cap, cur, rfl, hb, hg, hnc, hcm, hcs, htk⟩
  · clear hown HA
    go_enter Try.func115, Try.ntmps115
    go_wp2_with (at_builtin; refine HH.out _ _ _ _ _ rfl _ _ rfl rfl rfl ?_; intro v' w' r1 r2 r3 r4)
    all_goals go_ret
    all_goals exact ⟨v', rfl, r1, r2, r4⟩
  · have hnci : (n : Int) ≤ (cap : Int) := by omega
    have hcm' : (cap : Int) ≤ 9223372036854775807 := by unfold maxLen at hcm; omega
    clear hown HA hg hcs htk
    go_enter Try.func115, Try.ntmps115
    go_wp2_with (at_builtin; refine HH.out _ _ _ _ _ rfl _ _ rfl rfl rfl ?_; intro v' w' r1 r2 r3 r4)
    all_goals go_ret
    all_goals exact ⟨v', rfl, r1, r2, r4⟩

set_option maxHeartbeats 4000000 in
set_option maxRecDepth 100000 in
theorem Insert_inLa (xs : List La) (r : La) (base n k vb g cap : Nat) (cur : Array Value) (w : World) (hb : base ≤ g) (hg : w.heap[g]? = some (.cells cur 91 (0, 0))) (hcm : cap ≤ maxLen) (hcs : cur.size = cap * 2) (htk : cur.toList.take (n * 2) = xs.flatMap cLa)
    (hn : xs.length = n) (hk : k < n) (hnc : n + 1 ≤ cap) (hvg : vb ≠ g) (hvb : w.heap[vb]? = some (.cells (cLa r).toArray 91 (0, 0))) (hbase : base ≤ w.heap.size) (hl : n ≤ 1172812402926) :
    Calls Try.prog 115 #[.slice (some ⟨g, 0, none⟩) n cap, .int .i64 (k : Int), .slice (some ⟨vb, 0, none⟩) 1 1] w fun e w' => ∃ v', e = .returned v' ∧ w'.ownsRow base 91 2 v' (n + 1) ((xs.take k ++ r :: xs.drop k).flatMap cLa) ∧ w.grownBy w' (some g) ∧ v'.ownBlock = some g := by
  have hdl : ((xs.drop k).flatMap cLa).length = (n - k) * 2 := by rw [flat_len cLa 2 cLa_len, List.length_drop, hn]
  have hcl : cur.toList.length = cap * 2 := by rw [Array.length_toList]; exact hcs
  obtain ⟨c1, hc1⟩ : ∃ l, l = cur.toList.take ((k + 1) * 2) ++ (xs.drop k).flatMap cLa ++ cur.toList.drop ((k + 1) * 2 + ((xs.drop k).flatMap cLa).length) := ⟨_, rfl⟩
  obtain ⟨c2, hc2⟩ : ∃ l, l = c1.take (k * 2) ++ cLa r ++ c1.drop (k * 2 + (cLa r).length) := ⟨_, rfl⟩
  obtain ⟨l1, l2, t2⟩ := ins_getLa (r := r) htk hn (Nat.le_of_lt hk) (by rw [hcl]; exact Nat.mul_le_mul_right 2 hnc) c1 c2 hc1 hc2
  obtain ⟨W1, hW1⟩ : ∃ W1, W1 = w.drew.setRow g c1.toArray := ⟨_, rfl⟩
  obtain ⟨W2, hW2⟩ : ∃ W2, W2 = W1.setRow g c2.toArray := ⟨_, rfl⟩
  have hcp1 : ∀ ty dc sc, (Builtin.copy_ #[129, 129] ty #[.slice (some ⟨g, (k + 1) * 2, none⟩) (n + 1 - (k + 1)) dc, .slice (some ⟨g, k * 2, none⟩) (n + 1 - k) sc]).run Try.prog w.drew = .ok (goInt ((n - k : Nat) : Int)) W1 := fun ty dc sc => by
    have hm : Nat.min (n + 1 - k) (n + 1 - (k + 1)) = n - k := by simp only [Nat.min_def]; split <;> omega
    have := run_copy_own (P := Try.prog) w.drew 129 129 ty 91 2 g ((k + 1) * 2) (n + 1 - (k + 1)) dc ⟨g, k * 2, none⟩ (n + 1 - k) sc cur 91 ((xs.drop k).flatMap cLa) Try.underlying129 info91s hg (by rw [hdl, hm]) (fun j u hu => by
      rw [Addr.add_lit]
      show w.cell? _ = _
      rw [cell_of_row w g (k * 2 + j) cur 91 (0, 0) hg]
      have hj := (List.getElem?_eq_some_iff.1 hu).1
      rw [hdl] at hj
      rw [← flat_drop cLa 2 cLa_len, ← htk, List.getElem?_drop, List.getElem?_take_of_lt (by omega)] at hu
      simpa using hu) (by rw [hdl, hcs]; omega) (flat_one cLa_one _)
    rw [hm, ← hc1, ← hW1] at this
    exact this
  have hcp2 : ∀ ty dc, (Builtin.copy_ #[129, 129] ty #[.slice (some ⟨g, k * 2, none⟩) (n + 1 - k) dc, .slice (some ⟨vb, 0, none⟩) 1 1]).run Try.prog W1 = .ok (goInt ((1 : Nat) : Int)) W2 := fun ty dc => by
    have hm : Nat.min 1 (n + 1 - k) = 1 := by simp only [Nat.min_def]; split <;> omega
    have := run_copy_own (P := Try.prog) W1 129 129 ty 91 2 g (k * 2) (n + 1 - k) dc ⟨vb, 0, none⟩ 1 1 c1.toArray 91 (cLa r) Try.underlying129 info91s (by rw [hW1]; exact setRow_heap w.drew g cur _ 91 (0, 0) hg) (by rw [hm, cLa_len]) (fun j u hu => by
      rw [hW1]
      have := news_heap hvb j u (by simpa using hu)
      rw [Addr.add_lit] at this ⊢
      rw [cell_setRow_other _ _ _ _ hvg]
      exact this) (by rw [cLa_len, List.size_toArray, l1, hcl]; omega) (cLa_one r)
    rw [hm] at this
    simp only [List.toList_toArray] at this
    rw [← hc2, ← hW2] at this
    exact this
  have hov : ∀ lb cb, (callFunc 131 #[.slice (some ⟨vb, 0, none⟩) 1 1, .slice (some ⟨g, (k + 1) * 2, none⟩) lb cb]).run Try.prog w = .ok (.value (.bool false)) w := fun lb cb => by
    rw [run_callFunc_extern Try.func131 (by kernel_rfl) (by kernel_rfl) (by kernel_rfl) (e := Extern.SlicesOverlaps.overlaps #[129, 129] #[4]) (by kernel_rfl),
      Lib.run_overlaps_apart w 129 4 91 Try.underlying129 2 size91 ⟨vb, 0, none⟩ ⟨g, (k + 1) * 2, none⟩ 1 1 lb cb hvg 91 91 2 cur.size (by simp [World.shape?, hvb, cLa_len]) (by simp [World.shape?, hg]) (by rw [hcs]; omega) (by simp [World.frozen?, hvb]) (by simp [World.frozen?, hvb])]
    rfl
  have hfin : W2.ownsRow base 91 2 (.slice (some ⟨g, 0, none⟩) (n + 1) cap) (n + 1) ((xs.take k ++ r :: xs.drop k).flatMap cLa) ∧ w.grownBy W2 (some g) := by
    have hg1 : W1.heap[g]? = some (.cells c1.toArray 91 (0, 0)) := by rw [hW1]; exact setRow_heap w.drew g cur _ 91 (0, 0) hg
    refine ⟨⟨?_, .inr ⟨g, cap, c2.toArray, rfl, hb, by rw [hW2]; exact setRow_heap W1 g _ _ 91 (0, 0) hg1, hnc, hcm, by rw [List.size_toArray, l2, hcl], by simpa using t2⟩⟩, ?_⟩
    · rw [flat_len cLa 2 cLa_len, List.length_append, List.length_cons, List.length_take, List.length_drop, hn]; congr 1; omega
    · rw [hW2, hW1]
      refine ⟨rfl, rfl, rfl, by simp, fun j hj hne => ?_⟩
      rw [setRow_other _ _ _ _ (fun e => hne (by rw [e])), setRow_other _ _ _ _ (fun e => hne (by rw [e]))]
      rfl
  have mixed : Try.prog.follows Departure.mixedOrders = true := by kernel_rfl
  have HCP := Lib.hid (And.intro hcp1 hcp2)
  have HOV := Lib.hid hov
  have HF := Lib.hid hfin
  have hz1 : ¬ ((1 : Int) = 0) := by omega
  have hz2 : ¬ ((k : Int) = (n : Int)) := by omega
  have hk0 : (0 : Int) ≤ (k : Int) := by omega
  have hk1 : (k : Int) ≤ (n : Int) := by omega
  have hk2 : (n : Int) + 1 ≤ (cap : Int) := by omega
  have hb2 : ¬ (cap = k + 1) := by omega
  have hb3 : (k : Int) + 1 ≤ (n : Int) + 1 := by omega
  have hb5 : (k : Int) ≤ (n : Int) + 1 := by omega
  have hb4 : ¬ (cap = k) := by omega
  have hbn : (0 : Int) ≤ (n : Int) + 1 := by omega
  have hbk : (0 : Int) ≤ (k : Int) + 1 := by omega
  have htn : ((n : Int) + 1).toNat = n + 1 := by omega
  have htk1 : ((k : Int) + 1).toNat = k + 1 := by omega
  have hw1 : IntKind.i64.wrap ((k : Int) + 1) = (k : Int) + 1 := by rw [IntKind.wrap_i64]; omega
  have hw2 : IntKind.i64.wrap ((n : Int) + 1) = (n : Int) + 1 := by rw [IntKind.wrap_i64]; omega
  have hcm' : (cap : Int) ≤ 9223372036854775807 := by unfold maxLen at hcm; omega
  clear hfin hov hcp1 hcp2 hdl hcl l1 l2 t2 hc1 hc2 hg hcs htk hvb hcm hW2 hW1
  go_enter Try.func115, Try.ntmps115
  go_wp2_with (simp only [HOV.out])
  go_region_law_o (refine step_copy_runI rfl _ _ 129 129 rfl (.slice (some ⟨g, (k + 1) * 2, none⟩) (n + 1 - (k + 1)) (cap - (k + 1))) (.slice (some ⟨g, k * 2, none⟩) (n + 1 - k) (cap - k)) (by simp [Act.eval, Act.put]) (by simp [Act.eval, Act.put]) (HCP.out.1 _ _ _) ?_)
  go_wp2_with (simp only [HCP.out.2])
  go_ret
  exact ⟨_, rfl, HF.out.1, HF.out.2, rfl⟩

/-- what an insertion into a new row leaves -/
theorem ins_newLa {row : List Value} {xs : List La} {n k : Nat} {r : La} (h : row.take (k * 2) = (xs.take k).flatMap cLa) (hn : xs.length = n) (hk : k ≤ n) (hc : (n + 1) * 2 ≤ row.length) (c1 c2 : List Value)
    (h1 : c1 = row.take (k * 2) ++ cLa r ++ row.drop (k * 2 + (cLa r).length)) (h2 : c2 = c1.take ((k + 1) * 2) ++ (xs.drop k).flatMap cLa ++ c1.drop ((k + 1) * 2 + ((xs.drop k).flatMap cLa).length)) :
    c1.length = row.length ∧ c2.length = row.length ∧ c2.take ((n + 1) * 2) = (xs.take k ++ r :: xs.drop k).flatMap cLa := by
  have hd : ((xs.drop k).flatMap cLa).length = (n - k) * 2 := by rw [flat_len cLa 2 cLa_len, List.length_drop, hn]
  have ht : ((xs.take k).flatMap cLa).length = k * 2 := by rw [flat_len cLa 2 cLa_len, List.length_take, hn, Nat.min_eq_left hk]
  have l1 : c1.length = row.length := by
    rw [h1, List.length_append, List.length_append, List.length_take, List.length_drop, cLa_len]
    omega
  have e1 : c1.take ((k + 1) * 2) = (xs.take k).flatMap cLa ++ cLa r := by
    rw [h1, h, List.take_left' (by rw [List.length_append, ht, cLa_len]; omega)]
  refine ⟨l1, ?_, ?_⟩
  · rw [h2, List.length_append, List.length_append, List.length_take, List.length_drop, hd, l1]
    omega
  · rw [h2, e1, List.take_left' (by simp only [List.length_append, ht, hd, cLa_len]; omega), List.flatMap_append, List.flatMap_cons, List.append_assoc]

set_option maxHeartbeats 4000000 in
set_option maxRecDepth 100000 in
theorem Insert_growLa (xs : List La) (r : La) (base n k vb g cap : Nat) (cur : Array Value) (w : World) (hg : w.heap[g]? = some (.cells cur 91 (0, 0))) (htk : cur.toList.take (n * 2) = xs.flatMap cLa)
    (hn : xs.length = n) (hk : k < n) (hnc : n ≤ cap) (hroom : cap < n + 1) (hvb : w.heap[vb]? = some (.cells (cLa r).toArray 91 (0, 0))) (hbase : base ≤ w.heap.size) (hl : n ≤ 1172812402926) :
    Calls Try.prog 115 #[.slice (some ⟨g, 0, none⟩) n cap, .int .i64 (k : Int), .slice (some ⟨vb, 0, none⟩) 1 1] w fun e w' => ∃ v', e = .returned v' ∧ w'.ownsRow base 91 2 v' (n + 1) ((xs.take k ++ r :: xs.drop k).flatMap cLa) ∧ w.grownBy w' (some g) ∧ v'.ownBlock = some w.heap.size := by
  obtain ⟨i, hi, hz, hsz, hby⟩ := info_parts info91
  have hgl : g < w.heap.size := (Array.getElem?_eq_some_iff.1 hg).1
  have hvl : vb < w.heap.size := (Array.getElem?_eq_some_iff.1 hvb).1
  have hdl : ((xs.drop k).flatMap cLa).length = (n - k) * 2 := by rw [flat_len cLa 2 cLa_len, List.length_drop, hn]
  have htl : ((xs.take k).flatMap cLa).length = k * 2 := by rw [flat_len cLa 2 cLa_len, List.length_take, hn, Nat.min_eq_left (Nat.le_of_lt hk)]
  have hcell : ∀ j u, (xs.flatMap cLa)[j]? = some u → w.cell? ⟨g, j, none⟩ = some u := fun j u hu => by
    rw [cell_of_row w g j cur 91 (0, 0) hg]
    have hj := (List.getElem?_eq_some_iff.1 hu).1
    rw [flat_len cLa 2 cLa_len, hn] at hj
    rw [← htk, List.getElem?_take_of_lt hj] at hu
    simpa using hu
  have hold : (Builtin.firstCells i.size k (.slice (some ⟨g, 0, none⟩) k cap)).run Try.prog w.drew = .ok ((xs.take k).flatMap cLa).toArray w.drew :=
    run_firstCells_some w.drew i.size k ⟨g, 0, none⟩ k cap ((xs.take k).flatMap cLa) (by rw [htl, hsz]) (fun j u hu => by
      rw [Addr.add_lit, Nat.zero_add]
      refine hcell j u ?_
      rw [← flat_take cLa 2 cLa_len] at hu
      rw [List.getElem?_take] at hu
      split at hu
      · exact hu
      · cases hu)
  have hkk : (n : Int) + 1 - (k : Int) = ((n + 1 - k : Nat) : Int) := by omega
  have hik : k + (n + 1 - k) = n + 1 := by omega
  obtain ⟨G, hG⟩ : ∃ G, G = grownCap w (n + 1) cap 91 := ⟨_, rfl⟩
  have hGn : n + 1 ≤ G := by rw [hG]; exact grownCap_ge w _ _ _
  have hGm : G ≤ maxLen := by rw [hG]; exact grownCap_le_maxLen w (n + 1) cap 91 (by have := maxLen_ge; omega)
  obtain ⟨ROW, hROW⟩ : ∃ ROW : Array Value, ROW = ((xs.take k).flatMap cLa).toArray ++ Builtin.zeroCells (Value.agg #[.complex .f64 0 0, .int .i64 0]).cells (n + 1 - k) ++ Builtin.zeroCells (Value.agg #[.complex .f64 0 0, .int .i64 0]).cells (G - (n + 1)) := ⟨_, rfl⟩
  obtain ⟨W1, hW1⟩ : ∃ W1, W1 = w.drew.alloc (.cells ROW 91) := ⟨_, rfl⟩
  have hrz : ∀ ty, (Builtin.append_ #[129, 3] ty #[.slice (some ⟨g, 0, none⟩) k cap, .int .i64 ((n : Int) + 1 - (k : Int))]).run Try.prog w = .ok (.slice (some ⟨w.heap.size, 0, none⟩) (n + 1) G) W1 := fun ty => by
    have h := Lib.run_append_grow_zeros w 129 3 ty 91 i _ .i64 .i64 Try.underlying129 Try.underlying3 hi hz (some ⟨g, 0, none⟩) k cap ((xs.take k).flatMap cLa) hold (n + 1 - k) (by omega) (by omega) (by omega) (by omega) (by rw [hby]; omega) (by rw [hby, hik]; exact growslice_fits hroom (by omega))
    rw [hik, ← hG, ← hROW, ← hW1] at h
    rw [hkk]
    exact h
  have hRs : ROW.size = G * 2 := by
    rw [hROW, Array.size_append, Array.size_append, size_zeroCells, size_zeroCells, List.size_toArray, htl]
    show k * 2 + (n + 1 - k) * 2 + (G - (n + 1)) * 2 = G * 2
    omega
  have hRl : ROW.toList.length = G * 2 := by rw [Array.length_toList]; exact hRs
  have hRt : ROW.toList.take (k * 2) = (xs.take k).flatMap cLa := by
    rw [hROW]
    simp only [Array.toList_append, List.append_assoc]
    exact List.take_left' htl
  obtain ⟨c1, hc1⟩ : ∃ l, l = ROW.toList.take (k * 2) ++ cLa r ++ ROW.toList.drop (k * 2 + (cLa r).length) := ⟨_, rfl⟩
  obtain ⟨c2, hc2⟩ : ∃ l, l = c1.take ((k + 1) * 2) ++ (xs.drop k).flatMap cLa ++ c1.drop ((k + 1) * 2 + ((xs.drop k).flatMap cLa).length) := ⟨_, rfl⟩
  obtain ⟨l1, l2, t2⟩ := ins_newLa (r := r) hRt hn (Nat.le_of_lt hk) (by rw [hRl]; exact Nat.mul_le_mul_right 2 hGn) c1 c2 hc1 hc2
  obtain ⟨W2, hW2⟩ : ∃ W2, W2 = W1.setRow w.heap.size c1.toArray := ⟨_, rfl⟩
  obtain ⟨W3, hW3⟩ : ∃ W3, W3 = W2.drew.setRow w.heap.size c2.toArray := ⟨_, rfl⟩
  have hH1 : W1.heap[w.heap.size]? = some (.cells ROW 91 (0, 0)) := by rw [hW1]; exact heap_alloc_new w.drew _
  have hH2 : W2.heap[w.heap.size]? = some (.cells c1.toArray 91 (0, 0)) := by rw [hW2]; exact setRow_heap W1 _ ROW _ 91 (0, 0) hH1
  have hold1 : ∀ j, j < w.heap.size → W1.heap[j]? = w.heap[j]? := fun j hj => by rw [hW1]; exact heap_alloc_old w.drew _ hj
  have hold2 : ∀ j, j < w.heap.size → W2.heap[j]? = w.heap[j]? := fun j hj => by rw [hW2, setRow_other _ _ _ _ (by omega)]; exact hold1 j hj
  have hcp1 : ∀ ty dc, (Builtin.copy_ #[129, 129] ty #[.slice (some ⟨w.heap.size, k * 2, none⟩) (n + 1 - k) dc, .slice (some ⟨vb, 0, none⟩) 1 1]).run Try.prog W1 = .ok (goInt ((1 : Nat) : Int)) W2 := fun ty dc => by
    have hm : Nat.min 1 (n + 1 - k) = 1 := by simp only [Nat.min_def]; split <;> omega
    have := run_copy_own (P := Try.prog) W1 129 129 ty 91 2 w.heap.size (k * 2) (n + 1 - k) dc ⟨vb, 0, none⟩ 1 1 ROW 91 (cLa r) Try.underlying129 info91s hH1 (by rw [hm, cLa_len]) (fun j u hu => by
      have := news_heap hvb j u (by simpa using hu)
      rw [Addr.add_lit] at this ⊢
      exact (World.cell?_of_block (hold1 vb hvl)).trans this) (by rw [cLa_len, hRs]; omega) (cLa_one r)
    rw [hm, ← hc1, ← hW2] at this
    exact this
  have hcp2 : ∀ ty dc sc, (Builtin.copy_ #[129, 129] ty #[.slice (some ⟨w.heap.size, (k + 1) * 2, none⟩) (n + 1 - (k + 1)) dc, .slice (some ⟨g, k * 2, none⟩) (n - k) sc]).run Try.prog W2.drew = .ok (goInt ((n - k : Nat) : Int)) W3 := fun ty dc sc => by
    have hm : Nat.min (n - k) (n + 1 - (k + 1)) = n - k := by simp only [Nat.min_def]; split <;> omega
    have := run_copy_own (P := Try.prog) W2.drew 129 129 ty 91 2 w.heap.size ((k + 1) * 2) (n + 1 - (k + 1)) dc ⟨g, k * 2, none⟩ (n - k) sc c1.toArray 91 ((xs.drop k).flatMap cLa) Try.underlying129 info91s hH2 (by rw [hdl, hm]) (fun j u hu => by
      rw [Addr.add_lit]
      show W2.cell? _ = _
      refine (World.cell?_of_block (hold2 g hgl)).trans (hcell _ u ?_)
      rw [← flat_drop cLa 2 cLa_len, List.getElem?_drop] at hu
      exact hu) (by rw [hdl, List.size_toArray, l1, hRl]; omega) (flat_one cLa_one _)
    rw [hm] at this
    simp only [List.toList_toArray] at this
    rw [← hc2, ← hW3] at this
    exact this
  have hfin : W3.ownsRow base 91 2 (.slice (some ⟨w.heap.size, 0, none⟩) (n + 1) G) (n + 1) ((xs.take k ++ r :: xs.drop k).flatMap cLa) ∧ w.grownBy W3 (some g) := by
    refine ⟨⟨?_, .inr ⟨w.heap.size, G, c2.toArray, rfl, hbase, by rw [hW3]; exact setRow_heap W2.drew _ _ _ 91 (0, 0) hH2, hGn, hGm, by rw [List.size_toArray, l2, hRl], by simpa using t2⟩⟩, ?_⟩
    · rw [flat_len cLa 2 cLa_len, List.length_append, List.length_cons, List.length_take, List.length_drop, hn]; congr 1; omega
    · refine ⟨?_, ?_, ?_, ?_, fun j hj hne => ?_⟩
      · rw [hW3, hW2, hW1]; rfl
      · rw [hW3, hW2, hW1]; rfl
      · rw [hW3, hW2, hW1]; rfl
      · rw [hW3, hW2, hW1]; simp [World.setRow]
      · rw [hW3, setRow_other _ _ _ _ (by omega)]
        exact hold2 j hj
  have mixed : Try.prog.follows Departure.mixedOrders = true := by kernel_rfl
  have HCP := Lib.hid (And.intro hcp1 hcp2)
  have HRZ := Lib.hid hrz
  have HF := Lib.hid hfin
  have hz1 : ¬ ((1 : Int) = 0) := by omega
  have hz2 : ¬ ((k : Int) = (n : Int)) := by omega
  have hz3 : (cap : Int) < (n : Int) + 1 := by omega
  have hk0 : (0 : Int) ≤ (k : Int) := by omega
  have hk1 : (k : Int) ≤ (n : Int) := by omega
  have hk2 : (k : Int) ≤ (cap : Int) := by omega
  have hk3 : (k : Int) ≤ (n : Int) + 1 := by omega
  have hk4 : (k : Int) + 1 ≤ (n : Int) + 1 := by omega
  have hbk : (0 : Int) ≤ (k : Int) + 1 := by omega
  have hGi : ¬ (G = k) := by omega
  have hGi1 : ¬ (G = k + 1) := by omega
  have hci : ¬ (cap = k) := by omega
  have htk1 : ((k : Int) + 1).toNat = k + 1 := by omega
  have hw1 : IntKind.i64.wrap ((k : Int) + 1) = (k : Int) + 1 := by rw [IntKind.wrap_i64]; omega
  have hw2 : IntKind.i64.wrap ((n : Int) + 1) = (n : Int) + 1 := by rw [IntKind.wrap_i64]; omega
  have hw3 : IntKind.i64.wrap ((n : Int) + 1 - (k : Int)) = (n : Int) + 1 - (k : Int) := by rw [IntKind.wrap_i64]; omega
  have hGm' : (G : Int) ≤ 9223372036854775807 := by unfold maxLen at hGm; omega
  have hGn' : (n : Int) + 1 ≤ (G : Int) := by omega
  have hcm' : (cap : Int) ≤ 9223372036854775807 := by omega
  obtain ⟨H, hH⟩ : ∃ H, H = w.heap.size := ⟨_, rfl⟩
  rw [← hH] at HCP HRZ HF
  have HHZ := Lib.hid hH
  clear hH hfin hrz hcp1 hcp2 hold2 hold1 hH2 hH1 l1 l2 t2 hc1 hc2 hRt hRl hRs hROW hGm hG hold hcell hdl htl hg htk hvb hi hz hsz hby hW3 hW2 hW1 hkk hik hgl hvl
  go_enter Try.func115, Try.ntmps115
  go_wp2_with (at_builtin; refine Lib.wpList_append_run _ rfl _ _ 129 3 rfl _ _ rfl rfl _ _ (HRZ.out _) ?_)
  go_wp2_with (simp only [HCP.out.1])
  go_region_law_o (refine step_copy_runI rfl _ _ 129 129 rfl (.slice (some ⟨H, (k + 1) * 2, none⟩) (n + 1 - (k + 1)) (G - (k + 1))) (.slice (some ⟨g, k * 2, none⟩) (n - k) (cap - k)) (by simp [Act.eval, Act.put]) (by simp [Act.eval, Act.put]) (HCP.out.2 _ _ _) ?_)
  go_wp2_with fail
  go_ret
  exact ⟨_, rfl, HF.out.1, HF.out.2, by rw [← HHZ.out]; rfl⟩
theorem Insert_okLa (xs : List La) (r : La) (base n k vb : Nat) (v : Value) (w : World) (hown : w.ownsRow base 91 2 v n (xs.flatMap cLa)) (hn : xs.length = n) (hk : k ≤ n) (hvb : w.heap[vb]? = some (.cells (cLa r).toArray 91 (0, 0))) (hne : v.ownBlock ≠ some vb) (hbase : base ≤ w.heap.size) (hl : n ≤ 1172812402926) :
    Calls Try.prog 115 #[v, .int .i64 (k : Int), .slice (some ⟨vb, 0, none⟩) 1 1] w fun e w' => ∃ v', e = .returned v' ∧ w'.ownsRow base 91 2 v' (n + 1) ((xs.take k ++ r :: xs.drop k).flatMap cLa) ∧ w.grownBy w' v.ownBlock ∧ (v'.ownBlock = v.ownBlock ∨ v'.ownBlock = some w.heap.size) := by
  by_cases hkn : k = n
  · subst hkn
    have h := Insert_endLa xs r base k vb v w hown hn hvb hbase hl
    rw [List.take_of_length_le (by omega), List.drop_of_length_le (by omega)]
    exact h
  · rcases hown.2 with ⟨rfl, rfl⟩ | ⟨g, cap, cur, rfl, hb, hg, hnc, hcm, hcs, htk⟩
    · exact absurd (by omega) hkn
    · have hvg : vb ≠ g := fun e => hne (by rw [e]; rfl)
      by_cases hroom : n + 1 ≤ cap
      · exact (Insert_inLa xs r base n k vb g cap cur w hb hg hcm hcs htk hn (by omega) hroom hvg hvb hbase hl).mono fun e w' ⟨v', h1, h2, h3, h4⟩ => ⟨v', h1, h2, h3, .inl h4⟩
      · exact (Insert_growLa xs r base n k vb g cap cur w hg htk hn (by omega) hnc (by omega) hvb hbase hl).mono fun e w' ⟨v', h1, h2, h3, h4⟩ => ⟨v', h1, h2, h3, .inr h4⟩


end Go.Proofs.Ytpklcefiabjplaa
