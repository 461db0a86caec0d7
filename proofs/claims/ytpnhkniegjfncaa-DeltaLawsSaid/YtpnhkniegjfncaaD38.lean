/- Own rows of routes: copying into them, a part of them, an insertion; conditions: the routes fit the memory. -/
import Derived.Test.YtpnhkniegjfncaaDS
import Derived.Shelf.Spec.SlicesInsert
import Derived.Lib.AppendZerosOnto
namespace Go.Proofs.Ytpnhkniegjfncaa
open Go.ChangeShapes Go.WideShapes Go.ChangeAt Go.RowKit
set_option linter.unusedVariables false
set_option linter.unusedSimpArgs false

theorem flat_take {α β : Type} (f : α → List β) (m : Nat) (hm : ∀ x, (f x).length = m) : ∀ (xs : List α) (k : Nat), (xs.flatMap f).take (k * m) = (xs.take k).flatMap f
  | [], k => by simp
  | x :: xs, 0 => by simp
  | x :: xs, k + 1 => by
    rw [List.flatMap_cons, List.take_succ_cons, List.flatMap_cons, ← flat_take f m hm xs k, List.take_append, hm, List.take_of_length_le (by rw [hm, Nat.succ_mul]; omega)]
    rw [show (k + 1) * m - m = k * m by rw [Nat.succ_mul]; omega]
theorem flat_drop {α β : Type} (f : α → List β) (m : Nat) (hm : ∀ x, (f x).length = m) : ∀ (xs : List α) (k : Nat), (xs.flatMap f).drop (k * m) = (xs.drop k).flatMap f
  | [], k => by simp
  | x :: xs, 0 => by simp
  | x :: xs, k + 1 => by
    rw [List.flatMap_cons, List.drop_succ_cons, ← flat_drop f m hm xs k, List.drop_append, hm, List.drop_of_length_le (by rw [hm, Nat.succ_mul]; omega)]
    rw [show (k + 1) * m - m = k * m by rw [Nat.succ_mul]; omega, List.nil_append]

theorem run_copy_own {P : Program} (w : World) (dT sT ty elem : TypeId) (s g o dLen dCap : Nat) (a : Addr) (sLen sCap : Nat) (cur : Array Value) (t : TypeId) (cs : List Value)
    (hu : P.underlying dT = some (.slice elem)) (hs : (P.info? elem).map (·.size) = some s)
    (hg : w.heap[g]? = some (.cells cur t (0, 0))) (hn : cs.length = Nat.min sLen dLen * s)
    (hsrc : ∀ j v, cs[j]? = some v → w.cell? (a.add j) = some v) (hfit : o + cs.length ≤ cur.size) (h1 : ∀ v ∈ cs, v.oneCell' = true) :
    (Builtin.copy_ #[dT, sT] ty #[.slice (some ⟨g, o, none⟩) dLen dCap, .slice (some a) sLen sCap]).run P w =
      .ok (goInt (Nat.min sLen dLen)) (w.setRow g (cur.toList.take o ++ cs ++ cur.toList.drop (o + cs.length)).toArray) := by
  have hl := run_loadCells_list (P := P) w a cs hsrc
  have hst := run_storeCells_at P g o t cs 0 cur w hg (by simpa using hfit) h1
  cases hq : P.info? elem with
  | none => simp [hq] at hs
  | some i =>
    have hi : i.size = s := by simpa [hq] using hs
    simp [Builtin.copy_, run_underlying hu, Builtin.lenOf, Builtin.firstCells, sizeOf, typeInfo, hq, hi, ← hn, hl, hst]

/-- what an insertion in place leaves -/
theorem ins_get {cur : List Value} {xs : List Ro} {n k : Nat} {r : Ro} (h : cur.take (n * 7) = xs.flatMap rcV) (hn : xs.length = n) (hk : k ≤ n) (hc : (n + 1) * 7 ≤ cur.length) (cur1 cur2 : List Value)
    (h1 : cur1 = cur.take ((k + 1) * 7) ++ (xs.drop k).flatMap rcV ++ cur.drop ((k + 1) * 7 + ((xs.drop k).flatMap rcV).length)) (h2 : cur2 = cur1.take (k * 7) ++ rcV r ++ cur1.drop (k * 7 + (rcV r).length)) :
    cur1.length = cur.length ∧ cur2.length = cur.length ∧ cur2.take ((n + 1) * 7) = (xs.take k ++ r :: xs.drop k).flatMap rcV := by
  have hd : ((xs.drop k).flatMap rcV).length = (n - k) * 7 := by rw [flat_len rcV 7 rcV_len, List.length_drop, hn]
  have ht : ((xs.take k).flatMap rcV).length = k * 7 := by rw [flat_len rcV 7 rcV_len, List.length_take, hn, Nat.min_eq_left hk]
  have l1 : cur1.length = cur.length := by
    rw [h1, List.length_append, List.length_append, List.length_take, List.length_drop, hd]
    omega
  have e1 : cur1.take (k * 7) = (xs.take k).flatMap rcV := by
    rw [← flat_take rcV 7 rcV_len xs k, ← h, List.take_take, Nat.min_eq_left (by omega), h1, List.append_assoc, List.take_append_of_le_length (by rw [List.length_take]; omega), List.take_take, Nat.min_eq_left (by omega)]
  have e2 : ∃ R, cur1.drop (k * 7 + (rcV r).length) = (xs.drop k).flatMap rcV ++ R := by
    refine ⟨cur.drop ((k + 1) * 7 + ((xs.drop k).flatMap rcV).length), ?_⟩
    rw [h1, List.append_assoc, rcV_len, show k * 7 + 7 = (k + 1) * 7 by omega, List.drop_append_of_le_length (by rw [List.length_take]; omega), List.drop_of_length_le (by rw [List.length_take]; omega), List.nil_append]
  obtain ⟨R, e2⟩ := e2
  refine ⟨l1, ?_, ?_⟩
  · rw [h2, List.length_append, List.length_append, List.length_take, List.length_drop, rcV_len, l1]
    omega
  · have e3 : cur2 = ((xs.take k).flatMap rcV ++ rcV r ++ (xs.drop k).flatMap rcV) ++ R := by rw [h2, e1, e2]; simp only [List.append_assoc]
    rw [e3, List.take_left' (by simp only [List.length_append, ht, hd, rcV_len]; omega), List.flatMap_append, List.flatMap_cons, List.append_assoc]
theorem news_heap {w : World} {vb : Nat} {arr : Array Value} {t : TypeId} (h : w.heap[vb]? = some (.cells arr t (0, 0))) : ∀ j u, arr.toList[j]? = some u → w.cell? (Addr.add ⟨vb, 0, none⟩ j) = some u := by
  intro j u hu
  have hadd : (⟨vb, 0, none⟩ : Addr).add j = ⟨vb, j, none⟩ := by unfold Addr.add; split <;> simp_all
  rw [hadd, cell_of_row w vb j arr t (0, 0) h]
  simpa using hu
theorem maxLen_ge : 2513169434844 ≤ maxLen := by unfold maxLen; omega

set_option maxHeartbeats 4000000 in
set_option maxRecDepth 100000 in
theorem Insert_end (xs : List Ro) (r : Ro) (base n vb : Nat) (v : Value) (w : World) (hown : w.ownsRow base 40 7 v n (xs.flatMap rcV)) (hn : xs.length = n) (hvb : w.heap[vb]? = some (.cells (rcV r).toArray 40 (0, 0))) (hbase : base ≤ w.heap.size) (hl : n ≤ 1172812402926) :
    Calls Try.prog 41 #[v, .int .i64 (n : Int), .slice (some ⟨vb, 0, none⟩) 1 1] w fun e w' => ∃ v', e = .returned v' ∧ w'.ownsRow base 40 7 v' (n + 1) ((xs ++ [r]).flatMap rcV) ∧ w.grownBy w' v.ownBlock := by
  obtain ⟨i, hi, hz, hsz, hby⟩ := info_parts info40
  have hk0 : (0 : Int) ≤ (n : Int) := by omega
  have e1 : (xs ++ [r]).flatMap rcV = xs.flatMap rcV ++ rcV r := by simp
  have HA := fun (o : Oper) (rest : List Oper) (ops : Array Oper) (a : Act) (Q : Exit → Act → World → Prop) hgd s x ho hs hx h => wpList_append_own (P := Try.prog) (ops := ops) (rest := rest) (o := o) (a := a) (Q := Q) w hgd s x 22 ho base 40 i _ 7 56 Try.underlying22 hi hz hsz hby rfl (by omega) v n (xs.flatMap rcV) hs hown ⟨vb, 0, none⟩ 1 1 (rcV r) hx (by rw [rcV_len]) (news_heap hvb) (rcV_one r) (by have := maxLen_ge; omega) (by omega) hbase h
  have HH := Lib.hid HA
  have ho := Lib.hid hown
  rcases hown.2 with ⟨rfl, rfl⟩ | ⟨g, cap, cur, rfl, hb, hg, hnc, hcm, hcs, htk⟩
  · clear hown HA
    go_enter Try.func41, Try.ntmps41
    go_wp2_with (at_builtin; refine HH.out _ _ _ _ _ rfl _ _ rfl rfl rfl ?_; intro v' w' r1 r2 r3)
    all_goals go_ret
    all_goals exact ⟨v', rfl, r1, r2⟩
  · have hnci : (n : Int) ≤ (cap : Int) := by omega
    have hcm' : (cap : Int) ≤ 9223372036854775807 := by unfold maxLen at hcm; omega
    clear hown HA hg hcs htk
    go_enter Try.func41, Try.ntmps41
    go_wp2_with (at_builtin; refine HH.out _ _ _ _ _ rfl _ _ rfl rfl rfl ?_; intro v' w' r1 r2 r3)
    all_goals go_ret
    all_goals exact ⟨v', rfl, r1, r2⟩

set_option maxHeartbeats 4000000 in
set_option maxRecDepth 100000 in
theorem Insert_in (xs : List Ro) (r : Ro) (base n k vb g cap : Nat) (cur : Array Value) (w : World) (hb : base ≤ g) (hg : w.heap[g]? = some (.cells cur 40 (0, 0))) (hcm : cap ≤ maxLen) (hcs : cur.size = cap * 7) (htk : cur.toList.take (n * 7) = xs.flatMap rcV)
    (hn : xs.length = n) (hk : k < n) (hnc : n + 1 ≤ cap) (hvg : vb ≠ g) (hvb : w.heap[vb]? = some (.cells (rcV r).toArray 40 (0, 0))) (hbase : base ≤ w.heap.size) (hl : n ≤ 1172812402926) :
    Calls Try.prog 41 #[.slice (some ⟨g, 0, none⟩) n cap, .int .i64 (k : Int), .slice (some ⟨vb, 0, none⟩) 1 1] w fun e w' => ∃ v', e = .returned v' ∧ w'.ownsRow base 40 7 v' (n + 1) ((xs.take k ++ r :: xs.drop k).flatMap rcV) ∧ w.grownBy w' (some g) := by
  have hdl : ((xs.drop k).flatMap rcV).length = (n - k) * 7 := by rw [flat_len rcV 7 rcV_len, List.length_drop, hn]
  have hcl : cur.toList.length = cap * 7 := by rw [Array.length_toList]; exact hcs
  obtain ⟨c1, hc1⟩ : ∃ l, l = cur.toList.take ((k + 1) * 7) ++ (xs.drop k).flatMap rcV ++ cur.toList.drop ((k + 1) * 7 + ((xs.drop k).flatMap rcV).length) := ⟨_, rfl⟩
  obtain ⟨c2, hc2⟩ : ∃ l, l = c1.take (k * 7) ++ rcV r ++ c1.drop (k * 7 + (rcV r).length) := ⟨_, rfl⟩
  obtain ⟨l1, l2, t2⟩ := ins_get (r := r) htk hn (Nat.le_of_lt hk) (by rw [hcl]; exact Nat.mul_le_mul_right 7 hnc) c1 c2 hc1 hc2
  obtain ⟨W1, hW1⟩ : ∃ W1, W1 = w.drew.setRow g c1.toArray := ⟨_, rfl⟩
  obtain ⟨W2, hW2⟩ : ∃ W2, W2 = W1.setRow g c2.toArray := ⟨_, rfl⟩
  have hcp1 : ∀ ty dc sc, (Builtin.copy_ #[22, 22] ty #[.slice (some ⟨g, (k + 1) * 7, none⟩) (n + 1 - (k + 1)) dc, .slice (some ⟨g, k * 7, none⟩) (n + 1 - k) sc]).run Try.prog w.drew = .ok (goInt ((n - k : Nat) : Int)) W1 := fun ty dc sc => by
    have hm : Nat.min (n + 1 - k) (n + 1 - (k + 1)) = n - k := by simp only [Nat.min_def]; split <;> omega
    have := run_copy_own (P := Try.prog) w.drew 22 22 ty 40 7 g ((k + 1) * 7) (n + 1 - (k + 1)) dc ⟨g, k * 7, none⟩ (n + 1 - k) sc cur 40 ((xs.drop k).flatMap rcV) Try.underlying22 info40s hg (by rw [hdl, hm]) (fun j u hu => by
      rw [Addr.add_lit]
      show w.cell? _ = _
      rw [cell_of_row w g (k * 7 + j) cur 40 (0, 0) hg]
      have hj := (List.getElem?_eq_some_iff.1 hu).1
      rw [hdl] at hj
      rw [← flat_drop rcV 7 rcV_len, ← htk, List.getElem?_drop, List.getElem?_take_of_lt (by omega)] at hu
      simpa using hu) (by rw [hdl, hcs]; omega) (flat_one rcV_one _)
    rw [hm, ← hc1, ← hW1] at this
    exact this
  have hcp2 : ∀ ty dc, (Builtin.copy_ #[22, 22] ty #[.slice (some ⟨g, k * 7, none⟩) (n + 1 - k) dc, .slice (some ⟨vb, 0, none⟩) 1 1]).run Try.prog W1 = .ok (goInt ((1 : Nat) : Int)) W2 := fun ty dc => by
    have hm : Nat.min 1 (n + 1 - k) = 1 := by simp only [Nat.min_def]; split <;> omega
    have := run_copy_own (P := Try.prog) W1 22 22 ty 40 7 g (k * 7) (n + 1 - k) dc ⟨vb, 0, none⟩ 1 1 c1.toArray 40 (rcV r) Try.underlying22 info40s (by rw [hW1]; exact setRow_heap w.drew g cur _ 40 (0, 0) hg) (by rw [hm, rcV_len]) (fun j u hu => by
      rw [hW1]
      have := news_heap hvb j u (by simpa using hu)
      rw [Addr.add_lit] at this ⊢
      rw [cell_setRow_other _ _ _ _ hvg]
      exact this) (by rw [rcV_len, List.size_toArray, l1, hcl]; omega) (rcV_one r)
    rw [hm] at this
    simp only [List.toList_toArray] at this
    rw [← hc2, ← hW2] at this
    exact this
  have hov : ∀ lb cb, (callFunc 51 #[.slice (some ⟨vb, 0, none⟩) 1 1, .slice (some ⟨g, (k + 1) * 7, none⟩) lb cb]).run Try.prog w = .ok (.value (.bool false)) w := fun lb cb => by
    rw [run_callFunc_extern Try.func51 (by kernel_rfl) (by kernel_rfl) (by kernel_rfl) (e := Extern.SlicesOverlaps.overlaps #[22, 22] #[4]) (by kernel_rfl),
      Lib.run_overlaps_apart w 22 4 40 Try.underlying22 7 size40 ⟨vb, 0, none⟩ ⟨g, (k + 1) * 7, none⟩ 1 1 lb cb hvg 40 40 7 cur.size (by simp [World.shape?, hvb, rcV_len]) (by simp [World.shape?, hg]) (by rw [hcs]; omega) (by simp [World.frozen?, hvb]) (by simp [World.frozen?, hvb])]
    rfl
  have hfin : W2.ownsRow base 40 7 (.slice (some ⟨g, 0, none⟩) (n + 1) cap) (n + 1) ((xs.take k ++ r :: xs.drop k).flatMap rcV) ∧ w.grownBy W2 (some g) := by
    have hg1 : W1.heap[g]? = some (.cells c1.toArray 40 (0, 0)) := by rw [hW1]; exact setRow_heap w.drew g cur _ 40 (0, 0) hg
    refine ⟨⟨?_, .inr ⟨g, cap, c2.toArray, rfl, hb, by rw [hW2]; exact setRow_heap W1 g _ _ 40 (0, 0) hg1, hnc, hcm, by rw [List.size_toArray, l2, hcl], by simpa using t2⟩⟩, ?_⟩
    · rw [flat_len rcV 7 rcV_len, List.length_append, List.length_cons, List.length_take, List.length_drop, hn]; congr 1; omega
    · rw [hW2, hW1]
      refine ⟨rfl, rfl, rfl, by simp, fun j hj hne => ?_⟩
      rw [setRow_other _ _ _ _ (fun e => hne (by rw [e])), setRow_other _ _ _ _ (fun e => hne (by rw [e]))]
      rfl
  have mixed : Try.prog.follows Departure.mixedOrders = true := by kernel_rfl
  have HCP := Lib.hid (And.intro hcp1 hcp2)
  have HOV := Lib.hid hov
  have HF := Lib.hid hfin
  have hz1 : ¬ ((1 : Int) = 0) := by omega
  have hz2 : ¬ ((k : Int) = (n : Int)) := by omega
  have hk0 : (0 : Int) ≤ (k : Int) := by omega
  have hk1 : (k : Int) ≤ (n : Int) := by omega
  have hk2 : (n : Int) + 1 ≤ (cap : Int) := by omega
  have hb2 : ¬ (cap = k + 1) := by omega
  have hb3 : (k : Int) + 1 ≤ (n : Int) + 1 := by omega
  have hb5 : (k : Int) ≤ (n : Int) + 1 := by omega
  have hb4 : ¬ (cap = k) := by omega
  have hbn : (0 : Int) ≤ (n : Int) + 1 := by omega
  have hbk : (0 : Int) ≤ (k : Int) + 1 := by omega
  have htn : ((n : Int) + 1).toNat = n + 1 := by omega
  have htk1 : ((k : Int) + 1).toNat = k + 1 := by omega
  have hw1 : IntKind.i64.wrap ((k : Int) + 1) = (k : Int) + 1 := by rw [IntKind.wrap_i64]; omega
  have hw2 : IntKind.i64.wrap ((n : Int) + 1) = (n : Int) + 1 := by rw [IntKind.wrap_i64]; omega
  have hcm' : (cap : Int) ≤ 9223372036854775807 := by unfold maxLen at hcm; omega
  clear hfin hov hcp1 hcp2 hdl hcl l1 l2 t2 hc1 hc2 hg hcs htk hvb hcm hW2 hW1
  go_enter Try.func41, Try.ntmps41
  go_wp2_with (simp only [HOV.out])
  go_region_law_o (refine step_copy_runI rfl _ _ 22 22 rfl (.slice (some ⟨g, (k + 1) * 7, none⟩) (n + 1 - (k + 1)) (cap - (k + 1))) (.slice (some ⟨g, k * 7, none⟩) (n + 1 - k) (cap - k)) (by simp [Act.eval, Act.put]) (by simp [Act.eval, Act.put]) (HCP.out.1 _ _ _) ?_)
  go_wp2_with (simp only [HCP.out.2])
  go_ret
  exact ⟨_, rfl, HF.out.1, HF.out.2⟩

/-- what an insertion into a new row leaves -/
theorem ins_new {row : List Value} {xs : List Ro} {n k : Nat} {r : Ro} (h : row.take (k * 7) = (xs.take k).flatMap rcV) (hn : xs.length = n) (hk : k ≤ n) (hc : (n + 1) * 7 ≤ row.length) (c1 c2 : List Value)
    (h1 : c1 = row.take (k * 7) ++ rcV r ++ row.drop (k * 7 + (rcV r).length)) (h2 : c2 = c1.take ((k + 1) * 7) ++ (xs.drop k).flatMap rcV ++ c1.drop ((k + 1) * 7 + ((xs.drop k).flatMap rcV).length)) :
    c1.length = row.length ∧ c2.length = row.length ∧ c2.take ((n + 1) * 7) = (xs.take k ++ r :: xs.drop k).flatMap rcV := by
  have hd : ((xs.drop k).flatMap rcV).length = (n - k) * 7 := by rw [flat_len rcV 7 rcV_len, List.length_drop, hn]
  have ht : ((xs.take k).flatMap rcV).length = k * 7 := by rw [flat_len rcV 7 rcV_len, List.length_take, hn, Nat.min_eq_left hk]
  have l1 : c1.length = row.length := by
    rw [h1, List.length_append, List.length_append, List.length_take, List.length_drop, rcV_len]
    omega
  have e1 : c1.take ((k + 1) * 7) = (xs.take k).flatMap rcV ++ rcV r := by
    rw [h1, h, List.take_left' (by rw [List.length_append, ht, rcV_len]; omega)]
  refine ⟨l1, ?_, ?_⟩
  · rw [h2, List.length_append, List.length_append, List.length_take, List.length_drop, hd, l1]
    omega
  · rw [h2, e1, List.take_left' (by simp only [List.length_append, ht, hd, rcV_len]; omega), List.flatMap_append, List.flatMap_cons, List.append_assoc]

set_option maxHeartbeats 4000000 in
set_option maxRecDepth 100000 in
theorem Insert_grow (xs : List Ro) (r : Ro) (base n k vb g cap : Nat) (cur : Array Value) (w : World) (hg : w.heap[g]? = some (.cells cur 40 (0, 0))) (htk : cur.toList.take (n * 7) = xs.flatMap rcV)
    (hn : xs.length = n) (hk : k < n) (hnc : n ≤ cap) (hroom : cap < n + 1) (hvb : w.heap[vb]? = some (.cells (rcV r).toArray 40 (0, 0))) (hbase : base ≤ w.heap.size) (hl : n ≤ 1172812402926) :
    Calls Try.prog 41 #[.slice (some ⟨g, 0, none⟩) n cap, .int .i64 (k : Int), .slice (some ⟨vb, 0, none⟩) 1 1] w fun e w' => ∃ v', e = .returned v' ∧ w'.ownsRow base 40 7 v' (n + 1) ((xs.take k ++ r :: xs.drop k).flatMap rcV) ∧ w.grownBy w' (some g) := by
  obtain ⟨i, hi, hz, hsz, hby⟩ := info_parts info40
  have hgl : g < w.heap.size := (Array.getElem?_eq_some_iff.1 hg).1
  have hvl : vb < w.heap.size := (Array.getElem?_eq_some_iff.1 hvb).1
  have hdl : ((xs.drop k).flatMap rcV).length = (n - k) * 7 := by rw [flat_len rcV 7 rcV_len, List.length_drop, hn]
  have htl : ((xs.take k).flatMap rcV).length = k * 7 := by rw [flat_len rcV 7 rcV_len, List.length_take, hn, Nat.min_eq_left (Nat.le_of_lt hk)]
  have hcell : ∀ j u, (xs.flatMap rcV)[j]? = some u → w.cell? ⟨g, j, none⟩ = some u := fun j u hu => by
    rw [cell_of_row w g j cur 40 (0, 0) hg]
    have hj := (List.getElem?_eq_some_iff.1 hu).1
    rw [flat_len rcV 7 rcV_len, hn] at hj
    rw [← htk, List.getElem?_take_of_lt hj] at hu
    simpa using hu
  have hold : (Builtin.firstCells i.size k (.slice (some ⟨g, 0, none⟩) k cap)).run Try.prog w.drew = .ok ((xs.take k).flatMap rcV).toArray w.drew :=
    run_firstCells_some w.drew i.size k ⟨g, 0, none⟩ k cap ((xs.take k).flatMap rcV) (by rw [htl, hsz]) (fun j u hu => by
      rw [Addr.add_lit, Nat.zero_add]
      refine hcell j u ?_
      rw [← flat_take rcV 7 rcV_len] at hu
      rw [List.getElem?_take] at hu
      split at hu
      · exact hu
      · cases hu)
  have hkk : (n : Int) + 1 - (k : Int) = ((n + 1 - k : Nat) : Int) := by omega
  have hik : k + (n + 1 - k) = n + 1 := by omega
  obtain ⟨G, hG⟩ : ∃ G, G = grownCap w (n + 1) cap 40 := ⟨_, rfl⟩
  have hGn : n + 1 ≤ G := by rw [hG]; exact grownCap_ge w _ _ _
  have hGm : G ≤ maxLen := by rw [hG]; exact grownCap_le_maxLen w (n + 1) cap 40 (by have := maxLen_ge; omega)
  obtain ⟨ROW, hROW⟩ : ∃ ROW : Array Value, ROW = ((xs.take k).flatMap rcV).toArray ++ Builtin.zeroCells (Value.agg #[.int .u32 0, .int .i64 0, .int .i64 0, .int .u64 0, .int .u64 0, .int .u64 0, .int .u64 0]).cells (n + 1 - k) ++ Builtin.zeroCells (Value.agg #[.int .u32 0, .int .i64 0, .int .i64 0, .int .u64 0, .int .u64 0, .int .u64 0, .int .u64 0]).cells (G - (n + 1)) := ⟨_, rfl⟩
  obtain ⟨W1, hW1⟩ : ∃ W1, W1 = w.drew.alloc (.cells ROW 40) := ⟨_, rfl⟩
  have hrz : ∀ ty, (Builtin.append_ #[22, 3] ty #[.slice (some ⟨g, 0, none⟩) k cap, .int .i64 ((n : Int) + 1 - (k : Int))]).run Try.prog w = .ok (.slice (some ⟨w.heap.size, 0, none⟩) (n + 1) G) W1 := fun ty => by
    have h := Lib.run_append_grow_zeros w 22 3 ty 40 i _ .i64 .i64 Try.underlying22 Try.underlying3 hi hz (some ⟨g, 0, none⟩) k cap ((xs.take k).flatMap rcV) hold (n + 1 - k) (by omega) (by omega) (by omega) (by omega) (by rw [hby]; omega) (by rw [hby, hik]; exact growslice_fits hroom (by omega))
    rw [hik, ← hG, ← hROW, ← hW1] at h
    rw [hkk]
    exact h
  have hRs : ROW.size = G * 7 := by
    rw [hROW, Array.size_append, Array.size_append, size_zeroCells, size_zeroCells, List.size_toArray, htl]
    show k * 7 + (n + 1 - k) * 7 + (G - (n + 1)) * 7 = G * 7
    omega
  have hRl : ROW.toList.length = G * 7 := by rw [Array.length_toList]; exact hRs
  have hRt : ROW.toList.take (k * 7) = (xs.take k).flatMap rcV := by
    rw [hROW]
    simp only [Array.toList_append, List.append_assoc]
    exact List.take_left' htl
  obtain ⟨c1, hc1⟩ : ∃ l, l = ROW.toList.take (k * 7) ++ rcV r ++ ROW.toList.drop (k * 7 + (rcV r).length) := ⟨_, rfl⟩
  obtain ⟨c2, hc2⟩ : ∃ l, l = c1.take ((k + 1) * 7) ++ (xs.drop k).flatMap rcV ++ c1.drop ((k + 1) * 7 + ((xs.drop k).flatMap rcV).length) := ⟨_, rfl⟩
  obtain ⟨l1, l2, t2⟩ := ins_new (r := r) hRt hn (Nat.le_of_lt hk) (by rw [hRl]; exact Nat.mul_le_mul_right 7 hGn) c1 c2 hc1 hc2
  obtain ⟨W2, hW2⟩ : ∃ W2, W2 = W1.setRow w.heap.size c1.toArray := ⟨_, rfl⟩
  obtain ⟨W3, hW3⟩ : ∃ W3, W3 = W2.drew.setRow w.heap.size c2.toArray := ⟨_, rfl⟩
  have hH1 : W1.heap[w.heap.size]? = some (.cells ROW 40 (0, 0)) := by rw [hW1]; exact heap_alloc_new w.drew _
  have hH2 : W2.heap[w.heap.size]? = some (.cells c1.toArray 40 (0, 0)) := by rw [hW2]; exact setRow_heap W1 _ ROW _ 40 (0, 0) hH1
  have hold1 : ∀ j, j < w.heap.size → W1.heap[j]? = w.heap[j]? := fun j hj => by rw [hW1]; exact heap_alloc_old w.drew _ hj
  have hold2 : ∀ j, j < w.heap.size → W2.heap[j]? = w.heap[j]? := fun j hj => by rw [hW2, setRow_other _ _ _ _ (by omega)]; exact hold1 j hj
  have hcp1 : ∀ ty dc, (Builtin.copy_ #[22, 22] ty #[.slice (some ⟨w.heap.size, k * 7, none⟩) (n + 1 - k) dc, .slice (some ⟨vb, 0, none⟩) 1 1]).run Try.prog W1 = .ok (goInt ((1 : Nat) : Int)) W2 := fun ty dc => by
    have hm : Nat.min 1 (n + 1 - k) = 1 := by simp only [Nat.min_def]; split <;> omega
    have := run_copy_own (P := Try.prog) W1 22 22 ty 40 7 w.heap.size (k * 7) (n + 1 - k) dc ⟨vb, 0, none⟩ 1 1 ROW 40 (rcV r) Try.underlying22 info40s hH1 (by rw [hm, rcV_len]) (fun j u hu => by
      have := news_heap hvb j u (by simpa using hu)
      rw [Addr.add_lit] at this ⊢
      exact (World.cell?_of_block (hold1 vb hvl)).trans this) (by rw [rcV_len, hRs]; omega) (rcV_one r)
    rw [hm, ← hc1, ← hW2] at this
    exact this
  have hcp2 : ∀ ty dc sc, (Builtin.copy_ #[22, 22] ty #[.slice (some ⟨w.heap.size, (k + 1) * 7, none⟩) (n + 1 - (k + 1)) dc, .slice (some ⟨g, k * 7, none⟩) (n - k) sc]).run Try.prog W2.drew = .ok (goInt ((n - k : Nat) : Int)) W3 := fun ty dc sc => by
    have hm : Nat.min (n - k) (n + 1 - (k + 1)) = n - k := by simp only [Nat.min_def]; split <;> omega
    have := run_copy_own (P := Try.prog) W2.drew 22 22 ty 40 7 w.heap.size ((k + 1) * 7) (n + 1 - (k + 1)) dc ⟨g, k * 7, none⟩ (n - k) sc c1.toArray 40 ((xs.drop k).flatMap rcV) Try.underlying22 info40s hH2 (by rw [hdl, hm]) (fun j u hu => by
      rw [Addr.add_lit]
      show W2.cell? _ = _
      refine (World.cell?_of_block (hold2 g hgl)).trans (hcell _ u ?_)
      rw [← flat_drop rcV 7 rcV_len, List.getElem?_drop] at hu
      exact hu) (by rw [hdl, List.size_toArray, l1, hRl]; omega) (flat_one rcV_one _)
    rw [hm] at this
    simp only [List.toList_toArray] at this
    rw [← hc2, ← hW3] at this
    exact this
  have hfin : W3.ownsRow base 40 7 (.slice (some ⟨w.heap.size, 0, none⟩) (n + 1) G) (n + 1) ((xs.take k ++ r :: xs.drop k).flatMap rcV) ∧ w.grownBy W3 (some g) := by
    refine ⟨⟨?_, .inr ⟨w.heap.size, G, c2.toArray, rfl, hbase, by rw [hW3]; exact setRow_heap W2.drew _ _ _ 40 (0, 0) hH2, hGn, hGm, by rw [List.size_toArray, l2, hRl], by simpa using t2⟩⟩, ?_⟩
    · rw [flat_len rcV 7 rcV_len, List.length_append, List.length_cons, List.length_take, List.length_drop, hn]; congr 1; omega
    · refine ⟨?_, ?_, ?_, ?_, fun j hj hne => ?_⟩
      · rw [hW3, hW2, hW1]; rfl
      · rw [hW3, hW2, hW1]; rfl
      · rw [hW3, hW2, hW1]; rfl
      · rw [hW3, hW2, hW1]; simp [World.setRow]
      · rw [hW3, setRow_other _ _ _ _ (by omega)]
        exact hold2 j hj
  have mixed : Try.prog.follows Departure.mixedOrders = true := by kernel_rfl
  have HCP := Lib.hid (And.intro hcp1 hcp2)
  have HRZ := Lib.hid hrz
  have HF := Lib.hid hfin
  have hz1 : ¬ ((1 : Int) = 0) := by omega
  have hz2 : ¬ ((k : Int) = (n : Int)) := by omega
  have hz3 : (cap : Int) < (n : Int) + 1 := by omega
  have hk0 : (0 : Int) ≤ (k : Int) := by omega
  have hk1 : (k : Int) ≤ (n : Int) := by omega
  have hk2 : (k : Int) ≤ (cap : Int) := by omega
  have hk3 : (k : Int) ≤ (n : Int) + 1 := by omega
  have hk4 : (k : Int) + 1 ≤ (n : Int) + 1 := by omega
  have hbk : (0 : Int) ≤ (k : Int) + 1 := by omega
  have hGi : ¬ (G = k) := by omega
  have hGi1 : ¬ (G = k + 1) := by omega
  have hci : ¬ (cap = k) := by omega
  have htk1 : ((k : Int) + 1).toNat = k + 1 := by omega
  have hw1 : IntKind.i64.wrap ((k : Int) + 1) = (k : Int) + 1 := by rw [IntKind.wrap_i64]; omega
  have hw2 : IntKind.i64.wrap ((n : Int) + 1) = (n : Int) + 1 := by rw [IntKind.wrap_i64]; omega
  have hw3 : IntKind.i64.wrap ((n : Int) + 1 - (k : Int)) = (n : Int) + 1 - (k : Int) := by rw [IntKind.wrap_i64]; omega
  have hGm' : (G : Int) ≤ 9223372036854775807 := by unfold maxLen at hGm; omega
  have hGn' : (n : Int) + 1 ≤ (G : Int) := by omega
  have hcm' : (cap : Int) ≤ 9223372036854775807 := by omega
  obtain ⟨H, hH⟩ : ∃ H, H = w.heap.size := ⟨_, rfl⟩
  rw [← hH] at HCP HRZ HF
  clear hH hfin hrz hcp1 hcp2 hold2 hold1 hH2 hH1 l1 l2 t2 hc1 hc2 hRt hRl hRs hROW hGm hG hold hcell hdl htl hg htk hvb hi hz hsz hby hW3 hW2 hW1 hkk hik hgl hvl
  go_enter Try.func41, Try.ntmps41
  go_wp2_with (at_builtin; refine Lib.wpList_append_run _ rfl _ _ 22 3 rfl _ _ rfl rfl _ _ (HRZ.out _) ?_)
  go_wp2_with (simp only [HCP.out.1])
  go_region_law_o (refine step_copy_runI rfl _ _ 22 22 rfl (.slice (some ⟨H, (k + 1) * 7, none⟩) (n + 1 - (k + 1)) (G - (k + 1))) (.slice (some ⟨g, k * 7, none⟩) (n - k) (cap - k)) (by simp [Act.eval, Act.put]) (by simp [Act.eval, Act.put]) (HCP.out.2 _ _ _) ?_)
  go_wp2_with fail
  go_ret
  exact ⟨_, rfl, HF.out.1, HF.out.2⟩
end Go.Proofs.Ytpnhkniegjfncaa
