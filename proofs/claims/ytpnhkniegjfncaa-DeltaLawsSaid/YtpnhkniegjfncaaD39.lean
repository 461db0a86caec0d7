/- slices.Insert and slices.Delete of one route in an own row; conditions: the routes fit the memory. -/
import Derived.Test.YtpnhkniegjfncaaD38
namespace Go.Proofs.Ytpnhkniegjfncaa
open Go.ChangeShapes Go.WideShapes Go.ChangeAt Go.RowKit
set_option linter.unusedVariables false
set_option linter.unusedSimpArgs false

theorem Insert_ok (xs : List Ro) (r : Ro) (base n k vb : Nat) (v : Value) (w : World) (hown : w.ownsRow base 40 7 v n (xs.flatMap rcV)) (hn : xs.length = n) (hk : k ≤ n) (hvb : w.heap[vb]? = some (.cells (rcV r).toArray 40 (0, 0))) (hne : v.ownBlock ≠ some vb) (hbase : base ≤ w.heap.size) (hl : n ≤ 1172812402926) :
    Calls Try.prog 41 #[v, .int .i64 (k : Int), .slice (some ⟨vb, 0, none⟩) 1 1] w fun e w' => ∃ v', e = .returned v' ∧ w'.ownsRow base 40 7 v' (n + 1) ((xs.take k ++ r :: xs.drop k).flatMap rcV) ∧ w.grownBy w' v.ownBlock := by
  by_cases hkn : k = n
  · subst hkn
    have h := Insert_end xs r base k vb v w hown hn hvb hbase hl
    rw [List.take_of_length_le (by omega), List.drop_of_length_le (by omega)]
    exact h
  · rcases hown.2 with ⟨rfl, rfl⟩ | ⟨g, cap, cur, rfl, hb, hg, hnc, hcm, hcs, htk⟩
    · exact absurd (by omega) hkn
    · have hvg : vb ≠ g := fun e => hne (by rw [e]; rfl)
      by_cases hroom : n + 1 ≤ cap
      · exact Insert_in xs r base n k vb g cap cur w hb hg hcm hcs htk hn (by omega) hroom hvg hvb hbase hl
      · exact Insert_grow xs r base n k vb g cap cur w hg htk hn (by omega) hnc (by omega) hvb hbase hl

/-- what a deletion leaves -/
theorem del_get {cur : List Value} {xs : List Ro} {n k : Nat} (h : cur.take ((n + 1) * 7) = xs.flatMap rcV) (hn : xs.length = n + 1) (hk : k ≤ n) (hc : (n + 1) * 7 ≤ cur.length) (c1 c2 : List Value)
    (h1 : c1 = cur.take (k * 7) ++ (xs.drop (k + 1)).flatMap rcV ++ cur.drop (k * 7 + ((xs.drop (k + 1)).flatMap rcV).length)) (h2 : c2 = c1.take (n * 7) ++ rcV zR ++ c1.drop (n * 7 + (rcV zR).length)) :
    c1.length = cur.length ∧ c2.length = cur.length ∧ c2.take (n * 7) = (xs.eraseIdx k).flatMap rcV := by
  have hd : ((xs.drop (k + 1)).flatMap rcV).length = (n - k) * 7 := by rw [flat_len rcV 7 rcV_len, List.length_drop, hn]; congr 1; omega
  have ht : ((xs.take k).flatMap rcV).length = k * 7 := by rw [flat_len rcV 7 rcV_len, List.length_take, hn, Nat.min_eq_left (by omega)]
  have l1 : c1.length = cur.length := by
    rw [h1, List.length_append, List.length_append, List.length_take, List.length_drop, hd]
    omega
  have e0 : cur.take (k * 7) = (xs.take k).flatMap rcV := by rw [← flat_take rcV 7 rcV_len xs k, ← h, List.take_take, Nat.min_eq_left (by omega)]
  have e1 : c1.take (n * 7) = (xs.eraseIdx k).flatMap rcV := by
    rw [h1, e0, List.take_left' (by rw [List.length_append, ht, hd]; omega), List.eraseIdx_eq_take_drop_succ, List.flatMap_append]
  refine ⟨l1, ?_, ?_⟩
  · rw [h2, List.length_append, List.length_append, List.length_take, List.length_drop, rcV_len, l1]
    omega
  · rw [h2, ← e1, List.append_assoc, List.take_left' (by rw [List.length_take]; omega)]

theorem step_append_runI {P : Program} {ops : Array Oper} {o : Oper} {a : Act} {w : World} {K : Act → World → Prop} {Q : Exit → Act → World → Prop} {E : Prop}
    (hg : o.guard = none) (d x : Operand) (dT sT : TypeId) (hop : o.op = Op.call { callee := Callee.builtin Builtin.append, args := #[d, x], argTypes := #[dT, sT] })
    (v u : Value) (hd : a.eval d = v) (hx : a.eval x = u) {v' : Value} {w' : World} (hr : (Builtin.append_ #[dT, sT] o.type #[v, u]).run P w = .ok v' w') (hK : K (a.put o.dst v') w') :
    if Region.wanted o (yielded ops a.tmps) = true then Oper.wp P o a w K Q else E := by
  have hw : Region.wanted o (yielded ops a.tmps) = true := by simp [Region.wanted, hg]
  rw [if_pos hw]
  unfold Oper.wp
  simp [execOp, hop, resolve, invoke, builtin, hd, hx, hr, Result.andThen]
  exact hK
theorem zero40 (w : World) : (zeroValue 40).run Try.prog w = .ok (.agg #[.int .u32 0, .int .i64 0, .int .i64 0, .int .u64 0, .int .u64 0, .int .u64 0, .int .u64 0]) w := by kernel_rfl

set_option maxHeartbeats 4000000 in
set_option maxRecDepth 100000 in
theorem Delete_ok (xs : List Ro) (base n k g cap : Nat) (w : World) (hown : w.ownsRow base 40 7 (.slice (some ⟨g, 0, none⟩) (n + 1) cap) (n + 1) (xs.flatMap rcV)) (hn : xs.length = n + 1) (hk : k ≤ n) (hl : n ≤ 1172812402926) :
    Calls Try.prog 42 #[.slice (some ⟨g, 0, none⟩) (n + 1) cap, .int .i64 (k : Int), .int .i64 ((k : Int) + 1)] w fun e w' => e = .returned (.slice (some ⟨g, 0, none⟩) n cap) ∧ w'.ownsRow base 40 7 (.slice (some ⟨g, 0, none⟩) n cap) n ((xs.eraseIdx k).flatMap rcV) ∧ w.grownBy w' (some g) := by
  obtain ⟨i, hi, hz, hsz, hby⟩ := info_parts info40
  rcases hown.2 with ⟨h0, _⟩ | ⟨g', cap', cur, hv, hb, hg, hnc, hcm, hcs, htk⟩
  · cases h0
  cases hv
  have hdl : ((xs.drop (k + 1)).flatMap rcV).length = (n - k) * 7 := by rw [flat_len rcV 7 rcV_len, List.length_drop, hn]; congr 1; omega
  have hcl : cur.toList.length = cap * 7 := by rw [Array.length_toList]; exact hcs
  obtain ⟨c1, hc1⟩ : ∃ l, l = cur.toList.take (k * 7) ++ (xs.drop (k + 1)).flatMap rcV ++ cur.toList.drop (k * 7 + ((xs.drop (k + 1)).flatMap rcV).length) := ⟨_, rfl⟩
  obtain ⟨c2, hc2⟩ : ∃ l, l = c1.take (n * 7) ++ rcV zR ++ c1.drop (n * 7 + (rcV zR).length) := ⟨_, rfl⟩
  obtain ⟨l1, l2, t2⟩ := del_get htk hn hk (by rw [hcl]; exact Nat.mul_le_mul_right 7 hnc) c1 c2 hc1 hc2
  obtain ⟨W1, hW1⟩ : ∃ W1, W1 = w.drew.setRow g c1.toArray := ⟨_, rfl⟩
  obtain ⟨W2, hW2⟩ : ∃ W2, W2 = W1.setRow g c2.toArray := ⟨_, rfl⟩
  have hg1 : W1.heap[g]? = some (.cells c1.toArray 40 (0, 0)) := by rw [hW1]; exact setRow_heap w.drew g cur _ 40 (0, 0) hg
  have hap : ∀ ty (a : Addr) c m, m = n - k → (a = ⟨g, (k + 1) * 7, none⟩ ∨ k = n) → (Builtin.append_ #[22, 22] ty #[.slice (some ⟨g, 0, none⟩) k cap, .slice (some a) m c]).run Try.prog w.drew = .ok (.slice (some ⟨g, 0, none⟩) n cap) W1 := fun ty a c m hm ha => by
    subst hm
    have := run_append_room (P := Try.prog) w.drew 22 ty 40 i Try.underlying22 hi g k cap cur hg a (n - k) c ((xs.drop (k + 1)).flatMap rcV) (by rw [hdl, hsz]) (fun j u hu => by
      rcases ha with rfl | rfl
      · rw [Addr.add_lit]
        show w.cell? _ = _
        rw [cell_of_row w g _ cur 40 (0, 0) hg]
        have hj := (List.getElem?_eq_some_iff.1 hu).1
        rw [hdl] at hj
        rw [← flat_drop rcV 7 rcV_len, ← htk, List.getElem?_drop, List.getElem?_take_of_lt (by omega)] at hu
        simpa using hu
      · have hj := (List.getElem?_eq_some_iff.1 hu).1
        rw [hdl] at hj
        omega) (flat_one rcV_one _) (by omega) (by rw [hdl, hsz, hcs]; omega)
    rw [hsz, ← hc1, ← hW1, show k + (n - k) = n by omega] at this
    exact this
  have hcl1 : ∀ ty dc, (Builtin.clear_ #[22] ty #[.slice (some ⟨g, n * 7, none⟩) 1 dc]).run Try.prog W1 = .ok (.tuple #[]) W2 := fun ty dc => by
    have hst := run_storeCells_at Try.prog g (n * 7) 40 (rcV zR) 0 c1.toArray W1 hg1 (by rw [rcV_len, List.size_toArray, l1, hcl]; omega) (rcV_one zR)
    simp only [Nat.add_zero, List.toList_toArray] at hst
    rw [← hc2, ← hW2] at hst
    have hzc : (Builtin.zeroCells (Value.agg #[.int .u32 0, .int .i64 0, .int .i64 0, .int .u64 0, .int .u64 0, .int .u64 0, .int .u64 0]).cells 1).toList = rcV zR := by kernel_rfl
    simp [Builtin.clear_, run_underlying Try.underlying22, zero40, hzc, hst]
  have hfin : W2.ownsRow base 40 7 (.slice (some ⟨g, 0, none⟩) n cap) n ((xs.eraseIdx k).flatMap rcV) ∧ w.grownBy W2 (some g) := by
    refine ⟨⟨?_, .inr ⟨g, cap, c2.toArray, rfl, hb, by rw [hW2]; exact setRow_heap W1 g _ _ 40 (0, 0) hg1, by omega, hcm, by rw [List.size_toArray, l2, hcl], by simpa using t2⟩⟩, ?_⟩
    · rw [flat_len rcV 7 rcV_len, List.length_eraseIdx_of_lt (by omega), hn]; rfl
    · rw [hW2, hW1]
      refine ⟨rfl, rfl, rfl, by simp [World.setRow], fun j hj hne => ?_⟩
      rw [setRow_other _ _ _ _ (fun e => hne (by rw [e])), setRow_other _ _ _ _ (fun e => hne (by rw [e]))]
      rfl
  have mixed : Try.prog.follows Departure.mixedOrders = true := by kernel_rfl
  have HAP := Lib.hid hap
  have HCL := Lib.hid hcl1
  have HF := Lib.hid hfin
  have hk0 : (0 : Int) ≤ (k : Int) := by omega
  have hk1 : (k : Int) ≤ (k : Int) + 1 := by omega
  have hk2 : (k : Int) + 1 ≤ (n : Int) + 1 := by omega
  have hk3 : (n : Int) + 1 ≤ (cap : Int) := by omega
  have hk4 : (k : Int) ≤ (cap : Int) := by omega
  have hk5 : (k : Int) ≤ (n : Int) := by omega
  have hne : ¬ ((k : Int) = (k : Int) + 1) := by omega
  have hcn : ¬ (cap = n) := by omega
  have hn0 : (0 : Int) ≤ (n : Int) := by omega
  have hn1 : (n : Int) ≤ (n : Int) + 1 := by omega
  have hbk : (0 : Int) ≤ (k : Int) + 1 := by omega
  have hbn : (0 : Int) ≤ (n : Int) + 1 := by omega
  have htk1 : ((k : Int) + 1).toNat = k + 1 := by omega
  have htn1 : ((n : Int) + 1).toNat = n + 1 := by omega
  have hcm' : (cap : Int) ≤ 9223372036854775807 := by unfold maxLen at hcm; omega
  clear hfin hcl1 hap hg1 l1 l2 t2 hc1 hc2 hdl hcl hcs htk hg hown hcm hi hz hsz hby hW2 hW1
  by_cases hck : cap = k + 1
  · have hkn : k = n := by omega
    subst hkn
    have HAP1 : Hid (∀ ty, (Builtin.append_ #[22, 22] ty #[.slice (some ⟨g, 0, none⟩) k (k + 1), .slice (some ⟨g, 0, none⟩) 0 0]).run Try.prog w.drew = .ok (.slice (some ⟨g, 0, none⟩) k (k + 1)) W1) := Lib.hid (fun ty => by
      have := HAP.out ty ⟨g, 0, none⟩ 0 0 (by omega) (.inr rfl)
      rw [hck] at this
      exact this)
    clear HAP
    go_enter Try.func42, Try.ntmps42
    go_wp2_with fail
    go_region_law_o (refine step_append_runI rfl _ _ 22 22 rfl (.slice (some ⟨g, 0, none⟩) k (k + 1)) (.slice (some ⟨g, 0, none⟩) 0 0) (by simp [Act.eval, Act.put]) (by simp [Act.eval, Act.put]) (HAP1.out _) ?_)
    go_wp2_with (simp only [HCL.out])
    go_ret
    exact ⟨by rw [hck]; rfl, HF.out.1, HF.out.2⟩
  · go_enter Try.func42, Try.ntmps42
    go_wp2_with fail
    go_region_law_o (refine step_append_runI rfl _ _ 22 22 rfl (.slice (some ⟨g, 0, none⟩) k cap) (.slice (some ⟨g, (k + 1) * 7, none⟩) (n + 1 - (k + 1)) (cap - (k + 1))) (by simp [Act.eval, Act.put]) (by simp [Act.eval, Act.put, hck]) (HAP.out _ _ _ _ (by omega) (.inl rfl)) ?_)
    go_wp2_with (simp only [HCL.out])
    go_ret
    exact ⟨rfl, HF.out.1, HF.out.2⟩
end Go.Proofs.Ytpnhkniegjfncaa
