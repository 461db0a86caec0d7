/- The heap of whole numbers: Push, Top, take, Pop, Lower; conditions as stated. The heap of whole numbers: New, Top, take, Pop; conditions as stated. Sets of nodes: one more node, asking for one; conditions as stated. -/
import Derived.Test.YtjbglifmppilfaaDoorS6
import Derived.Maps.AppendAt
import Derived.Laws.ResultCell
namespace Go.Proofs.YtjbglifmppilfaaDoor
open Go.ChangeShapes Go.WideShapes Go.ChangeAt Go.RowKit
set_option linter.unusedVariables false
set_option linter.unusedSimpArgs false
attribute [local go_sem] Og.Opt Og.OpY

theorem isAgg163 (w : World) : (isAgg 127).run Tryd.prog w = .ok false w := by kernel_rfl
theorem results_tmp3 {fn : Func} {t u x : Tmp} (h : fn.results = #[.tmp t, .tmp u, .tmp x]) (tmps : Array Value) (P : Program) (w : World) :
    (results fn tmps).run P w = .ok (.tuple #[tmps.getD t undef, tmps.getD u undef, tmps.getD x undef]) w := by
  simp [results, h]
theorem results_cell1 {fn : Func} {p : Tmp} {ty : TypeId} {tmps : Array Value} {P : Program} {w : World} {a : Addr} {v : Value} (h : fn.results = #[.cell p ty]) (ha : tmps.getD p undef = .pointer (some a)) (hr : (loadVar ty a).run P w = .ok v w) :
    (results fn tmps).run P w = .ok v w := by
  have e : (asAddr (.pointer (some a))).run P w = .ok a w := rfl
  simp only [results, h]
  simp [ha, e, hr, Sem.run_bind, Result.andThen, -Array.getD_eq_getD_getElem?]
theorem info168 : (Tryd.prog.info? 132).map (fun i => (i.zero, i.size, i.bytes)) = some (some (.agg #[.int .i64 0, .int .i64 0]), 2, 16) := by kernel_rfl
theorem snocEn {w : World} {B : Nat} {v : Value} {pre : List En} {x : En} (h : w.ownsRow B 132 2 v (pre.length + 1) (pre.flatMap cEn ++ cEn x)) : w.ownsRow B 132 2 v (pre ++ [x]).length ((pre ++ [x]).flatMap cEn) := by
  rw [List.length_append, List.flatMap_append, List.flatMap_cons, List.flatMap_nil, List.append_nil]
  exact h
theorem wpList_appEn {ops : Array Oper} {rest : List Oper} {o : Oper} {a : Act} {w : World} {Q : Exit → Act → World → Prop} (hgd : o.guard = none) (s x : Operand) (ho : o.op = .call { callee := .builtin .append, args := #[s, x], argTypes := #[127, 127] })
    (base g : Nat) (v : Value) (pre : List En) (r : En) (hs : a.eval s = v) (hx : a.eval x = .slice (some ⟨g, 0, none⟩) 1 1) (hown : w.ownsRow base 132 2 v pre.length (pre.flatMap cEn)) (hg : w.heap[g]? = some (.cells (cEn r).toArray 132 (0, 0))) (hl : pre.length ≤ 1172812402926) (hbase : base ≤ w.heap.size)
    (h : ∀ v' w', w'.ownsRow base 132 2 v' (pre ++ [r]).length ((pre ++ [r]).flatMap cEn) → w.grownBy w' v.ownBlock → (v'.ownBlock = v.ownBlock ∨ v'.ownBlock = some w.heap.size) → wpList Tryd.prog ops Q rest (a.put o.dst v') w') : wpList Tryd.prog ops Q (o :: rest) a w := by
  obtain ⟨i, hi, hz, hsz, hby⟩ := info_parts info168
  exact wpList_append_own_at w hgd s x 127 ho base 132 i _ 2 16 Tryd.underlying127 hi hz hsz hby rfl (by omega) v pre.length (pre.flatMap cEn) hs hown ⟨g, 0, none⟩ 1 1 (cEn r) hx (by rw [cEn_len]) (news_heap hg) (cEn_one r) (by have := maxLen_ge; omega) (by omega) hbase (fun v' w' h1 h2 _ h4 => h v' w' (snocEn h1) h2 h4)
section
variable {h : Nat} {w w2 : World} {v v' : Value} {es es' : List En} {tb : List Int}
theorem Hp.atz (H : Hp h w v es tb) {n : Int} {z : Int} (hn : oks n = true) (hz : tb[n.toNat]? = some z) : ∃ k : Nat, n = (k : Int) ∧ k < 128 ∧ w.cell? ⟨h, 1 + k, none⟩ = some (.int .i64 z) ∧ tb[k]? = some z := by
  simp only [oks, Bool.and_eq_true, decide_eq_true_eq] at hn
  obtain ⟨k, rfl⟩ : ∃ k : Nat, n = (k : Int) := ⟨n.toNat, by omega⟩
  rw [Int.toNat_natCast] at hz
  exact ⟨k, rfl, by omega, by rw [Nat.add_comm]; exact H.at_ hz, hz⟩
theorem hCs_set0 (v v' : Value) (tb : List Int) : (hCs v tb).set 0 v' = hCs v' tb := rfl
theorem Hp.fz (H : Hp h w v es tb) (k : Nat) : w.frozen? ⟨h, k, none⟩ = false := by simp [World.frozen?, H.blk]
theorem grown_below {row : Option Nat} {B : Nat} (hg : w.grownBy w2 row) (hB : B ≤ w.heap.size) (hr : ∀ g, row = some g → B ≤ g) : Below B w w2 :=
  ⟨hg.os, hg.tape, hg.output, hg.size, fun k hk => hg.block k (by omega) (fun e => by have := hr k e.symm; omega)⟩
/-- another row stored -/
theorem Hp.setRow (H : Hp h w v es tb) (hg : w.grownBy w2 v.ownBlock) (ho : w2.ownsRow (h + 1) 132 2 v' es'.length (es'.flatMap cEn)) : Hp h (w2.setCell ⟨h, 0, none⟩ v') v' es' tb := by
  have hh := heap_grown hg H.blk (fun e => own_at H.own H.blk (by decide) e.symm)
  refine ⟨?_, ownsRow_setCell_other ho (own_at ho hh (by decide)) _, H.len⟩
  rw [setCell_cells hh]
  simp [hCs]
theorem Hp.setAt (H : Hp h w v es tb) (k : Nat) (z : Int) : Hp h (w.setCell ⟨h, 1 + k, none⟩ (.int .i64 z)) v es (tb.set k z) := by
  rw [Nat.add_comm 1 k]
  refine ⟨?_, ownsRow_setCell_other H.own (own_at H.own H.blk (by decide)) _, by simp [H.len]⟩
  rw [setCell_cells H.blk, ← hCs_set]
  simp
theorem Fr.setCell {w : World} {h g : Nat} {v : Value} (k : Nat) (u : Value) (hB : h ≤ g) (hv : g = h ∨ v.ownBlock = some g) (hg : ∃ cur t, w.heap[g]? = some (.cells cur t (0, 0))) : Fr h v w (w.setCell ⟨g, k, none⟩ u) := by
  obtain ⟨cur, t, hg⟩ := hg
  rw [setCell_eq_setRow w g k cur t (0, 0) u hg]
  exact Fr.one hv ⟨rfl, rfl, rfl, by simp [World.setRow], fun j hj => setRow_other w g j _ (by omega)⟩ (fun j hj => setRow_other w g j _ hj)
theorem Fr.turn {h : Nat} {v v' : Value} {w w1 w2 : World} (a : Fr h v w w1) (b : Fr h v' w1 w2) (hv : v'.ownBlock = v.ownBlock ∨ ∃ g, v'.ownBlock = some g ∧ w.heap.size ≤ g) : Fr h v w w2 :=
  ⟨a.bel.trans b.bel, fun k hk h1 h2 => by
    refine (b.oth k (Nat.lt_of_lt_of_le hk a.bel.size) h1 ?_).trans (a.oth k hk h1 h2)
    rcases hv with e | ⟨g, e, hg⟩
    · rw [e]; exact h2
    · rw [e]; intro e2; cases e2; omega⟩
theorem Hp.grown (H : Hp h w v es tb) (hg : w.grownBy w2 v.ownBlock) : Fr h v w w2 := ⟨grown_below hg (Nat.le_of_lt H.lt) (fun g e => Nat.le_of_lt (Nat.lt_of_succ_le (H.own.lt g e).1)), fun k hk _ h2 => hg.block k hk (fun e => h2 e.symm)⟩
end
theorem Hp.app {h : Nat} {w w3 : World} {v v' : Value} {es : List En} {tb : List Int} {r : En} {ob : Obj} (H : Hp h w v es tb) (hg : (w.alloc ob).grownBy w3 v.ownBlock) (ho : w3.ownsRow (h + 1) 132 2 v' (es ++ [r]).length ((es ++ [r]).flatMap cEn)) :
    Hp h (w3.setCell ⟨h, 0, none⟩ v') v' (es ++ [r]) tb ∧ Fr h v w (w3.setCell ⟨h, 0, none⟩ v') ∧ (∃ g cap, v' = .slice (some ⟨g, 0, none⟩) (es.length + 1) cap) ∧ w3.cell? ⟨h, 0, none⟩ = some v ∧ w3.frozen? ⟨h, 0, none⟩ = false := by
  have b1 : Below w.heap.size w (w.alloc ob) := (Below.refl _ _).alloc (Nat.le_refl _) _
  have H1 := H.below b1
  have H3 := H1.setRow hg ho
  have hh : w3.heap[h]? = _ := heap_grown hg H1.blk (fun e => own_at H1.own H1.blk (by decide) e.symm)
  refine ⟨H3, ((bstep H.lt (Fr.refl _ _ _) b1).trans (H1.grown hg)).trans (Fr.setCell 0 v' (Nat.le_refl _) (.inl rfl) ⟨_, _, hh⟩), ?_, ?_, by simp [World.frozen?, hh]⟩
  · rcases ho.2 with ⟨_, h0⟩ | ⟨g, cap, cur, hv, _⟩
    · simp at h0
    · exact ⟨g, cap, by rw [hv]; simp⟩
  · rw [cell_of_row w3 h 0 _ _ _ hh]
    rfl
def pushP (s : Hs) (n k : Int) : Option Hs :=
  if oks n = true ∧ s.tb[n.toNat]? = some 0 ∧ s.es.length < 1000 then upP 200 ⟨s.es ++ [⟨k, n⟩], s.tb.set n.toNat (s.es.length + 1)⟩ s.es.length else none
def lowerP (s : Hs) (n k : Int) : Option Hs :=
  if oks n = true then
    match s.tb[n.toNat]? with
    | some z =>
      match s.es[(z - 1).toNat]? with
      | some x => if 1 ≤ z ∧ k < x.k ∧ s.es.length < 1000 then upP 200 ⟨s.es.set (z - 1).toNat ⟨k, x.n⟩, s.tb⟩ (z - 1).toNat else none
      | none => none
    | none => none
  else none
def popP (s : Hs) : Option (En × Hs) :=
  match s.es[0]? with
  | some x => if s.es.length < 1000 ∧ oks x.n = true then
      (swapP s 0 (s.es.length - 1)).bind fun s1 =>
        if 1 < s.es.length then (downP 200 ⟨s1.es.take (s.es.length - 1), s1.tb.set x.n.toNat 0⟩ 0).map fun s2 => (x, s2)
        else some (x, ⟨s1.es.take (s.es.length - 1), s1.tb.set x.n.toNat 0⟩)
    else none
  | none => none

set_option maxRecDepth 100000 in
set_option maxHeartbeats 4000000 in
theorem push_ok (s s' : Hs) (h : Nat) (n k : Int) (v : Value) (w : World) (H : Hp h w v s.es s.tb) (hp : pushP s n k = some s') :
    Calls Tryd.prog 62 #[.pointer (some ⟨h, 0, none⟩), .int .i64 n, .int .i64 k] w fun e w' => e = .returned (.int .i64 0) ∧ Fr h v w w' ∧ ∃ v', Hp h w' v' s'.es s'.tb := by
  unfold pushP at hp
  split at hp
  · rename_i hc
    obtain ⟨ho, hz, hl⟩ := hc
    have hr : rng 0 127 n = true := by simp only [oks, Bool.and_eq_true, decide_eq_true_eq] at ho; simp [rng]; omega
    obtain ⟨m, rfl, hm, c0, htb⟩ := H.atz ho hz
    have HT := Lib.hid htb
    clear htb
    rw [Int.toNat_natCast] at hp
    have HI := Lib.hid (fun w2 => hin_ok (m : Int) w2)
    obtain ⟨A, c, hv, -⟩ := H.sl
    obtain ⟨nn, hnn⟩ : ∃ nn, nn = s.es.length := ⟨_, rfl⟩
    rw [← hnn] at hv
    subst hv
    have HN := Lib.hid hnn
    clear hnn
    have HH := Lib.hid H
    have hp' := Lib.hid hp
    have hl' := Lib.hid hl
    have hm0 : (0 : Int) ≤ (m : Int) := by omega
    have hm1 : (m : Int) < 128 := by omega
    have HL := Lib.hid H.lt
    have HC : ∀ w2, Below w.heap.size w w2 → w2.cell? ⟨h, 1 + m, none⟩ = some (.int .i64 0) ∧ w2.cell? ⟨h, 0, none⟩ = some (.slice A nn c) := fun w2 hb => ⟨bcell hb c0, bcell hb H.v0⟩
    clear hp hl ho hz H hm c0
    go_enter Tryd.func62, Tryd.ntmps62
    go_wp2_with fail
    with_reducible refine (HI.out _).mono ?_
    rintro e w2 ⟨rfl, hb⟩
    rw [hr]
    have H2 := Lib.hid (HH.out.below hb)
    obtain ⟨q0, q1⟩ := HC _ hb
    have B2 := Lib.hid (bstep (v := .slice A nn c) (w := w) (w1 := w) HH.out.lt (Fr.refl _ _ _) hb)
    clear hb HC HH
    go_wp2_with (at_builtin; refine wpList_appEn rfl (.tmp 27) (.tmp 31) rfl (h + 1) w2.heap.size (.slice A nn c) s.es ⟨k, (m : Int)⟩ rfl rfl (own_below H2.out.own ((Below.refl _ _).alloc (Nat.le_refl _) _)) (heap_at rfl) (by have := hl'.out; omega) (by have := H2.out.lt; simp; omega) ?_; intro v' w3 ho3 hg3 ha3; obtain ⟨G1, b1, ⟨gg, cc, hv'⟩, z0, z1⟩ := H2.out.app hg3 ho3; rw [← HN.out] at hv'; subst hv'; have HA := Lib.hid (ha3.imp id fun e => ⟨_, e, by have := B2.out.bel.size; simp; omega⟩ : _ ∨ ∃ g, (Value.slice (some ⟨gg, 0, none⟩) (nn + 1) cc).ownBlock = some g ∧ w.heap.size ≤ g); clear ha3; have H3 := Lib.hid G1; have B3 := Lib.hid (B2.out.trans b1); clear G1 b1 ho3 hg3)
    clear q0 q1 z0 z1
    generalize w3.setCell ⟨h, 0, none⟩ (.slice (some ⟨gg, 0, none⟩) (nn + 1) cc) = w4 at *
    have q1 := H3.out.v0
    have HC : ∀ w5, Below w4.heap.size w4 w5 → w5.cell? ⟨h, 0, none⟩ = some (.slice (some ⟨gg, 0, none⟩) (nn + 1) cc) := fun w5 hb => bcell hb q1
    clear q1
    refine Og.Tail.walk_lit 10 [[],[],[],[2],[3,2],[4,3,2],[5,4,3,2],[0],[7,0],[8,1,0,2,3,4,5,6,7],[9,6,0,1,2,3,4,5,8,7]] (fun w2 => Below w4.heap.size w4 w2) (fun w1 w2 => Below w1.heap.size w1 w2) (by kernel_rfl) (by kernel_rfl) (by kernel_rfl) (bdrew) ?_
    simp only [List.take_succ_cons, List.take_zero, List.drop_succ_cons, List.drop_zero]
    repeat (first | (refine Og.step_pure (fun _ => Below.refl _ _) ?_; apply Exists.intro; refine And.intro ?_ ?_; focus (intro vs w2 hC hk; have hm := HC w2 hC; revert hk; simp only [Og.KS, Og.K0, Og.Is, List.getD_cons_zero, List.getD_cons_succ, List.getD_nil, List.contains_cons, List.contains_nil, Nat.reduceAdd, Nat.reduceBEq, Bool.or_false, Bool.false_or, Bool.or_true, Bool.true_or, Bool.false_eq_true, false_implies, true_implies, true_and, and_true, forall_const]; intros; go_simp; rfl)))
    intro vs w2 hC hk
    have hm := HC w2 hC
    simp only [Og.KS, Og.K0, Og.Is, List.getD_cons_zero, List.getD_cons_succ, List.getD_nil, List.contains_cons, List.contains_nil, Nat.reduceAdd, Nat.reduceBEq, Bool.or_false, Bool.false_or, Bool.or_true, Bool.true_or, Bool.false_eq_true, false_implies, true_implies, true_and, and_true, forall_const] at hk
    simp only [hk, Act.put, List.setIfInBounds_toArray, List.set_cons_zero, List.set_cons_succ]
    clear hk
    have H4 := Lib.hid (H3.out.below hC)
    have B4 := Lib.hid (bstep H3.out.lt B3.out hC)
    have fz := H4.out.fz (1 + m)
    have q1 : w2.cell? ⟨h, 1 + m, none⟩ = some (.int .i64 0) := by rw [Nat.add_comm]; exact H4.out.at_ HT.out
    have H5 := Lib.hid (H4.out.setAt m ((nn : Int) + 1))
    have B5 := Lib.hid (B4.out.trans (Fr.setCell (1 + m) (.int .i64 ((nn : Int) + 1)) (Nat.le_refl _) (.inl rfl) ⟨_, _, H4.out.blk⟩))
    have hln : Hid (nn < 1000) := Lib.hid (by rw [HN.out]; exact hl'.out)
    have q2 := H5.out.v0
    have gw : wrap64 (nn : Int) = (nn : Int) := by have := hln.out; unfold wrap64; omega
    have HU := Lib.hid (fun w2 (b : Hp h w2 (.slice (some ⟨gg, 0, none⟩) (nn + 1) cc) (s.es ++ [⟨k, (m : Int)⟩]) (s.tb.set m ((nn : Int) + 1))) => up_ok ⟨s.es ++ [⟨k, (m : Int)⟩], s.tb.set m ((nn : Int) + 1)⟩ s' 200 nn h _ w2 b (by have := hl'.out; simp; omega) (by have := hln.out; omega) (by rw [HN.out]; exact hp'.out))
    clear hC hm HC
    go_wp2_with fail
    with_reducible refine (HU.out _ H5.out).mono ?_
    rintro e w6 ⟨rfl, b6, H6, -⟩
    have F := Lib.hid (And.intro (B5.out.turn b6 (HA.out)) H6)
    clear b6 H6
    go_wp2_with fail
    go_ret
    exact ⟨rfl, F.out.1, _, F.out.2⟩
  · cases hp

theorem Hp.setKey {h g n c j : Nat} {w : World} {es : List En} {tb : List Int} {x : En} (H : Hp h w (.slice (some ⟨g, 0, none⟩) n c) es tb) (hx : es[j]? = some x) (k : Int) :
    Hp h (w.setCell ⟨g, j * 2, none⟩ (.int .i64 k)) (.slice (some ⟨g, 0, none⟩) n c) (es.set j ⟨k, x.n⟩) tb ∧ Fr h (.slice (some ⟨g, 0, none⟩) n c) w (w.setCell ⟨g, j * 2, none⟩ (.int .i64 k)) ∧ w.frozen? ⟨g, j * 2, none⟩ = false := by
  have hj := (List.getElem?_eq_some_iff.1 hx).1
  rcases H.own.2 with ⟨h0, _⟩ | ⟨g', cap, cur, hv, hb, hg, hnc, hcm, hcs, htk⟩
  · cases h0
  · simp only [Value.slice.injEq, Option.some.injEq, Addr.mk.injEq, and_true] at hv
    obtain ⟨rfl, hn, rfl⟩ := hv
    have hne : g ≠ h := by omega
    rw [setCell_eq_setRow w g (j * 2) cur 132 (0, 0) _ hg]
    refine ⟨⟨?_, ⟨by simp [flat_len cEn 2 cEn_len], .inr ⟨g, c, cur.setIfInBounds (j * 2) (.int .i64 k), ?_, hb, setRow_heap w g cur _ 132 (0, 0) hg, by simpa using hnc, hcm, by simpa using hcs, ?_⟩⟩, H.len⟩, Fr.one (.inr rfl) ⟨rfl, rfl, rfl, by simp [World.setRow], fun i hi => setRow_other w g i _ (by omega)⟩ (fun i hi => setRow_other w g i _ hi), by simp [World.frozen?, hg]⟩
    · rw [setRow_other w g h _ (Ne.symm hne)]; exact H.blk
    · rw [hn]; simp
    · have hcl : cur.toList.length = c * 2 := by rw [Array.length_toList]; exact hcs
      rw [Array.toList_setIfInBounds, List.length_set]
      refine List.ext_getElem? fun i => ?_
      by_cases hi : i < es.length * 2
      · have hcur : cur.toList[i]? = (es[i / 2]?).bind fun x => (cEn x)[i % 2]? := by
          rw [← flat_get cEn 2 cEn_len (by omega), ← htk, List.getElem?_take_of_lt hi]
        rw [List.getElem?_take_of_lt hi, flat_get cEn 2 cEn_len (by omega)]
        by_cases h1 : i = j * 2
        · subst h1
          rw [List.getElem?_set_self (by omega), show j * 2 / 2 = j by omega, List.getElem?_set_self hj, show j * 2 % 2 = 0 by omega]
          rfl
        · rw [List.getElem?_set_ne (fun e => h1 e.symm), hcur]
          by_cases h2 : i / 2 = j
          · rw [h2, List.getElem?_set_self hj, hx, show i % 2 = 1 by omega]
            rfl
          · rw [List.getElem?_set_ne (fun e => h2 e.symm)]
      · rw [List.getElem?_eq_none (by rw [List.length_take]; omega), List.getElem?_eq_none (by rw [flat_len cEn 2 cEn_len, List.length_set]; omega)]
set_option maxRecDepth 100000 in
set_option maxHeartbeats 4000000 in
theorem lower_ok (s s' : Hs) (h : Nat) (n k : Int) (v : Value) (w : World) (H : Hp h w v s.es s.tb) (hp : lowerP s n k = some s') :
    Calls Tryd.prog 64 #[.pointer (some ⟨h, 0, none⟩), .int .i64 n, .int .i64 k] w fun e w' => e = .returned (.int .i64 0) ∧ Fr h v w w' ∧ ∃ v', Hp h w' v' s'.es s'.tb := by
  unfold lowerP at hp
  split at hp
  · rename_i ho
    split at hp
    · rename_i z hz
      split at hp
      · rename_i x hx
        split at hp
        · rename_i hc
          obtain ⟨hz1, hk, hl⟩ := hc
          have hr : rng 0 127 n = true := by simp only [oks, Bool.and_eq_true, decide_eq_true_eq] at ho; simp [rng]; omega
          obtain ⟨m, rfl, hm, c0, htb⟩ := H.atz ho hz
          obtain ⟨j, rfl⟩ : ∃ j : Nat, z = (j : Int) + 1 := ⟨(z - 1).toNat, by omega⟩
          rw [show ((j : Int) + 1 - 1).toNat = j by omega] at hx hp
          have hj := (List.getElem?_eq_some_iff.1 hx).1
          obtain ⟨g, c, rfl, hhg, hgs, hat⟩ := H.row (by omega)
          have c1 := (getEn hat hx).1
          obtain ⟨nn, hnn⟩ : ∃ nn, nn = s.es.length := ⟨_, rfl⟩
          rw [← hnn] at hj hl H ⊢
          have HI := Lib.hid (fun w2 => hin_ok (m : Int) w2)
          have HH := Lib.hid H
          have HT := Lib.hid htb
          have hm0 : (0 : Int) ≤ (m : Int) := by omega
          have hm1 : (m : Int) < 128 := by omega
          have hj0 : (0 : Int) ≤ (j : Int) := by omega
          have hj1 : (j : Int) < (nn : Int) := by omega
          have hjz : ¬ ((j : Int) + 1 = 0) := by omega
          have gw : wrap64 (j : Int) = (j : Int) := by unfold wrap64; omega
          have gw2 : IntKind.i64.wrap (j : Int) = (j : Int) := wrapk (by omega)
          have HK := Lib.hid (fun w2 (b : Hp h w2 (.slice (some ⟨g, 0, none⟩) nn c) s.es s.tb) => b.setKey hx k)
          have HU := Lib.hid (fun w2 (b : Hp h w2 (.slice (some ⟨g, 0, none⟩) nn c) (s.es.set j ⟨k, x.n⟩) s.tb) => up_ok ⟨s.es.set j ⟨k, x.n⟩, s.tb⟩ s' 200 j h _ w2 b (by simp; omega) (by omega) hp)
          have HC : ∀ w2, Below w.heap.size w w2 → w2.cell? ⟨h, 1 + m, none⟩ = some (.int .i64 ((j : Int) + 1)) ∧ w2.cell? ⟨h, 0, none⟩ = some (.slice (some ⟨g, 0, none⟩) nn c) ∧ w2.cell? ⟨g, j * 2, none⟩ = some (.int .i64 x.k) := fun w2 hb => ⟨bcell hb c0, bcell hb H.v0, bcell hb c1⟩
          clear hp hl ho hz H hm c0 c1 htb hx hj hnn hz1 hhg hgs hat
          go_enter Tryd.func64, Tryd.ntmps64
          go_wp2_with fail
          with_reducible refine (HI.out _).mono ?_
          rintro e wr ⟨rfl, hb⟩
          rw [hr]
          have H2 := Lib.hid (HH.out.below hb)
          have B2 := Lib.hid (bstep (v := .slice (some ⟨g, 0, none⟩) nn c) (w := w) (w1 := w) HH.out.lt (Fr.refl _ _ _) hb)
          obtain ⟨q0, q1, q2⟩ := HC _ hb
          have HC : ∀ w3, Below wr.heap.size wr w3 → w3.cell? ⟨h, 1 + m, none⟩ = some (.int .i64 ((j : Int) + 1)) ∧ w3.cell? ⟨h, 0, none⟩ = some (.slice (some ⟨g, 0, none⟩) nn c) ∧ w3.cell? ⟨g, j * 2, none⟩ = some (.int .i64 x.k) := fun w3 hb => ⟨bcell hb q0, bcell hb q1, bcell hb q2⟩
          clear hb
          go_wp2_with fail
          refine Og.walk_lit [[],[],[1],[2,1],[3,2,1],[],[],[5],[7,5],[8,6,7,5],[9,8,6,7,5],[10,9,8,6,7,5],[4,11,3,2,1,10,9,8,6,7,5],[12,4,11,3,2,1,10,9,8,6,7,5],[13,12,4,11,3,2,1,10,9,8,6,7,5],[0,14,13,12,4,11,3,2,1,10,9,8,6,7,5],[15,0,14,13,12,4,11,3,2,1,10,9,8,6,7,5],[16,15,0,14,13,12,4,11,3,2,1,10,9,8,6,7,5]] (fun w2 => Below wr.heap.size wr w2) (fun w1 w2 => Below w1.heap.size w1 w2) (by kernel_rfl) (by kernel_rfl) (bdrew) ?_
          repeat (first | (refine Og.step_pure (fun _ => Below.refl _ _) ?_; apply Exists.intro; refine And.intro ?_ ?_; focus (intro vs w2 hC hk; have hm := HC w2 hC; revert hk; simp only [Og.KS, Og.K0, Og.Is, List.getD_cons_zero, List.getD_cons_succ, List.getD_nil, List.contains_cons, List.contains_nil, Nat.reduceAdd, Nat.reduceBEq, Bool.or_false, Bool.false_or, Bool.or_true, Bool.true_or, Bool.false_eq_true, false_implies, true_implies, true_and, and_true, forall_const]; intros; go_simp; rfl)))
          intro vs w2 hC hk
          have hm := HC w2 hC
          simp only [Og.KS, Og.K0, Og.Is, List.getD_cons_zero, List.getD_cons_succ, List.getD_nil, List.contains_cons, List.contains_nil, Nat.reduceAdd, Nat.reduceBEq, Bool.or_false, Bool.false_or, Bool.or_true, Bool.true_or, Bool.false_eq_true, false_implies, true_implies, true_and, and_true, forall_const] at hk
          simp only [hk, Act.put, List.setIfInBounds_toArray, List.set_cons_zero, List.set_cons_succ]
          clear hk
          have H3 := Lib.hid (H2.out.below hC)
          have B3 := Lib.hid (bstep H2.out.lt B2.out hC)
          obtain ⟨q0, q1, q2⟩ := hm
          have HC : ∀ w5, Below w2.heap.size w2 w5 → w5.cell? ⟨h, 1 + m, none⟩ = some (.int .i64 ((j : Int) + 1)) ∧ w5.cell? ⟨h, 0, none⟩ = some (.slice (some ⟨g, 0, none⟩) nn c) ∧ w5.cell? ⟨g, j * 2, none⟩ = some (.int .i64 x.k) := fun w3 hb => ⟨bcell hb q0, bcell hb q1, bcell hb q2⟩
          clear hC q0 q1 q2
          go_wp2_with fail
          rename World => wr
          refine Og.Tail.walk_lit 14 [[],[0],[1,0],[2,1,0],[],[],[4],[6,4],[7,5,6,4],[8,7,5,6,4],[9,8,7,5,6,4],[],[3,10,0,1,2,4,5,6,7,8,9,11],[12,0,1,2,3,4,5,6,7,8,9,10,11],[13,11,0,1,2,3,4,5,6,7,8,9,10,12]] (fun w2 => Below wr.heap.size wr w2) (fun w1 w2 => Below w1.heap.size w1 w2) (by kernel_rfl) (by kernel_rfl) (by kernel_rfl) (bdrew) ?_
          simp only [List.take_succ_cons, List.take_zero, List.drop_succ_cons, List.drop_zero]
          repeat (first | (refine Og.step_pure (fun _ => Below.refl _ _) ?_; apply Exists.intro; refine And.intro ?_ ?_; focus (intro vs w2 hC hk; have hm := HC w2 hC; revert hk; simp only [Og.KS, Og.K0, Og.Is, List.getD_cons_zero, List.getD_cons_succ, List.getD_nil, List.contains_cons, List.contains_nil, Nat.reduceAdd, Nat.reduceBEq, Bool.or_false, Bool.false_or, Bool.or_true, Bool.true_or, Bool.false_eq_true, false_implies, true_implies, true_and, and_true, forall_const]; intros; go_simp; rfl)))
          intro vs w2 hC hk
          have hm := HC w2 hC
          simp only [Og.KS, Og.K0, Og.Is, List.getD_cons_zero, List.getD_cons_succ, List.getD_nil, List.contains_cons, List.contains_nil, Nat.reduceAdd, Nat.reduceBEq, Bool.or_false, Bool.false_or, Bool.or_true, Bool.true_or, Bool.false_eq_true, false_implies, true_implies, true_and, and_true, forall_const] at hk
          simp only [hk, Act.put, List.setIfInBounds_toArray, List.set_cons_zero, List.set_cons_succ]
          clear hk
          have H4 := Lib.hid (H3.out.below hC)
          have B4 := Lib.hid (bstep H3.out.lt B3.out hC)
          obtain ⟨G5, b5, fz⟩ := HK.out _ H4.out
          have H5 := Lib.hid G5
          have B5 := Lib.hid (B4.out.trans b5)
          obtain ⟨q0, q1, q2⟩ := hm
          have q3 : (w2.setCell ⟨g, j * 2, none⟩ (.int .i64 k)).cell? ⟨h, 1 + m, none⟩ = some (.int .i64 ((j : Int) + 1)) := by rw [Nat.add_comm]; exact H5.out.at_ HT.out
          clear hC HC G5 b5
          go_wp2_with fail
          with_reducible refine (HU.out _ H5.out).mono ?_
          rintro e w6 ⟨rfl, b6, H6, -⟩
          have F := Lib.hid (And.intro (B5.out.trans b6) H6)
          clear b6 H6
          go_wp2_with fail
          go_ret
          exact ⟨rfl, F.out.1, _, F.out.2⟩
        · cases hp
      · cases hp
    · cases hp
  · cases hp

end Go.Proofs.YtjbglifmppilfaaDoor
namespace Go.Proofs.YtjbglifmppilfaaDoor
open Go.ChangeShapes Go.WideShapes Go.ChangeAt Go.RowKit
set_option linter.unusedVariables false
set_option linter.unusedSimpArgs false
attribute [local go_sem] Og.Opt Og.OpY

set_option maxRecDepth 100000 in
set_option maxHeartbeats 4000000 in
theorem top_none (h : Nat) (v : Value) (tb : List Int) (w : World) (H : Hp h w v [] tb) :
    Calls Tryd.prog 77 #[.pointer (some ⟨h, 0, none⟩)] w fun e w' => e = .returned (.tuple #[.int .i64 0, .int .i64 0, .int .i64 8]) ∧ Below w.heap.size w w' := by
  obtain ⟨A, c, rfl, -⟩ := H.sl
  have q0 : w.cell? ⟨h, 0, none⟩ = some (.slice A 0 c) := H.v0
  clear H
  go_enter Tryd.func77, Tryd.ntmps77
  go_wp2_with fail
  refine bodyPost_ret (results_tmp3 rfl _ _ _) rfl ?_
  exact ⟨rfl, Below.refl _ _⟩
set_option maxRecDepth 100000 in
set_option maxHeartbeats 4000000 in
theorem top_ok (h : Nat) (v : Value) (x : En) (es : List En) (tb : List Int) (w : World) (H : Hp h w v es tb) (hx : es[0]? = some x) (hl : es.length ≤ 1000000) :
    Calls Tryd.prog 77 #[.pointer (some ⟨h, 0, none⟩)] w fun e w' => e = .returned (.tuple #[.int .i64 x.n, .int .i64 x.k, .int .i64 0]) ∧ Below w.heap.size w w' := by
  have h0 := (List.getElem?_eq_some_iff.1 hx).1
  obtain ⟨g, c, rfl, hhg, hgs, hat⟩ := H.row h0
  have c1 := getEn hat hx
  obtain ⟨ln, hln⟩ : ∃ ln, es.length = ln + 1 := ⟨es.length - 1, by omega⟩
  rw [hln] at H hl
  simp only [Nat.zero_mul, Nat.zero_add] at c1
  have HC : ∀ w2, Below w.heap.size w w2 → w2.cell? ⟨h, 0, none⟩ = some (.slice (some ⟨g, 0, none⟩) (ln + 1) c) ∧ w2.cell? ⟨g, 0, none⟩ = some (.int .i64 x.k) ∧ w2.cell? ⟨g, 1, none⟩ = some (.int .i64 x.n) := fun w2 hb => ⟨bcell hb H.v0, bcell hb c1.1, bcell hb c1.2⟩
  obtain ⟨q0, q1, q2⟩ := HC w (Below.refl _ _)
  have hz : (0 : Int) < (ln : Int) + 1 := by omega
  clear H hx h0 c1 hln hat hhg hgs hl
  go_enter Tryd.func77, Tryd.ntmps77
  go_wp2_with fail
  refine Og.walk_lit [[],[0],[1,0],[2,1,0],[3,2,1,0],[4,3,2,1,0],[5,4,3,2,1,0],[],[7],[8,7],[9,8,7],[10,9,8,7],[11,10,9,8,7],[12,11,10,9,8,7],[6,0,1,2,3,4,5],[13,14,0,1,2,3,4,5,6,7,8,9,10,11,12],[15,0,1,2,3,4,5,6,7,8,9,10,11,12,13,14]] (fun w2 => Below w.heap.size w w2) (fun w1 w2 => Below w1.heap.size w1 w2) (by kernel_rfl) (by kernel_rfl) (bdrew) ?_
  repeat (first | (refine Og.step_pure (fun _ => Below.refl _ _) ?_; apply Exists.intro; refine And.intro ?_ ?_; focus (intro vs w2 hC hk; have hm := HC w2 hC; revert hk; simp only [Og.KS, Og.K0, Og.Is, List.getD_cons_zero, List.getD_cons_succ, List.getD_nil, List.contains_cons, List.contains_nil, Nat.reduceAdd, Nat.reduceBEq, Bool.or_false, Bool.false_or, Bool.or_true, Bool.true_or, Bool.false_eq_true, false_implies, true_implies, true_and, and_true, forall_const]; intros; go_simp; rfl)))
  intro vs w2 hC hk
  have hm := HC w2 hC
  simp only [Og.KS, Og.K0, Og.Is, List.getD_cons_zero, List.getD_cons_succ, List.getD_nil, List.contains_cons, List.contains_nil, Nat.reduceAdd, Nat.reduceBEq, Bool.or_false, Bool.false_or, Bool.or_true, Bool.true_or, Bool.false_eq_true, false_implies, true_implies, true_and, and_true, forall_const] at hk
  simp only [hk, Act.put, List.setIfInBounds_toArray, List.set_cons_zero, List.set_cons_succ]
  clear hk
  have BB := Lib.hid hC
  clear hC hm HC
  go_wp2_with fail
  refine bodyPost_ret (results_tmp3 rfl _ _ _) rfl ?_
  exact ⟨rfl, BB.out⟩

theorem Fr.same {h : Nat} {v v' : Value} {w w1 : World} (a : Fr h v w w1) (hv : v'.ownBlock = v.ownBlock) : Fr h v' w w1 := ⟨a.bel, fun k hk h1 h2 => a.oth k hk h1 (by rw [← hv]; exact h2)⟩
theorem Fr.fresh {h b : Nat} {v : Value} {w w1 w2 : World} (a : Fr h v w w1) (hh : h ≤ w.heap.size) (hb : w.heap.size ≤ b) (n : ∀ j, j ≠ b → w2.heap[j]? = w1.heap[j]?) (k : Below w.heap.size w1 w2) : Fr h v w w2 :=
  ⟨a.bel.trans (k.mono hh), fun j hj h1 h2 => (n j (by omega)).trans (a.oth j hj h1 h2)⟩
theorem Hp.cut {h g n c : Nat} {w : World} {es : List En} {tb : List Int} (H : Hp h w (.slice (some ⟨g, 0, none⟩) n c) es tb) (m : Nat) (hm : m ≤ es.length) :
    Hp h (w.setCell ⟨h, 0, none⟩ (.slice (some ⟨g, 0, none⟩) m c)) (.slice (some ⟨g, 0, none⟩) m c) (es.take m) tb := by
  rcases H.own.2 with ⟨h0, _⟩ | ⟨g', cap, cur, hv, hb, hg, hnc, hcm, hcs, htk⟩
  · cases h0
  · simp only [Value.slice.injEq, Option.some.injEq, Addr.mk.injEq, and_true] at hv
    obtain ⟨rfl, hn, rfl⟩ := hv
    have hne : g ≠ h := by omega
    rw [setCell_eq_setRow w h 0 _ 130 (0, 0) _ H.blk]
    have hl : (es.take m).length = m := by rw [List.length_take]; omega
    refine ⟨?_, ⟨by rw [flat_len cEn 2 cEn_len], .inr ⟨g, c, cur, by rw [hl], hb, ?_, by rw [hl]; omega, hcm, hcs, ?_⟩⟩, H.len⟩
    · rw [setRow_heap w h _ _ 130 (0, 0) H.blk]
      simp [hCs]
    · rw [setRow_other w h g _ hne]; exact hg
    · rw [hl, ← flat_take cEn 2 cEn_len es m, ← htk, List.take_take, Nat.min_eq_left (by omega)]
theorem popP_some {s s' : Hs} {x : En} (h : popP s = some (x, s')) : ∃ ln s1, s.es.length = ln + 1 ∧ s.es[0]? = some x ∧ ln + 1 < 1000 ∧ oks x.n = true ∧ swapP s 0 ln = some s1 ∧ s1.es[ln]? = some x ∧
    ((0 < ln ∧ downP 200 ⟨s1.es.take ln, s1.tb.set x.n.toNat 0⟩ 0 = some s') ∨ (ln = 0 ∧ s' = ⟨s1.es.take ln, s1.tb.set x.n.toNat 0⟩)) := by
  unfold popP at h
  split at h
  · rename_i y hy
    split at h
    · rename_i hc
      have h0 := (List.getElem?_eq_some_iff.1 hy).1
      rw [Option.bind_eq_some_iff] at h
      obtain ⟨s1, hs1, h⟩ := h
      obtain ⟨ln, hln⟩ : ∃ ln, s.es.length = ln + 1 := ⟨s.es.length - 1, by omega⟩
      rw [hln] at h hs1 hc
      simp only [Nat.add_sub_cancel] at h hs1
      have e1 : s1.es[ln]? = some y := by
        obtain ⟨x', y', hx', hy', -, -, -, rfl⟩ := swapP_some hs1
        rw [hy] at hx'; cases hx'
        rw [List.getElem?_set_self (by simp; omega)]
      split at h
      · rw [Option.map_eq_some_iff] at h
        obtain ⟨s2, hs2, e⟩ := h
        cases e
        exact ⟨ln, s1, hln, hy, hc.1, hc.2, hs1, e1, .inl ⟨by omega, hs2⟩⟩
      · cases h
        exact ⟨ln, s1, hln, hy, hc.1, hc.2, hs1, e1, .inr ⟨by omega, rfl⟩⟩
    · cases h
  · cases h
theorem up_ok0 (s0 : Hs) (h : Nat) (v : Value) (w : World) (H0 : Hp h w v s0.es s0.tb) (hl : s0.es.length ≤ 1000000) :
    Calls Tryd.prog 76 #[.pointer (some ⟨h, 0, none⟩), .int .i64 0] w fun e w' => e = .returned (.tuple #[]) ∧ Fr h v w w' ∧ Hp h w' v s0.es s0.tb :=
  (up_ok s0 s0 200 0 h v w H0 hl (by omega) rfl).mono fun e w' k => ⟨k.1, k.2.1, k.2.2.1⟩
theorem down_ok0 (s0 s' : Hs) (h : Nat) (v : Value) (w : World) (H0 : Hp h w v s0.es s0.tb) (hl : s0.es.length ≤ 1000000) (hd : downP 200 s0 0 = some s') :
    Calls Tryd.prog 87 #[.pointer (some ⟨h, 0, none⟩), .int .i64 0] w fun e w' => e = .returned (.tuple #[]) ∧ Fr h v w w' ∧ Hp h w' v s'.es s'.tb :=
  (down_ok s0 s' 200 0 h v w H0 hl (by omega) hd).mono fun e w' k => ⟨k.1, k.2.1, k.2.2.1⟩
theorem ldEn {w : World} {b : Nat} {x : En} (h : w.heap[b]? = some (.cells (cEn x).toArray 132 (0, 0))) : (loadVar 132 ⟨b, 0, none⟩).run Tryd.prog w = .ok (.agg (cEn x).toArray) w := run_loadL isAgg168 size168 (cEn_len x) (AtL_heap h)
set_option maxRecDepth 100000 in
set_option maxHeartbeats 4000000 in
theorem take_ok (s s' : Hs) (h : Nat) (x : En) (v : Value) (w : World) (H : Hp h w v s.es s.tb) (hp : popP s = some (x, s')) :
    Calls Tryd.prog 78 #[.pointer (some ⟨h, 0, none⟩), .int .i64 0] w fun e w' => e = .returned (.agg (cEn x).toArray) ∧ Fr h v w w' ∧ ∃ v', v'.ownBlock = v.ownBlock ∧ Hp h w' v' s'.es s'.tb := by
  obtain ⟨ln, s1, hln, hx, hl, ho, hs1, hx1, hfin⟩ := popP_some hp
  obtain ⟨g, c, rfl, hhg, hgs, hat⟩ := H.row (by omega)
  rw [hln] at H ⊢
  have hcap : ln + 1 ≤ c := by
    rcases H.own.2 with ⟨h0, _⟩ | ⟨g', cap, cur, hv, hb, hg, hnc, hcm, hcs, htk⟩
    · cases h0
    · simp only [Value.slice.injEq, Option.some.injEq, Addr.mk.injEq, and_true] at hv
      omega
  have hlc : (ln : Int) ≤ (c : Int) := by omega
  have hc0 : ¬ c = 0 := by omega
  have hl1 : s1.es.length = ln + 1 := (swapP_len hs1).trans hln
  have HS := Lib.hid (fun w2 (k : Hp h w2 (.slice (some ⟨g, 0, none⟩) (ln + 1) c) s.es s.tb) => swap_okZ (a := 0) (b := (ln : Int)) (i := 0) (by rfl) (by rfl) k (by omega) hs1)
  have h4 : w.heap.size ≠ h := by have := H.lt; omega
  have h4g : (Value.slice (some ⟨g, 0, none⟩) (ln + 1) c).ownBlock ≠ some w.heap.size := by simp [Value.ownBlock]; omega
  have b1 : Below w.heap.size w (w.alloc (.cells #[.int .i64 0, .int .i64 0] 132)) := (Below.refl _ _).alloc (Nat.le_refl _) _
  have HA := Lib.hid (H.below b1)
  have FA := Lib.hid (Fr.of (v := .slice (some ⟨g, 0, none⟩) (ln + 1) c) (Nat.le_of_lt H.lt) b1)
  have q0 := HA.out.v0
  have gw : wrap64 (ln : Int) = (ln : Int) := by unfold wrap64; omega
  have KK := Lib.hid (And.intro h4 h4g)
  have hsz := Lib.hid (And.intro hgs H.lt)
  have LL := Lib.hid (And.intro hl1 (And.intro hl (And.intro ho (And.intro hx1 hfin))))
  clear hcap H hp hln hx hl ho hs1 hx1 hfin hat hl1 h4 h4g b1 hhg hgs
  go_enter Tryd.func78, Tryd.ntmps78
  go_wp2_with fail
  with_reducible refine (HS.out _ HA.out).mono ?_
  rintro e ws ⟨rfl, f1, H1⟩
  have FS := Lib.hid (FA.out.trans f1)
  have K4 := Lib.hid (f1.keep (heap_at (W := w) rfl) KK.out.1 KK.out.2)
  have HS1 := Lib.hid H1
  have q1 := H1.v0
  have r1 : RowKit.Hid ((loadVar 132 ⟨g, ln * 2, none⟩).run Tryd.prog ws = .ok (.agg (cEn x).toArray) ws) := Lib.hid (by
    obtain ⟨g', c', hv', -, -, ha⟩ := H1.row (by have := LL.out.1; omega)
    simp only [Value.slice.injEq, Option.some.injEq, Addr.mk.injEq, and_true, true_and] at hv'
    rw [hv'.1]
    exact loadEn ha LL.out.2.2.2.1)
  have hln0 : (0 : Int) ≤ (ln : Int) := by omega
  have hln1 : (ln : Int) < (ln : Int) + 1 := by omega
  clear f1 H1 q0 HA FA
  rw [gw]
  go_wp2_with (first | (refine wpList_loadL rfl 132 (.tmp 22) rfl g (ln * 2) (.agg (cEn x).toArray) rfl r1.out ?_) | (refine wpList_storeN rfl 132 (.tmp 6) (.tmp 23) rfl rfl ws.heap.size (cEn x).toArray rfl rfl 132 _ (heap_at rfl) info168s rfl (by simp [Value.oneCell', cEn]) ?_; intro w3 hz hb hn hs3; have b3 := below_storeA hb; have H3 := Lib.hid (HS1.out.below b3); have F3 := Lib.hid (bstep HS1.out.lt FS.out b3); have K43 := Lib.hid (heap_keep b3 K4.out); have K6 := Lib.hid hz; have z0 := (HS1.out.below b3).v0; have z1 := (HS1.out.below b3).fz 0; clear b3 hz hb hn hs3))
  have f4 := Fr.setCell (w := w3) (v := .slice (some ⟨g, 0, none⟩) (ln + 1) c) 0 (.slice (some ⟨g, 0, none⟩) ln c) (Nat.le_refl h) (.inl rfl) ⟨_, _, H3.out.blk⟩
  have H4 := Lib.hid (H3.out.cut ln (by have := LL.out.1; omega))
  have F4 := Lib.hid (F3.out.trans f4)
  have hwz : RowKit.Hid (w.heap.size < ws.heap.size ∧ ws.heap.size ≠ h ∧ (Value.slice (some ⟨g, 0, none⟩) (ln + 1) c).ownBlock ≠ some ws.heap.size) := Lib.hid (by
    have e1 := (Array.getElem?_eq_some_iff.1 K4.out).1
    have e2 := hsz.out
    refine ⟨e1, by omega, by simp [Value.ownBlock]; omega⟩)
  have K44 := Lib.hid (f4.keep K43.out KK.out.1 KK.out.2)
  have K64 := Lib.hid (f4.keep K6.out hwz.out.2.1 hwz.out.2.2)
  clear f4 H3 F3 K43 K6 z0 z1 K4 HS1 FS r1 q1
  generalize w3.setCell ⟨h, 0, none⟩ (.slice (some ⟨g, 0, none⟩) ln c) = w4 at *
  have hw4 := hwz.out.1
  have m6 : w4.cell? ⟨ws.heap.size, 1, none⟩ = some (.int .i64 x.n) := by rw [cell_of_row w4 _ 1 _ _ _ K64.out]; rfl
  obtain ⟨m, hxn⟩ : ∃ m : Nat, x.n = (m : Int) := ⟨x.n.toNat, by have := LL.out.2.2.1; simp only [oks, Bool.and_eq_true, decide_eq_true_eq] at this; omega⟩
  have hm128 : m < 128 := by have := LL.out.2.2.1; simp only [oks, Bool.and_eq_true, decide_eq_true_eq] at this; omega
  rw [hxn] at m6
  have hm0 : (0 : Int) ≤ (m : Int) := by omega
  have hm1 : (m : Int) < 128 := by omega
  have HC : ∀ w5, Below w4.heap.size w4 w5 → w5.cell? ⟨ws.heap.size, 1, none⟩ = some (.int .i64 (m : Int)) := fun w5 hb => bcell hb m6
  have XN := Lib.hid hxn
  have M8 := Lib.hid hm128
  have HW4 := Lib.hid hw4
  clear m6 hw4 hxn hm128
  refine Og.Tail.walk_lit 6 [[],[],[1],[0],[3,0],[4,2,0,1,3],[5,0,1,2,4,3]] (fun w2 => Below w4.heap.size w4 w2) (fun w1 w2 => Below w1.heap.size w1 w2) (by kernel_rfl) (by kernel_rfl) (by kernel_rfl) (bdrew) ?_
  simp only [List.take_succ_cons, List.take_zero, List.drop_succ_cons, List.drop_zero]
  repeat (first | (refine Og.step_pure (fun _ => Below.refl _ _) ?_; apply Exists.intro; refine And.intro ?_ ?_; focus (intro vs w2 hC hk; have hm := HC w2 hC; revert hk; simp only [Og.KS, Og.K0, Og.Is, List.getD_cons_zero, List.getD_cons_succ, List.getD_nil, List.contains_cons, List.contains_nil, Nat.reduceAdd, Nat.reduceBEq, Bool.or_false, Bool.false_or, Bool.or_true, Bool.true_or, Bool.false_eq_true, false_implies, true_implies, true_and, and_true, forall_const]; intros; go_simp; rfl)))
  intro vs w2 hC hk
  have hm := HC w2 hC
  simp only [Og.KS, Og.K0, Og.Is, List.getD_cons_zero, List.getD_cons_succ, List.getD_nil, List.contains_cons, List.contains_nil, Nat.reduceAdd, Nat.reduceBEq, Bool.or_false, Bool.false_or, Bool.or_true, Bool.true_or, Bool.false_eq_true, false_implies, true_implies, true_and, and_true, forall_const] at hk
  simp only [hk, Act.put, List.setIfInBounds_toArray, List.set_cons_zero, List.set_cons_succ]
  clear hk
  have H5 := Lib.hid (H4.out.below hC)
  have F5 := Lib.hid (bstep H4.out.lt F4.out hC)
  have K45 := Lib.hid (heap_keep hC K44.out)
  have K65 := Lib.hid (heap_keep hC K64.out)
  clear hC hm HC H4 F4 K44 K64
  obtain ⟨z, hz⟩ : ∃ z, s1.tb[m]? = some z := ⟨_, List.getElem?_eq_getElem (by rw [H5.out.len]; exact M8.out)⟩
  have q1 : w2.cell? ⟨h, 1 + m, none⟩ = some (.int .i64 z) := by rw [Nat.add_comm]; exact H5.out.at_ hz
  have q2 := H5.out.fz (1 + m)
  clear hz
  have hfin := LL.out.2.2.2.2
  rw [XN.out, Int.toNat_natCast] at hfin
  have f6 := Fr.setCell (w := w2) (v := .slice (some ⟨g, 0, none⟩) (ln + 1) c) (1 + m) (.int .i64 0) (Nat.le_refl h) (.inl rfl) ⟨_, _, H5.out.blk⟩
  have H6 := Lib.hid (H5.out.setAt m 0)
  have F6 := Lib.hid (F5.out.trans f6)
  have K46 := Lib.hid (f6.keep K45.out KK.out.1 KK.out.2)
  have K66 := Lib.hid (f6.keep K65.out hwz.out.2.1 hwz.out.2.2)
  clear f6 H5 F5 K45 K65
  have DONE : RowKit.Hid (∀ (w8 : World) (v8 : Value), Hp h w8 v8 s'.es s'.tb → v8.ownBlock = some g → Fr h (.slice (some ⟨g, 0, none⟩) (ln + 1) c) w w8 → ∀ w9 : World, (∀ B, B ≤ w.heap.size → Below B w8 w9) → (∀ j, j ≠ w.heap.size → w9.heap[j]? = w8.heap[j]?) → Fr h (.slice (some ⟨g, 0, none⟩) (ln + 1) c) w w9 ∧ ∃ v', v'.ownBlock = (Value.slice (some ⟨g, 0, none⟩) (ln + 1) c).ownBlock ∧ Hp h w9 v' s'.es s'.tb) := Lib.hid (fun w8 v8 h8 e8 f8 w9 b9 n9 => by
    refine ⟨f8.fresh (Nat.le_of_lt hsz.out.2) (Nat.le_refl _) n9 (b9 _ (Nat.le_refl _)), v8, e8, ⟨?_, ?_, h8.len⟩⟩
    · rw [n9 h (by have := hsz.out; omega)]; exact h8.blk
    · exact ownR_same h8.own (fun gg hgg => by rw [e8] at hgg; cases hgg; exact n9 g (by have := hsz.out; omega)) (b9 0 (Nat.zero_le _)).size)
  have hfin' := Lib.hid hfin
  have HL := Lib.hid (And.intro LL.out.1 LL.out.2.1)
  have KK2 := KK
  clear hfin LL gw XN M8 KK
  rcases Nat.eq_zero_or_pos ln with h0 | h0
  · have g0 : ¬ (0 : Int) < (ln : Int) := by omega
    have hd : s' = ⟨s1.es.take ln, s1.tb.set m 0⟩ := by
      rcases hfin'.out with ⟨e, _⟩ | ⟨_, e⟩
      · omega
      · exact e
    have Hz := H6
    have Fz := F6
    have K4z := K46
    have K6z := K66
    clear h0 hfin'
    have HE : RowKit.Hid (s'.es = s1.es.take ln ∧ s'.tb = s1.tb.set m 0) := Lib.hid (by rw [hd]; exact ⟨rfl, rfl⟩)
    rw [← HE.out.1, ← HE.out.2] at Hz
    clear hd H6 F6 K46 K66
    go_wp2_with (first | (refine wpList_loadL rfl 132 (.tmp 6) rfl ws.heap.size 0 (.agg (cEn x).toArray) rfl (ldEn K6z.out) ?_) | (refine wpList_storeN rfl 132 (.tmp 4) (.tmp 48) rfl rfl w.heap.size (cEn x).toArray rfl rfl 132 _ K4z.out info168s rfl (by simp [Value.oneCell', cEn]) ?_; intro w9 hz hb hn hs3; have Z9 := Lib.hid hz; have D9 := Lib.hid (DONE.out _ _ Hz.out rfl Fz.out w9 hb hn); clear hz hb hn hs3))
    refine bodyPost_ret (results_cell1 rfl rfl (ldEn Z9.out)) rfl ?_
    exact ⟨rfl, D9.out⟩
  · have g0 : (0 : Int) < (ln : Int) := by omega
    have hd : downP 200 ⟨s1.es.take ln, s1.tb.set m 0⟩ 0 = some s' := by
      rcases hfin'.out with ⟨_, e⟩ | ⟨e, _⟩
      · exact e
      · omega
    have HU := Lib.hid (fun w2 (b : Hp h w2 (.slice (some ⟨g, 0, none⟩) ln c) (s1.es.take ln) (s1.tb.set m 0)) => up_ok0 ⟨s1.es.take ln, s1.tb.set m 0⟩ h _ w2 b (by have := HL.out; simp; omega))
    have HD := Lib.hid (fun w2 (b : Hp h w2 (.slice (some ⟨g, 0, none⟩) ln c) (s1.es.take ln) (s1.tb.set m 0)) => down_ok0 ⟨s1.es.take ln, s1.tb.set m 0⟩ s' h _ w2 b (by have := HL.out; simp; omega) hd)
    clear h0 hd hfin'
    go_wp2_with fail
    with_reducible refine (HU.out _ H6.out).mono ?_
    rintro e w7 ⟨rfl, f7, H7⟩
    have F7 := Lib.hid (F6.out.trans (f7.same rfl))
    have K47 := Lib.hid (f7.keep K46.out KK2.out.1 KK2.out.2)
    have K67 := Lib.hid (f7.keep K66.out hwz.out.2.1 hwz.out.2.2)
    have H7' := Lib.hid H7
    clear f7 H7
    go_wp2_with fail
    with_reducible refine (HD.out _ H7'.out).mono ?_
    rintro e w8 ⟨rfl, f8, H8⟩
    have Fz := Lib.hid (F7.out.trans (f8.same rfl))
    have K4z := Lib.hid (f8.keep K47.out KK2.out.1 KK2.out.2)
    have K6z := Lib.hid (f8.keep K67.out hwz.out.2.1 hwz.out.2.2)
    have Hz := Lib.hid H8
    clear f8 H8
    go_wp2_with (first | (refine wpList_loadL rfl 132 (.tmp 6) rfl ws.heap.size 0 (.agg (cEn x).toArray) rfl (ldEn K6z.out) ?_) | (refine wpList_storeN rfl 132 (.tmp 4) (.tmp 48) rfl rfl w.heap.size (cEn x).toArray rfl rfl 132 _ K4z.out info168s rfl (by simp [Value.oneCell', cEn]) ?_; intro w9 hz hb hn hs3; have Z9 := Lib.hid hz; have D9 := Lib.hid (DONE.out _ _ Hz.out rfl Fz.out w9 hb hn); clear hz hb hn hs3))
    refine bodyPost_ret (results_cell1 rfl rfl (ldEn Z9.out)) rfl ?_
    exact ⟨rfl, D9.out⟩

set_option maxRecDepth 100000 in
set_option maxHeartbeats 4000000 in
theorem pop_none (h : Nat) (v : Value) (s : Hs) (w : World) (H : Hp h w v s.es s.tb) (he : s.es = []) :
    Calls Tryd.prog 63 #[.pointer (some ⟨h, 0, none⟩)] w fun e w' => e = .returned (.tuple #[.int .i64 0, .int .i64 0, .int .i64 8]) ∧ Below w.heap.size w w' := by
  rw [he] at H
  have HT := Lib.hid (top_none h v s.tb w H)
  clear H he
  go_enter Tryd.func63, Tryd.ntmps63
  go_wp2_with fail
  with_reducible refine (HT.out).mono ?_
  rintro e w2 ⟨rfl, hb⟩
  have BB := Lib.hid hb
  clear hb
  go_wp2_with fail
  refine bodyPost_ret (results_tmp3 rfl _ _ _) rfl ?_
  exact ⟨rfl, BB.out⟩
set_option maxRecDepth 100000 in
set_option maxHeartbeats 4000000 in
theorem pop_ok (s s' : Hs) (h : Nat) (x : En) (v : Value) (w : World) (H : Hp h w v s.es s.tb) (hp : popP s = some (x, s')) :
    Calls Tryd.prog 63 #[.pointer (some ⟨h, 0, none⟩)] w fun e w' => e = .returned (.tuple #[.int .i64 x.n, .int .i64 x.k, .int .i64 0]) ∧ Fr h v w w' ∧ ∃ v', v'.ownBlock = v.ownBlock ∧ Hp h w' v' s'.es s'.tb := by
  obtain ⟨ln, s1, hln, hx, hl, -⟩ := popP_some hp
  have HT := Lib.hid (top_ok h v x s.es s.tb w H hx (by omega))
  have HK := Lib.hid (fun w2 (k : Hp h w2 v s.es s.tb) => take_ok s s' h x v w2 k hp)
  have HH := Lib.hid H
  clear H hp hln hx hl
  go_enter Tryd.func63, Tryd.ntmps63
  go_wp2_with fail
  with_reducible refine (HT.out).mono ?_
  rintro e w2 ⟨rfl, hb⟩
  have H2 := Lib.hid (HH.out.below hb)
  have F2 := Lib.hid (Fr.of (v := v) (Nat.le_of_lt HH.out.lt) hb)
  clear hb
  go_wp2_with fail
  with_reducible refine (HK.out _ H2.out).mono ?_
  rintro e w3 ⟨rfl, f3, hh⟩
  have F3 := Lib.hid (And.intro (F2.out.trans f3) hh)
  clear f3 hh
  go_wp2_with fail
  refine bodyPost_ret (results_tmp3 rfl _ _ _) rfl ?_
  exact ⟨rfl, F3.out⟩
def h0s : Hs := ⟨[], List.replicate 128 0⟩
set_option maxRecDepth 100000 in
set_option maxHeartbeats 4000000 in
theorem new_ok (w : World) : Calls Tryd.prog 61 #[] w fun e w' => ∃ h, e = .returned (.pointer (some ⟨h, 0, none⟩)) ∧ h = w.heap.size ∧ Below w.heap.size w w' ∧ Hp h w' (.slice none 0 0) h0s.es h0s.tb := by
  go_enter Tryd.func61, Tryd.ntmps61
  go_wp2_with fail
  go_ret
  refine ⟨w.heap.size, rfl, rfl, (Below.refl _ _).alloc (Nat.le_refl _) _, ⟨?_, World.ownsRow_nil _ _ _ _, rfl⟩⟩
  have e : Tryd.zeroCells130 = (hCs (.slice none 0 0) h0s.tb).toArray := by kernel_rfl
  rw [← e]
  exact heap_at rfl

end Go.Proofs.YtjbglifmppilfaaDoor
namespace Go.Proofs.YtjbglifmppilfaaDoor
open Go.ChangeShapes Go.WideShapes Go.ChangeAt Go.RowKit
set_option linter.unusedVariables false
set_option linter.unusedSimpArgs false
attribute [local go_sem] Og.Opt Og.OpY

theorem info25s : (Tryd.prog.info? 35).map (·.size) = some 2 := by kernel_rfl
theorem size25 (w : World) : (sizeOf 35).run Tryd.prog w = .ok 2 w := by kernel_rfl
theorem isAgg25 (w : World) : (isAgg 35).run Tryd.prog w = .ok true w := by kernel_rfl
/-- a set as one value -/
def bV (p : Int × Int) : Value := .agg #[.int .u64 p.1, .int .u64 p.2]
def bCs (p : Int × Int) : Array Value := #[.int .u64 p.1, .int .u64 p.2]
def ofB (n : Nat) : Int × Int := if n < 64 then (bits .or .u64 0 (IntKind.u64.wrap (2 ^ n)), 0) else (0, bits .or .u64 0 (IntKind.u64.wrap (2 ^ (n - 64))))
def orB (p q : Int × Int) : Int × Int := (bits .or .u64 p.1 q.1, bits .or .u64 p.2 q.2)
def hasB (p : Int × Int) (n : Nat) : Bool := if n < 64 then bits .and .u64 (p.1 / 2 ^ n) 1 == 1 else bits .and .u64 (p.2 / 2 ^ (n - 64)) 1 == 1
def withB (p : Int × Int) (n : Nat) : Int × Int := orB p (ofB n)
theorem ldB {w : World} {b : Nat} {p : Int × Int} (h : w.heap[b]? = some (.cells (bCs p) 35 (0, 0))) : (loadVar 35 ⟨b, 0, none⟩).run Tryd.prog w = .ok (bV p) w := run_loadL (cs := [.int .u64 p.1, .int .u64 p.2]) isAgg25 size25 rfl (AtL_heap h)
set_option maxRecDepth 100000 in
set_option maxHeartbeats 4000000 in
theorem Or_ok (p q : Int × Int) (w : World) : Calls Tryd.prog 37 #[bV p, bV q] w fun e w' => e = .returned (bV (orB p q)) ∧ Below w.heap.size w w' := by
  unfold bV
  go_enter Tryd.func37, Tryd.ntmps37
  go_wp2_with fail
  refine bodyPost_ret (results_cell1 rfl rfl (ldB (p := orB p q) (heap_at (by simp)))) rfl ?_
  exact ⟨rfl, (((Below.refl _ _).alloc (Nat.le_refl _) _).alloc (by simp) _).alloc (by simp; omega) _⟩
theorem results_cell_tmp1 {fn : Func} {p u : Tmp} {ty : TypeId} {tmps : Array Value} {P : Program} {w : World} {a : Addr} {v : Value} (h : fn.results = #[.cell p ty, .tmp u]) (ha : tmps.getD p undef = .pointer (some a)) (hr : (loadVar ty a).run P w = .ok v w) :
    (results fn tmps).run P w = .ok (.tuple #[v, tmps.getD u undef]) w := by
  have e : (asAddr (.pointer (some a))).run P w = .ok a w := rfl
  rw [results_cell_tmp h, ha, e]
  simp only [Result.andThen_ok, hr]
set_option maxRecDepth 100000 in
set_option maxHeartbeats 4000000 in
theorem Of_ok (b n : Nat) (hn : n < 128) (w : World) (h0 : w.cell? ⟨b, 0, none⟩ = some (.int .i64 n)) :
    Calls Tryd.prog 36 #[.slice (some ⟨b, 0, none⟩) 1 1] w fun e w' => e = .returned (.tuple #[bV (ofB n), .int .i64 0]) ∧ Below w.heap.size w w' := by
  have hr : rng 0 127 (n : Int) = true := by simp [rng]; omega
  have h0' := Lib.hid h0
  clear h0
  obtain ⟨g, hg⟩ : ∃ g, g = w.heap.size := ⟨_, rfl⟩
  have HG := Lib.hid hg
  go_enter Tryd.func36, Tryd.ntmps36
  go_wp2_with fail
  rw [← hg]
  clear hg
  go_loopw [9] (fun i wr => ∃ k : Nat, k ≤ 1 ∧ i = .int .i64 k ∧ Hid (Below w.heap.size w wr) ∧ Hid (wr.heap[g]? = some (.cells (bCs (0, 0)) 35 (0, 0)) ∧ wr.heap[g + 1]? = some (.cells (bCs (if k = 0 then (0, 0) else ofB n)) 35 (0, 0)))) (fun i _ => 1 - (intOf i).toNat)
  case atStart =>
    refine ⟨0, by omega, rfl, Lib.hid (((Below.refl _ _).alloc (Nat.le_refl _) _).alloc (by simp) _), Lib.hid ⟨?_, heap_at (by rw [HG.out]; simp)⟩⟩
    exact heap_keep ((Below.refl _ _).alloc (Nat.le_refl _) _) (heap_at HG.out)
  case round =>
    obtain ⟨k, hk, rfl, hb, hh⟩ := hrel
    by_cases hlt : k < 1
    · have hk0 : k = 0 := by omega
      subst hk0
      have q0 := bcell hb.out h0'.out
      have BI := Lib.hid (fun w2 => bin_ok (n : Int) w2)
      go_wp2_with fail
      with_reducible refine (BI.out _).mono ?_
      rintro e ws ⟨rfl, b1⟩
      rw [hr]
      have BS := Lib.hid (bthen hb.out b1)
      have K0 := Lib.hid (heap_keep b1 hh.out.1)
      have K1 := Lib.hid (heap_keep b1 hh.out.2)
      have c0 : ws.cell? ⟨g + 1, 0, none⟩ = some (.int .u64 0) := by rw [cell_of_row ws _ 0 _ _ _ K1.out]; rfl
      have c1 : ws.cell? ⟨g + 1, 1, none⟩ = some (.int .u64 0) := by rw [cell_of_row ws _ 1 _ _ _ K1.out]; rfl
      have HC : ∀ w5, Below ws.heap.size ws w5 → w5.cell? ⟨g + 1, 0, none⟩ = some (.int .u64 0) ∧ w5.cell? ⟨g + 1, 1, none⟩ = some (.int .u64 0) := fun w5 hb => ⟨bcell hb c0, bcell hb c1⟩
      clear b1 q0 hb hh c0 c1
      go_wp2_with fail
      by_cases h64 : n < 64
      · have gq : IntKind.i64.wrap ((n : Int) / 64) = 0 := by rw [show (n : Int) / 64 = 0 by omega]; rfl
        have gq2 : Int.tdiv (n : Int) 64 = 0 := by rw [Int.tdiv_eq_ediv_of_nonneg (by omega)]; omega
        have gm : Int.tmod (n : Int) 64 = n := by rw [Int.tmod_eq_emod_of_nonneg (by omega)]; omega
        have gw : IntKind.i64.wrap (n : Int) = n := wrapk (by omega)
        have gn : (0 : Int) ≤ (n : Int) := by omega
        have gz : IntKind.i64.wrap 0 = 0 := rfl
        have EQ : Hid (ofB n = (bits .or .u64 0 (IntKind.u64.wrap (2 ^ n)), 0)) := Lib.hid (by unfold ofB; rw [if_pos h64])
        have gmin : min n 64 = n := by omega
        refine Og.Tail.walk_lit 9 [[],[0],[1,0],[2,1,0],[],[4],[5,4],[3,6,2,1,0,5,4],[1,0,2,3,4,5,6,7],[8,7,0,1,2,3,4,5,6]] (fun w2 => Below ws.heap.size ws w2) (fun w1 w2 => Below w1.heap.size w1 w2) (by kernel_rfl) (by kernel_rfl) (by kernel_rfl) (bdrew) ?_
        simp only [List.take_succ_cons, List.take_zero, List.drop_succ_cons, List.drop_zero]
        repeat (first | (refine Og.step_pure (fun _ => Below.refl _ _) ?_; apply Exists.intro; refine And.intro ?_ ?_; focus (intro vs w2 hC hk; have hm := HC w2 hC; revert hk; simp only [Og.KS, Og.K0, Og.Is, List.getD_cons_zero, List.getD_cons_succ, List.getD_nil, List.contains_cons, List.contains_nil, Nat.reduceAdd, Nat.reduceBEq, Bool.or_false, Bool.false_or, Bool.or_true, Bool.true_or, Bool.false_eq_true, false_implies, true_implies, true_and, and_true, forall_const]; intros; go_simp; rfl)))
        intro vs w2 hC hk
        have hm := HC w2 hC
        simp only [Og.KS, Og.K0, Og.Is, List.getD_cons_zero, List.getD_cons_succ, List.getD_nil, List.contains_cons, List.contains_nil, Nat.reduceAdd, Nat.reduceBEq, Bool.or_false, Bool.false_or, Bool.or_true, Bool.true_or, Bool.false_eq_true, false_implies, true_implies, true_and, and_true, forall_const] at hk
        simp only [hk, Act.put, List.setIfInBounds_toArray, List.set_cons_zero, List.set_cons_succ]
        clear hk
        have B5 := Lib.hid (bthen BS.out hC)
        have K05 := Lib.hid (heap_keep hC K0.out)
        have K15 := Lib.hid (heap_keep hC K1.out)
        have fz : w2.frozen? ⟨g + 1, 0, none⟩ = false := by simp [World.frozen?, K15.out]
        have q0 := hm.1
        have q1 := hm.2
        clear hC hm HC
        go_wp2_with fail
        go_roundw
        case rel =>
          refine ⟨1, by omega, rfl, Lib.hid ?_, Lib.hid ⟨?_, ?_⟩⟩
          · rw [setCell_eq_setRow w2 (g + 1) 0 _ 35 (0, 0) _ K15.out]
            exact B5.out.trans ⟨rfl, rfl, rfl, by simp [World.setRow], fun j hj => setRow_other w2 (g + 1) j _ (by have := HG.out; omega)⟩
          · rw [setCell_eq_setRow w2 (g + 1) 0 _ 35 (0, 0) _ K15.out, setRow_other w2 (g + 1) g _ (by omega)]
            exact K05.out
          · rw [setCell_cells K15.out]
            show _ = some (Obj.cells (bCs (ofB n)) 35 (0, 0))
            rw [EQ.out]
            rfl
        case measure => simp [intOf]
      · obtain ⟨m, hm⟩ : ∃ m, n = 64 + m := ⟨n - 64, by omega⟩
        have gq : IntKind.i64.wrap ((n : Int) / 64) = 1 := by rw [show (n : Int) / 64 = 1 by omega]; rfl
        have gq2 : Int.tdiv (n : Int) 64 = 1 := by rw [Int.tdiv_eq_ediv_of_nonneg (by omega)]; omega
        have gm : Int.tmod (n : Int) 64 = m := by rw [Int.tmod_eq_emod_of_nonneg (by omega)]; omega
        have gw : IntKind.i64.wrap (m : Int) = m := wrapk (by omega)
        have gn : (0 : Int) ≤ (m : Int) := by omega
        have gz : IntKind.i64.wrap 1 = 1 := rfl
        have EQ : Hid (ofB n = (0, bits .or .u64 0 (IntKind.u64.wrap (2 ^ m)))) := Lib.hid (by unfold ofB; rw [if_neg h64, show n - 64 = m by omega])
        have gmin : min m 64 = m := by omega
        clear hm
        refine Og.Tail.walk_lit 9 [[],[0],[1,0],[2,1,0],[],[4],[5,4],[3,6,2,1,0,5,4],[1,0,2,3,4,5,6,7],[8,7,0,1,2,3,4,5,6]] (fun w2 => Below ws.heap.size ws w2) (fun w1 w2 => Below w1.heap.size w1 w2) (by kernel_rfl) (by kernel_rfl) (by kernel_rfl) (bdrew) ?_
        simp only [List.take_succ_cons, List.take_zero, List.drop_succ_cons, List.drop_zero]
        repeat (first | (refine Og.step_pure (fun _ => Below.refl _ _) ?_; apply Exists.intro; refine And.intro ?_ ?_; focus (intro vs w2 hC hk; have hm := HC w2 hC; revert hk; simp only [Og.KS, Og.K0, Og.Is, List.getD_cons_zero, List.getD_cons_succ, List.getD_nil, List.contains_cons, List.contains_nil, Nat.reduceAdd, Nat.reduceBEq, Bool.or_false, Bool.false_or, Bool.or_true, Bool.true_or, Bool.false_eq_true, false_implies, true_implies, true_and, and_true, forall_const]; intros; go_simp; rfl)))
        intro vs w2 hC hk
        have hm := HC w2 hC
        simp only [Og.KS, Og.K0, Og.Is, List.getD_cons_zero, List.getD_cons_succ, List.getD_nil, List.contains_cons, List.contains_nil, Nat.reduceAdd, Nat.reduceBEq, Bool.or_false, Bool.false_or, Bool.or_true, Bool.true_or, Bool.false_eq_true, false_implies, true_implies, true_and, and_true, forall_const] at hk
        simp only [hk, Act.put, List.setIfInBounds_toArray, List.set_cons_zero, List.set_cons_succ]
        clear hk
        have B5 := Lib.hid (bthen BS.out hC)
        have K05 := Lib.hid (heap_keep hC K0.out)
        have K15 := Lib.hid (heap_keep hC K1.out)
        have fz : w2.frozen? ⟨g + 1, 1, none⟩ = false := by simp [World.frozen?, K15.out]
        have q0 := hm.1
        have q1 := hm.2
        clear hC hm HC
        go_wp2_with fail
        go_roundw
        case rel =>
          refine ⟨1, by omega, rfl, Lib.hid ?_, Lib.hid ⟨?_, ?_⟩⟩
          · rw [setCell_eq_setRow w2 (g + 1) 1 _ 35 (0, 0) _ K15.out]
            exact B5.out.trans ⟨rfl, rfl, rfl, by simp [World.setRow], fun j hj => setRow_other w2 (g + 1) j _ (by have := HG.out; omega)⟩
          · rw [setCell_eq_setRow w2 (g + 1) 1 _ 35 (0, 0) _ K15.out, setRow_other w2 (g + 1) g _ (by omega)]
            exact K05.out
          · rw [setCell_cells K15.out]
            show _ = some (Obj.cells (bCs (ofB n)) 35 (0, 0))
            rw [EQ.out]
            rfl
        case measure => simp [intOf]
    · have hk1 : k = 1 := by omega
      subst hk1
      have K0 := hh.out.1
      have K1 := hh.out.2
      rw [if_neg (by decide)] at K1
      have K0' := Lib.hid K0
      have K1' := Lib.hid K1
      clear K0 K1
      go_wp2_with (first | (refine wpList_loadL rfl 35 (.tmp 4) rfl (g + 1) 0 (bV (ofB n)) rfl (ldB K1'.out) ?_) | (refine wpList_storeN rfl 35 (.tmp 2) (.tmp 27) rfl rfl g (bCs (ofB n)) rfl rfl 35 _ K0'.out info25s rfl (by simp [Value.oneCell', bCs]) ?_; intro w9 hz hbb hn9 hs3; have Z9 := Lib.hid hz; have D9 := Lib.hid (hb.out.trans (hbb _ (by have := HG.out; omega))); clear hz hbb hn9 hs3))
      refine bodyPost_ret (results_cell_tmp1 rfl rfl (ldB Z9.out)) rfl ?_
      exact ⟨rfl, D9.out⟩

set_option maxRecDepth 100000 in
set_option maxHeartbeats 4000000 in
theorem With_ok (p : Int × Int) (n : Nat) (hn : n < 128) (w : World) : Calls Tryd.prog 51 #[bV p, .int .i64 n] w fun e w' => e = .returned (.tuple #[bV (withB p n), .int .i64 0]) ∧ Below w.heap.size w w' := by
  have HO := Lib.hid (fun b w2 h0 => Of_ok b n hn w2 h0)
  have HR := Lib.hid (fun w2 => Or_ok p (ofB n) w2)
  unfold bV at HO HR ⊢
  obtain ⟨g, hg⟩ : ∃ g, g = w.heap.size := ⟨_, rfl⟩
  have HG := Lib.hid hg
  go_enter Tryd.func51, Tryd.ntmps51
  go_wp2_with fail
  rw [← hg]
  have ba : Below w.heap.size w (w.alloc (.cells #[.int .u64 p.1, .int .u64 p.2] 35)) := (Below.refl _ _).alloc (Nat.le_refl _) _
  have b1 : Below w.heap.size w (((w.alloc (.cells #[.int .u64 p.1, .int .u64 p.2] 35)).alloc (.cells #[.int .u64 0, .int .u64 0] 35)).alloc (.cells #[.int .i64 n] 3)) := (ba.alloc (by simp) _).alloc (by simp; omega) _
  have k0 : (((w.alloc (.cells #[.int .u64 p.1, .int .u64 p.2] 35)).alloc (.cells #[.int .u64 0, .int .u64 0] 35)).alloc (.cells #[.int .i64 n] 3)).heap[g]? = some (.cells (bCs p) 35 (0, 0)) := heap_keep ((Below.refl _ _).alloc (Nat.le_refl _) _) (heap_keep ((Below.refl _ _).alloc (Nat.le_refl _) _) (heap_at hg))
  have k1 : (((w.alloc (.cells #[.int .u64 p.1, .int .u64 p.2] 35)).alloc (.cells #[.int .u64 0, .int .u64 0] 35)).alloc (.cells #[.int .i64 n] 3)).heap[g + 1]? = some (.cells (bCs (0, 0)) 35 (0, 0)) := heap_keep ((Below.refl _ _).alloc (Nat.le_refl _) _) (heap_at (by rw [hg]; simp))
  have k2 : (((w.alloc (.cells #[.int .u64 p.1, .int .u64 p.2] 35)).alloc (.cells #[.int .u64 0, .int .u64 0] 35)).alloc (.cells #[.int .i64 n] 3)).cell? ⟨g + 1 + 1, 0, none⟩ = some (.int .i64 n) := by
    have : (((w.alloc (.cells #[.int .u64 p.1, .int .u64 p.2] 35)).alloc (.cells #[.int .u64 0, .int .u64 0] 35)).alloc (.cells #[.int .i64 n] 3)).heap[g + 1 + 1]? = some (.cells #[.int .i64 n] 3 (0, 0)) := heap_at (by rw [hg]; simp)
    rw [cell_of_row _ _ 0 _ _ _ this]; rfl
  generalize (((w.alloc (.cells #[.int .u64 p.1, .int .u64 p.2] 35)).alloc (.cells #[.int .u64 0, .int .u64 0] 35)).alloc (.cells #[.int .i64 n] 3)) = wa at *
  with_reducible refine (HO.out _ _ k2).mono ?_
  rintro e wb ⟨rfl, b2⟩
  have B2 := Lib.hid (bthen b1 b2)
  have K0 := Lib.hid (heap_keep b2 k0)
  have K1 := Lib.hid (heap_keep b2 k1)
  clear ba b1 b2 k0 k1 k2 hg
  go_wp2_with (first | (refine wpList_loadL rfl 35 (.tmp 2) rfl g 0 (.agg #[.int .u64 p.1, .int .u64 p.2]) rfl (ldB (p := p) (heap_keep ((Below.refl _ _).alloc (Nat.le_refl _) _) K0.out)) ?_) | (refine wpList_loadL rfl 35 (.tmp 6) rfl wb.heap.size 0 (.agg #[.int .u64 (ofB n).1, .int .u64 (ofB n).2]) rfl (ldB (p := ofB n) (heap_at rfl)) ?_))
  with_reducible refine (HR.out _).mono ?_
  rintro e wc ⟨rfl, b3⟩
  have b4 : Below wb.heap.size wb wc := bthen ((Below.refl _ _).alloc (Nat.le_refl _) _) b3
  have B3 := Lib.hid (bthen B2.out b4)
  have K13 := Lib.hid (heap_keep b4 K1.out)
  clear b3 b4 K0 K1
  go_wp2_with (refine wpList_storeN rfl 35 (.tmp 4) (.tmp 20) rfl rfl (g + 1) (bCs (withB p n)) rfl rfl 35 _ K13.out info25s rfl (by simp [Value.oneCell', bCs]) ?_; intro w9 hz hbb hn9 hs3; have Z9 := Lib.hid hz; have D9 := Lib.hid (B3.out.trans (hbb _ (by have := HG.out; omega))); clear hz hbb hn9 hs3)
  refine bodyPost_ret (results_cell_tmp1 rfl rfl (ldB Z9.out)) rfl ?_
  exact ⟨rfl, D9.out⟩
set_option maxRecDepth 100000 in
set_option maxHeartbeats 4000000 in
theorem Has_ok (p : Int × Int) (n : Nat) (hn : n < 128) (w : World) : Calls Tryd.prog 43 #[bV p, .int .i64 n] w fun e w' => e = .returned (.bool (hasB p n)) ∧ Below w.heap.size w w' := by
  unfold bV
  have BI := Lib.hid (fun w2 => bin_ok (n : Int) w2)
  have hr : rng 0 127 (n : Int) = true := by simp [rng]; omega
  obtain ⟨g, hg⟩ : ∃ g, g = w.heap.size := ⟨_, rfl⟩
  go_enter Tryd.func43, Tryd.ntmps43
  go_wp2_with fail
  rw [← hg]
  have b1 : Below w.heap.size w (w.alloc (.cells #[.int .u64 p.1, .int .u64 p.2] 35)) := (Below.refl _ _).alloc (Nat.le_refl _) _
  have k0 : (w.alloc (.cells #[.int .u64 p.1, .int .u64 p.2] 35)).heap[g]? = some (.cells (bCs p) 35 (0, 0)) := heap_at hg
  generalize (w.alloc (.cells #[.int .u64 p.1, .int .u64 p.2] 35)) = wa at *
  with_reducible refine (BI.out _).mono ?_
  rintro e wb ⟨rfl, b2⟩
  rw [hr]
  have B2 := Lib.hid (bthen b1 b2)
  have K0 := heap_keep b2 k0
  have c0 : wb.cell? ⟨g, 0, none⟩ = some (.int .u64 p.1) := by rw [cell_of_row wb _ 0 _ _ _ K0]; rfl
  have c1 : wb.cell? ⟨g, 1, none⟩ = some (.int .u64 p.2) := by rw [cell_of_row wb _ 1 _ _ _ K0]; rfl
  clear b1 b2 k0 K0 hg
  by_cases h64 : n < 64
  · have gq : wrap64 ((n : Int) / 64) = 0 := by unfold wrap64; omega
    have gq2 : Int.tdiv (n : Int) 64 = 0 := by rw [Int.tdiv_eq_ediv_of_nonneg (by omega)]; omega
    have gm : Int.tmod (n : Int) 64 = n := by rw [Int.tmod_eq_emod_of_nonneg (by omega)]; omega
    have gw : wrap64 (n : Int) = n := by unfold wrap64; omega
    have gn : (0 : Int) ≤ (n : Int) := by omega
    have gmin : min n 64 = n := by omega
    have EQ : Hid (hasB p n = (bits .and .u64 (p.1 / 2 ^ n) 1 == 1)) := Lib.hid (by unfold hasB; rw [if_pos h64])
    go_wp2_with fail
    go_ret
    exact ⟨by rw [EQ.out]; rfl, B2.out⟩
  · obtain ⟨m, hm⟩ : ∃ m, n = 64 + m := ⟨n - 64, by omega⟩
    have gq : wrap64 ((n : Int) / 64) = 1 := by unfold wrap64; omega
    have gq2 : Int.tdiv (n : Int) 64 = 1 := by rw [Int.tdiv_eq_ediv_of_nonneg (by omega)]; omega
    have gm : Int.tmod (n : Int) 64 = m := by rw [Int.tmod_eq_emod_of_nonneg (by omega)]; omega
    have gw : wrap64 (m : Int) = m := by unfold wrap64; omega
    have gn : (0 : Int) ≤ (m : Int) := by omega
    have gmin : min m 64 = m := by omega
    have EQ : Hid (hasB p n = (bits .and .u64 (p.2 / 2 ^ m) 1 == 1)) := Lib.hid (by unfold hasB; rw [if_neg h64, show n - 64 = m by omega])
    clear hm
    go_wp2_with fail
    go_ret
    exact ⟨by rw [EQ.out]; rfl, B2.out⟩

end Go.Proofs.YtjbglifmppilfaaDoor
