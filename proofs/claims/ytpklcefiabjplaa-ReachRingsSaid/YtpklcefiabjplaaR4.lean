/- The heap of whole numbers: Push, Top, take, Pop, Lower; conditions as stated. -/
import Derived.Test.YtpklcefiabjplaaR3
import Derived.Test.YtpklcefiabjplaaG6
import Derived.Maps.AppendAt
namespace Go.Proofs.Ytpklcefiabjplaa
open Go.ChangeShapes Go.WideShapes Go.ChangeAt Go.RowKit
set_option linter.unusedVariables false
set_option linter.unusedSimpArgs false
attribute [local go_sem] Og.Opt Og.OpY

theorem isAgg163 (w : World) : (isAgg 163).run Try.prog w = .ok false w := by kernel_rfl
theorem results_tmp3 {fn : Func} {t u x : Tmp} (h : fn.results = #[.tmp t, .tmp u, .tmp x]) (tmps : Array Value) (P : Program) (w : World) :
    (results fn tmps).run P w = .ok (.tuple #[tmps.getD t undef, tmps.getD u undef, tmps.getD x undef]) w := by
  simp [results, h]
theorem results_cell1 {fn : Func} {p : Tmp} {ty : TypeId} {tmps : Array Value} {P : Program} {w : World} {a : Addr} {v : Value} (h : fn.results = #[.cell p ty]) (ha : tmps.getD p undef = .pointer (some a)) (hr : (loadVar ty a).run P w = .ok v w) :
    (results fn tmps).run P w = .ok v w := by
  have e : (asAddr (.pointer (some a))).run P w = .ok a w := rfl
  simp only [results, h]
  simp [ha, e, hr, Sem.run_bind, Result.andThen, -Array.getD_eq_getD_getElem?]
theorem info168 : (Try.prog.info? 168).map (fun i => (i.zero, i.size, i.bytes)) = some (some (.agg #[.int .i64 0, .int .i64 0]), 2, 16) := by kernel_rfl
theorem snocEn {w : World} {B : Nat} {v : Value} {pre : List En} {x : En} (h : w.ownsRow B 168 2 v (pre.length + 1) (pre.flatMap cEn ++ cEn x)) : w.ownsRow B 168 2 v (pre ++ [x]).length ((pre ++ [x]).flatMap cEn) := by
  rw [List.length_append, List.flatMap_append, List.flatMap_cons, List.flatMap_nil, List.append_nil]
  exact h
theorem wpList_appEn {ops : Array Oper} {rest : List Oper} {o : Oper} {a : Act} {w : World} {Q : Exit → Act → World → Prop} (hgd : o.guard = none) (s x : Operand) (ho : o.op = .call { callee := .builtin .append, args := #[s, x], argTypes := #[163, 163] })
    (base g : Nat) (v : Value) (pre : List En) (r : En) (hs : a.eval s = v) (hx : a.eval x = .slice (some ⟨g, 0, none⟩) 1 1) (hown : w.ownsRow base 168 2 v pre.length (pre.flatMap cEn)) (hg : w.heap[g]? = some (.cells (cEn r).toArray 168 (0, 0))) (hl : pre.length ≤ 1172812402926) (hbase : base ≤ w.heap.size)
    (h : ∀ v' w', w'.ownsRow base 168 2 v' (pre ++ [r]).length ((pre ++ [r]).flatMap cEn) → w.grownBy w' v.ownBlock → (v'.ownBlock = v.ownBlock ∨ v'.ownBlock = some w.heap.size) → wpList Try.prog ops Q rest (a.put o.dst v') w') : wpList Try.prog ops Q (o :: rest) a w := by
  obtain ⟨i, hi, hz, hsz, hby⟩ := info_parts info168
  exact wpList_append_own_at w hgd s x 163 ho base 168 i _ 2 16 Try.underlying163 hi hz hsz hby rfl (by omega) v pre.length (pre.flatMap cEn) hs hown ⟨g, 0, none⟩ 1 1 (cEn r) hx (by rw [cEn_len]) (news_heap hg) (cEn_one r) (by have := maxLen_ge; omega) (by omega) hbase (fun v' w' h1 h2 _ h4 => h v' w' (snocEn h1) h2 h4)
section
variable {h : Nat} {w w2 : World} {v v' : Value} {es es' : List En} {tb : List Int}
theorem Hp.atz (H : Hp h w v es tb) {n : Int} {z : Int} (hn : oks n = true) (hz : tb[n.toNat]? = some z) : ∃ k : Nat, n = (k : Int) ∧ k < 128 ∧ w.cell? ⟨h, 1 + k, none⟩ = some (.int .i64 z) ∧ tb[k]? = some z := by
  simp only [oks, Bool.and_eq_true, decide_eq_true_eq] at hn
  obtain ⟨k, rfl⟩ : ∃ k : Nat, n = (k : Int) := ⟨n.toNat, by omega⟩
  rw [Int.toNat_natCast] at hz
  exact ⟨k, rfl, by omega, by rw [Nat.add_comm]; exact H.at_ hz, hz⟩
theorem hCs_set0 (v v' : Value) (tb : List Int) : (hCs v tb).set 0 v' = hCs v' tb := rfl
theorem Hp.fz (H : Hp h w v es tb) (k : Nat) : w.frozen? ⟨h, k, none⟩ = false := by simp [World.frozen?, H.blk]
theorem grown_below {row : Option Nat} {B : Nat} (hg : w.grownBy w2 row) (hB : B ≤ w.heap.size) (hr : ∀ g, row = some g → B ≤ g) : Below B w w2 :=
  ⟨hg.os, hg.tape, hg.output, hg.size, fun k hk => hg.block k (by omega) (fun e => by have := hr k e.symm; omega)⟩
/-- another row stored -/
theorem Hp.setRow (H : Hp h w v es tb) (hg : w.grownBy w2 v.ownBlock) (ho : w2.ownsRow (h + 1) 168 2 v' es'.length (es'.flatMap cEn)) : Hp h (w2.setCell ⟨h, 0, none⟩ v') v' es' tb := by
  have hh := heap_grown hg H.blk (fun e => own_at H.own H.blk (by decide) e.symm)
  refine ⟨?_, ownsRow_setCell_other ho (own_at ho hh (by decide)) _, H.len⟩
  rw [setCell_cells hh]
  simp [hCs]
theorem Hp.setAt (H : Hp h w v es tb) (k : Nat) (z : Int) : Hp h (w.setCell ⟨h, 1 + k, none⟩ (.int .i64 z)) v es (tb.set k z) := by
  rw [Nat.add_comm 1 k]
  refine ⟨?_, ownsRow_setCell_other H.own (own_at H.own H.blk (by decide)) _, by simp [H.len]⟩
  rw [setCell_cells H.blk, ← hCs_set]
  simp
theorem Fr.setCell {w : World} {h g : Nat} {v : Value} (k : Nat) (u : Value) (hB : h ≤ g) (hv : g = h ∨ v.ownBlock = some g) (hg : ∃ cur t, w.heap[g]? = some (.cells cur t (0, 0))) : Fr h v w (w.setCell ⟨g, k, none⟩ u) := by
  obtain ⟨cur, t, hg⟩ := hg
  rw [setCell_eq_setRow w g k cur t (0, 0) u hg]
  exact Fr.one hv ⟨rfl, rfl, rfl, by simp [World.setRow], fun j hj => setRow_other w g j _ (by omega)⟩ (fun j hj => setRow_other w g j _ hj)
theorem Fr.turn {h : Nat} {v v' : Value} {w w1 w2 : World} (a : Fr h v w w1) (b : Fr h v' w1 w2) (hv : v'.ownBlock = v.ownBlock ∨ ∃ g, v'.ownBlock = some g ∧ w.heap.size ≤ g) : Fr h v w w2 :=
  ⟨a.bel.trans b.bel, fun k hk h1 h2 => by
    refine (b.oth k (Nat.lt_of_lt_of_le hk a.bel.size) h1 ?_).trans (a.oth k hk h1 h2)
    rcases hv with e | ⟨g, e, hg⟩
    · rw [e]; exact h2
    · rw [e]; intro e2; cases e2; omega⟩
theorem Hp.grown (H : Hp h w v es tb) (hg : w.grownBy w2 v.ownBlock) : Fr h v w w2 := ⟨grown_below hg (Nat.le_of_lt H.lt) (fun g e => Nat.le_of_lt (Nat.lt_of_succ_le (H.own.lt g e).1)), fun k hk _ h2 => hg.block k hk (fun e => h2 e.symm)⟩
end
theorem Hp.app {h : Nat} {w w3 : World} {v v' : Value} {es : List En} {tb : List Int} {r : En} {ob : Obj} (H : Hp h w v es tb) (hg : (w.alloc ob).grownBy w3 v.ownBlock) (ho : w3.ownsRow (h + 1) 168 2 v' (es ++ [r]).length ((es ++ [r]).flatMap cEn)) :
    Hp h (w3.setCell ⟨h, 0, none⟩ v') v' (es ++ [r]) tb ∧ Fr h v w (w3.setCell ⟨h, 0, none⟩ v') ∧ (∃ g cap, v' = .slice (some ⟨g, 0, none⟩) (es.length + 1) cap) ∧ w3.cell? ⟨h, 0, none⟩ = some v ∧ w3.frozen? ⟨h, 0, none⟩ = false := by
  have b1 : Below w.heap.size w (w.alloc ob) := (Below.refl _ _).alloc (Nat.le_refl _) _
  have H1 := H.below b1
  have H3 := H1.setRow hg ho
  have hh : w3.heap[h]? = _ := heap_grown hg H1.blk (fun e => own_at H1.own H1.blk (by decide) e.symm)
  refine ⟨H3, ((bstep H.lt (Fr.refl _ _ _) b1).trans (H1.grown hg)).trans (Fr.setCell 0 v' (Nat.le_refl _) (.inl rfl) ⟨_, _, hh⟩), ?_, ?_, by simp [World.frozen?, hh]⟩
  · rcases ho.2 with ⟨_, h0⟩ | ⟨g, cap, cur, hv, _⟩
    · simp at h0
    · exact ⟨g, cap, by rw [hv]; simp⟩
  · rw [cell_of_row w3 h 0 _ _ _ hh]
    rfl
def pushP (s : Hs) (n k : Int) : Option Hs :=
  if oks n = true ∧ s.tb[n.toNat]? = some 0 ∧ s.es.length < 1000 then upP 200 ⟨s.es ++ [⟨k, n⟩], s.tb.set n.toNat (s.es.length + 1)⟩ s.es.length else none
def lowerP (s : Hs) (n k : Int) : Option Hs :=
  if oks n = true then
    match s.tb[n.toNat]? with
    | some z =>
      match s.es[(z - 1).toNat]? with
      | some x => if 1 ≤ z ∧ k < x.k ∧ s.es.length < 1000 then upP 200 ⟨s.es.set (z - 1).toNat ⟨k, x.n⟩, s.tb⟩ (z - 1).toNat else none
      | none => none
    | none => none
  else none
def popP (s : Hs) : Option (En × Hs) :=
  match s.es[0]? with
  | some x => if s.es.length < 1000 ∧ oks x.n = true then
      (swapP s 0 (s.es.length - 1)).bind fun s1 =>
        if 1 < s.es.length then (downP 200 ⟨s1.es.take (s.es.length - 1), s1.tb.set x.n.toNat 0⟩ 0).map fun s2 => (x, s2)
        else some (x, ⟨s1.es.take (s.es.length - 1), s1.tb.set x.n.toNat 0⟩)
    else none
  | none => none

set_option maxRecDepth 100000 in
set_option maxHeartbeats 4000000 in
theorem push_ok (s s' : Hs) (h : Nat) (n k : Int) (v : Value) (w : World) (H : Hp h w v s.es s.tb) (hp : pushP s n k = some s') :
    Calls Try.prog 82 #[.pointer (some ⟨h, 0, none⟩), .int .i64 n, .int .i64 k] w fun e w' => e = .returned (.int .i64 0) ∧ Fr h v w w' ∧ ∃ v', Hp h w' v' s'.es s'.tb := by
  unfold pushP at hp
  split at hp
  · rename_i hc
    obtain ⟨ho, hz, hl⟩ := hc
    have hr : rng 0 127 n = true := by simp only [oks, Bool.and_eq_true, decide_eq_true_eq] at ho; simp [rng]; omega
    obtain ⟨m, rfl, hm, c0, htb⟩ := H.atz ho hz
    have HT := Lib.hid htb
    clear htb
    rw [Int.toNat_natCast] at hp
    have HI := Lib.hid (fun w2 => hin_ok (m : Int) w2)
    obtain ⟨A, c, hv, -⟩ := H.sl
    obtain ⟨nn, hnn⟩ : ∃ nn, nn = s.es.length := ⟨_, rfl⟩
    rw [← hnn] at hv
    subst hv
    have HN := Lib.hid hnn
    clear hnn
    have HH := Lib.hid H
    have hp' := Lib.hid hp
    have hl' := Lib.hid hl
    have hm0 : (0 : Int) ≤ (m : Int) := by omega
    have hm1 : (m : Int) < 128 := by omega
    have HL := Lib.hid H.lt
    have HC : ∀ w2, Below w.heap.size w w2 → w2.cell? ⟨h, 1 + m, none⟩ = some (.int .i64 0) ∧ w2.cell? ⟨h, 0, none⟩ = some (.slice A nn c) := fun w2 hb => ⟨bcell hb c0, bcell hb H.v0⟩
    clear hp hl ho hz H hm c0
    go_enter Try.func82, Try.ntmps82
    go_wp2_with fail
    with_reducible refine (HI.out _).mono ?_
    rintro e w2 ⟨rfl, hb⟩
    rw [hr]
    have H2 := Lib.hid (HH.out.below hb)
    obtain ⟨q0, q1⟩ := HC _ hb
    have B2 := Lib.hid (bstep (v := .slice A nn c) (w := w) (w1 := w) HH.out.lt (Fr.refl _ _ _) hb)
    clear hb HC HH
    go_wp2_with (at_builtin; refine wpList_appEn rfl (.tmp 27) (.tmp 31) rfl (h + 1) w2.heap.size (.slice A nn c) s.es ⟨k, (m : Int)⟩ rfl rfl (own_below H2.out.own ((Below.refl _ _).alloc (Nat.le_refl _) _)) (heap_at rfl) (by have := hl'.out; omega) (by have := H2.out.lt; simp; omega) ?_; intro v' w3 ho3 hg3 ha3; obtain ⟨G1, b1, ⟨gg, cc, hv'⟩, z0, z1⟩ := H2.out.app hg3 ho3; rw [← HN.out] at hv'; subst hv'; have HA := Lib.hid (ha3.imp id fun e => ⟨_, e, by have := B2.out.bel.size; simp; omega⟩ : _ ∨ ∃ g, (Value.slice (some ⟨gg, 0, none⟩) (nn + 1) cc).ownBlock = some g ∧ w.heap.size ≤ g); clear ha3; have H3 := Lib.hid G1; have B3 := Lib.hid (B2.out.trans b1); clear G1 b1 ho3 hg3)
    clear q0 q1 z0 z1
    generalize w3.setCell ⟨h, 0, none⟩ (.slice (some ⟨gg, 0, none⟩) (nn + 1) cc) = w4 at *
    have q1 := H3.out.v0
    have HC : ∀ w5, Below w4.heap.size w4 w5 → w5.cell? ⟨h, 0, none⟩ = some (.slice (some ⟨gg, 0, none⟩) (nn + 1) cc) := fun w5 hb => bcell hb q1
    clear q1
    refine Og.Tail.walk_lit 10 [[],[],[],[2],[3,2],[4,3,2],[5,4,3,2],[0],[7,0],[8,1,0,2,3,4,5,6,7],[9,6,0,1,2,3,4,5,8,7]] (fun w2 => Below w4.heap.size w4 w2) (fun w1 w2 => Below w1.heap.size w1 w2) (by kernel_rfl) (by kernel_rfl) (by kernel_rfl) (bdrew) ?_
    simp only [List.take_succ_cons, List.take_zero, List.drop_succ_cons, List.drop_zero]
    repeat (first | (refine Og.step_pure (fun _ => Below.refl _ _) ?_; apply Exists.intro; refine And.intro ?_ ?_; focus (intro vs w2 hC hk; have hm := HC w2 hC; revert hk; simp only [Og.KS, Og.K0, Og.Is, List.getD_cons_zero, List.getD_cons_succ, List.getD_nil, List.contains_cons, List.contains_nil, Nat.reduceAdd, Nat.reduceBEq, Bool.or_false, Bool.false_or, Bool.or_true, Bool.true_or, Bool.false_eq_true, false_implies, true_implies, true_and, and_true, forall_const]; intros; go_simp; rfl)))
    intro vs w2 hC hk
    have hm := HC w2 hC
    simp only [Og.KS, Og.K0, Og.Is, List.getD_cons_zero, List.getD_cons_succ, List.getD_nil, List.contains_cons, List.contains_nil, Nat.reduceAdd, Nat.reduceBEq, Bool.or_false, Bool.false_or, Bool.or_true, Bool.true_or, Bool.false_eq_true, false_implies, true_implies, true_and, and_true, forall_const] at hk
    simp only [hk, Act.put, List.setIfInBounds_toArray, List.set_cons_zero, List.set_cons_succ]
    clear hk
    have H4 := Lib.hid (H3.out.below hC)
    have B4 := Lib.hid (bstep H3.out.lt B3.out hC)
    have fz := H4.out.fz (1 + m)
    have q1 : w2.cell? ⟨h, 1 + m, none⟩ = some (.int .i64 0) := by rw [Nat.add_comm]; exact H4.out.at_ HT.out
    have H5 := Lib.hid (H4.out.setAt m ((nn : Int) + 1))
    have B5 := Lib.hid (B4.out.trans (Fr.setCell (1 + m) (.int .i64 ((nn : Int) + 1)) (Nat.le_refl _) (.inl rfl) ⟨_, _, H4.out.blk⟩))
    have hln : Hid (nn < 1000) := Lib.hid (by rw [HN.out]; exact hl'.out)
    have q2 := H5.out.v0
    have gw : wrap64 (nn : Int) = (nn : Int) := by have := hln.out; unfold wrap64; omega
    have HU := Lib.hid (fun w2 (b : Hp h w2 (.slice (some ⟨gg, 0, none⟩) (nn + 1) cc) (s.es ++ [⟨k, (m : Int)⟩]) (s.tb.set m ((nn : Int) + 1))) => up_ok ⟨s.es ++ [⟨k, (m : Int)⟩], s.tb.set m ((nn : Int) + 1)⟩ s' 200 nn h _ w2 b (by have := hl'.out; simp; omega) (by have := hln.out; omega) (by rw [HN.out]; exact hp'.out))
    clear hC hm HC
    go_wp2_with fail
    with_reducible refine (HU.out _ H5.out).mono ?_
    rintro e w6 ⟨rfl, b6, H6, -⟩
    have F := Lib.hid (And.intro (B5.out.turn b6 (HA.out)) H6)
    clear b6 H6
    go_wp2_with fail
    go_ret
    exact ⟨rfl, F.out.1, _, F.out.2⟩
  · cases hp

theorem Hp.setKey {h g n c j : Nat} {w : World} {es : List En} {tb : List Int} {x : En} (H : Hp h w (.slice (some ⟨g, 0, none⟩) n c) es tb) (hx : es[j]? = some x) (k : Int) :
    Hp h (w.setCell ⟨g, j * 2, none⟩ (.int .i64 k)) (.slice (some ⟨g, 0, none⟩) n c) (es.set j ⟨k, x.n⟩) tb ∧ Fr h (.slice (some ⟨g, 0, none⟩) n c) w (w.setCell ⟨g, j * 2, none⟩ (.int .i64 k)) ∧ w.frozen? ⟨g, j * 2, none⟩ = false := by
  have hj := (List.getElem?_eq_some_iff.1 hx).1
  rcases H.own.2 with ⟨h0, _⟩ | ⟨g', cap, cur, hv, hb, hg, hnc, hcm, hcs, htk⟩
  · cases h0
  · simp only [Value.slice.injEq, Option.some.injEq, Addr.mk.injEq, and_true] at hv
    obtain ⟨rfl, hn, rfl⟩ := hv
    have hne : g ≠ h := by omega
    rw [setCell_eq_setRow w g (j * 2) cur 168 (0, 0) _ hg]
    refine ⟨⟨?_, ⟨by simp [flat_len cEn 2 cEn_len], .inr ⟨g, c, cur.setIfInBounds (j * 2) (.int .i64 k), ?_, hb, setRow_heap w g cur _ 168 (0, 0) hg, by simpa using hnc, hcm, by simpa using hcs, ?_⟩⟩, H.len⟩, Fr.one (.inr rfl) ⟨rfl, rfl, rfl, by simp [World.setRow], fun i hi => setRow_other w g i _ (by omega)⟩ (fun i hi => setRow_other w g i _ hi), by simp [World.frozen?, hg]⟩
    · rw [setRow_other w g h _ (Ne.symm hne)]; exact H.blk
    · rw [hn]; simp
    · have hcl : cur.toList.length = c * 2 := by rw [Array.length_toList]; exact hcs
      rw [Array.toList_setIfInBounds, List.length_set]
      refine List.ext_getElem? fun i => ?_
      by_cases hi : i < es.length * 2
      · have hcur : cur.toList[i]? = (es[i / 2]?).bind fun x => (cEn x)[i % 2]? := by
          rw [← flat_get cEn 2 cEn_len (by omega), ← htk, List.getElem?_take_of_lt hi]
        rw [List.getElem?_take_of_lt hi, flat_get cEn 2 cEn_len (by omega)]
        by_cases h1 : i = j * 2
        · subst h1
          rw [List.getElem?_set_self (by omega), show j * 2 / 2 = j by omega, List.getElem?_set_self hj, show j * 2 % 2 = 0 by omega]
          rfl
        · rw [List.getElem?_set_ne (fun e => h1 e.symm), hcur]
          by_cases h2 : i / 2 = j
          · rw [h2, List.getElem?_set_self hj, hx, show i % 2 = 1 by omega]
            rfl
          · rw [List.getElem?_set_ne (fun e => h2 e.symm)]
      · rw [List.getElem?_eq_none (by rw [List.length_take]; omega), List.getElem?_eq_none (by rw [flat_len cEn 2 cEn_len, List.length_set]; omega)]
set_option maxRecDepth 100000 in
set_option maxHeartbeats 4000000 in
theorem lower_ok (s s' : Hs) (h : Nat) (n k : Int) (v : Value) (w : World) (H : Hp h w v s.es s.tb) (hp : lowerP s n k = some s') :
    Calls Try.prog 85 #[.pointer (some ⟨h, 0, none⟩), .int .i64 n, .int .i64 k] w fun e w' => e = .returned (.int .i64 0) ∧ Fr h v w w' ∧ ∃ v', Hp h w' v' s'.es s'.tb := by
  unfold lowerP at hp
  split at hp
  · rename_i ho
    split at hp
    · rename_i z hz
      split at hp
      · rename_i x hx
        split at hp
        · rename_i hc
          obtain ⟨hz1, hk, hl⟩ := hc
          have hr : rng 0 127 n = true := by simp only [oks, Bool.and_eq_true, decide_eq_true_eq] at ho; simp [rng]; omega
          obtain ⟨m, rfl, hm, c0, htb⟩ := H.atz ho hz
          obtain ⟨j, rfl⟩ : ∃ j : Nat, z = (j : Int) + 1 := ⟨(z - 1).toNat, by omega⟩
          rw [show ((j : Int) + 1 - 1).toNat = j by omega] at hx hp
          have hj := (List.getElem?_eq_some_iff.1 hx).1
          obtain ⟨g, c, rfl, hhg, hgs, hat⟩ := H.row (by omega)
          have c1 := (getEn hat hx).1
          obtain ⟨nn, hnn⟩ : ∃ nn, nn = s.es.length := ⟨_, rfl⟩
          rw [← hnn] at hj hl H ⊢
          have HI := Lib.hid (fun w2 => hin_ok (m : Int) w2)
          have HH := Lib.hid H
          have HT := Lib.hid htb
          have hm0 : (0 : Int) ≤ (m : Int) := by omega
          have hm1 : (m : Int) < 128 := by omega
          have hj0 : (0 : Int) ≤ (j : Int) := by omega
          have hj1 : (j : Int) < (nn : Int) := by omega
          have hjz : ¬ ((j : Int) + 1 = 0) := by omega
          have gw : wrap64 (j : Int) = (j : Int) := by unfold wrap64; omega
          have gw2 : IntKind.i64.wrap (j : Int) = (j : Int) := wrapk (by omega)
          have HK := Lib.hid (fun w2 (b : Hp h w2 (.slice (some ⟨g, 0, none⟩) nn c) s.es s.tb) => b.setKey hx k)
          have HU := Lib.hid (fun w2 (b : Hp h w2 (.slice (some ⟨g, 0, none⟩) nn c) (s.es.set j ⟨k, x.n⟩) s.tb) => up_ok ⟨s.es.set j ⟨k, x.n⟩, s.tb⟩ s' 200 j h _ w2 b (by simp; omega) (by omega) hp)
          have HC : ∀ w2, Below w.heap.size w w2 → w2.cell? ⟨h, 1 + m, none⟩ = some (.int .i64 ((j : Int) + 1)) ∧ w2.cell? ⟨h, 0, none⟩ = some (.slice (some ⟨g, 0, none⟩) nn c) ∧ w2.cell? ⟨g, j * 2, none⟩ = some (.int .i64 x.k) := fun w2 hb => ⟨bcell hb c0, bcell hb H.v0, bcell hb c1⟩
          clear hp hl ho hz H hm c0 c1 htb hx hj hnn hz1 hhg hgs hat
          go_enter Try.func85, Try.ntmps85
          go_wp2_with fail
          with_reducible refine (HI.out _).mono ?_
          rintro e wr ⟨rfl, hb⟩
          rw [hr]
          have H2 := Lib.hid (HH.out.below hb)
          have B2 := Lib.hid (bstep (v := .slice (some ⟨g, 0, none⟩) nn c) (w := w) (w1 := w) HH.out.lt (Fr.refl _ _ _) hb)
          obtain ⟨q0, q1, q2⟩ := HC _ hb
          have HC : ∀ w3, Below wr.heap.size wr w3 → w3.cell? ⟨h, 1 + m, none⟩ = some (.int .i64 ((j : Int) + 1)) ∧ w3.cell? ⟨h, 0, none⟩ = some (.slice (some ⟨g, 0, none⟩) nn c) ∧ w3.cell? ⟨g, j * 2, none⟩ = some (.int .i64 x.k) := fun w3 hb => ⟨bcell hb q0, bcell hb q1, bcell hb q2⟩
          clear hb
          go_wp2_with fail
          refine Og.walk_lit [[],[],[1],[2,1],[3,2,1],[],[],[5],[7,5],[8,6,7,5],[9,8,6,7,5],[10,9,8,6,7,5],[4,11,3,2,1,10,9,8,6,7,5],[12,4,11,3,2,1,10,9,8,6,7,5],[13,12,4,11,3,2,1,10,9,8,6,7,5],[0,14,13,12,4,11,3,2,1,10,9,8,6,7,5],[15,0,14,13,12,4,11,3,2,1,10,9,8,6,7,5],[16,15,0,14,13,12,4,11,3,2,1,10,9,8,6,7,5]] (fun w2 => Below wr.heap.size wr w2) (fun w1 w2 => Below w1.heap.size w1 w2) (by kernel_rfl) (by kernel_rfl) (bdrew) ?_
          repeat (first | (refine Og.step_pure (fun _ => Below.refl _ _) ?_; apply Exists.intro; refine And.intro ?_ ?_; focus (intro vs w2 hC hk; have hm := HC w2 hC; revert hk; simp only [Og.KS, Og.K0, Og.Is, List.getD_cons_zero, List.getD_cons_succ, List.getD_nil, List.contains_cons, List.contains_nil, Nat.reduceAdd, Nat.reduceBEq, Bool.or_false, Bool.false_or, Bool.or_true, Bool.true_or, Bool.false_eq_true, false_implies, true_implies, true_and, and_true, forall_const]; intros; go_simp; rfl)))
          intro vs w2 hC hk
          have hm := HC w2 hC
          simp only [Og.KS, Og.K0, Og.Is, List.getD_cons_zero, List.getD_cons_succ, List.getD_nil, List.contains_cons, List.contains_nil, Nat.reduceAdd, Nat.reduceBEq, Bool.or_false, Bool.false_or, Bool.or_true, Bool.true_or, Bool.false_eq_true, false_implies, true_implies, true_and, and_true, forall_const] at hk
          simp only [hk, Act.put, List.setIfInBounds_toArray, List.set_cons_zero, List.set_cons_succ]
          clear hk
          have H3 := Lib.hid (H2.out.below hC)
          have B3 := Lib.hid (bstep H2.out.lt B2.out hC)
          obtain ⟨q0, q1, q2⟩ := hm
          have HC : ∀ w5, Below w2.heap.size w2 w5 → w5.cell? ⟨h, 1 + m, none⟩ = some (.int .i64 ((j : Int) + 1)) ∧ w5.cell? ⟨h, 0, none⟩ = some (.slice (some ⟨g, 0, none⟩) nn c) ∧ w5.cell? ⟨g, j * 2, none⟩ = some (.int .i64 x.k) := fun w3 hb => ⟨bcell hb q0, bcell hb q1, bcell hb q2⟩
          clear hC q0 q1 q2
          go_wp2_with fail
          rename World => wr
          refine Og.Tail.walk_lit 14 [[],[0],[1,0],[2,1,0],[],[],[4],[6,4],[7,5,6,4],[8,7,5,6,4],[9,8,7,5,6,4],[],[3,10,0,1,2,4,5,6,7,8,9,11],[12,0,1,2,3,4,5,6,7,8,9,10,11],[13,11,0,1,2,3,4,5,6,7,8,9,10,12]] (fun w2 => Below wr.heap.size wr w2) (fun w1 w2 => Below w1.heap.size w1 w2) (by kernel_rfl) (by kernel_rfl) (by kernel_rfl) (bdrew) ?_
          simp only [List.take_succ_cons, List.take_zero, List.drop_succ_cons, List.drop_zero]
          repeat (first | (refine Og.step_pure (fun _ => Below.refl _ _) ?_; apply Exists.intro; refine And.intro ?_ ?_; focus (intro vs w2 hC hk; have hm := HC w2 hC; revert hk; simp only [Og.KS, Og.K0, Og.Is, List.getD_cons_zero, List.getD_cons_succ, List.getD_nil, List.contains_cons, List.contains_nil, Nat.reduceAdd, Nat.reduceBEq, Bool.or_false, Bool.false_or, Bool.or_true, Bool.true_or, Bool.false_eq_true, false_implies, true_implies, true_and, and_true, forall_const]; intros; go_simp; rfl)))
          intro vs w2 hC hk
          have hm := HC w2 hC
          simp only [Og.KS, Og.K0, Og.Is, List.getD_cons_zero, List.getD_cons_succ, List.getD_nil, List.contains_cons, List.contains_nil, Nat.reduceAdd, Nat.reduceBEq, Bool.or_false, Bool.false_or, Bool.or_true, Bool.true_or, Bool.false_eq_true, false_implies, true_implies, true_and, and_true, forall_const] at hk
          simp only [hk, Act.put, List.setIfInBounds_toArray, List.set_cons_zero, List.set_cons_succ]
          clear hk
          have H4 := Lib.hid (H3.out.below hC)
          have B4 := Lib.hid (bstep H3.out.lt B3.out hC)
          obtain ⟨G5, b5, fz⟩ := HK.out _ H4.out
          have H5 := Lib.hid G5
          have B5 := Lib.hid (B4.out.trans b5)
          obtain ⟨q0, q1, q2⟩ := hm
          have q3 : (w2.setCell ⟨g, j * 2, none⟩ (.int .i64 k)).cell? ⟨h, 1 + m, none⟩ = some (.int .i64 ((j : Int) + 1)) := by rw [Nat.add_comm]; exact H5.out.at_ HT.out
          clear hC HC G5 b5
          go_wp2_with fail
          with_reducible refine (HU.out _ H5.out).mono ?_
          rintro e w6 ⟨rfl, b6, H6, -⟩
          have F := Lib.hid (And.intro (B5.out.trans b6) H6)
          clear b6 H6
          go_wp2_with fail
          go_ret
          exact ⟨rfl, F.out.1, _, F.out.2⟩
        · cases hp
      · cases hp
    · cases hp
  · cases hp

end Go.Proofs.Ytpklcefiabjplaa
