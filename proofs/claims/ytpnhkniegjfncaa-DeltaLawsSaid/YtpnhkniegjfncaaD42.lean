/- The reference's put: a route laid into a table at its prefix, or taken out; conditions: the table fits the memory. -/
import Derived.Test.YtpnhkniegjfncaaD41
namespace Go.Proofs.Ytpnhkniegjfncaa
open Go.ChangeShapes Go.WideShapes Go.ChangeAt Go.RowKit
set_option linter.unusedVariables false
set_option linter.unusedSimpArgs false
attribute [local go_sem] Og.Opt Og.OpY
attribute [local go_sem high] eqB1 eqP1 eqR1 eqC1

theorem putL_cons {r s : Ro} {p : Pf} {d : Bool} {t : List Ro} : putL r p d (s :: t) = (if !d && befP p s.p then [r] else []) ++ ((if s.p = p then [] else [s]) ++ putL r p (d || befP p s.p) t) := rfl
theorem drop_cons {xs : List Ro} {k : Nat} {x : Ro} (h : xs[k]? = some x) : xs.drop k = x :: xs.drop (k + 1) := by
  obtain ⟨h1, rfl⟩ := List.getElem?_eq_some_iff.1 h
  exact List.drop_eq_getElem_cons h1
theorem snoc_own {w : World} {B : Nat} {v : Value} {pre : List Ro} {x : Ro} (h : w.ownsRow B 40 7 v (pre.length + 1) (pre.flatMap rcV ++ rcV x)) : w.ownsRow B 40 7 v (pre ++ [x]).length ((pre ++ [x]).flatMap rcV) := by
  rw [List.length_append, List.flatMap_append, List.flatMap_cons, List.flatMap_nil, List.append_nil]
  exact h
/-- append(out, x): one route onto an own row -/
theorem wpList_appR1 {ops : Array Oper} {rest : List Oper} {o : Oper} {a : Act} {w : World} {Q : Exit → Act → World → Prop} (hgd : o.guard = none) (s x : Operand) (ho : o.op = .call { callee := .builtin .append, args := #[s, x], argTypes := #[22, 22] })
    (base g : Nat) (v : Value) (pre : List Ro) (r : Ro) (hs : a.eval s = v) (hx : a.eval x = .slice (some ⟨g, 0, none⟩) 1 1) (hown : w.ownsRow base 40 7 v pre.length (pre.flatMap rcV)) (hg : w.heap[g]? = some (.cells (rcV r).toArray 40 (0, 0))) (hl : pre.length ≤ 1172812402926) (hbase : base ≤ w.heap.size)
    (h : ∀ v' w', w'.ownsRow base 40 7 v' (pre ++ [r]).length ((pre ++ [r]).flatMap rcV) → w.grownBy w' v.ownBlock → wpList Try.prog ops Q rest (a.put o.dst v') w') : wpList Try.prog ops Q (o :: rest) a w := by
  obtain ⟨i, hi, hz, hsz, hby⟩ := info_parts info40
  exact wpList_append_own w hgd s x 22 ho base 40 i _ 7 56 Try.underlying22 hi hz hsz hby rfl (by omega) v pre.length (pre.flatMap rcV) hs hown ⟨g, 0, none⟩ 1 1 (rcV r) hx (by rw [rcV_len]) (news_heap hg) (rcV_one r) (by have := maxLen_ge; omega) (by omega) hbase (fun v' w' h1 h2 _ => h v' w' (snoc_own h1) h2)
set_option maxRecDepth 100000 in
set_option maxHeartbeats 8000000 in
theorem put_ok (xs : List Ro) (p : Pf) (r : Ro) (A : Option Addr) (c : Nat) (w : World) (hr : RdR w A xs) (hl : xs.length ≤ 283467841536) :
    Calls Try.prog 45 #[.slice A xs.length c, .agg #[.int .u32 p.a, .int .i64 p.l], .agg #[.int .u32 r.p.a, .int .i64 r.p.l, .int .i64 r.m, .int .u64 r.o0, .int .u64 r.o1, .int .u64 r.h0, .int .u64 r.h1]] w fun e w' => (∃ v, e = .returned v ∧ w'.ownsRow w.heap.size 40 7 v (putL r p (decide (r = zR)) xs).length ((putL r p (decide (r = zR)) xs).flatMap rcV)) ∧ Below w.heap.size w w' := by
  obtain ⟨n, hn⟩ : ∃ n, n = xs.length := ⟨_, rfl⟩
  obtain ⟨L, hL⟩ : ∃ L, L = putL r p (decide (r = zR)) xs := ⟨_, rfl⟩
  obtain ⟨d0, hd0⟩ : ∃ d, d = decide (r = zR) := ⟨_, rfl⟩
  have te0 : eqRb r.p.a r.p.l r.m r.o0 r.o1 r.h0 r.h1 0 0 0 0 0 0 0 = d0 := (eqRb_of r zR).trans hd0.symm
  rw [← hd0] at hL
  rw [← hn] at hl
  rw [← hd0, ← hL, ← hn]
  have HN := Lib.hid hn
  have HL := Lib.hid hL
  have HR := Lib.hid hr
  obtain ⟨i0, hi, hz0, hz1, hz2⟩ := info_parts info40
  have HI := Lib.hid (And.intro hi (And.intro hz0 (And.intro hz1 hz2)))
  clear hn hr hL hd0 hi hz0 hz1 hz2
  go_enter Try.func45, Try.ntmps45
  go_wp2_with fail
  obtain ⟨W, hW⟩ : ∃ W, (w.alloc (Obj.cells #[.int .u32 p.a, .int .i64 p.l] 35)).alloc (Obj.cells #[.int .u32 r.p.a, .int .i64 r.p.l, .int .i64 r.m, .int .u64 r.o0, .int .u64 r.o1, .int .u64 r.h0, .int .u64 r.h1] 40) = W := ⟨_, rfl⟩
  have hB : Below w.heap.size w W := by rw [← hW]; exact ((Below.refl _ _).alloc (Nat.le_refl _) _).alloc (by simp) _
  have hS : W.heap.size = w.heap.size + 2 := by rw [← hW]; simp
  have d0' : W.cell? ⟨w.heap.size, 0, none⟩ = some (.int .u32 p.a) := by rw [← hW]; simp
  have d1' : W.cell? ⟨w.heap.size, 1, none⟩ = some (.int .i64 p.l) := by rw [← hW]; simp
  have e' : AtR W (w.heap.size + 1) 0 r := by
    rw [← hW]
    refine AtR_of fun k u hu => ?_
    have h1 := heap_alloc_new (w.alloc (Obj.cells #[.int .u32 p.a, .int .i64 p.l] 35)) (Obj.cells (rcV r).toArray 40)
    rw [World.size_alloc] at h1
    have h2 := news_heap h1 k u (by simpa using hu)
    rwa [Addr.add_lit] at h2
  have CP : Hid (∀ w2, Below (w.heap.size + 2) W w2 → w2.cell? ⟨w.heap.size, 0, none⟩ = some (.int .u32 p.a) ∧ w2.cell? ⟨w.heap.size, 1, none⟩ = some (.int .i64 p.l)) := Lib.hid (fun w2 h => ⟨(h.cell (show w.heap.size < w.heap.size + 2 by omega)).trans d0', (h.cell (show w.heap.size < w.heap.size + 2 by omega)).trans d1'⟩)
  have CR : Hid (∀ w2, Below (w.heap.size + 2) W w2 → AtR w2 (w.heap.size + 1) 0 r) := Lib.hid (fun w2 h => AtR_of fun k u hu => (h.cell (show w.heap.size + 1 < w.heap.size + 2 by omega)).trans (AtR_get e' k u hu))
  have BW : Hid (∀ w2, Below (w.heap.size + 2) W w2 → Below w.heap.size w w2) := Lib.hid (fun w2 h => hB.trans (h.mono (by omega)))
  have HS : Hid (W.heap.size = w.heap.size + 2) := Lib.hid hS
  have ST : Hid ((W.alloc (Obj.cells #[] 40)).ownsRow (w.heap.size + 2) 40 7 (.slice (some ⟨w.heap.size + 2, 0, none⟩) 0 0) 0 [] ∧ Below (w.heap.size + 2) W (W.alloc (Obj.cells #[] 40))) := Lib.hid (by
    rw [← hS]
    exact ⟨fresh_row W 40 7 W.heap.size (Nat.le_refl _), (Below.refl _ _).alloc (Nat.le_refl _) _⟩)
  rw [hW]
  clear hW hB hS d0' d1' e'
  go_loopw [7, 8, 9] (fun out dn i wr => ∃ (k : Nat) (d : Bool) (pre : List Ro), k ≤ n ∧ dn = .bool d ∧ i = .int .i64 k ∧ Hid (pre ++ putL r p d (xs.drop k) = L) ∧ Hid (wr.ownsRow (w.heap.size + 2) 40 7 out pre.length (pre.flatMap rcV)) ∧ Hid (Below (w.heap.size + 2) W wr) ∧ Hid (pre.length ≤ 2 * k)) (fun _ _ i _ => n - (intOf i).toNat)
  case atStart => exact ⟨0, d0, [], Nat.zero_le _, rfl, rfl, Lib.hid HL.out.symm, Lib.hid ST.out.1, Lib.hid ST.out.2, Lib.hid (Nat.le_refl _)⟩
  case round =>
    clear ST HL te0
    obtain ⟨k, d, pre, hk, rfl, rfl, hpre, hown, hbw, hlen⟩ := hrel
    have hbz : Hid (w.heap.size + 2 ≤ wr.heap.size) := Lib.hid (by have := hbw.out.size; rw [HS.out] at this; exact this)
    by_cases hlt : k < n
    · obtain ⟨x, hx⟩ : ∃ r, xs[k]? = some r := ⟨_, List.getElem?_eq_getElem (by rw [← HN.out]; exact hlt)⟩
      obtain ⟨b, o, rfl, _⟩ := HR.out k x hx
      have CX : Hid (∀ w2, Below (w.heap.size + 2) W w2 → AtR w2 b (o + k * 7) x) := Lib.hid (fun w2 h => by
        obtain ⟨b', o', h1, h2⟩ := (HR.out.below (BW.out w2 h)) k x hx
        cases h1
        exact h2)
      have HD := Lib.hid (drop_cons hx)
      have hwk : IntKind.i64.wrap (k : Int) = k := wrapk (by omega)
      have hwk1 : IntKind.i64.wrap ((k : Int) + 1) = (k : Int) + 1 := by rw [IntKind.wrap_i64]; omega
      have hk0 : (0 : Int) ≤ (k : Int) := by omega
      have hkn : (k : Int) < (n : Int) := by omega
      clear hx
      cases d with
      | true =>
        cases heq : decide (x.p = p) with
        | true =>
          have te : eqPb x.p.a x.p.l p.a p.l = true := heq
          have E := Lib.hid (show pre ++ putL r p true (xs.drop (k + 1)) = L by rw [← hpre.out, HD.out, putL_cons]; simp [ of_decide_eq_true heq, bef_irr])
          clear heq
          have HC : ∀ w2, Below wr.heap.size wr w2 → w2.cell? ⟨b, o + k * 7, none⟩ = some (.int .u32 x.p.a) ∧ w2.cell? ⟨b, o + k * 7 + 1, none⟩ = some (.int .i64 x.p.l) ∧ w2.cell? ⟨b, o + k * 7 + 2, none⟩ = some (.int .i64 x.m) ∧ w2.cell? ⟨b, o + k * 7 + 3, none⟩ = some (.int .u64 x.o0) ∧ w2.cell? ⟨b, o + k * 7 + 4, none⟩ = some (.int .u64 x.o1) ∧ w2.cell? ⟨b, o + k * 7 + 5, none⟩ = some (.int .u64 x.h0) ∧ w2.cell? ⟨b, o + k * 7 + 6, none⟩ = some (.int .u64 x.h1) ∧ w2.cell? ⟨w.heap.size, 0, none⟩ = some (.int .u32 p.a) ∧ w2.cell? ⟨w.heap.size, 1, none⟩ = some (.int .i64 p.l) := fun w2 h => by
            have hb2 := bthen' hbw.out (by have := hbw.out.size; rw [HS.out] at this; exact this) h
            obtain ⟨x0, x1, x2, x3, x4, x5, x6⟩ := CX.out w2 hb2
            exact ⟨x0, x1, x2, x3, x4, x5, x6, (CP.out w2 hb2).1, (CP.out w2 hb2).2⟩
          go_wp2_with fail
          refine Og.walk_lit [[],[0],[1,0],[2,1,0],[2,1,0],[2,1,0],[4,5,2,1,0],[6,2,4,5,1,0],[7,2,6,4,5,1,0],[3,8,2,1,0,7,6,4,5],[2,9,1,0,3,8,7,6,4,5]] (fun w2 => Below wr.heap.size wr w2) (fun w1 w2 => Below w1.heap.size w1 w2) (by kernel_rfl) (by kernel_rfl) (bdrew) ?_
          repeat (first | (refine Og.step_pure (fun _ => Below.refl _ _) ?_; apply Exists.intro; refine And.intro ?_ ?_; focus (intro vs w2 hC hk; have hm := HC w2 hC; revert hk; simp only [Og.KS, Og.K0, Og.Is, List.getD_cons_zero, List.getD_cons_succ, List.getD_nil, List.contains_cons, List.contains_nil, Nat.reduceAdd, Nat.reduceBEq, Bool.or_false, Bool.false_or, Bool.or_true, Bool.true_or, Bool.false_eq_true, false_implies, true_implies, true_and, and_true, forall_const]; intros; go_simp; rfl)))
          intro vs w2 hC hk
          have hm := HC w2 hC
          simp only [Og.KS, Og.K0, Og.Is, List.getD_cons_zero, List.getD_cons_succ, List.getD_nil, List.contains_cons, List.contains_nil, Nat.reduceAdd, Nat.reduceBEq, Bool.or_false, Bool.false_or, Bool.or_true, Bool.true_or, Bool.false_eq_true, false_implies, true_implies, true_and, and_true, forall_const] at hk
          simp only [hk, Act.put, List.setIfInBounds_toArray, List.set_cons_zero, List.set_cons_succ]
          clear hk
          have B2 := Lib.hid (bthen' hbw.out hbz.out hC)
          have HO2 := Lib.hid (own_below hown.out hC)
          clear hC hm HC hown hbw
          obtain ⟨wa, rfl⟩ : ∃ wa : World, wa = w2 := ⟨_, rfl⟩
          go_wp2_with fail
          have HC : ∀ w2, Below wa.heap.size wa w2 → w2.cell? ⟨b, o + k * 7, none⟩ = some (.int .u32 x.p.a) ∧ w2.cell? ⟨b, o + k * 7 + 1, none⟩ = some (.int .i64 x.p.l) ∧ w2.cell? ⟨b, o + k * 7 + 2, none⟩ = some (.int .i64 x.m) ∧ w2.cell? ⟨b, o + k * 7 + 3, none⟩ = some (.int .u64 x.o0) ∧ w2.cell? ⟨b, o + k * 7 + 4, none⟩ = some (.int .u64 x.o1) ∧ w2.cell? ⟨b, o + k * 7 + 5, none⟩ = some (.int .u64 x.h0) ∧ w2.cell? ⟨b, o + k * 7 + 6, none⟩ = some (.int .u64 x.h1) ∧ w2.cell? ⟨w.heap.size, 0, none⟩ = some (.int .u32 p.a) ∧ w2.cell? ⟨w.heap.size, 1, none⟩ = some (.int .i64 p.l) := fun w2 h => by
            have hb2 := bthen' B2.out (by have := B2.out.size; rw [HS.out] at this; exact this) h
            obtain ⟨x0, x1, x2, x3, x4, x5, x6⟩ := CX.out w2 hb2
            exact ⟨x0, x1, x2, x3, x4, x5, x6, (CP.out w2 hb2).1, (CP.out w2 hb2).2⟩
          refine Og.walk_lit [[],[],[0,1],[2,0,1],[3,2,0,1],[],[4,5,3,2,0,1]] (fun w2 => Below wa.heap.size wa w2) (fun w1 w2 => Below w1.heap.size w1 w2) (by kernel_rfl) (by kernel_rfl) (bdrew) ?_
          repeat (first | (refine Og.step_pure (fun _ => Below.refl _ _) ?_; apply Exists.intro; refine And.intro ?_ ?_; focus (intro vs w2 hC hk; have hm := HC w2 hC; revert hk; simp only [Og.KS, Og.K0, Og.Is, List.getD_cons_zero, List.getD_cons_succ, List.getD_nil, List.contains_cons, List.contains_nil, Nat.reduceAdd, Nat.reduceBEq, Bool.or_false, Bool.false_or, Bool.or_true, Bool.true_or, Bool.false_eq_true, false_implies, true_implies, true_and, and_true, forall_const]; intros; go_simp; rfl)))
          intro vs w2 hC hk
          have hm := HC w2 hC
          simp only [Og.KS, Og.K0, Og.Is, List.getD_cons_zero, List.getD_cons_succ, List.getD_nil, List.contains_cons, List.contains_nil, Nat.reduceAdd, Nat.reduceBEq, Bool.or_false, Bool.false_or, Bool.or_true, Bool.true_or, Bool.false_eq_true, false_implies, true_implies, true_and, and_true, forall_const] at hk
          simp only [hk, Act.put, List.setIfInBounds_toArray, List.set_cons_zero, List.set_cons_succ]
          clear hk
          have B4 := Lib.hid (bthen' B2.out (by have := B2.out.size; rw [HS.out] at this; exact this) hC)
          have HO4 := Lib.hid (own_below HO2.out hC)
          clear hC hm HC
          obtain ⟨wb, rfl⟩ : ∃ wb : World, wb = w2 := ⟨_, rfl⟩
          go_wp2_with fail
          go_roundw
          case rel => exact ⟨k + 1, true, pre, by omega, rfl, by go_num, E, HO4, B4, Lib.hid (by have := hlen.out; (try simp only [List.length_append, List.length_cons, List.length_nil]); omega)⟩
          case measure => simp [intOf]; omega
        | false =>
          have te : eqPb x.p.a x.p.l p.a p.l = false := heq
          have E := Lib.hid (show (pre ++ [x]) ++ putL r p true (xs.drop (k + 1)) = L by rw [← hpre.out, HD.out, putL_cons]; simp [ of_decide_eq_false heq, bef_irr])
          clear heq
          have HC : ∀ w2, Below wr.heap.size wr w2 → w2.cell? ⟨b, o + k * 7, none⟩ = some (.int .u32 x.p.a) ∧ w2.cell? ⟨b, o + k * 7 + 1, none⟩ = some (.int .i64 x.p.l) ∧ w2.cell? ⟨b, o + k * 7 + 2, none⟩ = some (.int .i64 x.m) ∧ w2.cell? ⟨b, o + k * 7 + 3, none⟩ = some (.int .u64 x.o0) ∧ w2.cell? ⟨b, o + k * 7 + 4, none⟩ = some (.int .u64 x.o1) ∧ w2.cell? ⟨b, o + k * 7 + 5, none⟩ = some (.int .u64 x.h0) ∧ w2.cell? ⟨b, o + k * 7 + 6, none⟩ = some (.int .u64 x.h1) ∧ w2.cell? ⟨w.heap.size, 0, none⟩ = some (.int .u32 p.a) ∧ w2.cell? ⟨w.heap.size, 1, none⟩ = some (.int .i64 p.l) := fun w2 h => by
            have hb2 := bthen' hbw.out (by have := hbw.out.size; rw [HS.out] at this; exact this) h
            obtain ⟨x0, x1, x2, x3, x4, x5, x6⟩ := CX.out w2 hb2
            exact ⟨x0, x1, x2, x3, x4, x5, x6, (CP.out w2 hb2).1, (CP.out w2 hb2).2⟩
          go_wp2_with fail
          refine Og.walk_lit [[],[0],[1,0],[2,1,0],[2,1,0],[2,1,0],[4,5,2,1,0],[6,2,4,5,1,0],[7,2,6,4,5,1,0],[3,8,2,1,0,7,6,4,5],[2,9,1,0,3,8,7,6,4,5]] (fun w2 => Below wr.heap.size wr w2) (fun w1 w2 => Below w1.heap.size w1 w2) (by kernel_rfl) (by kernel_rfl) (bdrew) ?_
          repeat (first | (refine Og.step_pure (fun _ => Below.refl _ _) ?_; apply Exists.intro; refine And.intro ?_ ?_; focus (intro vs w2 hC hk; have hm := HC w2 hC; revert hk; simp only [Og.KS, Og.K0, Og.Is, List.getD_cons_zero, List.getD_cons_succ, List.getD_nil, List.contains_cons, List.contains_nil, Nat.reduceAdd, Nat.reduceBEq, Bool.or_false, Bool.false_or, Bool.or_true, Bool.true_or, Bool.false_eq_true, false_implies, true_implies, true_and, and_true, forall_const]; intros; go_simp; rfl)))
          intro vs w2 hC hk
          have hm := HC w2 hC
          simp only [Og.KS, Og.K0, Og.Is, List.getD_cons_zero, List.getD_cons_succ, List.getD_nil, List.contains_cons, List.contains_nil, Nat.reduceAdd, Nat.reduceBEq, Bool.or_false, Bool.false_or, Bool.or_true, Bool.true_or, Bool.false_eq_true, false_implies, true_implies, true_and, and_true, forall_const] at hk
          simp only [hk, Act.put, List.setIfInBounds_toArray, List.set_cons_zero, List.set_cons_succ]
          clear hk
          have B2 := Lib.hid (bthen' hbw.out hbz.out hC)
          have HO2 := Lib.hid (own_below hown.out hC)
          clear hC hm HC hown hbw
          obtain ⟨wa, rfl⟩ : ∃ wa : World, wa = w2 := ⟨_, rfl⟩
          go_wp2_with fail
          have HC : ∀ w2, Below wa.heap.size wa w2 → w2.cell? ⟨b, o + k * 7, none⟩ = some (.int .u32 x.p.a) ∧ w2.cell? ⟨b, o + k * 7 + 1, none⟩ = some (.int .i64 x.p.l) ∧ w2.cell? ⟨b, o + k * 7 + 2, none⟩ = some (.int .i64 x.m) ∧ w2.cell? ⟨b, o + k * 7 + 3, none⟩ = some (.int .u64 x.o0) ∧ w2.cell? ⟨b, o + k * 7 + 4, none⟩ = some (.int .u64 x.o1) ∧ w2.cell? ⟨b, o + k * 7 + 5, none⟩ = some (.int .u64 x.h0) ∧ w2.cell? ⟨b, o + k * 7 + 6, none⟩ = some (.int .u64 x.h1) ∧ w2.cell? ⟨w.heap.size, 0, none⟩ = some (.int .u32 p.a) ∧ w2.cell? ⟨w.heap.size, 1, none⟩ = some (.int .i64 p.l) := fun w2 h => by
            have hb2 := bthen' B2.out (by have := B2.out.size; rw [HS.out] at this; exact this) h
            obtain ⟨x0, x1, x2, x3, x4, x5, x6⟩ := CX.out w2 hb2
            exact ⟨x0, x1, x2, x3, x4, x5, x6, (CP.out w2 hb2).1, (CP.out w2 hb2).2⟩
          refine Og.walk_lit [[],[],[0,1],[2,0,1],[3,2,0,1],[],[4,5,3,2,0,1]] (fun w2 => Below wa.heap.size wa w2) (fun w1 w2 => Below w1.heap.size w1 w2) (by kernel_rfl) (by kernel_rfl) (bdrew) ?_
          repeat (first | (refine Og.step_pure (fun _ => Below.refl _ _) ?_; apply Exists.intro; refine And.intro ?_ ?_; focus (intro vs w2 hC hk; have hm := HC w2 hC; revert hk; simp only [Og.KS, Og.K0, Og.Is, List.getD_cons_zero, List.getD_cons_succ, List.getD_nil, List.contains_cons, List.contains_nil, Nat.reduceAdd, Nat.reduceBEq, Bool.or_false, Bool.false_or, Bool.or_true, Bool.true_or, Bool.false_eq_true, false_implies, true_implies, true_and, and_true, forall_const]; intros; go_simp; rfl)))
          intro vs w2 hC hk
          have hm := HC w2 hC
          simp only [Og.KS, Og.K0, Og.Is, List.getD_cons_zero, List.getD_cons_succ, List.getD_nil, List.contains_cons, List.contains_nil, Nat.reduceAdd, Nat.reduceBEq, Bool.or_false, Bool.false_or, Bool.or_true, Bool.true_or, Bool.false_eq_true, false_implies, true_implies, true_and, and_true, forall_const] at hk
          simp only [hk, Act.put, List.setIfInBounds_toArray, List.set_cons_zero, List.set_cons_succ]
          clear hk
          have B4 := Lib.hid (bthen' B2.out (by have := B2.out.size; rw [HS.out] at this; exact this) hC)
          have HO4 := Lib.hid (own_below HO2.out hC)
          clear hC hm HC
          obtain ⟨wb, rfl⟩ : ∃ wb : World, wb = w2 := ⟨_, rfl⟩
          have HXX := Lib.hid (CX.out wb B4.out)
          go_wp2_with (first | (refine wpList_loadRA rfl (.tmp 45) rfl rfl HXX.out ?_) | (at_builtin; refine wpList_appR1 rfl (.tmp 42) (.tmp 47) rfl (w.heap.size + 2) wb.heap.size _ pre x rfl rfl (HO4.out.alloc _) (heap_at rfl) (by have := hlen.out; (try simp only [List.length_append, List.length_cons, List.length_nil]); omega) (by have := B4.out.size; rw [HS.out] at this; rw [World.size_alloc]; omega) ?_; intro v_w5 w5 hown_ hgrow_; have HOw5 := Lib.hid hown_; have BBw5 := Lib.hid ((B4.out.alloc (by have := B4.out.size; rw [HS.out] at this; omega) _).grown hgrow_ (by have := B4.out.size; rw [HS.out] at this; rw [World.size_alloc]; omega) (fun j hj => (HO4.out.lt j hj).1)); clear hown_ hgrow_))
          go_roundw
          case rel => exact ⟨k + 1, true, (pre ++ [x]), by omega, rfl, by go_num, E, HOw5, BBw5, Lib.hid (by have := hlen.out; (try simp only [List.length_append, List.length_cons, List.length_nil]); omega)⟩
          case measure => simp [intOf]; omega
      | false =>
        cases hq : befP p x.p with
        | true =>
          have heq : decide (x.p = p) = false := decide_eq_false (fun e => by rw [e, bef_irr] at hq; cases hq)
          have te : eqPb x.p.a x.p.l p.a p.l = false := heq
          have E := Lib.hid (show ((pre ++ [r]) ++ [x]) ++ putL r p true (xs.drop (k + 1)) = L by rw [← hpre.out, HD.out, putL_cons]; simp [hq, of_decide_eq_false heq, bef_irr])
          have G31 : Hid (∀ w, Calls Try.prog 31 #[.agg #[.int .u32 p.a, .int .i64 p.l], .agg #[.int .u32 x.p.a, .int .i64 x.p.l]] w fun e w' => e = .returned (.bool true) ∧ Below w.heap.size w w') := Lib.hid (fun w => by have := rbefore_ok p x.p w; rwa [hq] at this)
          clear heq hq
          have HC : ∀ w2, Below wr.heap.size wr w2 → w2.cell? ⟨b, o + k * 7, none⟩ = some (.int .u32 x.p.a) ∧ w2.cell? ⟨b, o + k * 7 + 1, none⟩ = some (.int .i64 x.p.l) ∧ w2.cell? ⟨b, o + k * 7 + 2, none⟩ = some (.int .i64 x.m) ∧ w2.cell? ⟨b, o + k * 7 + 3, none⟩ = some (.int .u64 x.o0) ∧ w2.cell? ⟨b, o + k * 7 + 4, none⟩ = some (.int .u64 x.o1) ∧ w2.cell? ⟨b, o + k * 7 + 5, none⟩ = some (.int .u64 x.h0) ∧ w2.cell? ⟨b, o + k * 7 + 6, none⟩ = some (.int .u64 x.h1) ∧ w2.cell? ⟨w.heap.size, 0, none⟩ = some (.int .u32 p.a) ∧ w2.cell? ⟨w.heap.size, 1, none⟩ = some (.int .i64 p.l) := fun w2 h => by
            have hb2 := bthen' hbw.out (by have := hbw.out.size; rw [HS.out] at this; exact this) h
            obtain ⟨x0, x1, x2, x3, x4, x5, x6⟩ := CX.out w2 hb2
            exact ⟨x0, x1, x2, x3, x4, x5, x6, (CP.out w2 hb2).1, (CP.out w2 hb2).2⟩
          go_wp2_with fail
          refine Og.walk_lit [[],[0],[1,0],[2,1,0],[2,1,0],[2,1,0],[4,5,2,1,0],[6,2,4,5,1,0],[7,2,6,4,5,1,0],[3,8,2,1,0,7,6,4,5],[2,9,1,0,3,8,7,6,4,5]] (fun w2 => Below wr.heap.size wr w2) (fun w1 w2 => Below w1.heap.size w1 w2) (by kernel_rfl) (by kernel_rfl) (bdrew) ?_
          repeat (first | (refine Og.step_pure (fun _ => Below.refl _ _) ?_; apply Exists.intro; refine And.intro ?_ ?_; focus (intro vs w2 hC hk; have hm := HC w2 hC; revert hk; simp only [Og.KS, Og.K0, Og.Is, List.getD_cons_zero, List.getD_cons_succ, List.getD_nil, List.contains_cons, List.contains_nil, Nat.reduceAdd, Nat.reduceBEq, Bool.or_false, Bool.false_or, Bool.or_true, Bool.true_or, Bool.false_eq_true, false_implies, true_implies, true_and, and_true, forall_const]; intros; go_simp; rfl)) | (refine Og.step_one ?_; apply Exists.intro; refine And.intro ?_ ?_; focus (intro vs w2 hC hk; have hm := HC w2 hC; revert hk; simp only [Og.KS, Og.K0, Og.Is, List.getD_cons_zero, List.getD_cons_succ, List.getD_nil, List.contains_cons, List.contains_nil, Nat.reduceAdd, Nat.reduceBEq, Bool.or_false, Bool.false_or, Bool.or_true, Bool.true_or, Bool.false_eq_true, false_implies, true_implies, true_and, and_true, forall_const]; intros; go_simp; with_reducible refine (G31.out _).mono ?_; rintro e w3 ⟨rfl, hb⟩; exact Og.RetV.mk ⟨bthen hC hb, hb, rfl⟩)))
          intro vs w2 hC hk
          have hm := HC w2 hC
          simp only [Og.KS, Og.K0, Og.Is, List.getD_cons_zero, List.getD_cons_succ, List.getD_nil, List.contains_cons, List.contains_nil, Nat.reduceAdd, Nat.reduceBEq, Bool.or_false, Bool.false_or, Bool.or_true, Bool.true_or, Bool.false_eq_true, false_implies, true_implies, true_and, and_true, forall_const] at hk
          simp only [hk, Act.put, List.setIfInBounds_toArray, List.set_cons_zero, List.set_cons_succ]
          clear hk
          have B2 := Lib.hid (bthen' hbw.out hbz.out hC)
          have HO2 := Lib.hid (own_below hown.out hC)
          clear hC hm HC hown hbw
          obtain ⟨wa, rfl⟩ : ∃ wa : World, wa = w2 := ⟨_, rfl⟩
          have HRR := Lib.hid (CR.out wa B2.out)
          go_wp2_with (first | (refine wpList_loadRA rfl (.tmp 5) rfl rfl HRR.out ?_) | (at_builtin; refine wpList_appR1 rfl (.tmp 31) (.tmp 33) rfl (w.heap.size + 2) wa.heap.size _ pre r rfl rfl (HO2.out.alloc _) (heap_at rfl) (by have := hlen.out; (try simp only [List.length_append, List.length_cons, List.length_nil]); omega) (by have := B2.out.size; rw [HS.out] at this; rw [World.size_alloc]; omega) ?_; intro v_w3 w3 hown_ hgrow_; have HOw3 := Lib.hid hown_; have BBw3 := Lib.hid ((B2.out.alloc (by have := B2.out.size; rw [HS.out] at this; omega) _).grown hgrow_ (by have := B2.out.size; rw [HS.out] at this; rw [World.size_alloc]; omega) (fun j hj => (HO2.out.lt j hj).1)); clear hown_ hgrow_))
          have HC : ∀ w2, Below w3.heap.size w3 w2 → w2.cell? ⟨b, o + k * 7, none⟩ = some (.int .u32 x.p.a) ∧ w2.cell? ⟨b, o + k * 7 + 1, none⟩ = some (.int .i64 x.p.l) ∧ w2.cell? ⟨b, o + k * 7 + 2, none⟩ = some (.int .i64 x.m) ∧ w2.cell? ⟨b, o + k * 7 + 3, none⟩ = some (.int .u64 x.o0) ∧ w2.cell? ⟨b, o + k * 7 + 4, none⟩ = some (.int .u64 x.o1) ∧ w2.cell? ⟨b, o + k * 7 + 5, none⟩ = some (.int .u64 x.h0) ∧ w2.cell? ⟨b, o + k * 7 + 6, none⟩ = some (.int .u64 x.h1) ∧ w2.cell? ⟨w.heap.size, 0, none⟩ = some (.int .u32 p.a) ∧ w2.cell? ⟨w.heap.size, 1, none⟩ = some (.int .i64 p.l) := fun w2 h => by
            have hb2 := bthen' BBw3.out (by have := BBw3.out.size; rw [HS.out] at this; exact this) h
            obtain ⟨x0, x1, x2, x3, x4, x5, x6⟩ := CX.out w2 hb2
            exact ⟨x0, x1, x2, x3, x4, x5, x6, (CP.out w2 hb2).1, (CP.out w2 hb2).2⟩
          refine Og.walk_lit [[],[],[0,1],[2,0,1],[3,2,0,1],[],[4,5,3,2,0,1]] (fun w2 => Below w3.heap.size w3 w2) (fun w1 w2 => Below w1.heap.size w1 w2) (by kernel_rfl) (by kernel_rfl) (bdrew) ?_
          repeat (first | (refine Og.step_pure (fun _ => Below.refl _ _) ?_; apply Exists.intro; refine And.intro ?_ ?_; focus (intro vs w2 hC hk; have hm := HC w2 hC; revert hk; simp only [Og.KS, Og.K0, Og.Is, List.getD_cons_zero, List.getD_cons_succ, List.getD_nil, List.contains_cons, List.contains_nil, Nat.reduceAdd, Nat.reduceBEq, Bool.or_false, Bool.false_or, Bool.or_true, Bool.true_or, Bool.false_eq_true, false_implies, true_implies, true_and, and_true, forall_const]; intros; go_simp; rfl)))
          intro vs w2 hC hk
          have hm := HC w2 hC
          simp only [Og.KS, Og.K0, Og.Is, List.getD_cons_zero, List.getD_cons_succ, List.getD_nil, List.contains_cons, List.contains_nil, Nat.reduceAdd, Nat.reduceBEq, Bool.or_false, Bool.false_or, Bool.or_true, Bool.true_or, Bool.false_eq_true, false_implies, true_implies, true_and, and_true, forall_const] at hk
          simp only [hk, Act.put, List.setIfInBounds_toArray, List.set_cons_zero, List.set_cons_succ]
          clear hk
          have B4 := Lib.hid (bthen' BBw3.out (by have := BBw3.out.size; rw [HS.out] at this; exact this) hC)
          have HO4 := Lib.hid (own_below HOw3.out hC)
          clear hC hm HC
          obtain ⟨wb, rfl⟩ : ∃ wb : World, wb = w2 := ⟨_, rfl⟩
          have HXX := Lib.hid (CX.out wb B4.out)
          go_wp2_with (first | (refine wpList_loadRA rfl (.tmp 45) rfl rfl HXX.out ?_) | (at_builtin; refine wpList_appR1 rfl (.tmp 42) (.tmp 47) rfl (w.heap.size + 2) wb.heap.size _ (pre ++ [r]) x rfl rfl (HO4.out.alloc _) (heap_at rfl) (by have := hlen.out; (try simp only [List.length_append, List.length_cons, List.length_nil]); omega) (by have := B4.out.size; rw [HS.out] at this; rw [World.size_alloc]; omega) ?_; intro v_w5 w5 hown_ hgrow_; have HOw5 := Lib.hid hown_; have BBw5 := Lib.hid ((B4.out.alloc (by have := B4.out.size; rw [HS.out] at this; omega) _).grown hgrow_ (by have := B4.out.size; rw [HS.out] at this; rw [World.size_alloc]; omega) (fun j hj => (HO4.out.lt j hj).1)); clear hown_ hgrow_))
          go_roundw
          case rel => exact ⟨k + 1, true, ((pre ++ [r]) ++ [x]), by omega, rfl, by go_num, E, HOw5, BBw5, Lib.hid (by have := hlen.out; (try simp only [List.length_append, List.length_cons, List.length_nil]); omega)⟩
          case measure => simp [intOf]; omega
        | false =>
          cases heq : decide (x.p = p) with
          | true =>
            have te : eqPb x.p.a x.p.l p.a p.l = true := heq
            have E := Lib.hid (show pre ++ putL r p false (xs.drop (k + 1)) = L by rw [← hpre.out, HD.out, putL_cons]; simp [hq, of_decide_eq_true heq, bef_irr])
            have G31 : Hid (∀ w, Calls Try.prog 31 #[.agg #[.int .u32 p.a, .int .i64 p.l], .agg #[.int .u32 x.p.a, .int .i64 x.p.l]] w fun e w' => e = .returned (.bool false) ∧ Below w.heap.size w w') := Lib.hid (fun w => by have := rbefore_ok p x.p w; rwa [hq] at this)
            clear heq hq
            have HC : ∀ w2, Below wr.heap.size wr w2 → w2.cell? ⟨b, o + k * 7, none⟩ = some (.int .u32 x.p.a) ∧ w2.cell? ⟨b, o + k * 7 + 1, none⟩ = some (.int .i64 x.p.l) ∧ w2.cell? ⟨b, o + k * 7 + 2, none⟩ = some (.int .i64 x.m) ∧ w2.cell? ⟨b, o + k * 7 + 3, none⟩ = some (.int .u64 x.o0) ∧ w2.cell? ⟨b, o + k * 7 + 4, none⟩ = some (.int .u64 x.o1) ∧ w2.cell? ⟨b, o + k * 7 + 5, none⟩ = some (.int .u64 x.h0) ∧ w2.cell? ⟨b, o + k * 7 + 6, none⟩ = some (.int .u64 x.h1) ∧ w2.cell? ⟨w.heap.size, 0, none⟩ = some (.int .u32 p.a) ∧ w2.cell? ⟨w.heap.size, 1, none⟩ = some (.int .i64 p.l) := fun w2 h => by
              have hb2 := bthen' hbw.out (by have := hbw.out.size; rw [HS.out] at this; exact this) h
              obtain ⟨x0, x1, x2, x3, x4, x5, x6⟩ := CX.out w2 hb2
              exact ⟨x0, x1, x2, x3, x4, x5, x6, (CP.out w2 hb2).1, (CP.out w2 hb2).2⟩
            go_wp2_with fail
            refine Og.walk_lit [[],[0],[1,0],[2,1,0],[2,1,0],[2,1,0],[4,5,2,1,0],[6,2,4,5,1,0],[7,2,6,4,5,1,0],[3,8,2,1,0,7,6,4,5],[2,9,1,0,3,8,7,6,4,5]] (fun w2 => Below wr.heap.size wr w2) (fun w1 w2 => Below w1.heap.size w1 w2) (by kernel_rfl) (by kernel_rfl) (bdrew) ?_
            repeat (first | (refine Og.step_pure (fun _ => Below.refl _ _) ?_; apply Exists.intro; refine And.intro ?_ ?_; focus (intro vs w2 hC hk; have hm := HC w2 hC; revert hk; simp only [Og.KS, Og.K0, Og.Is, List.getD_cons_zero, List.getD_cons_succ, List.getD_nil, List.contains_cons, List.contains_nil, Nat.reduceAdd, Nat.reduceBEq, Bool.or_false, Bool.false_or, Bool.or_true, Bool.true_or, Bool.false_eq_true, false_implies, true_implies, true_and, and_true, forall_const]; intros; go_simp; rfl)) | (refine Og.step_one ?_; apply Exists.intro; refine And.intro ?_ ?_; focus (intro vs w2 hC hk; have hm := HC w2 hC; revert hk; simp only [Og.KS, Og.K0, Og.Is, List.getD_cons_zero, List.getD_cons_succ, List.getD_nil, List.contains_cons, List.contains_nil, Nat.reduceAdd, Nat.reduceBEq, Bool.or_false, Bool.false_or, Bool.or_true, Bool.true_or, Bool.false_eq_true, false_implies, true_implies, true_and, and_true, forall_const]; intros; go_simp; with_reducible refine (G31.out _).mono ?_; rintro e w3 ⟨rfl, hb⟩; exact Og.RetV.mk ⟨bthen hC hb, hb, rfl⟩)))
            intro vs w2 hC hk
            have hm := HC w2 hC
            simp only [Og.KS, Og.K0, Og.Is, List.getD_cons_zero, List.getD_cons_succ, List.getD_nil, List.contains_cons, List.contains_nil, Nat.reduceAdd, Nat.reduceBEq, Bool.or_false, Bool.false_or, Bool.or_true, Bool.true_or, Bool.false_eq_true, false_implies, true_implies, true_and, and_true, forall_const] at hk
            simp only [hk, Act.put, List.setIfInBounds_toArray, List.set_cons_zero, List.set_cons_succ]
            clear hk
            have B2 := Lib.hid (bthen' hbw.out hbz.out hC)
            have HO2 := Lib.hid (own_below hown.out hC)
            clear hC hm HC hown hbw
            obtain ⟨wa, rfl⟩ : ∃ wa : World, wa = w2 := ⟨_, rfl⟩
            go_wp2_with fail
            have HC : ∀ w2, Below wa.heap.size wa w2 → w2.cell? ⟨b, o + k * 7, none⟩ = some (.int .u32 x.p.a) ∧ w2.cell? ⟨b, o + k * 7 + 1, none⟩ = some (.int .i64 x.p.l) ∧ w2.cell? ⟨b, o + k * 7 + 2, none⟩ = some (.int .i64 x.m) ∧ w2.cell? ⟨b, o + k * 7 + 3, none⟩ = some (.int .u64 x.o0) ∧ w2.cell? ⟨b, o + k * 7 + 4, none⟩ = some (.int .u64 x.o1) ∧ w2.cell? ⟨b, o + k * 7 + 5, none⟩ = some (.int .u64 x.h0) ∧ w2.cell? ⟨b, o + k * 7 + 6, none⟩ = some (.int .u64 x.h1) ∧ w2.cell? ⟨w.heap.size, 0, none⟩ = some (.int .u32 p.a) ∧ w2.cell? ⟨w.heap.size, 1, none⟩ = some (.int .i64 p.l) := fun w2 h => by
              have hb2 := bthen' B2.out (by have := B2.out.size; rw [HS.out] at this; exact this) h
              obtain ⟨x0, x1, x2, x3, x4, x5, x6⟩ := CX.out w2 hb2
              exact ⟨x0, x1, x2, x3, x4, x5, x6, (CP.out w2 hb2).1, (CP.out w2 hb2).2⟩
            refine Og.walk_lit [[],[],[0,1],[2,0,1],[3,2,0,1],[],[4,5,3,2,0,1]] (fun w2 => Below wa.heap.size wa w2) (fun w1 w2 => Below w1.heap.size w1 w2) (by kernel_rfl) (by kernel_rfl) (bdrew) ?_
            repeat (first | (refine Og.step_pure (fun _ => Below.refl _ _) ?_; apply Exists.intro; refine And.intro ?_ ?_; focus (intro vs w2 hC hk; have hm := HC w2 hC; revert hk; simp only [Og.KS, Og.K0, Og.Is, List.getD_cons_zero, List.getD_cons_succ, List.getD_nil, List.contains_cons, List.contains_nil, Nat.reduceAdd, Nat.reduceBEq, Bool.or_false, Bool.false_or, Bool.or_true, Bool.true_or, Bool.false_eq_true, false_implies, true_implies, true_and, and_true, forall_const]; intros; go_simp; rfl)))
            intro vs w2 hC hk
            have hm := HC w2 hC
            simp only [Og.KS, Og.K0, Og.Is, List.getD_cons_zero, List.getD_cons_succ, List.getD_nil, List.contains_cons, List.contains_nil, Nat.reduceAdd, Nat.reduceBEq, Bool.or_false, Bool.false_or, Bool.or_true, Bool.true_or, Bool.false_eq_true, false_implies, true_implies, true_and, and_true, forall_const] at hk
            simp only [hk, Act.put, List.setIfInBounds_toArray, List.set_cons_zero, List.set_cons_succ]
            clear hk
            have B4 := Lib.hid (bthen' B2.out (by have := B2.out.size; rw [HS.out] at this; exact this) hC)
            have HO4 := Lib.hid (own_below HO2.out hC)
            clear hC hm HC
            obtain ⟨wb, rfl⟩ : ∃ wb : World, wb = w2 := ⟨_, rfl⟩
            go_wp2_with fail
            go_roundw
            case rel => exact ⟨k + 1, false, pre, by omega, rfl, by go_num, E, HO4, B4, Lib.hid (by have := hlen.out; (try simp only [List.length_append, List.length_cons, List.length_nil]); omega)⟩
            case measure => simp [intOf]; omega
          | false =>
            have te : eqPb x.p.a x.p.l p.a p.l = false := heq
            have E := Lib.hid (show (pre ++ [x]) ++ putL r p false (xs.drop (k + 1)) = L by rw [← hpre.out, HD.out, putL_cons]; simp [hq, of_decide_eq_false heq, bef_irr])
            have G31 : Hid (∀ w, Calls Try.prog 31 #[.agg #[.int .u32 p.a, .int .i64 p.l], .agg #[.int .u32 x.p.a, .int .i64 x.p.l]] w fun e w' => e = .returned (.bool false) ∧ Below w.heap.size w w') := Lib.hid (fun w => by have := rbefore_ok p x.p w; rwa [hq] at this)
            clear heq hq
            have HC : ∀ w2, Below wr.heap.size wr w2 → w2.cell? ⟨b, o + k * 7, none⟩ = some (.int .u32 x.p.a) ∧ w2.cell? ⟨b, o + k * 7 + 1, none⟩ = some (.int .i64 x.p.l) ∧ w2.cell? ⟨b, o + k * 7 + 2, none⟩ = some (.int .i64 x.m) ∧ w2.cell? ⟨b, o + k * 7 + 3, none⟩ = some (.int .u64 x.o0) ∧ w2.cell? ⟨b, o + k * 7 + 4, none⟩ = some (.int .u64 x.o1) ∧ w2.cell? ⟨b, o + k * 7 + 5, none⟩ = some (.int .u64 x.h0) ∧ w2.cell? ⟨b, o + k * 7 + 6, none⟩ = some (.int .u64 x.h1) ∧ w2.cell? ⟨w.heap.size, 0, none⟩ = some (.int .u32 p.a) ∧ w2.cell? ⟨w.heap.size, 1, none⟩ = some (.int .i64 p.l) := fun w2 h => by
              have hb2 := bthen' hbw.out (by have := hbw.out.size; rw [HS.out] at this; exact this) h
              obtain ⟨x0, x1, x2, x3, x4, x5, x6⟩ := CX.out w2 hb2
              exact ⟨x0, x1, x2, x3, x4, x5, x6, (CP.out w2 hb2).1, (CP.out w2 hb2).2⟩
            go_wp2_with fail
            refine Og.walk_lit [[],[0],[1,0],[2,1,0],[2,1,0],[2,1,0],[4,5,2,1,0],[6,2,4,5,1,0],[7,2,6,4,5,1,0],[3,8,2,1,0,7,6,4,5],[2,9,1,0,3,8,7,6,4,5]] (fun w2 => Below wr.heap.size wr w2) (fun w1 w2 => Below w1.heap.size w1 w2) (by kernel_rfl) (by kernel_rfl) (bdrew) ?_
            repeat (first | (refine Og.step_pure (fun _ => Below.refl _ _) ?_; apply Exists.intro; refine And.intro ?_ ?_; focus (intro vs w2 hC hk; have hm := HC w2 hC; revert hk; simp only [Og.KS, Og.K0, Og.Is, List.getD_cons_zero, List.getD_cons_succ, List.getD_nil, List.contains_cons, List.contains_nil, Nat.reduceAdd, Nat.reduceBEq, Bool.or_false, Bool.false_or, Bool.or_true, Bool.true_or, Bool.false_eq_true, false_implies, true_implies, true_and, and_true, forall_const]; intros; go_simp; rfl)) | (refine Og.step_one ?_; apply Exists.intro; refine And.intro ?_ ?_; focus (intro vs w2 hC hk; have hm := HC w2 hC; revert hk; simp only [Og.KS, Og.K0, Og.Is, List.getD_cons_zero, List.getD_cons_succ, List.getD_nil, List.contains_cons, List.contains_nil, Nat.reduceAdd, Nat.reduceBEq, Bool.or_false, Bool.false_or, Bool.or_true, Bool.true_or, Bool.false_eq_true, false_implies, true_implies, true_and, and_true, forall_const]; intros; go_simp; with_reducible refine (G31.out _).mono ?_; rintro e w3 ⟨rfl, hb⟩; exact Og.RetV.mk ⟨bthen hC hb, hb, rfl⟩)))
            intro vs w2 hC hk
            have hm := HC w2 hC
            simp only [Og.KS, Og.K0, Og.Is, List.getD_cons_zero, List.getD_cons_succ, List.getD_nil, List.contains_cons, List.contains_nil, Nat.reduceAdd, Nat.reduceBEq, Bool.or_false, Bool.false_or, Bool.or_true, Bool.true_or, Bool.false_eq_true, false_implies, true_implies, true_and, and_true, forall_const] at hk
            simp only [hk, Act.put, List.setIfInBounds_toArray, List.set_cons_zero, List.set_cons_succ]
            clear hk
            have B2 := Lib.hid (bthen' hbw.out hbz.out hC)
            have HO2 := Lib.hid (own_below hown.out hC)
            clear hC hm HC hown hbw
            obtain ⟨wa, rfl⟩ : ∃ wa : World, wa = w2 := ⟨_, rfl⟩
            go_wp2_with fail
            have HC : ∀ w2, Below wa.heap.size wa w2 → w2.cell? ⟨b, o + k * 7, none⟩ = some (.int .u32 x.p.a) ∧ w2.cell? ⟨b, o + k * 7 + 1, none⟩ = some (.int .i64 x.p.l) ∧ w2.cell? ⟨b, o + k * 7 + 2, none⟩ = some (.int .i64 x.m) ∧ w2.cell? ⟨b, o + k * 7 + 3, none⟩ = some (.int .u64 x.o0) ∧ w2.cell? ⟨b, o + k * 7 + 4, none⟩ = some (.int .u64 x.o1) ∧ w2.cell? ⟨b, o + k * 7 + 5, none⟩ = some (.int .u64 x.h0) ∧ w2.cell? ⟨b, o + k * 7 + 6, none⟩ = some (.int .u64 x.h1) ∧ w2.cell? ⟨w.heap.size, 0, none⟩ = some (.int .u32 p.a) ∧ w2.cell? ⟨w.heap.size, 1, none⟩ = some (.int .i64 p.l) := fun w2 h => by
              have hb2 := bthen' B2.out (by have := B2.out.size; rw [HS.out] at this; exact this) h
              obtain ⟨x0, x1, x2, x3, x4, x5, x6⟩ := CX.out w2 hb2
              exact ⟨x0, x1, x2, x3, x4, x5, x6, (CP.out w2 hb2).1, (CP.out w2 hb2).2⟩
            refine Og.walk_lit [[],[],[0,1],[2,0,1],[3,2,0,1],[],[4,5,3,2,0,1]] (fun w2 => Below wa.heap.size wa w2) (fun w1 w2 => Below w1.heap.size w1 w2) (by kernel_rfl) (by kernel_rfl) (bdrew) ?_
            repeat (first | (refine Og.step_pure (fun _ => Below.refl _ _) ?_; apply Exists.intro; refine And.intro ?_ ?_; focus (intro vs w2 hC hk; have hm := HC w2 hC; revert hk; simp only [Og.KS, Og.K0, Og.Is, List.getD_cons_zero, List.getD_cons_succ, List.getD_nil, List.contains_cons, List.contains_nil, Nat.reduceAdd, Nat.reduceBEq, Bool.or_false, Bool.false_or, Bool.or_true, Bool.true_or, Bool.false_eq_true, false_implies, true_implies, true_and, and_true, forall_const]; intros; go_simp; rfl)))
            intro vs w2 hC hk
            have hm := HC w2 hC
            simp only [Og.KS, Og.K0, Og.Is, List.getD_cons_zero, List.getD_cons_succ, List.getD_nil, List.contains_cons, List.contains_nil, Nat.reduceAdd, Nat.reduceBEq, Bool.or_false, Bool.false_or, Bool.or_true, Bool.true_or, Bool.false_eq_true, false_implies, true_implies, true_and, and_true, forall_const] at hk
            simp only [hk, Act.put, List.setIfInBounds_toArray, List.set_cons_zero, List.set_cons_succ]
            clear hk
            have B4 := Lib.hid (bthen' B2.out (by have := B2.out.size; rw [HS.out] at this; exact this) hC)
            have HO4 := Lib.hid (own_below HO2.out hC)
            clear hC hm HC
            obtain ⟨wb, rfl⟩ : ∃ wb : World, wb = w2 := ⟨_, rfl⟩
            have HXX := Lib.hid (CX.out wb B4.out)
            go_wp2_with (first | (refine wpList_loadRA rfl (.tmp 45) rfl rfl HXX.out ?_) | (at_builtin; refine wpList_appR1 rfl (.tmp 42) (.tmp 47) rfl (w.heap.size + 2) wb.heap.size _ pre x rfl rfl (HO4.out.alloc _) (heap_at rfl) (by have := hlen.out; (try simp only [List.length_append, List.length_cons, List.length_nil]); omega) (by have := B4.out.size; rw [HS.out] at this; rw [World.size_alloc]; omega) ?_; intro v_w5 w5 hown_ hgrow_; have HOw5 := Lib.hid hown_; have BBw5 := Lib.hid ((B4.out.alloc (by have := B4.out.size; rw [HS.out] at this; omega) _).grown hgrow_ (by have := B4.out.size; rw [HS.out] at this; rw [World.size_alloc]; omega) (fun j hj => (HO4.out.lt j hj).1)); clear hown_ hgrow_))
            go_roundw
            case rel => exact ⟨k + 1, false, (pre ++ [x]), by omega, rfl, by go_num, E, HOw5, BBw5, Lib.hid (by have := hlen.out; (try simp only [List.length_append, List.length_cons, List.length_nil]); omega)⟩
            case measure => simp [intOf]; omega
    · have hkn : k = n := by omega
      subst hkn
      have HE := Lib.hid (show xs.drop k = [] from List.drop_of_length_le (by rw [HN.out]; exact Nat.le_refl _))
      cases d with
      | true =>
        have E := Lib.hid (show L = pre by rw [← hpre.out, HE.out]; simp [putL])
        go_wp2_with fail
        go_ret
        exact ⟨⟨_, rfl, by rw [E.out]; exact own_lower hown.out (by omega)⟩, BW.out _ hbw.out⟩
      | false =>
        have E := Lib.hid (show L = pre ++ [r] by rw [← hpre.out, HE.out]; simp [putL])
        have HRR := Lib.hid (CR.out wr hbw.out)
        go_wp2_with (first | (refine wpList_loadRA rfl (.tmp 5) rfl rfl HRR.out ?_) | (at_builtin; refine wpList_appR1 rfl (.tmp 51) (.tmp 53) rfl (w.heap.size + 2) wr.heap.size _ pre r rfl rfl (hown.out.alloc _) (heap_at rfl) (by have := hlen.out; (try simp only [List.length_append, List.length_cons, List.length_nil]); omega) (by have := hbw.out.size; rw [HS.out] at this; rw [World.size_alloc]; omega) ?_; intro v_w3 w3 hown_ hgrow_; have HOw3 := Lib.hid hown_; have BBw3 := Lib.hid ((hbw.out.alloc (by have := hbw.out.size; rw [HS.out] at this; omega) _).grown hgrow_ (by have := hbw.out.size; rw [HS.out] at this; rw [World.size_alloc]; omega) (fun j hj => (hown.out.lt j hj).1)); clear hown_ hgrow_))
        go_ret
        exact ⟨⟨_, rfl, by rw [E.out]; exact own_lower HOw3.out (by omega)⟩, BW.out _ BBw3.out⟩

end Go.Proofs.Ytpnhkniegjfncaa
