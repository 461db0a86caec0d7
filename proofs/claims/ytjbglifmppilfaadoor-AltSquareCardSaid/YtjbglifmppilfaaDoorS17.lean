/- The loop of fill: every node by rising distance takes the next hops of its parents; conditions as stated. fill from the order on: sorting, the table, the numbers; conditions as stated. -/
import Derived.Test.YtjbglifmppilfaaDoorS16
import Derived.Sort.LoopGhostIn
import Derived.RangeFuncNested
import Derived.RangeFuncBound
import Derived.RangeFuncCalls
import Derived.RangeFuncLeaves
import Derived.Shelf.Abstract
import Derived.Shelf.RegionOpen
import Derived.WalkKit
import Derived.OwnWalkIn
import Derived.TacticsInMore
import Derived.LoopNIn
import Derived.LoopIn
namespace Go.Proofs.YtjbglifmppilfaaDoor
open Go.ChangeShapes Go.WideShapes Go.ChangeAt Go.RowKit
set_option linter.unusedVariables false
set_option linter.unusedSimpArgs false
attribute [local go_sem] Og.Opt Og.OpY Oper.semAt_some

def mkD (D : Nat) : Deferred := { target := .collected D, args := #[] }
theorem wpIn_loop_gh {F : Fence} {n : Nat} {P : Program} {Q : Exit → Act → World → Prop} {a : Act} {w : World} {c : Code} (I : Nat → Act → World → Prop) (n₀ : Nat) (h₀ : I n₀ a w)
    (round : ∀ m a w, I m a w → ∀ (K : Act → World → Prop), (∀ m' a' w', m' < m → I m' a' w' → K a' w') → c.wpIn F n P (Exit.then K Q) a w) : (Code.loop c).wpIn F n P Q a w := by
  refine wpIn_loop (fun a w => ∃ m, I m a w) (fun a w => leastOf (fun m => I m a w)) ⟨n₀, h₀⟩ (fun a w hI => ?_)
  exact round _ a w (leastOf_spec hI).1 _ (fun m' a' w' hlt hI' => ⟨⟨m', hI'⟩, Nat.lt_of_le_of_lt ((leastOf_spec ⟨m', hI'⟩).2 m' hI') hlt⟩)
theorem grown_at {w w' : World} {g k : Nat} {ob : Obj} (hg : w.grownBy w' (some g)) (h : w.heap[k]? = some ob) (hne : k ≠ g) : w'.heap[k]? = some ob := (hg.block k (Array.getElem?_eq_some_iff.1 h).1 (by simpa using hne)).trans h
theorem flat_setM : ∀ (hs : List Nat) (k M : Nat), k < hs.length → (hs.flatMap cM).take (k * 2) ++ [Value.int .u64 (loM M), Value.int .u64 (hiM M)] ++ (hs.flatMap cM).drop (k * 2 + 2) = (hs.set k M).flatMap cM
  | [], k, M, h => by cases h
  | x :: hs, 0, M, _ => by simp [cM]
  | x :: hs, k + 1, M, h => by
    have := flat_setM hs k M (by simpa using h)
    rw [show (k + 1) * 2 = k * 2 + 1 + 1 by omega, List.set_cons_succ, List.flatMap_cons, List.flatMap_cons, ← this]
    simp only [cM, List.cons_append, List.nil_append, List.take_succ_cons, show k * 2 + 1 + 1 + 2 = k * 2 + 2 + 1 + 1 by omega, List.drop_succ_cons]
theorem run_storeH {w : World} {g k M : Nat} {hs : List Nat} (hg : w.heap[g]? = some (.cells (hs.flatMap cM).toArray 35 (0, 0))) (hk : k < hs.length) :
    ∃ w', (storeVar 35 ⟨g, k * 2, none⟩ (mV M)).run Tryd.prog w = .ok () w' ∧ w'.heap[g]? = some (.cells ((hs.set k M).flatMap cM).toArray 35 (0, 0)) ∧ w.grownBy w' (some g) := by
  obtain ⟨w', r, k1, s1, n1, b1⟩ := run_storeB (k := k) (pM M) hg (by rw [flat_len cM 2 cM_len]; omega)
  refine ⟨w', r, ?_, ?_⟩
  · rw [k1]
    show some (Obj.cells ((hs.flatMap cM).take (k * 2) ++ [Value.int .u64 (loM M), Value.int .u64 (hiM M)] ++ (hs.flatMap cM).drop (k * 2 + 2)).toArray 35 (0, 0)) = _
    rw [flat_setM hs k M hk]
  · have b := b1 0 (Nat.zero_le _)
    exact ⟨b.os, b.tape, b.output, b.size, fun j _ hne => n1 j (fun e => hne (by rw [e]))⟩
/-- the class of a region with a call (4) that writes the table and a store (9) -/
def CT (W : World) (IDP STP : World → Prop) : Og.Joint2.Cls := fun p _ w => (p 9 = true → ∀ j ∈ [0, 1, 2, 3, 4, 5, 6, 8], p j = true) ∧ (p 9 = false → p 4 = false → Below W.heap.size W w) ∧ (p 9 = false → p 4 = true → IDP w) ∧ (p 9 = true → STP w)
section
variable {W w w2 : World} {IDP STP : World → Prop} {i : Nat} {p : Nat → Bool} {vs : Nat → Value} {v : Value}
theorem CT.ini (h : Below W.heap.size W w) : CT W IDP STP (fun _ => false) vs w := ⟨fun e => (by cases e), fun _ _ => h, fun _ e => (by cases e), fun e => (by cases e)⟩
theorem CT.other (h4 : i ≠ 4) (h9 : i ≠ 9) (c : CT W IDP STP p vs w) : CT W IDP STP (Og.Joint2.pSet p i) (Og.Joint2.vSet vs i v) w := by
  have e4 : Og.Joint2.pSet p i 4 = p 4 := by simp [Og.Joint2.pSet, Ne.symm h4]
  have e9 : Og.Joint2.pSet p i 9 = p 9 := by simp [Og.Joint2.pSet, Ne.symm h9]
  unfold CT
  rw [e4, e9]
  exact ⟨fun h j hj => (by simp [Og.Joint2.pSet, c.1 h j hj]), c.2⟩
theorem CT.no9 (hi : i ∈ [0, 1, 2, 3, 4, 5, 6, 8]) (hp : p i = false) (c : CT W IDP STP p vs w) : p 9 = false := by
  cases h : p 9 with
  | false => rfl
  | true => have := c.1 h i hi; rw [hp] at this; cases this
theorem CT.or (hi : i ∈ [0, 1, 2, 3, 4, 5, 6, 8]) (hp : p i = false) (c : CT W IDP STP p vs w) : Below W.heap.size W w ∨ IDP w := by
  have h9 := CT.no9 hi hp c
  cases h4 : p 4 with
  | false => exact .inl (c.2.1 h9 h4)
  | true => exact .inr (c.2.2.1 h9 h4)
theorem CT.bel (hp : p 4 = false) (c : CT W IDP STP p vs w) : Below W.heap.size W w := c.2.1 (CT.no9 (by decide) hp c) hp
theorem CT.call (hp : p 4 = false) (c : CT W IDP STP p vs w) (h : IDP w2) : CT W IDP STP (Og.Joint2.pSet p 4) (Og.Joint2.vSet vs 4 v) w2 := by
  have h9 := CT.no9 (i := 4) (by decide) hp c
  have e9 : Og.Joint2.pSet p 4 9 = false := by simp [Og.Joint2.pSet, h9]
  have e4 : Og.Joint2.pSet p 4 4 = true := by simp [Og.Joint2.pSet]
  unfold CT
  rw [e4, e9]
  exact ⟨fun e => (by cases e), fun _ e => (by cases e), fun _ _ => h, fun e => (by cases e)⟩
theorem CT.idp (hd : p 4 = true) (hp : p 9 = false) (c : CT W IDP STP p vs w) : IDP w := c.2.2.1 hp hd
theorem CT.done (hd : ∀ j ∈ [0, 1, 2, 3, 4, 5, 6, 8], p j = true) (h : STP w2) : CT W IDP STP (Og.Joint2.pSet p 9) (Og.Joint2.vSet vs 9 v) w2 := by
  have e9 : Og.Joint2.pSet p 9 9 = true := by simp [Og.Joint2.pSet]
  unfold CT
  rw [e9]
  exact ⟨fun _ j hj => (by simp [Og.Joint2.pSet, hd j hj]), fun e => (by cases e), fun e => (by cases e), fun _ => h⟩
end
theorem Ft.kept {bt mb B0 : Nat} {vS : Value} {w w' : World} {ms : List Nat} (T : TbS w B0 bt mb vS ms) (h : Ft bt mb vS.ownBlock w w') {k : Nat} {a : Array Value} {t : TypeId} (hk : w.heap[k]? = some (.cells a t (0, 0))) (h1 : t ≠ 104) (h2 : vS.ownBlock ≠ some k) : w'.heap[k]? = some (.cells a t (0, 0)) :=
  (h.block k (Array.getElem?_eq_some_iff.1 hk).1 (ne_cells hk T.blk h1) (ne_map hk T.map) h2).trans hk
theorem Ft.mark {bt mb B0 : Nat} {vS : Value} {w w' : World} {ms : List Nat} {x : Option (List Deferred)} (T : TbS w B0 bt mb vS ms) (h : Ft bt mb vS.ownBlock w w') {k : Nat} (hk : w.heap[k]? = some (.deferred x)) : w'.heap[k]? = some (.deferred x) := by
  refine (h.block k (Array.getElem?_eq_some_iff.1 hk).1 (fun e => ?_) (fun e => ?_) (fun e => ?_)).trans hk
  · rw [e, T.blk] at hk; cases hk
  · rw [e, T.map] at hk; cases hk
  · rcases T.own.2 with ⟨e0, _⟩ | ⟨g', cap, cur, e0, _, hg, _⟩
    · rw [e0] at e; cases e
    · rw [e0] at e; cases e; rw [hg] at hk; cases hk
theorem grown_mark {w w' : World} {g k : Nat} {a : Array Value} {t : TypeId} {x : Option (List Deferred)} (hg : w.grownBy w' (some g)) (h : w.heap[g]? = some (.cells a t (0, 0))) (hk : w.heap[k]? = some (.deferred x)) : w'.heap[k]? = some (.deferred x) :=
  grown_at hg hk (fun e => by rw [e, h] at hk; cases hk)
theorem id_at (M : Nat) (ms : List Nat) : (idMs M ms)[idJ M ms]? = some M ∧ (idMs M ms).length ≤ ms.length + 1 ∧ ∀ (i x : Nat), ms[i]? = some x → (idMs M ms)[i]? = some x := by
  unfold idMs idJ
  cases h : fndI M ms 0 with
  | some j => exact ⟨by simpa using (fndI_some h).2, by simp, fun i x hx => hx⟩
  | none => exact ⟨by simp, by simp, fun i x hx => by
      simp only []
      rw [List.getElem?_append_left (List.getElem?_eq_some_iff.1 hx).1]; exact hx⟩
/-- behind ID -/
def IDp (W : World) (z bt mb : Nat) (vS : Value) (ms' : List Nat) (w : World) : Prop := ∃ vS', TbS w z bt mb vS' ms' ∧ Ft bt mb vS.ownBlock W w
/-- behind the store of the number -/
def STp (W : World) (z bt mb gI : Nat) (vS : Value) (ms' ids' : List Nat) (w : World) : Prop := ∃ w1, IDp W z bt mb vS ms' w1 ∧ w1.grownBy w (some gI) ∧ w.heap[gI]? = some (.cells (nC ids').toArray 3 (0, 0))
theorem leaves_marksD {F : Fence} {n : Nat} {P : Program} {fn : Func} {tmps : Array Value} {R : Ending → World → Prop} (B : Nat) (K : World → Prop)
    (hK : ∀ w D, B ≤ D → w.heap[D]? = some (.deferred (some [])) → K w → K (w.putObj D (.deferred none))) (hfin : ∀ w, K w → ∃ v, (results fn tmps).run P w = .ok v w ∧ R (.returned v) w) :
    ∀ (Ds : List Nat) (w : World), Ds.Nodup → (∀ D ∈ Ds, B ≤ D ∧ w.heap[D]? = some (.deferred (some []))) → K w → LeavesInM F n P fn tmps R (Ds.map mkD) .returning w
  | [], w, _, _, hk => hfin w hk
  | D :: Ds, w, hn, hd, hk => by
    refine ⟨by simp, .inl ⟨D, _, rfl, run_takeDeferred (hd D (by simp)).2, ?_⟩⟩
    have hnd := List.nodup_cons.1 hn
    refine leaves_marksD B K hK hfin Ds _ hnd.2 (fun E hE => ⟨(hd E (by simp [hE])).1, ?_⟩) (hK w D (hd D (by simp)).1 (hd D (by simp)).2 hk)
    have hne : E ≠ D := fun e => hnd.1 (e ▸ hE)
    have := (hd E (by simp [hE])).2
    have hg := grownBy_putObj' w D (.deferred none)
    exact (hg.block E (Array.getElem?_eq_some_iff.1 this).1 (fun e => hne (by cases e; rfl))).trans this
noncomputable def body17 : Code := match Tryd.f17.body with | some c => c | none => .skip
noncomputable def tail17 : Code := sub2 (sub2 (sub2 (sub2 (sub2 (sub2 (sub2 body17))))))
/-- what the loop reads and does not write -/
structure FC (wz : World) (r gH b1 b2 b3 gp op cp n : Nat) (A : Option Addr) (ps ys : List Nat) (vD vH vD' vP' : Value) : Prop where
  k1 : wz.heap[b1]? = some (.cells #[.int .i64 (r : Int), vD, .slice (some ⟨gp, op, none⟩) 128 cp, vH] 25 (0, 0))
  k2 : ∃ old : Array Value, wz.heap[b2]? = some (.cells old 25 (0, 0)) ∧ old.size = 4
  k3 : wz.heap[b3]? = some (.cells #[.int .i64 (r : Int), vD', vP', .slice (some ⟨gH, 0, none⟩) 128 128] 25 (0, 0))
  kp : AtL wz gp op (ps.flatMap cM)
  pl : ps.length = 128
  pb : allM ps
  pg : gp ≠ gH
  ko : ∀ (k x : Nat), ys[k]? = some x → ∃ g o, A = some ⟨g, o, none⟩ ∧ wz.cell? ⟨g, o + k, none⟩ = some (.int .i64 (x : Int)) ∧ g ≠ gH
  yn : ys.length = n
  yl : n ≤ 200
  yb : ∀ y ∈ ys, y < 128
  tb : Tab wz
  g0 : 0 < gH
  rb : r < 128
  d1 : b1 ≠ gH
  d2 : b2 ≠ gH
  d3 : b3 ≠ gH
theorem grown_AtL {w w' : World} {g b o : Nat} {cs : List Value} (hg : w.grownBy w' (some g)) (h : AtL w b o cs) (hne : b ≠ g) : AtL w' b o cs := fun k u hk => hg.cell (h k u hk) (by simpa using hne)
theorem grown_Tab {w w' : World} {g : Nat} (hg : w.grownBy w' (some g)) (h : Tab w) (hne : 0 < g) : Tab w' := fun i hi => hg.cell (h i hi) (by simp; omega)
theorem flat_tk {α β : Type} {f : α → List β} {m : Nat} (hm : ∀ x, (f x).length = m) : ∀ {xs : List α} {k : Nat} {x : α}, xs[k]? = some x → ((xs.flatMap f).drop (k * m)).take m = f x
  | [], k, x, h => by cases h
  | y :: ys, 0, x, h => by
    cases h
    rw [Nat.zero_mul, List.drop_zero, List.flatMap_cons, ← hm y, List.take_left]
  | y :: ys, k + 1, x, h => by
    rw [List.flatMap_cons, show (k + 1) * m = (f y).length + k * m by rw [hm, Nat.succ_mul, Nat.add_comm], List.drop_length_add_append]
    exact flat_tk hm h
set_option maxRecDepth 100000 in
set_option maxHeartbeats 16000000 in
theorem fillB (R : Ending → World → Prop) (N : Nat) (hN : 8 ≤ N) (wz w : World) (r gH b1 b2 b3 b7 b8 gI bt mb gp op cp n c : Nat) (A : Option Addr) (ps ys : List Nat) (vD vH vD' vP' vS : Value) (t0 t5 t6 t9 t10 t11 t12 t13 t14 t15 t16 t17 t18 t19 t20 t21 t22 t23 t24 t25 t26 t27 t28 t29 t30 t31 t32 t33 t34 t35 t36 t37 t38 t39 t40 t41 t42 t43 t44 t45 t46 t47 t48 t49 t50 t51 t52 t53 t54 t55 t56 t57 t58 t59 t60 t61 t62 t63 t64 t65 t66 t67 t68 t69 t70 t71 t72 t73 t74 t75 t76 t77 t78 t79 t80 t81 t82 t83 t84 t85 t86 t87 t88 t89 t90 t91 t92 t93 t94 t95 t96 t97 t98 t99 t100 t101 t102 t103 t104 t105 t106 t107 : Value)
    (C : Hid (FC wz r gH b1 b2 b3 gp op cp n A ps ys vD vH vD' vP')) (F : Hid (FS wz gH b7 b8 gI bt mb w vS [0] (List.replicate 128 0) (List.replicate 128 0)))
    (VO : Hid (∀ (i : Nat) (h : i < (#[Value.int .i64 (r : Int), vD', vP', .slice (some ⟨gH, 0, none⟩) 128 128] : Array Value).size), (#[Value.int .i64 (r : Int), vD', vP', .slice (some ⟨gH, 0, none⟩) 128 128] : Array Value)[i].oneCell' = true)) (HΦ : Hid (∀ w', w'.heap[gH]? = some (.cells ((fillV r ps ys).flatMap cM).toArray 35 (0, 0)) → Ft gH b2 none wz w' → R (.returned (.agg #[.int .i64 (r : Int), vD', vP', .slice (some ⟨gH, 0, none⟩) 128 128])) w')) :
    tail17.wpIn Fence.wide N Tryd.prog (bodyPostM Fence.wide N Tryd.prog Tryd.f17 R) { tmps := #[t0, .pointer (some ⟨b1, 0, none⟩), .pointer (some ⟨b2, 0, none⟩), .pointer (some ⟨b3, 0, none⟩), .slice A n c, t5, t6, .pointer (some ⟨b7, 0, none⟩), .pointer (some ⟨b8, 0, none⟩), t9, t10, t11, t12, t13, t14, t15, t16, t17, t18, t19, t20, t21, t22, t23, t24, t25, t26, t27, t28, t29, t30, t31, t32, t33, t34, t35, t36, t37, t38, t39, t40, t41, t42, t43, t44, t45, t46, t47, t48, t49, t50, t51, t52, t53, t54, t55, t56, t57, t58, t59, t60, t61, t62, t63, t64, t65, t66, t67, t68, t69, t70, t71, t72, t73, t74, t75, t76, t77, t78, t79, t80, t81, t82, t83, t84, t85, t86, t87, t88, t89, t90, t91, t92, t93, t94, t95, t96, t97, t98, t99, t100, t101, t102, t103, t104, t105, t106, t107], defers := [] } w := by
  simp only [tail17, body17, Tryd.f17, sub2]
  gi_wp2_with fail
  refine wpIn_loop_gh (fun m a1 wr => ∃ (k : Nat) (Ds : List Nat) (vS : Value) (ms ids hs : List Nat) (s10 s11 s12 s13 s14 s60 s61 s62 s63 s64 s65 s66 s67 s68 s69 s70 s71 s72 s73 s74 s75 s76 s77 s78 s79 s80 s81 s82 s83 s84 s85 s86 s87 s88 s89 s90 s91 s92 s93 s94 s95 s96 s97 s98 s99 s100 s101 s102 s103 s104 s105 s106 : Value), m = n - k ∧ k ≤ n ∧ a1 = { tmps := #[t0, .pointer (some ⟨b1, 0, none⟩), .pointer (some ⟨b2, 0, none⟩), .pointer (some ⟨b3, 0, none⟩), .slice A n c, t5, t6, .pointer (some ⟨b7, 0, none⟩), .pointer (some ⟨b8, 0, none⟩), t9, s10, s11, s12, s13, s14, t15, t16, t17, t18, t19, t20, t21, t22, t23, t24, t25, t26, t27, t28, t29, t30, t31, t32, t33, t34, t35, t36, t37, t38, t39, t40, t41, t42, t43, t44, t45, t46, t47, t48, t49, t50, t51, t52, t53, t54, t55, t56, .slice A n c, .int .i64 (n : Int), .int .i64 (k : Int), s60, s61, s62, s63, s64, s65, s66, s67, s68, s69, s70, s71, s72, s73, s74, s75, s76, s77, s78, s79, s80, s81, s82, s83, s84, s85, s86, s87, s88, s89, s90, s91, s92, s93, s94, s95, s96, s97, s98, s99, s100, s101, s102, s103, s104, s105, s106, t107], defers := Ds.map mkD } ∧ Hid (FS wz gH b7 b8 gI bt mb wr vS ms ids hs ∧ hs = fillV r ps (ys.take k) ∧ ms.length ≤ k + 1 ∧ Ds.Nodup ∧ ∀ D ∈ Ds, wz.heap.size ≤ D ∧ wr.heap[D]? = some (.deferred (some [])))) n ?start ?round
  case start => exact ⟨0, [], vS, [0], List.replicate 128 0, List.replicate 128 0, _, _, _, _, _, _, _, _, _, _, _, _, _, _, _, _, _, _, _, _, _, _, _, _, _, _, _, _, _, _, _, _, _, _, _, _, _, _, _, _, _, _, _, _, _, _, _, _, _, _, _, _, rfl, Nat.zero_le _, rfl, Lib.hid ⟨F.out, rfl, by simp, List.nodup_nil, fun D hD => by simp at hD⟩⟩
  case round =>
    clear F
    rintro m a1 wr ⟨k, Ds, vS, ms, ids, hs, s10, s11, s12, s13, s14, s60, s61, s62, s63, s64, s65, s66, s67, s68, s69, s70, s71, s72, s73, s74, s75, s76, s77, s78, s79, s80, s81, s82, s83, s84, s85, s86, s87, s88, s89, s90, s91, s92, s93, s94, s95, s96, s97, s98, s99, s100, s101, s102, s103, s104, s105, s106, rfl, hk, rfl, hlf⟩ K hKK
    have HKK := Lib.hid hKK
    clear hKK
    by_cases hlt : k < n
    · have hkn : (k : Int) < (n : Int) := by omega
      have hk0 : (0 : Int) ≤ (k : Int) := by omega
      have hwk : IntKind.i64.wrap ((k : Int) + 1) = (k : Int) + 1 := by have := C.out.yl; rw [IntKind.wrap_i64]; omega
      obtain ⟨v, hv⟩ : ∃ v, ys[k]? = some v := ⟨_, List.getElem?_eq_getElem (by rw [C.out.yn]; exact hlt)⟩
      have hv8 : v < 128 := C.out.yb v (List.mem_of_getElem? hv)
      have hv0 : (0 : Int) ≤ (v : Int) := by omega
      have hvi : (v : Int) < 128 := by omega
      obtain ⟨g, o, rfl, hc, hgH⟩ := C.out.ko k v hv
      have old := Lib.hid hlf.out.1.old
      have cO : wr.cell? ⟨g, o + k, none⟩ = some (.int .i64 (v : Int)) := old.out.cell hc (by simpa using hgH)
      have HV := Lib.hid (And.intro hv hv8)
      have HKN := Lib.hid hlt
      have k1 := grown_at old.out C.out.k1 C.out.d1
      obtain ⟨M, hM⟩ : ∃ M, M = gt ps v := ⟨_, rfl⟩
      have hMl : M < 2 ^ 128 := by rw [hM]; exact gt_lt C.out.pb v
      have hat : AtL wr gp (op + v * 2) (cM M) := AtL.sub (n := 2) (v * 2) (grown_AtL old.out C.out.kp C.out.pg) (by rw [hM]; exact flat_tk cM_len (gt_some (by rw [C.out.pl]; exact hv8)))
      have B1 : Below wr.heap.size wr (((wr.alloc (Obj.cells #[.int .i64 (v : Int)] 3)).alloc (Obj.cells #[.int .u64 0, .int .u64 0] 35))) := ((Below.refl _ _).alloc (Nat.le_refl _) _).alloc (by simp) _
      obtain ⟨W1, hW1⟩ : ∃ W1, W1 = ((wr.alloc (Obj.cells #[.int .i64 (v : Int)] 3)).alloc (Obj.cells #[.int .u64 0, .int .u64 0] 35)) := ⟨_, rfl⟩
      rw [← hW1] at B1
      have q10 : W1.cell? ⟨b1, 0, none⟩ = some (.int .i64 (r : Int)) := by rw [cell_of_row W1 _ 0 _ _ _ (heap_keep B1 k1)]; rfl
      have q12 : W1.cell? ⟨b1, 2, none⟩ = some (.slice (some ⟨gp, op, none⟩) 128 cp) := by rw [cell_of_row W1 _ 2 _ _ _ (heap_keep B1 k1)]; rfl
      have k10 : W1.heap[wr.heap.size]? = some (.cells #[.int .i64 (v : Int)] 3 (0, 0)) := by rw [hW1]; exact heap_keep ((Below.refl _ _).alloc (Nat.le_refl _) _) (heap_at rfl)
      have k11 : W1.heap[wr.heap.size + 1]? = some (.cells #[.int .u64 0, .int .u64 0] 35 (0, 0)) := by rw [hW1]; exact heap_at (by simp)
      have q3 : W1.cell? ⟨wr.heap.size, 0, none⟩ = some (.int .i64 (v : Int)) := by rw [cell_of_row W1 _ 0 _ _ _ k10]; rfl
      have LDP := Lib.hid (loadAt_M (hat.below B1))
      have EACH := Lib.hid (Each_ok M W1)
      have HB1 := Lib.hid B1
      have HK10 := Lib.hid k10
      have HK11 := Lib.hid k11
      have SZ1 : W1.heap.size = wr.heap.size + 2 := by rw [hW1]; simp
      have HSZ1 := Lib.hid SZ1
      have HM := Lib.hid (And.intro hM hMl)
      rw [hW1] at q12 q3 LDP
      clear hv hc hgH hlt hat B1 k10 k11 SZ1 k1 hM hMl q10
      gi_wp2_with (refine wpListIn_loadW rfl 35 (.tmp 66) rfl gp (op + v * 2) (mV M) rfl LDP.out ?_)
      rw [← hW1]
      refine ⟨trivial, fun h => (by cases h), CallsIn.mono (callsIn_wide.2 EACH.out) ?_⟩
      rintro e w2 ⟨rfl, kE, hb2, hsz2⟩
      have hB2 := Lib.hid (bthen HB1.out hb2)
      have HKE := Lib.hid kE
      have H10 := Lib.hid (heap_keep hb2 HK10.out)
      have H11 := Lib.hid (heap_keep hb2 HK11.out)
      have HSZ2 := Lib.hid (show w2.heap.size = wr.heap.size + 3 by have := HSZ1.out; omega)
      clear hW1 q12 q3 LDP EACH HK10 HK11 hb2 hsz2 kE cO HB1
      gi_wp2_with fail
      obtain ⟨b11, hb11⟩ : ∃ b, b = wr.heap.size + 1 := ⟨_, rfl⟩
      obtain ⟨b10, hb10⟩ : ∃ b, b = wr.heap.size := ⟨_, rfl⟩
      have BB := Lib.hid (And.intro hb10 hb11)
      have SZ : w2.heap.size = b11 + 2 := by have := HSZ2.out; omega
      have HSZ := Lib.hid SZ
      have H11' : Hid (w2.heap[b11]? = some (.cells #[.int .u64 0, .int .u64 0] 35 (0, 0))) := Lib.hid (by rw [hb11]; exact H11.out)
      have H10' : Hid (w2.heap[b10]? = some (.cells #[.int .i64 (v : Int)] 3 (0, 0))) := Lib.hid (by rw [hb10]; exact H10.out)
      have HKE' : Hid (w2.heap[b11 + 1]? = some (.cells (cM M).toArray 35 (0, 0))) := Lib.hid (by rw [hb11, show wr.heap.size + 1 + 1 = W1.heap.size by have := HSZ1.out; omega]; exact HKE.out)
      have eE : W1.heap.size = b11 + 1 := by have := HSZ1.out; omega
      have T2 : Hid (Tab w2) := Lib.hid (by
        have h0 : 0 < wz.heap.size := C.out.tb.size
        exact (grown_Tab old.out C.out.tb C.out.g0).below hB2.out (by have := old.out.size; omega))
      rw [← hb11, ← hb10, eE]
      clear hb11 hb10 H11 H10 HKE eE HSZ1 HSZ2
      have F2 := Lib.hid (hlf.out.1.below hB2.out)
      refine wpIn_rangeFunc_ownH rfl (by omega) (gf := 41) (lb := #[.pointer (some ⟨b11 + 1, 0, none⟩)]) rfl trivial (enters_of Tryd.func41 (by kernel_rfl) rfl)
        (each_stops (N - 1) (by omega) (b11 + 1) b11 M HM.out.2 w2 (by omega) (by have := BB.out; omega) T2.out HKE'.out) belowK_t (belowK_b (by omega)) (Below.refl _ _) (fun _ => rfl)
        (fun pre W => W.heap[b11]? = some (.cells (cM (accF r v hs pre)).toArray 35 (0, 0)) ∧ Below b11 w2 W)
        (fun _ _ _ => False)
        (OwnFrom.and (fun s X Y row h1 hg hr => (hg.block b11 (Array.getElem?_eq_some_iff.1 h1).1 (fun e => by obtain ⟨_, o, ho, hc⟩ := hr b11 e.symm; rw [h1] at ho; cases ho; cases hc)).trans h1) (ownFrom_below (by omega) (by omega)))
        (fun _ _ _ _ _ hs _ _ => hs)
        ⟨by rw [show accF r v hs [] = 0 from rfl, show (cM 0).toArray = #[Value.int .u64 0, .int .u64 0] from rfl]; exact H11'.out, Below.refl _ _⟩
        (fun x a' _ => a' = { tmps := #[t0, .pointer (some ⟨b1, 0, none⟩), .pointer (some ⟨b2, 0, none⟩), .pointer (some ⟨b3, 0, none⟩), .slice (some ⟨g, o, none⟩) n c, t5, t6, .pointer (some ⟨b7, 0, none⟩), .pointer (some ⟨b8, 0, none⟩), t9, .pointer (some ⟨b10, 0, none⟩), .pointer (some ⟨b11, 0, none⟩), .int .i64 (x.val : Int), s13, s14, t15, t16, t17, t18, t19, t20, t21, t22, t23, t24, t25, t26, t27, t28, t29, t30, t31, t32, t33, t34, t35, t36, t37, t38, t39, t40, t41, t42, t43, t44, t45, t46, t47, t48, t49, t50, t51, t52, t53, t54, t55, t56, .slice (some ⟨g, o, none⟩) n c, .int .i64 (n : Int), .int .i64 (k : Int), .bool true, .pointer (some ⟨g, o + k, none⟩), .int .i64 (v : Int), .pointer (some ⟨b1, 2, none⟩), .slice (some ⟨gp, op, none⟩) 128 cp, .int .i64 (v : Int), .pointer (some ⟨gp, op + v * 2, none⟩), mV M, .func (.func 41) #[] #[.pointer (some ⟨b11 + 1, 0, none⟩)], .int .i64 (x.val : Int), s70, s71, s72, s73, s74, s75, s76, s77, s78, s79, s80, s81, s82, s83, s84, s85, s86, s87, s88, s89, s90, s91, s92, s93, s94, s95, s96, s97, s98, s99, s100, s101, s102, s103, s104, s105, s106, t107], defers := [] })
        (fun x a' _ X Y row hs hg hr => hs)
        ?assign ?body ?done ?stop
      case assign =>
        rintro l pre x W K2 ⟨h11, hB⟩ hK
        have P11 := Lib.hid h11
        have PB := Lib.hid hB
        clear h11 hB
        gi_wp2_with fail
        exact hK _ _ (KeepsFrom.refl _ _) (Below.refl _ _) ⟨P11.out, PB.out⟩ rfl
      case body =>
        rintro l pre x a' W hl hrr ⟨h11, hB⟩ rfl hlt
        have hB3 : Below wr.heap.size wr W := hB2.out.trans (hB.mono (by have := BB.out; omega))
        have F3 := Lib.hid (hlf.out.1.below hB3)
        have K10 := Lib.hid ((hB.block b10 (by have := BB.out; omega)).trans H10'.out)
        have K11 := Lib.hid h11
        have K1 : Hid (W.cell? ⟨b1, 0, none⟩ = some (.int .i64 (r : Int))) := Lib.hid (by
          have k1 := heap_keep hB3 (grown_at old.out C.out.k1 C.out.d1)
          rw [cell_of_row W _ 0 _ _ _ k1]; rfl)
        have U := Lib.hid (show x.val < 128 ∧ v < 128 ∧ accF r v hs pre < 2 ^ 128 ∧ ms.length ≤ 1000 from ⟨x.isLt, HV.out.2, accF_lt HV.out.2 hlf.out.1.hb pre 0 (Nat.two_pow_pos 128), by have := hlf.out.2.2.1; have := C.out.yl; omega⟩)
        have PB := Lib.hid hB
        refine fillRound _ _ l wz W r v x.val gH b1 b7 b8 b10 b11 gI bt mb (accF r v hs pre) vS ms ids hs _ _ _ _ _ _ _ _ _ _ _ _ _ _ _ _ _ _ _ _ _ _ _ _ _ _ _ _ _ _ _ _ _ _ _ _ _ _ _ _ _ _ _ _ _ _ _ _ _ _ _ _ _ _ _ _ _ _ _ _ _ _ _ _ _ _ _ _ _ _ _ _ _ _ _ _ _ _ _ _ _ _ _ _ _ _ _ _ _ _ _ _ _ _ _ _ _ _ _ _ _ _ F3 U K10 K11 K1 (Lib.hid fun a' W' hg hk => ?_)
        have e0 : Below b11 W W' := ⟨hg.os, hg.tape, hg.output, hg.size, fun k hk => hg.block k (by have := PB.out.size; omega) (by simp; omega)⟩
        exact ⟨KeepsFrom.of_grownBy hg (fun j e => by cases e; omega), e0, by rw [accF_snoc]; exact hk, PB.out.trans e0⟩
      case done =>
        rintro D ys' W hD rfl ⟨h11, hB⟩ hK
        have hB3 : Below wr.heap.size wr W := hB2.out.trans (hB.mono (by have := BB.out; omega))
        have F3 := Lib.hid (hlf.out.1.below hB3)
        have K10 := Lib.hid ((hB.block b10 (by have := BB.out; omega)).trans H10'.out)
        obtain ⟨all, hall⟩ : ∃ x, x = accF r v hs (elM M) := ⟨_, rfl⟩
        have HALL := Lib.hid (And.intro hall (show all < 2 ^ 128 by rw [hall]; exact accF_lt HV.out.2 hlf.out.1.hb (elM M) 0 (Nat.two_pow_pos 128)))
        rw [← hall] at h11
        have K11 := Lib.hid h11
        have HD := Lib.hid (And.intro hD hK)
        have MK := Lib.hid (show ∀ D' ∈ Ds, D' < wr.heap.size ∧ wz.heap.size ≤ D' ∧ W.heap[D']? = some (.deferred (some [])) from fun D' hD' => by
          obtain ⟨-, -, -, -, h5⟩ := hlf.out
          exact ⟨(Array.getElem?_eq_some_iff.1 (h5 D' hD').2).1, (h5 D' hD').1, heap_keep hB3 (h5 D' hD').2⟩)
        obtain ⟨jj, hjj⟩ : ∃ x, x = idJ all ms := ⟨_, rfl⟩
        obtain ⟨ms2, hms2⟩ : ∃ x, x = idMs all ms := ⟨_, rfl⟩
        have IA := id_at all ms
        rw [← hjj, ← hms2] at IA
        have HIA := Lib.hid IA
        have hI0 : ∀ w5, (Below W.heap.size W w5 ∨ IDp W wz.heap.size bt mb vS ms2 w5) → Ft bt mb vS.ownBlock W w5 := fun w5 h => by
          rcases h with h | ⟨_, _, h⟩
          · exact Ft.of h
          · exact h
        have ltW := hB3.size
        have o10 : vS.ownBlock ≠ some b10 := fun e => by have := (hlf.out.1.tb.own.lt _ e).2; have := BB.out; omega
        have o11 : vS.ownBlock ≠ some b11 := fun e => by have := (hlf.out.1.tb.own.lt _ e).2; have := BB.out; omega
        have HCF : Hid (∀ w5, (Below W.heap.size W w5 ∨ IDp W wz.heap.size bt mb vS ms2 w5) → w5.cell? ⟨b8, 0, none⟩ = some (.slice (some ⟨gI, 0, none⟩) 128 128) ∧ w5.cell? ⟨b10, 0, none⟩ = some (.int .i64 (v : Int)) ∧ w5.cell? ⟨b7, 0, none⟩ = some (.pointer (some ⟨bt, 0, none⟩))) := Lib.hid (fun w5 h => by
          have hf := hI0 w5 h
          exact ⟨by rw [cell_of_row w5 _ 0 _ _ _ (Ft.kept F3.out.tb hf F3.out.k8 (by decide) (ne_own F3.out.k8 F3.out.tb.own (by decide)))]; rfl,
            by rw [cell_of_row w5 _ 0 _ _ _ (Ft.kept F3.out.tb hf K10.out (by decide) o10)]; rfl,
            by rw [cell_of_row w5 _ 0 _ _ _ (Ft.kept F3.out.tb hf F3.out.k7 (by decide) (ne_own F3.out.k7 F3.out.tb.own (by decide)))]; rfl⟩)
        have HLF : Hid (∀ w5, (Below W.heap.size W w5 ∨ IDp W wz.heap.size bt mb vS ms2 w5) → (loadVar 35 ⟨b11, 0, none⟩).run Tryd.prog w5 = .ok (mV all) w5) := Lib.hid (fun w5 h => cldM (Ft.kept F3.out.tb (hI0 w5 h) K11.out (by decide) o11))
        have IDC : Hid (∀ w5, Below W.heap.size W w5 → Calls Tryd.prog 38 #[.pointer (some ⟨bt, 0, none⟩), mV all] w5 fun e w' => e = .returned (.tuple #[.int .i64 (jj : Int), .int .i64 0]) ∧ IDp W wz.heap.size bt mb vS ms2 w') := Lib.hid (fun w5 hb => by
          refine (ID_ok wz.heap.size bt mb vS ms all w5 (F3.out.tb.below hb) HALL.out.2 (by have := hlf.out.2.2.1; have := C.out.yl; omega) (Nat.le_trans F3.out.old.size hb.size)).mono ?_
          rintro e w' ⟨j, vS', ms', ⟨rfl, rfl⟩, rfl, hT, -, -, -, -, hf⟩
          exact ⟨by rw [hjj], vS', by rw [hms2]; exact hT, (Ft.of hb).trans hf⟩)
        have STI : Hid (∀ w5, IDp W wz.heap.size bt mb vS ms2 w5 → ∃ w6, (storeVar 3 ⟨gI, v, none⟩ (.int .i64 (jj : Int))).run Tryd.prog w5 = .ok () w6 ∧ STp W wz.heap.size bt mb gI vS ms2 (ids.set v jj) w6) := Lib.hid (fun w5 h => by
          obtain ⟨vS', hT, hf⟩ := h
          have kI := Ft.kept F3.out.tb hf F3.out.kI (by decide) (ne_own F3.out.kI F3.out.tb.own (by decide))
          obtain ⟨w6, r6, k6, s6, n6, b6⟩ := run_store1 (k := v) (ty := 3) (.int .i64 (jj : Int)) rfl rfl size3 kI (by rw [nC_len, F3.out.il]; exact HV.out.2)
          have e6 := nC_set ids [] v jj (by rw [F3.out.il]; exact HV.out.2)
          rw [List.append_nil, List.append_nil] at e6
          rw [e6] at k6
          have b := b6 0 (Nat.zero_le _)
          exact ⟨w6, r6, w5, ⟨vS', hT, hf⟩, ⟨b.os, b.tape, b.output, b.size, fun j _ hne => n6 j (fun e => hne (by rw [e]))⟩, k6⟩)
        have HO := Lib.hid (And.intro o10 o11)
        have HMS := Lib.hid (And.intro hjj hms2)
        clear hB hall h11 hD hK hjj hms2 IA hI0 ltW o10 o11 H10' H11' HKE' F2 T2 hB3
        gi_wp2_with fail
        refine wpIn_wide.2 ?_
        refine Og.Joint2.walk_lit 10 [[],[],[],[],[2,3],[4,2,3],[5,4,2,3],[5,4,2,3],[0,1,2,3,4,5,6],[8,6,4,0,1,2,3,5]] (CT W (IDp W wz.heap.size bt mb vS ms2) (STp W wz.heap.size bt mb gI vS ms2 (ids.set v jj))) (fun _ _ => True) (by kernel_rfl) (by kernel_rfl) (by kernel_rfl) (fun vs => CT.ini bdrew) ?_
        simp only [List.take_succ_cons, List.take_zero, List.drop_succ_cons, List.drop_zero]
        iterate 3 (refine Og.Joint2.step_pureP (fun p vs v w h => h.other (by decide) (by decide)) (fun _ => trivial) ?_; apply Exists.intro; refine And.intro ?_ ?_; focus (intro p vs w2 hp hC hk; have hm := HCF.out w2 (CT.or (by decide) hp hC); refine Og.OptB.mk ?_; revert hk; simp only [Og.KS, Og.K0, Og.Is, List.getD_cons_zero, List.getD_cons_succ, List.getD_nil, List.contains_cons, List.contains_nil, Nat.reduceAdd, Nat.reduceBEq, Bool.or_false, Bool.false_or, Bool.or_true, Bool.true_or, Bool.false_eq_true, false_implies, true_implies, true_and, and_true, forall_const]; intros; go_simp; rfl))
        refine Og.Joint2.step_pureP (fun p vs v w h => h.other (by decide) (by decide)) (fun _ => trivial) ?_; apply Exists.intro; refine And.intro ?_ ?_; focus (intro p vs w2 hp hC hk; have hl := HLF.out w2 (CT.or (by decide) hp hC); revert hk; simp only [Og.KS, Og.K0, Og.Is, List.getD_cons_zero, List.getD_cons_succ, List.getD_nil, List.contains_cons, List.contains_nil, Nat.reduceAdd, Nat.reduceBEq, Bool.or_false, Bool.false_or, Bool.or_true, Bool.true_or, Bool.false_eq_true, false_implies, true_implies, true_and, and_true, forall_const]; intros; exact optB_loadL (by go_simp) rfl (by go_simp) hl ⟨rfl, rfl⟩)
        refine Og.Joint2.step_any (Og.Is (.tuple #[.int .i64 (jj : Int), .int .i64 0])) (fun _ _ _ _ h => h) ?_ ?_; focus (intro p vs w2 hp hC hk; have hb1 := CT.bel hp.1 hC; refine Og.OptB.mk ?_; revert hk; simp only [Og.KS, Og.K0, Og.Is, List.getD_cons_zero, List.getD_cons_succ, List.getD_nil, List.contains_cons, List.contains_nil, Nat.reduceAdd, Nat.reduceBEq, Bool.or_false, Bool.false_or, Bool.or_true, Bool.true_or, Bool.false_eq_true, false_implies, true_implies, true_and, and_true, forall_const]; intros; go_simp; with_reducible refine (IDC.out w2 hb1).mono ?_; rintro e w3 ⟨rfl, h3⟩; exact Og.RetV.mk ⟨CT.call hp.1 hC h3, rfl⟩)
        iterate 4 (refine Og.Joint2.step_pureP (fun p vs v w h => h.other (by decide) (by decide)) (fun _ => trivial) ?_; apply Exists.intro; refine And.intro ?_ ?_; focus (intro p vs w2 hp hC hk; refine Og.OptB.mk ?_; revert hk; simp only [Og.KS, Og.K0, Og.Is, List.getD_cons_zero, List.getD_cons_succ, List.getD_nil, List.contains_cons, List.contains_nil, Nat.reduceAdd, Nat.reduceBEq, Bool.or_false, Bool.false_or, Bool.or_true, Bool.true_or, Bool.false_eq_true, false_implies, true_implies, true_and, and_true, forall_const]; intros; go_simp; rfl))
        refine Og.Joint2.step_any (fun _ _ => True) (fun _ _ _ _ _ => trivial) ?_ ?_; focus (intro p vs w2 hp hC hk; have hdn : ∀ j ∈ [0, 1, 2, 3, 4, 5, 6, 8], p j = true := (by intro j hj; exact hp.2 j (by revert hj; revert j; decide)); obtain ⟨wq, hrq, hpf⟩ := STI.out w2 (CT.idp (hdn 4 (by decide)) hp.1 hC); revert hk; simp only [Og.KS, Og.K0, Og.Is, List.getD_cons_zero, List.getD_cons_succ, List.getD_nil, List.contains_cons, List.contains_nil, Nat.reduceAdd, Nat.reduceBEq, Bool.or_false, Bool.false_or, Bool.or_true, Bool.true_or, Bool.false_eq_true, false_implies, true_implies, true_and, and_true, forall_const]; intros; refine optB_storeR (by go_simp) rfl (by go_simp) (by go_simp) hrq (CT.done hdn hpf))
        intro p vs w5 hp hC hk
        have hST := hC.2.2.2 (hp 9 (by decide))
        simp only [Og.KS, Og.K0, Og.Is, List.getD_cons_zero, List.getD_cons_succ, List.getD_nil, List.contains_cons, List.contains_nil, Nat.reduceAdd, Nat.reduceBEq, Bool.or_false, Bool.false_or, Bool.or_true, Bool.true_or, Bool.false_eq_true, false_implies, true_implies, true_and, and_true, forall_const] at hk
        simp only [hk, Act.put, List.setIfInBounds_toArray, List.set_cons_zero, List.set_cons_succ]
        have HST := Lib.hid hST
        clear hk hp hC hST HCF HLF IDC STI
        obtain ⟨wI, ⟨vS2, hT, hf⟩, hgI, hkI⟩ := HST.out
        have k3 := grown_at F3.out.old C.out.k3 C.out.d3
        have k34 := Ft.kept F3.out.tb hf k3 (by decide) (ne_own k3 F3.out.tb.own (by decide))
        have kI4 := Ft.kept F3.out.tb hf F3.out.kI (by decide) (ne_own F3.out.kI F3.out.tb.own (by decide))
        have k35 := grown_at hgI k34 (ne_cells k34 kI4 (by decide))
        have h104 := Ft.kept F3.out.tb hf K10.out (by decide) HO.out.1
        have h105 := grown_at hgI h104 (by have := (Array.getElem?_eq_some_iff.1 hlf.out.1.kI).1; have := BB.out; omega)
        have h114 := Ft.kept F3.out.tb hf K11.out (by decide) HO.out.2
        have h115 := grown_at hgI h114 (ne_cells h114 kI4 (by decide))
        have kH4 := Ft.kept F3.out.tb hf F3.out.kH (by decide) (fun e => by have := (F3.out.tb.own.lt _ e).1; have := F3.out.gh; omega)
        have kH5 := grown_at hgI kH4 (ne_cells kH4 kI4 (by decide))
        obtain ⟨w6, r6, k6, g6⟩ := run_storeH (k := v) (M := all) kH5 (by rw [F3.out.hl]; exact HV.out.2)
        have FN := Lib.hid ((F3.out.id hf hT HIA.out.2.2 HIA.out.1 HV.out.2 HALL.out.2).2 w5 hkI hgI w6 k6 g6)
        have R6 := Lib.hid r6
        have L11 := Lib.hid (cldM h115)
        have q3 : w5.cell? ⟨b3, 3, none⟩ = some (.slice (some ⟨gH, 0, none⟩) 128 128) := by rw [cell_of_row w5 _ 3 _ _ _ k35]; rfl
        have q10 : w5.cell? ⟨b10, 0, none⟩ = some (.int .i64 (v : Int)) := by rw [cell_of_row w5 _ 0 _ _ _ h105]; rfl
        have MK2 := Lib.hid (show (D :: Ds).Nodup ∧ ∀ D' ∈ D :: Ds, wz.heap.size ≤ D' ∧ w6.heap[D']? = some (.deferred (some [])) from by
          have mk : ∀ D' : Nat, W.heap[D']? = some (.deferred (some [])) → w6.heap[D']? = some (.deferred (some [])) := fun D' h => grown_mark g6 kH5 (grown_mark hgI kI4 (Ft.mark F3.out.tb hf h))
          refine ⟨List.nodup_cons.2 ⟨fun hm => ?_, hlf.out.2.2.2.1⟩, fun D' hD' => ?_⟩
          · have := (MK.out D hm).1; have := HD.out.1; have := HSZ.out; have := BB.out; omega
          · rcases List.mem_cons.1 hD' with rfl | h
            · exact ⟨by have := HD.out.1; have := HSZ.out; have := BB.out; have := old.out.size; omega, mk _ HD.out.2⟩
            · exact ⟨(MK.out D' h).2.1, mk _ (MK.out D' h).2.2⟩)
        have HHS := Lib.hid (show hs.set v all = fillV r ps (ys.take (k + 1)) from by
          have hk1 := HV.out.1
          rw [List.take_add_one, hk1]
          unfold fillV
          rw [List.foldl_append]
          show _ = stepV r ps _ v
          have e1 := hlf.out.2.1
          unfold fillV at e1
          rw [← e1, HALL.out.1, HM.out.1]
          rfl)
        clear hT hf hgI hkI k3 k34 kI4 k35 h104 h105 h114 h115 kH4 kH5 r6 k6 g6 HST
        simp only [wpList]
        gi_wp2_with (first | (refine wpListIn_loadW rfl 35 (.tmp 11) rfl b11 0 (mV all) rfl L11.out ?_) | (refine wpListIn_storeW rfl 35 (.tmp 105) (.tmp 104) rfl rfl gH (v * 2) (mV all) rfl rfl R6.out ?_))
        refine HKK.out (n - (k + 1)) _ _ (by have := HKN.out; omega) ⟨k + 1, D :: Ds, vS2, ms2, _, _, _, _, _, _, _, _, _, _, _, _, _, _, _, _, _, _, _, _, _, _, _, _, _, _, _, _, _, _, _, _, _, _, _, _, _, _, _, _, _, _, _, _, _, _, _, _, _, _, _, _, _, _, rfl, by have := HKN.out; omega, rfl, Lib.hid ⟨FN.out, HHS.out, by have := HIA.out.2.1; have := hlf.out.2.2.1; omega, MK2.out⟩⟩
      case stop =>
        rintro D cc pre W _ hpre hbad _
        exact hbad.elim
    · have hkn : ¬ (k : Int) < (n : Int) := by omega
      have hke : k = n := by omega
      have old := hlf.out.1.old
      have k3 := grown_at old C.out.k3 C.out.d3
      obtain ⟨old2, k2z, so2⟩ := C.out.k2
      have k2 := grown_at old k2z C.out.d2
      have L3 : Hid ((loadVar 25 ⟨b3, 0, none⟩).run Tryd.prog wr = .ok (.agg #[.int .i64 (r : Int), vD', vP', .slice (some ⟨gH, 0, none⟩) 128 128]) wr) := Lib.hid (run_loadL (cs := [.int .i64 (r : Int), vD', vP', .slice (some ⟨gH, 0, none⟩) 128 128]) isAgg99 size99 rfl (AtL_heap k3))
      obtain ⟨w9, hw9⟩ : ∃ w9, w9 = wr.setRow b2 #[.int .i64 (r : Int), vD', vP', .slice (some ⟨gH, 0, none⟩) 128 128] := ⟨_, rfl⟩
      have R9 : Hid ((storeVar 25 ⟨b2, 0, none⟩ (.agg #[.int .i64 (r : Int), vD', vP', .slice (some ⟨gH, 0, none⟩) 128 128])).run Tryd.prog wr = .ok () w9) := Lib.hid (by rw [hw9]; exact run_storeVar_row wr b2 25 25 old2 _ k2 info99s so2 (by simp only [Array.all_eq_true]; exact VO.out))
      have oth : ∀ j, j ≠ b2 → w9.heap[j]? = wr.heap[j]? := fun j hj => by rw [hw9]; exact setRow_other wr b2 j _ hj
      have FIN : Hid (w9.heap[gH]? = some (.cells ((fillV r ps ys).flatMap cM).toArray 35 (0, 0)) ∧ w9.heap[b2]? = some (.cells #[.int .i64 (r : Int), vD', vP', .slice (some ⟨gH, 0, none⟩) 128 128] 25 (0, 0)) ∧ Ft gH b2 none wz w9) := Lib.hid (by
        refine ⟨?_, by rw [hw9]; exact setRow_heap wr b2 old2 _ 25 (0, 0) k2, ⟨by rw [hw9]; exact old.os, by rw [hw9]; exact old.tape, by rw [hw9]; exact old.output, by rw [hw9]; simpa [World.setRow] using old.size, fun j hj h1 h2 _ => by rw [oth j h2]; exact old.block j hj (by simpa using h1)⟩⟩
        rw [oth gH (Ne.symm C.out.d2)]
        have e := hlf.out.2.1
        rw [hke, ← C.out.yn, List.take_length] at e
        rw [← e]
        exact hlf.out.1.kH)
      have MK : Hid (Ds.Nodup ∧ ∀ D ∈ Ds, wz.heap.size ≤ D ∧ w9.heap[D]? = some (.deferred (some []))) := Lib.hid ⟨hlf.out.2.2.2.1, fun D hD => ⟨(hlf.out.2.2.2.2 D hD).1, by
        have h := (hlf.out.2.2.2.2 D hD).2
        rw [oth D (fun e => by rw [e, k2] at h; cases h)]
        exact h⟩⟩
      have GB := Lib.hid (show gH < wz.heap.size ∧ b2 < wz.heap.size from ⟨hlf.out.1.gh, (Array.getElem?_eq_some_iff.1 k2z).1⟩)
      clear old k3 k2z so2 k2 hw9 oth hlf hke HKK
      gi_wp2_with (first | (refine wpListIn_loadW rfl 25 (.tmp 3) rfl b3 0 _ rfl L3.out ?_) | (refine wpListIn_storeW rfl 25 (.tmp 2) (.tmp 107) rfl rfl b2 0 _ rfl rfl R9.out ?_))
      try simp only [Exit.then, Exit.inBlock]
      refine leaves_marksD wz.heap.size (fun w9 => w9.heap[gH]? = some (.cells ((fillV r ps ys).flatMap cM).toArray 35 (0, 0)) ∧ w9.heap[b2]? = some (.cells #[.int .i64 (r : Int), vD', vP', .slice (some ⟨gH, 0, none⟩) 128 128] 25 (0, 0)) ∧ Ft gH b2 none wz w9) (fun w D hBD hD hk => ?_) (fun w hk => ?_) Ds _ MK.out.1 MK.out.2 FIN.out
      · have o : ∀ j, j ≠ D → (w.putObj D (.deferred none)).heap[j]? = w.heap[j]? := fun j hj => putObj_other hj
        have g := GB.out
        refine ⟨by rw [o gH (by omega)]; exact hk.1, by rw [o b2 (by omega)]; exact hk.2.1, ⟨hk.2.2.os, hk.2.2.tape, hk.2.2.output, by simpa [World.putObj] using hk.2.2.size, fun j hj h1 h2 h3 => by rw [o j (by omega)]; exact hk.2.2.block j hj h1 h2 h3⟩⟩
      · exact ⟨_, results_cell1 rfl rfl (run_loadL (cs := [.int .i64 (r : Int), vD', vP', .slice (some ⟨gH, 0, none⟩) 128 128]) isAgg99 size99 rfl (AtL_heap hk.2.1)), HΦ.out w hk.1 hk.2.2⟩

end Go.Proofs.YtjbglifmppilfaaDoor
namespace Go.Proofs.YtjbglifmppilfaaDoor
open Go.ChangeShapes Go.WideShapes Go.ChangeAt Go.RowKit
set_option linter.unusedVariables false
set_option linter.unusedSimpArgs false
attribute [local go_sem] Og.Opt Og.OpY Oper.semAt_some

set_option maxRecDepth 100000 in
set_option maxHeartbeats 4000000 in
theorem ins_nil (b1 : Nat) (w : World) : Calls Tryd.prog 65 #[.slice none 0 0, .int .i64 0, .int .i64 0, .func (.func 33) #[] #[.pointer (some ⟨b1, 0, none⟩)]] w fun e w' => e = .returned (.tuple #[]) ∧ w' = w := by
  go_enter Tryd.func65, Tryd.ntmps65
  go_wp2_with fail
  refine wp_loop_rounds 1 ?_
  rw [rounds_succ]
  go_wp2_with fail
  go_end0
  exact ⟨rfl, rfl⟩
set_option maxRecDepth 100000 in
set_option maxHeartbeats 4000000 in
theorem stable_nil (b1 : Nat) (w : World) : Calls Tryd.prog 54 #[.slice none 0 0, .int .i64 0, .func (.func 33) #[] #[.pointer (some ⟨b1, 0, none⟩)]] w fun e w' => e = .returned (.tuple #[]) ∧ w' = w := by
  have INS := Lib.hid (ins_nil b1 w)
  go_enter Tryd.func54, Tryd.ntmps54
  go_wp2_with fail
  refine wp_loop_rounds 1 ?_
  rw [rounds_succ]
  go_wp2_with fail
  with_reducible refine INS.out.mono ?_
  rintro e w2 ⟨rfl, hw2⟩
  have H2 := Lib.hid hw2
  clear hw2
  go_wp2_with fail
  refine wp_loop_rounds 1 ?_
  rw [rounds_succ]
  go_wp2_with fail
  go_end0
  exact ⟨rfl, H2.out⟩
set_option maxRecDepth 100000 in
theorem sortS_nil (b1 : Nat) (w : World) : Calls Tryd.prog 32 #[.slice none 0 0, .func (.func 33) #[] #[.pointer (some ⟨b1, 0, none⟩)]] w fun e w' => e = .returned (.tuple #[]) ∧ w' = w := by
  have INS := Lib.hid (stable_nil b1 w)
  go_enter Tryd.func32, Tryd.ntmps32
  go_wp2_with fail
  with_reducible refine INS.out.mono ?_
  rintro e w2 ⟨rfl, hw2⟩
  have H2 := Lib.hid hw2
  clear hw2
  go_wp2_with fail
  go_end0
  exact ⟨rfl, H2.out⟩
theorem nC_flat (xs : List Nat) : xs.flatMap cN = nC xs := by
  induction xs with
  | nil => rfl
  | cons x xs ih => rw [List.flatMap_cons, ih]; rfl
/-- sorting a row of one's own, a nil one too -/
theorem sort_own (b1 gd od cd n z : Nat) (ds : List Int) (ov : Value) (xs : List Nat) (w : World) (ho : w.ownsRow z 3 1 ov n (xs.flatMap cN)) (hn : xs.length = n) (hl : n ≤ 500) (hx : ∀ x ∈ xs, x < 128) (hz : ∀ k, ov.ownBlock = some k → k ≠ b1 ∧ k ≠ gd)
    (hb : w.cell? ⟨b1, 1, none⟩ = some (.slice (some ⟨gd, od, none⟩) 128 cd)) (hd : AtL w gd od (dC ds)) (ok : dsOk ds) :
    Calls Tryd.prog 32 #[ov, .func (.func 33) #[] #[.pointer (some ⟨b1, 0, none⟩)]] w fun e w' => e = .returned (.tuple #[]) ∧ ∃ ys : List Nat, ys.Perm xs ∧ Up (kd ds) ys 0 n ∧ w'.ownsRow z 3 1 ov n (ys.flatMap cN) ∧ w.grownBy w' ov.ownBlock := by
  rcases ho.2 with ⟨rfl, h0⟩ | ⟨g, cap, cur, rfl, hbg, hg, hnc, hcm, hcs, htk⟩
  · subst h0
    refine (sortS_nil b1 w).mono ?_
    rintro e w' ⟨rfl, rfl⟩
    exact ⟨rfl, xs, List.Perm.refl _, Up.nil (by omega), ho, grown_refl _ _⟩
  · have hcur : cur = (nC xs ++ cur.toList.drop n).toArray := by
      apply Array.ext'
      rw [Nat.mul_one, nC_flat] at htk
      rw [List.toList_toArray, ← htk, List.take_append_drop]
    have hne := hz g rfl
    have S : SW b1 gd od cd ds g (cur.toList.drop n) w xs := ⟨hb, hd, by rw [← hcur]; exact hg, hx, Ne.symm hne.1, Ne.symm hne.2, ok⟩
    have := sortS_ok b1 gd od cd ds g (cur.toList.drop n) n cap xs w S hn hl
    refine this.mono ?_
    rintro e w' ⟨rfl, ys, S', R, U, G⟩
    have hyl : ys.length = n := by rw [R.len, hn]
    refine ⟨rfl, ys, R.perm, U, ⟨by rw [nC_flat, nC_len, hyl, Nat.mul_one], .inr ⟨g, cap, _, rfl, hbg, S'.row, hnc, hcm, ?_, ?_⟩⟩, G⟩
    · rw [List.size_toArray, List.length_append, nC_len, List.length_drop, hyl, Array.length_toList, hcs, Nat.mul_one]
      omega
    · rw [nC_flat, List.toList_toArray, Nat.mul_one, ← hyl, ← nC_len, List.take_left]
theorem gt_rep (u : Nat) : gt (List.replicate 128 0) u = 0 := by
  unfold gt
  rw [List.getD_eq_getElem?_getD, List.getElem?_replicate]
  split <;> rfl
theorem zI : (dC z128).toArray = (nC (List.replicate 128 0)).toArray := by kernel_rfl
noncomputable def tail17a : Code := sub2 (sub2 (sub2 (sub2 body17)))
theorem tail17a_eq : tail17a = (sub1 tail17a).seq ((sub1 (sub2 tail17a)).seq ((sub1 (sub2 (sub2 tail17a))).seq tail17)) := by kernel_rfl
/-- ahead of the sorting -/
structure FA (w : World) (r gH b1 b2 b3 gd od cd gp op cp z n : Nat) (ds : List Int) (ps xs : List Nat) (vH vD' vP' ov : Value) : Prop where
  k1 : w.heap[b1]? = some (.cells #[.int .i64 (r : Int), .slice (some ⟨gd, od, none⟩) 128 cd, .slice (some ⟨gp, op, none⟩) 128 cp, vH] 25 (0, 0))
  k2 : ∃ old : Array Value, w.heap[b2]? = some (.cells old 25 (0, 0)) ∧ old.size = 4
  k3 : w.heap[b3]? = some (.cells #[.int .i64 (r : Int), vD', vP', .slice (some ⟨gH, 0, none⟩) 128 128] 25 (0, 0))
  kd : AtL w gd od (dC ds)
  ok : dsOk ds
  kp : AtL w gp op (ps.flatMap cM)
  pl : ps.length = 128
  pb : allM ps
  gpH : gp < gH
  gdH : gd < gH
  kH : w.heap[gH]? = some (.cells ((List.replicate 128 0).flatMap cM).toArray 35 (0, 0))
  ow : w.ownsRow z 3 1 ov n (xs.flatMap cN)
  hz : gH < z
  xn : xs.length = n
  xl : n ≤ 128
  xb : ∀ x ∈ xs, x < 128
  tb : Tab w
  rb : r < 128
set_option maxRecDepth 100000 in
set_option maxHeartbeats 16000000 in
theorem fillA (R : Ending → World → Prop) (w : World) (r gH b1 b2 b3 gd od cd gp op cp z n : Nat) (ds : List Int) (ps xs : List Nat) (vH vD' vP' ov : Value) (t0 t5 t6 t7 t8 t9 t10 t11 t12 t13 t14 t15 t16 t17 t18 t19 t20 t21 t22 t23 t24 t25 t26 t27 t28 t29 t30 t31 t32 t33 t34 t35 t36 t37 t38 t39 t40 t41 t42 t43 t44 t45 t46 t47 t48 t49 t50 t51 t52 t53 t54 t55 t56 t57 t58 t59 t60 t61 t62 t63 t64 t65 t66 t67 t68 t69 t70 t71 t72 t73 t74 t75 t76 t77 t78 t79 t80 t81 t82 t83 t84 t85 t86 t87 t88 t89 t90 t91 t92 t93 t94 t95 t96 t97 t98 t99 t100 t101 t102 t103 t104 t105 t106 t107 : Value)
    (C : Hid (FA w r gH b1 b2 b3 gd od cd gp op cp z n ds ps xs vH vD' vP' ov))
    (VO : Hid (∀ (i : Nat) (h : i < (#[Value.int .i64 (r : Int), vD', vP', .slice (some ⟨gH, 0, none⟩) 128 128] : Array Value).size), (#[Value.int .i64 (r : Int), vD', vP', .slice (some ⟨gH, 0, none⟩) 128 128] : Array Value)[i].oneCell' = true))
    (HΦ : Hid (∀ (ys : List Nat) (wz w' : World), ys.Perm xs → Up (kd ds) ys 0 n → w.grownBy wz ov.ownBlock → w'.heap[gH]? = some (.cells ((fillV r ps ys).flatMap cM).toArray 35 (0, 0)) → Ft gH b2 none wz w' → R (.returned (.agg #[.int .i64 (r : Int), vD', vP', .slice (some ⟨gH, 0, none⟩) 128 128])) w')) :
    tail17a.wp Tryd.prog (bodyPostM Fence.wide 8 Tryd.prog Tryd.f17 R) { tmps := #[t0, .pointer (some ⟨b1, 0, none⟩), .pointer (some ⟨b2, 0, none⟩), .pointer (some ⟨b3, 0, none⟩), ov, t5, t6, t7, t8, t9, t10, t11, t12, t13, t14, t15, t16, t17, t18, t19, t20, t21, t22, t23, t24, t25, t26, t27, t28, t29, t30, t31, t32, t33, t34, t35, t36, t37, t38, t39, t40, t41, t42, t43, t44, t45, t46, t47, t48, t49, t50, t51, t52, t53, t54, t55, t56, t57, t58, t59, t60, t61, t62, t63, t64, t65, t66, t67, t68, t69, t70, t71, t72, t73, t74, t75, t76, t77, t78, t79, t80, t81, t82, t83, t84, t85, t86, t87, t88, t89, t90, t91, t92, t93, t94, t95, t96, t97, t98, t99, t100, t101, t102, t103, t104, t105, t106, t107], defers := [] } w := by
  have TB := Lib.hid (@fillB)
  obtain ⟨A, c, hv⟩ := own_small C.out.ow
  subst hv
  rw [tail17a_eq]
  simp only [tail17a, body17, Tryd.f17, sub1, sub2]
  have q11 : w.cell? ⟨b1, 1, none⟩ = some (.slice (some ⟨gd, od, none⟩) 128 cd) := by rw [cell_of_row w _ 1 _ _ _ C.out.k1]; rfl
  obtain ⟨gk, hgk⟩ : ∃ d, (dC ds)[0]? = some d := ⟨_, (C.out.ok.get (show 0 < 128 by decide)).1⟩
  have hov : ∀ k, (Value.slice A n c).ownBlock = some k → k ≠ b1 ∧ k ≠ gd ∧ k ≠ b2 ∧ k ≠ b3 ∧ k ≠ gp ∧ k ≠ gH := fun k hk => by
    have h1 := C.out.ow.lt k hk
    have h2 := C.out.hz
    have h3 := C.out.gpH
    have h4 := C.out.gdH
    obtain ⟨old2, k2, _⟩ := C.out.k2
    refine ⟨fun e => ?_, by omega, fun e => ?_, fun e => ?_, by omega, by omega⟩
    · rw [e] at hk; exact ne_own C.out.k1 C.out.ow (by decide) hk
    · rw [e] at hk; exact ne_own k2 C.out.ow (by decide) hk
    · rw [e] at hk; exact ne_own C.out.k3 C.out.ow (by decide) hk
  have SRT := Lib.hid (sort_own b1 gd od cd n z ds (.slice A n c) xs w C.out.ow C.out.xn (by have := C.out.xl; omega) C.out.xb (fun k hk => ⟨(hov k hk).1, (hov k hk).2.1⟩) q11 C.out.kd C.out.ok)
  have HOV := Lib.hid hov
  clear q11 hgk gk hov
  go_wp2_with fail
  with_reducible refine SRT.out.mono ?_
  rintro e wz ⟨rfl, ys, hperm, hup, how, hg⟩
  have PU := Lib.hid (And.intro hperm (And.intro hup (And.intro how hg)))
  clear hperm hup how hg SRT
  go_wp2_with fail
  with_reducible refine (New_ok wz).mono ?_
  rintro e w3 ⟨⟨bt, mb, vS, rfl, hT⟩, hb3⟩
  have T3 := Lib.hid (And.intro hT hb3)
  clear hT hb3
  have q11 : (w3.alloc (Obj.cells #[.pointer (some ⟨bt, 0, none⟩)] 76)).cell? ⟨b1, 1, none⟩ = some (.slice (some ⟨gd, od, none⟩) 128 cd) := by
    have k1 := (PU.out.2.2.2.block b1 (Array.getElem?_eq_some_iff.1 C.out.k1).1 (fun e => (HOV.out b1 e.symm).1 rfl)).trans C.out.k1
    rw [cell_of_row _ _ 1 _ _ _ (heap_keep ((Below.refl _ _).alloc (Nat.le_refl _) _) (heap_keep T3.out.2 k1))]; rfl
  have mk := mk73
  go_wp2_with fail
  clear q11 mk
  obtain ⟨w4, hw4⟩ : ∃ w4, w4 = w3.alloc (Obj.cells #[.pointer (some ⟨bt, 0, none⟩)] 76) := ⟨_, rfl⟩
  obtain ⟨w5, hw5⟩ : ∃ w5, w5 = w4.alloc (Obj.cells (dC z128).toArray 3) := ⟨_, rfl⟩
  obtain ⟨w6, hw6⟩ : ∃ w6, w6 = w5.alloc (Obj.cells #[.slice (some ⟨w3.heap.size + 1, 0, none⟩) 128 128] 22) := ⟨_, rfl⟩
  have B4 : Below w3.heap.size w3 w4 := by rw [hw4]; exact (Below.refl _ _).alloc (Nat.le_refl _) _
  have B5 : Below w4.heap.size w4 w5 := by rw [hw5]; exact (Below.refl _ _).alloc (Nat.le_refl _) _
  have B6 : Below w5.heap.size w5 w6 := by rw [hw6]; exact (Below.refl _ _).alloc (Nat.le_refl _) _
  have B36 : Below w3.heap.size w3 w6 := bthen (bthen B4 B5) B6
  have Bz6 : Below wz.heap.size wz w6 := bthen T3.out.2 B36
  obtain ⟨old2, k2, so2⟩ := C.out.k2
  have kz : ∀ {k : Nat} {a : Array Value} {t : TypeId}, w.heap[k]? = some (.cells a t (0, 0)) → (Value.slice A n c).ownBlock ≠ some k → wz.heap[k]? = some (.cells a t (0, 0)) := fun {k a t} hk hne => (PU.out.2.2.2.block k (Array.getElem?_eq_some_iff.1 hk).1 (fun e => hne e.symm)).trans hk
  have atz : ∀ {b o : Nat} {cs : List Value}, AtL w b o cs → (Value.slice A n c).ownBlock ≠ some b → AtL wz b o cs := fun {b o cs} h hne k u hk => PU.out.2.2.2.cell (h k u hk) (fun e => hne e.symm)
  have kHz := kz C.out.kH (fun e => (HOV.out gH e).2.2.2.2.2 rfl)
  have tz : Tab wz := fun i hi => PU.out.2.2.2.cell (C.out.tb i hi) (fun e => by
    have h1 := (C.out.ow.lt 0 e.symm).1
    have h2 := C.out.hz
    omega)
  have g0 : 0 < gH := by have := C.out.gpH; omega
  have s3 : w4.heap.size = w3.heap.size + 1 := by rw [hw4]; simp
  have s4 : w5.heap.size = w4.heap.size + 1 := by rw [hw5]; simp
  have ltH := (Array.getElem?_eq_some_iff.1 kHz).1
  have FCz := Lib.hid (show FC wz r gH b1 b2 b3 gp op cp n A ps ys (.slice (some ⟨gd, od, none⟩) 128 cd) vH vD' vP' from
    { k1 := kz C.out.k1 (fun e => (HOV.out b1 e).1 rfl), k2 := ⟨old2, kz k2 (fun e => (HOV.out b2 e).2.2.1 rfl), so2⟩, k3 := kz C.out.k3 (fun e => (HOV.out b3 e).2.2.2.1 rfl),
      kp := atz C.out.kp (fun e => (HOV.out gp e).2.2.2.2.1 rfl), pl := C.out.pl, pb := C.out.pb, pg := by have := C.out.gpH; omega,
      ko := fun k x hx => by
        obtain ⟨A', c', hv', hr, -⟩ := Sl_of_row cN_len (by omega) PU.out.2.2.1 (by rw [PU.out.1.length_eq, C.out.xn])
        cases hv'
        obtain ⟨b, o, hA, hat⟩ := hr k x hx
        rw [Nat.mul_one] at hat
        exact ⟨b, o, hA, hat 0 _ rfl, fun e => (HOV.out gH (by rw [hA, e]; rfl)).2.2.2.2.2 rfl⟩,
      yn := by rw [PU.out.1.length_eq, C.out.xn], yl := by have := C.out.xl; omega, yb := fun y hy => C.out.xb y (PU.out.1.mem_iff.1 hy), tb := tz, g0 := g0, rb := C.out.rb,
      d1 := ne_cells C.out.k1 C.out.kH (by decide), d2 := ne_cells k2 C.out.kH (by decide), d3 := ne_cells C.out.k3 C.out.kH (by decide) })
  have FSz := Lib.hid (show FS wz gH w3.heap.size (w3.heap.size + 1 + 1) (w3.heap.size + 1) bt mb w6 vS [0] (List.replicate 128 0) (List.replicate 128 0) from
    { old := grown_below'' Bz6 _, kH := heap_keep Bz6 kHz, k7 := heap_keep B6 (heap_keep B5 (by rw [hw4]; exact heap_at rfl)), k8 := by rw [hw6]; exact heap_at (by omega),
      kI := heap_keep B6 (by rw [hw5, ← zI]; exact heap_at (by omega)), tb := T3.out.1.below B36, g7 := T3.out.2.size, g8 := by have := T3.out.2.size; omega, gi := by have := T3.out.2.size; omega,
      gh := ltH, il := by simp, hl := by simp, hb := fun h hh => by rw [List.eq_of_mem_replicate hh]; exact Nat.two_pow_pos 128, ln := fun u _ => by rw [gt_rep]; rfl })
  have HP := Lib.hid (fun w' (h1 : w'.heap[gH]? = some (.cells ((fillV r ps ys).flatMap cM).toArray 35 (0, 0))) (h2 : Ft gH b2 none wz w') => HΦ.out ys wz w' PU.out.1 PU.out.2.1 PU.out.2.2.2 h1 h2)
  rw [← hw4, ← hw5, ← hw6]
  refine (wpIn_wide (n := 8)).1 ?_
  exact TB.out R 8 (by omega) wz w6 r gH b1 b2 b3 w3.heap.size (w3.heap.size + 1 + 1) (w3.heap.size + 1) bt mb gp op cp n c A ps ys (.slice (some ⟨gd, od, none⟩) 128 cd) vH vD' vP' vS _ _ _ _ _ _ _ _ _ _ _ _ _ _ _ _ _ _ _ _ _ _ _ _ _ _ _ _ _ _ _ _ _ _ _ _ _ _ _ _ _ _ _ _ _ _ _ _ _ _ _ _ _ _ _ _ _ _ _ _ _ _ _ _ _ _ _ _ _ _ _ _ _ _ _ _ _ _ _ _ _ _ _ _ _ _ _ _ _ _ _ _ _ _ _ _ _ _ _ _ _ _ FCz FSz VO HP

end Go.Proofs.YtjbglifmppilfaaDoor
