/- The tables of trees: a map by numbers; conditions as stated. The tables of trees: the tree of a node; conditions as stated. The tables of trees: distances and next hops; conditions as stated. The tables of trees: the alternates; conditions as stated. Alternates: ask, Link, Node on the square; conditions as stated. -/
import Derived.Test.YtjbglifmppilfaaDoorS18
import Derived.RangeFuncNested
import Derived.RangeFuncBound
import Derived.RangeFuncCalls
import Derived.RangeFuncLeaves
import Derived.Shelf.Abstract
import Derived.Shelf.RegionOpen
import Derived.WalkKit
import Derived.OwnWalkIn
import Derived.TacticsInMore
import Derived.LoopNIn
import Derived.LoopIn
namespace Go.Proofs.YtjbglifmppilfaaDoor
open Go.ChangeShapes Go.WideShapes Go.ChangeAt Go.RowKit
set_option linter.unusedVariables false
set_option linter.unusedSimpArgs false
attribute [local go_sem] Og.Opt Og.OpY Oper.semAt_some

/-- the map's entries -/
def iE : Nat → List (Nat × Value) → List MapEntry
  | _, [] => []
  | i, x :: es => { key := .int .i64 (x.1 : Int), val := x.2, born := i } :: iE (i + 1) es
theorem iE_snoc : ∀ (i : Nat) (es : List (Nat × Value)) (x : Nat × Value), iE i (es ++ [x]) = iE i es ++ [{ key := .int .i64 (x.1 : Int), val := x.2, born := i + es.length }]
  | i, [], x => rfl
  | i, y :: es, x => by
    rw [List.cons_append, iE, iE, iE_snoc (i + 1) es x, List.length_cons, List.cons_append, show i + 1 + es.length = i + (es.length + 1) by omega]
def fndV (k : Nat) : List (Nat × Value) → Option Value
  | [] => none
  | x :: es => if k = x.1 then some x.2 else fndV k es
theorem fndV_mem {k : Nat} {v : Value} : ∀ {es : List (Nat × Value)}, fndV k es = some v → (k, v) ∈ es
  | [], h => by cases h
  | x :: es, h => by
    rw [fndV] at h
    split at h
    · rename_i e
      cases h
      rw [e]
      exact List.mem_cons_self ..
    · exact List.mem_cons_of_mem _ (fndV_mem h)
theorem find_now (k : Nat) : ∀ (es : List (Nat × Value)) (i : Nat), ∃ f : Value → Nat, Instr.findNow (.int .i64) (.int .i64 (k : Int)) (iE i es) i = some ((fndV k es).map fun v => (f v, v))
  | [], i => ⟨fun _ => 0, rfl⟩
  | x :: es, i => by
    rw [iE, fndV]
    by_cases h : k = x.1
    · refine ⟨fun _ => i, ?_⟩
      rw [if_pos h]
      simp [Instr.findNow, Instr.sameNow, h]
    · obtain ⟨f, hf⟩ := find_now k es (i + 1)
      refine ⟨f, ?_⟩
      rw [if_neg h, ← hf]
      have hb : ((k : Int) == (x.1 : Int)) = false := by simp; omega
      simp [Instr.findNow, Instr.sameNow, hb]
def zeroT : Value := .agg #[.int .i64 0, .slice none 0 0, .slice none 0 0, .slice none 0 0]
theorem key_find {w : World} {k : Nat} {es : List (Nat × Value)} (f : Value → Nat) (hf : Instr.findNow (.int .i64) (.int .i64 (k : Int)) (iE 0 es) 0 = some ((fndV k es).map fun v => (f v, v))) : (Instr.findKey 3 (.int .i64 (k : Int)) (iE 0 es)).run Tryd.prog w = .ok ((fndV k es).map fun v => (f v, v)) w := by
  unfold Instr.findKey
  simp only [Sem.run_bind, run_underlying Tryd.underlying3, Result.andThen_ok, hf]
  rfl
theorem key_check (b : Bool) (k : Nat) (w : World) : (Instr.checkKey b 10000 3 (.int .i64 (k : Int))).run Tryd.prog w = .ok () w := by
  rw [Instr.checkKey]
  simp only [Sem.run_bind, run_underlying Tryd.underlying3, Result.andThen_ok]
  rfl
theorem run_lookI {w : World} {mb : Nat} {es : List (Nat × Value)} {cl : Nat} (k : Nat) (h : w.heap[mb]? = some (.map (iE 0 es).toArray cl)) :
    (Instr.lookup 68 (.map (some mb)) (.int .i64 (k : Int)) true).run Tryd.prog w = .ok (match fndV k es with | some v => .tuple #[v, .bool true] | none => .tuple #[zeroT, .bool false]) w := by
  have hz : (zeroValue 25).run Tryd.prog w = .ok zeroT w := by kernel_rfl
  have hg : (getObj mb).run Tryd.prog w = .ok (.map (iE 0 es).toArray cl) w := by simp [getObj, Sem.run, h]
  obtain ⟨f, hf⟩ := find_now k es 0
  have hk : (Instr.findKey 3 (.int .i64 (k : Int)) (iE 0 es)).run Tryd.prog w = .ok ((fndV k es).map fun v => (f v, v)) w := key_find f hf
  have hc : ∀ b, (Instr.checkKey b 10000 3 (.int .i64 (k : Int))).run Tryd.prog w = .ok () w := fun b => key_check b k w
  unfold Instr.lookup
  simp only [Sem.run_bind, run_underlying Tryd.underlying68, Result.andThen_ok, hg, Sem.run_pure, hc, hk]
  cases fndV k es <;> simp [hz]
theorem run_updI {w : World} {mb : Nat} {es : List (Nat × Value)} (k : Nat) (v : Value) (h : w.heap[mb]? = some (.map (iE 0 es).toArray es.length)) (hf : fndV k es = none) :
    (Instr.mapUpdate 68 (.map (some mb)) (.int .i64 (k : Int)) v).run Tryd.prog w = .ok () (w.putObj mb (.map (iE 0 (es ++ [(k, v)])).toArray (es ++ [(k, v)]).length)) := by
  have hg : (getObj mb).run Tryd.prog w = .ok (.map (iE 0 es).toArray es.length) w := by simp [getObj, Sem.run, h]
  have hs : ∀ o, (setObj mb o).run Tryd.prog w = .ok () (w.putObj mb o) := fun o => by simp [setObj, Sem.run, h, World.putObj]
  obtain ⟨f, hf2⟩ := find_now k es 0
  have hk : (Instr.findKey 3 (.int .i64 (k : Int)) (iE 0 es)).run Tryd.prog w = .ok ((fndV k es).map fun v => (f v, v)) w := key_find f hf2
  have hc : ∀ b, (Instr.checkKey b 10000 3 (.int .i64 (k : Int))).run Tryd.prog w = .ok () w := fun b => key_check b k w
  unfold Instr.mapUpdate
  simp only [Sem.run_bind, run_underlying Tryd.underlying68, Result.andThen_ok, hg, Sem.run_pure, hc, hk, hf, Option.map_none, hs]
  rw [iE_snoc, Nat.zero_add]
  simp
theorem cell_map {w : World} {mb : Nat} {es : Array MapEntry} {cl : Nat} (h : w.heap[mb]? = some (.map es cl)) {a : Addr} {v : Value} (hc : w.cell? a = some v) : a.block ≠ mb := fun e => by
  obtain ⟨b, o, s⟩ := a
  simp only at e
  subst e
  simp [World.cell?, h] at hc
theorem own_map {w : World} {mb B ty m n : Nat} {es : Array MapEntry} {cl : Nat} {v : Value} {xs : List Value} (h : w.heap[mb]? = some (.map es cl)) (ho : w.ownsRow B ty m v n xs) : v.ownBlock ≠ some mb := fun e => by
  obtain ⟨a, ha⟩ := own_block ho e
  rw [h] at ha
  cases ha
theorem Rd_map {α : Type} {f : α → List Value} {m : Nat} {w w' : World} {mb : Nat} {es : Array MapEntry} {cl : Nat} {A : Option Addr} {xs : List α} (hm : w.heap[mb]? = some (.map es cl)) (hg : w.grownBy w' (some mb)) (h : Rd f m w A xs) : Rd f m w' A xs := fun i x hi => by
  obtain ⟨b, o, h1, h2⟩ := h i x hi
  refine ⟨b, o, h1, fun j v hv => ?_⟩
  have hc := h2 j v hv
  have hne := cell_map hm hc
  exact (World.cell?_of_block (hg.block _ (World.block_lt_of_cell? w _ hc) (fun e => hne (Option.some.inj e)))).trans hc
theorem Sl_map {α : Type} {f : α → List Value} {m B : Nat} {w w' : World} {mb : Nat} {es : Array MapEntry} {cl : Nat} {v : Value} {xs : List α} (hm : w.heap[mb]? = some (.map es cl)) (hg : w.grownBy w' (some mb)) (h : Sl f m B w v xs) : Sl f m B w' v xs := by
  obtain ⟨A, c, h1, h2, h3⟩ := h
  exact ⟨A, c, h1, Rd_map hm hg h2, h3⟩
theorem FT_map {z a : Nat} {ds : List Int} {ps hs : List Nat} {v : Value} {w w' : World} {mb : Nat} {es : Array MapEntry} {cl : Nat} (hm : w.heap[mb]? = some (.map es cl)) (hg : w.grownBy w' (some mb)) (h : FT z a ds ps hs v w) : FT z a ds ps hs v w' := by
  obtain ⟨vD, vP, gH, h1, h2, h3, h4, h5, h6⟩ := h
  refine ⟨vD, vP, gH, h1, h2.kept hg (.inr (own_map hm h2)), h3.kept hg (.inr (own_map hm h3)), h4, (hg.block gH (Array.getElem?_eq_some_iff.1 h5).1 (fun e => ?_)).trans h5, h6⟩
  rw [Option.some.inj e, hm] at h5
  cases h5
theorem GX_map {w w' : World} {mb : Nat} {es : Array MapEntry} {cl : Nat} {va vb vc : Value} {ns : List Nd} {ls : List Lk} (hm : w.heap[mb]? = some (.map es cl)) (hg : w.grownBy w' (some mb)) (h : GX w va vb vc ns ls) : GX w' va vb vc ns ls :=
  ⟨Sl_map hm hg h.sa, Sl_map hm hg h.sb, Sl_map hm hg h.sc, h.snd, h.len⟩
theorem Tab_map {w w' : World} {mb : Nat} {es : Array MapEntry} {cl : Nat} (hm : w.heap[mb]? = some (.map es cl)) (hg : w.grownBy w' (some mb)) (h : Tab w) : Tab w' := fun i hi => by
  have hc := h i hi
  have hne := cell_map hm hc
  exact (World.cell?_of_block (hg.block _ (World.block_lt_of_cell? w _ hc) (fun e => hne (Option.some.inj e)))).trans hc
/-- a tree whose rows lie in none of the blocks N -/
def Av (N : Nat → Prop) (v : Value) : Prop := ∀ (cs : Array Value) (i : Nat) (x : Value) (g : Nat), v = .agg cs → cs[i]? = some x → x.ownBlock = some g → ¬ N g
/-- the tables at bt, their map at mb; nothing of them lies in the blocks N -/
structure TT (w : World) (N : Nat → Prop) (bt mb : Nat) (c : Int) (va vb vc : Value) (es : List (Nat × Value)) : Prop where
  blk : w.heap[bt]? = some (.cells #[va, vb, vc, .map (some mb)] 70 (0, 0))
  map : w.heap[mb]? = some (.map (iE 0 es).toArray es.length)
  ent : ∀ x ∈ es, isQ x.1 ∧ FT 0 x.1 (sL c (dU x.1)) (pU x.1) (hU x.1) x.2 w ∧ Av N x.2
  gx : GX w va vb vc nsQ (lsQ c)
  tb : Tab w
  c1 : 1 ≤ c
  c2 : c ≤ 1000
  nl : ∀ g, N g → g < w.heap.size
  an : ∀ g, N g → va.ownBlock ≠ some g ∧ vb.ownBlock ≠ some g ∧ g ≠ 0 ∧ g ≠ bt ∧ g ≠ mb
theorem FT_low {z a : Nat} {ds : List Int} {ps hs : List Nat} {v : Value} {w : World} (h : FT z a ds ps hs v w) : FT 0 a ds ps hs v w := by
  obtain ⟨vD, vP, gH, h1, h2, h3, h4, h5, h6⟩ := h
  exact ⟨vD, vP, gH, h1, own_lower h2 (Nat.zero_le _), own_lower h3 (Nat.zero_le _), Nat.zero_le _, h5, h6⟩
section
variable {w w' : World} {N N' : Nat → Prop} {bt mb : Nat} {c : Int} {va vb vc : Value} {es : List (Nat × Value)}
theorem TT.below (h : TT w N bt mb c va vb vc es) (hb : Below w.heap.size w w') : TT w' N bt mb c va vb vc es :=
  ⟨heap_keep hb h.blk, heap_keep hb h.map, fun x hx => ⟨(h.ent x hx).1, (h.ent x hx).2.1.below hb, (h.ent x hx).2.2⟩, h.gx.below hb, h.tb.below hb h.tb.size, h.c1, h.c2, fun g hg => Nat.lt_of_lt_of_le (h.nl g hg) hb.size, h.an⟩
theorem TT.wk (h : TT w N bt mb c va vb vc es) (hn : ∀ g, N' g → N g) : TT w N' bt mb c va vb vc es :=
  ⟨h.blk, h.map, fun x hx => ⟨(h.ent x hx).1, (h.ent x hx).2.1, fun cs i x g e1 e2 e3 e4 => (h.ent _ hx).2.2 cs i x g e1 e2 e3 (hn g e4)⟩, h.gx, h.tb, h.c1, h.c2, fun g hg => h.nl g (hn g hg), fun g hg => h.an g (hn g hg)⟩
theorem FT_blk {z a : Nat} {ds : List Int} {ps hs : List Nat} {v : Value} (h : FT z a ds ps hs v w) : ∀ (cs : Array Value) (i : Nat) (x : Value) (g : Nat), v = .agg cs → cs[i]? = some x → x.ownBlock = some g → z ≤ g ∧ g < w.heap.size := by
  obtain ⟨vD, vP, gH, rfl, h2, h3, h4, h5, h6⟩ := h
  intro cs i x g e1 e2 e3
  cases e1
  rcases i with _ | _ | _ | _ | i
  · simp at e2; subst e2; cases e3
  · simp at e2; subst e2; exact h2.lt g e3
  · simp at e2; subst e2; exact h3.lt g e3
  · simp at e2; subst e2
    have e4 : gH = g := Option.some.inj e3
    subst e4
    exact ⟨h4, (Array.getElem?_eq_some_iff.1 h5).1⟩
  · simp at e2
theorem FT_st {z a : Nat} {ds : List Int} {ps hs : List Nat} {v : Value} {g : Nat} (h : FT z a ds ps hs v w) (ha : Av N v) (hn : N g) (hg : w.grownBy w' (some g)) : FT z a ds ps hs v w' := by
  obtain ⟨vD, vP, gH, rfl, h2, h3, h4, h5, h6⟩ := h
  have e1 : vD.ownBlock ≠ some g := fun e => ha _ 1 vD g rfl rfl e hn
  have e2 : vP.ownBlock ≠ some g := fun e => ha _ 2 vP g rfl rfl e hn
  have e3 : gH ≠ g := fun e => ha _ 3 _ g rfl rfl (by rw [e]; rfl) hn
  exact ⟨vD, vP, gH, rfl, h2.kept hg (.inr e1), h3.kept hg (.inr e2), h4, (hg.block gH (Array.getElem?_eq_some_iff.1 h5).1 (fun e => e3 (Option.some.inj e))).trans h5, h6⟩
theorem Sl_st {α : Type} {f : α → List Value} {m B : Nat} {v : Value} {xs : List α} {g : Nat} (h : Sl f m B w v xs) (hv : v.ownBlock ≠ some g) (hg : w.grownBy w' (some g)) : Sl f m B w' v xs := by
  obtain ⟨A, c, rfl, h2, h3⟩ := h
  refine ⟨A, c, rfl, fun i x hi => ?_, h3⟩
  obtain ⟨b, o, h1, h4⟩ := h2 i x hi
  refine ⟨b, o, h1, fun j u hu => ?_⟩
  have hc := h4 j u hu
  refine (World.cell?_of_block (hg.block _ (World.block_lt_of_cell? w _ hc) (fun e => hv ?_))).trans hc
  rw [h1]
  exact e
theorem Sl_nil {α : Type} {f : α → List Value} {m B : Nat} {v : Value} (h : Sl f m B w v ([] : List α)) : Sl f m B w' v ([] : List α) := by
  obtain ⟨A, c, rfl, h2, h3⟩ := h
  exact ⟨A, c, rfl, fun i x hi => by simp at hi, h3⟩
theorem TT.st {g : Nat} (h : TT w N bt mb c va vb vc es) (hn : N g) (hg : w.grownBy w' (some g)) : TT w' N bt mb c va vb vc es := by
  obtain ⟨a1, a2, a3, a4, a5⟩ := h.an g hn
  refine ⟨(hg.block bt (Array.getElem?_eq_some_iff.1 h.blk).1 (fun e => a4 (Option.some.inj e).symm)).trans h.blk, (hg.block mb (Array.getElem?_eq_some_iff.1 h.map).1 (fun e => a5 (Option.some.inj e).symm)).trans h.map, fun x hx => ⟨(h.ent x hx).1, FT_st (h.ent x hx).2.1 (h.ent x hx).2.2 hn hg, (h.ent x hx).2.2⟩, ⟨Sl_st h.gx.sa a1 hg, Sl_st h.gx.sb a2 hg, Sl_nil h.gx.sc, h.gx.snd, h.gx.len⟩, fun i hi => ?_, h.c1, h.c2, fun k hk => Nat.lt_of_lt_of_le (h.nl k hk) hg.size, h.an⟩
  have hc := h.tb i hi
  exact (World.cell?_of_block (hg.block 0 h.tb.size (fun e => a3 (Option.some.inj e).symm))).trans hc
theorem Sl_lt {α : Type} {f : α → List Value} {m B : Nat} {v : Value} {xs : List α} (hf : ∀ x, f x ≠ []) (hl : 0 < xs.length) (h : Sl f m B w v xs) {g : Nat} (hv : v.ownBlock = some g) : g < w.heap.size := by
  obtain ⟨A, c, rfl, h2, -⟩ := h
  obtain ⟨x, hx⟩ : ∃ x, xs[0]? = some x := ⟨_, List.getElem?_eq_getElem hl⟩
  obtain ⟨b, o, rfl, h3⟩ := h2 0 x hx
  obtain ⟨u, hu⟩ : ∃ u, (f x)[0]? = some u := ⟨_, List.getElem?_eq_getElem (by have := hf x; cases h : f x with | nil => exact absurd h this | cons a l => simp)⟩
  have := World.block_lt_of_cell? w _ (h3 0 u hu)
  have e : b = g := Option.some.inj hv
  rw [← e]
  exact this
/-- one block more, just made -/
theorem TT.new {b : Nat} (h : TT w N bt mb c va vb vc es) (hb : Below w.heap.size w w') (h1 : w.heap.size ≤ b) (h2 : b < w'.heap.size) : TT w' (fun g => N g ∨ g = b) bt mb c va vb vc es := by
  have k := h.below hb
  refine ⟨k.blk, k.map, fun x hx => ⟨(k.ent x hx).1, (k.ent x hx).2.1, fun cs i y g e1 e2 e3 e4 => ?_⟩, k.gx, k.tb, k.c1, k.c2, fun g hg => ?_, fun g hg => ?_⟩
  · rcases e4 with e4 | e4
    · exact (h.ent x hx).2.2 cs i y g e1 e2 e3 e4
    · have := (FT_blk (h.ent x hx).2.1 cs i y g e1 e2 e3).2
      omega
  · rcases hg with hg | rfl
    · exact k.nl g hg
    · exact h2
  · rcases hg with hg | rfl
    · exact h.an g hg
    · have hbt := (Array.getElem?_eq_some_iff.1 h.blk).1
      have hmb := (Array.getElem?_eq_some_iff.1 h.map).1
      have h0 := h.tb.size
      refine ⟨fun e => ?_, fun e => ?_, by omega, by omega, by omega⟩
      · have := Sl_lt (fun x => by simp [cNd]) (by decide) h.gx.sa e; omega
      · have := Sl_lt (fun x => by simp [cLk]) (by simp [lsQ]) h.gx.sb e; omega
end
/-- hops.Run on the square -/
theorem runQ (c : Int) (hc : 1 ≤ c) (hc5 : c ≤ 1000) {a : Nat} (ha : isQ a) (va vb vc : Value) (w : World) (g : GX w va vb vc nsQ (lsQ c)) (tb : Tab w) :
    Calls Tryd.prog 16 #[.agg #[va, vb, vc], .int .i64 (a : Int)] w fun e w' => (∃ v, e = .returned (.tuple #[v, .int .i64 0]) ∧ FT w.heap.size a (sL c (dU a)) (pU a) (hU a) v w') ∧ Below w.heap.size w w' := by
  have q := qf ha
  have hk : ∃ ka : Nat, nsQ[ka]? = some (⟨(a : Int)⟩ : Nd) := by
    rcases ha with rfl | rfl | rfl | rfl
    · exact ⟨0, rfl⟩
    · exact ⟨1, rfl⟩
    · exact ⟨2, rfl⟩
    · exact ⟨3, rfl⟩
  obtain ⟨ka, hka⟩ := hk
  refine (hRun_ok a ka nsQ (lsQ c) va vb vc (sL c (dU a)) (pU a) w g hka (treeQ hc hc5 q) (okQs hc hc5 q) q.pl q.pb tb).mono ?_
  rintro e w' ⟨⟨v, ys, rfl, hF, hp, hu⟩, hb⟩
  rw [fill_sq hc hc5 q hp hu] at hF
  exact ⟨⟨v, rfl, hF⟩, hb⟩

end Go.Proofs.YtjbglifmppilfaaDoor
namespace Go.Proofs.YtjbglifmppilfaaDoor
open Go.ChangeShapes Go.WideShapes Go.ChangeAt Go.RowKit
set_option linter.unusedVariables false
set_option linter.unusedSimpArgs false
attribute [local go_sem] Og.Opt Og.OpY Oper.semAt_some

theorem size42t (w : World) : (sizeOf 42).run Tryd.prog w = .ok 3 w := by kernel_rfl
theorem isAgg42t (w : World) : (isAgg 42).run Tryd.prog w = .ok true w := by kernel_rfl
theorem TT.upd {w : World} {N : Nat → Prop} {bt mb : Nat} {c : Int} {va vb vc : Value} {es : List (Nat × Value)} (h : TT w N bt mb c va vb vc es) {a : Nat} (ha : isQ a) {v : Value} (hv : FT 0 a (sL c (dU a)) (pU a) (hU a) v w) (av : Av N v) :
    TT (w.putObj mb (.map (iE 0 (es ++ [(a, v)])).toArray (es ++ [(a, v)]).length)) N bt mb c va vb vc (es ++ [(a, v)]) ∧ w.grownBy (w.putObj mb (.map (iE 0 (es ++ [(a, v)])).toArray (es ++ [(a, v)]).length)) (some mb) := by
  have hg := grownBy_putObj' w mb (.map (iE 0 (es ++ [(a, v)])).toArray (es ++ [(a, v)]).length)
  have hlt : mb < w.heap.size := (Array.getElem?_eq_some_iff.1 h.map).1
  refine ⟨⟨?_, by simp [World.putObj, hlt], fun x hx => ?_, GX_map h.map hg h.gx, Tab_map h.map hg h.tb, h.c1, h.c2, fun g hg2 => Nat.lt_of_lt_of_le (h.nl g hg2) hg.size, h.an⟩, hg⟩
  · refine (hg.block bt (Array.getElem?_eq_some_iff.1 h.blk).1 (fun e => ?_)).trans h.blk
    have hb := h.blk
    rw [Option.some.inj e, h.map] at hb
    cases hb
  · rcases List.mem_append.1 hx with h1 | h1
    · exact ⟨(h.ent x h1).1, FT_map h.map hg (h.ent x h1).2.1, (h.ent x h1).2.2⟩
    · rw [List.mem_singleton.1 h1]
      exact ⟨ha, FT_map h.map hg hv, av⟩
set_option maxRecDepth 100000 in
set_option maxHeartbeats 8000000 in
theorem tree_ok (N : Nat → Prop) (bt mb : Nat) (c : Int) (va vb vc : Value) (es : List (Nat × Value)) (a : Nat) (ha : isQ a) (w : World) (h : TT w N bt mb c va vb vc es) :
    Calls Tryd.prog 27 #[.pointer (some ⟨bt, 0, none⟩), .int .i64 (a : Int)] w fun e w' => (∃ v, e = .returned v ∧ FT 0 a (sL c (dU a)) (pU a) (hU a) v w' ∧ ∃ es', TT w' N bt mb c va vb vc es') ∧ w.grownBy w' (some mb) := by
  obtain ⟨W, hW⟩ : ∃ W, W = w.alloc (Obj.cells #[.int .i64 0, .slice none 0 0, .slice none 0 0, .slice none 0 0] 25) := ⟨_, rfl⟩
  obtain ⟨b4, hb4⟩ : ∃ b, b = w.heap.size := ⟨_, rfl⟩
  have BW := Lib.hid (show Below w.heap.size w W by rw [hW]; exact (Below.refl _ _).alloc (Nat.le_refl _) _)
  have K4 := Lib.hid (show W.heap[b4]? = some (.cells #[.int .i64 0, .slice none 0 0, .slice none 0 0, .slice none 0 0] 25 (0, 0)) by rw [hW]; exact heap_at hb4)
  have HT := Lib.hid h
  have TW := Lib.hid (h.below BW.out)
  have Z4 := Lib.hid (And.intro hb4 (show W.heap.size = b4 + 1 by rw [hW, hb4]; simp))
  have HA := Lib.hid ha
  have LK := run_lookI a TW.out.map
  have m3 : W.cell? ⟨bt, 3, none⟩ = some (.map (some mb)) := by rw [cell_of_row W _ 3 _ _ _ TW.out.blk]; rfl
  clear h ha
  unfold zeroT at LK
  cases hf : fndV a es with
  | some v =>
    rw [hf] at LK
    have FW := Lib.hid (HT.out.ent _ (fndV_mem hf)).2.1
    have FV := Lib.hid (TW.out.ent _ (fndV_mem hf)).2.1
    obtain ⟨vD, vP, gH, ev, oD, oP, hgH, kH, hne⟩ := FV.out
    simp only at ev
    subst ev
    simp only at FW
    obtain ⟨AD, cD, rfl⟩ := own_small oD
    obtain ⟨AP, cP, rfl⟩ := own_small oP
    clear oD oP hgH kH hne hf
    simp only [] at LK
    rw [hW] at LK m3
    go_enter Tryd.func27, Tryd.ntmps27
    clear hW hb4
    go_wp2_with fail
    have kk : ((w.alloc (Obj.cells #[.int .i64 (a : Int), .slice AD 128 cD, .slice AP 128 cP, .slice (some ⟨gH, 0, none⟩) 128 128] 25)).alloc (Obj.cells #[.int .i64 (a : Int), .slice AD 128 cD, .slice AP 128 cP, .slice (some ⟨gH, 0, none⟩) 128 128] 25)).heap[w.heap.size]? = some (.cells #[.int .i64 (a : Int), .slice AD 128 cD, .slice AP 128 cP, .slice (some ⟨gH, 0, none⟩) 128 128] 25 (0, 0)) := heap_keep ((Below.refl _ _).alloc (Nat.le_refl _) _) (heap_at rfl)
    have bb : Below w.heap.size w ((w.alloc (Obj.cells #[.int .i64 (a : Int), .slice AD 128 cD, .slice AP 128 cP, .slice (some ⟨gH, 0, none⟩) 128 128] 25)).alloc (Obj.cells #[.int .i64 (a : Int), .slice AD 128 cD, .slice AP 128 cP, .slice (some ⟨gH, 0, none⟩) 128 128] 25)) := ((Below.refl _ _).alloc (Nat.le_refl _) _).alloc (by simp) _
    refine bodyPost_ret (results_cell1 rfl rfl (run_loadL (cs := [.int .i64 (a : Int), .slice AD 128 cD, .slice AP 128 cP, .slice (some ⟨gH, 0, none⟩) 128 128]) isAgg25t size25t rfl (AtL_heap kk))) rfl ?_
    exact ⟨⟨_, rfl, FW.out.below bb, es, HT.out.below bb⟩, grown_below'' bb _⟩
  | none =>
    rw [hf] at LK
    simp only [] at LK
    have HF := Lib.hid hf
    have L42 := Lib.hid (fun X (hb : Below w.heap.size w X) => run_loadL (w := X) (b := bt) (o := 0) (cs := [va, vb, vc]) isAgg42t size42t rfl (by have := AtL.sub (n := 3) (ds := [va, vb, vc]) 0 (AtL_heap (cs := [va, vb, vc, .map (some mb)]) (heap_keep hb HT.out.blk)) rfl; simpa using this))
    have RUN := Lib.hid (fun X (hb : Below w.heap.size w X) => runQ c HT.out.c1 HT.out.c2 HA.out va vb vc X (HT.out.gx.below hb) (HT.out.tb.below hb HT.out.tb.size))
    rw [hW] at LK m3
    clear hf
    go_enter Tryd.func27, Tryd.ntmps27
    go_wp2_with (refine wpList_loadL rfl 42 (.tmp 23) rfl bt 0 (.agg #[va, vb, vc]) rfl (L42.out _ (((Below.refl _ _).alloc (Nat.le_refl _) _).alloc (by simp) _)) ?_)
    obtain ⟨w2, hw2⟩ : ∃ w2, w2 = (w.alloc (Obj.cells #[.int .i64 0, .slice none 0 0, .slice none 0 0, .slice none 0 0] 25)).alloc (Obj.cells #[.int .i64 0, .slice none 0 0, .slice none 0 0, .slice none 0 0] 25) := ⟨_, rfl⟩
    have B2 := Lib.hid (show Below w.heap.size w w2 by rw [hw2]; exact ((Below.refl _ _).alloc (Nat.le_refl _) _).alloc (by simp) _)
    have K42 := Lib.hid (show w2.heap[b4]? = some (.cells #[.int .i64 0, .slice none 0 0, .slice none 0 0, .slice none 0 0] 25 (0, 0)) by rw [hw2]; exact heap_keep ((Below.refl _ _).alloc (Nat.le_refl _) _) (heap_at hb4))
    have HB4 := Lib.hid hb4
    rw [← hw2, ← hb4]
    clear hw2 hb4 hW LK m3 L42
    refine (RUN.out w2 B2.out).mono ?_
    rintro e w3 ⟨⟨v, rfl, hF⟩, hb3⟩
    have FV := Lib.hid (FT_low hF)
    have AV : Hid (Av N v) := Lib.hid (fun cs i x g e1 e2 e3 e4 => by have h1 := (FT_blk hF cs i x g e1 e2 e3).1; have h2 := HT.out.nl g e4; have h3 := B2.out.size; omega)
    obtain ⟨vD, vP, gH, rfl, oD, oP, hgH, kH, hne⟩ := hF
    obtain ⟨AD, cD, rfl⟩ := own_small oD
    obtain ⟨AP, cP, rfl⟩ := own_small oP
    have B3 := Lib.hid (bthen B2.out hb3)
    have K43 := Lib.hid (heap_keep hb3 K42.out)
    clear oD oP hgH kH hne hb3 RUN
    go_wp2_with fail
    obtain ⟨w4, hw4⟩ : ∃ w4, w4 = w3.alloc (Obj.cells #[.int .i64 (a : Int), .slice AD 128 cD, .slice AP 128 cP, .slice (some ⟨gH, 0, none⟩) 128 128] 25) := ⟨_, rfl⟩
    obtain ⟨b7, hb7⟩ : ∃ b7, b7 = w3.heap.size := ⟨_, rfl⟩
    have B34 : Below w3.heap.size w3 w4 := by rw [hw4]; exact (Below.refl _ _).alloc (Nat.le_refl _) _
    have K74 : w4.heap[b7]? = some (.cells #[.int .i64 (a : Int), .slice AD 128 cD, .slice AP 128 cP, .slice (some ⟨gH, 0, none⟩) 128 128] 25 (0, 0)) := by rw [hw4]; exact heap_at hb7
    rw [← hw4, ← hb7]
    have B4 := Lib.hid (bthen B3.out B34)
    have K44 := Lib.hid (heap_keep B34 K43.out)
    have F4 := Lib.hid (FV.out.below B34)
    have K7 := Lib.hid K74
    have TW4 := Lib.hid (HT.out.below B4.out)
    have H7 := Lib.hid hb7
    clear hw4 hb7 B34 K74 FV
    have HC : ∀ w2, Below w4.heap.size w4 w2 → w2.cell? ⟨bt, 3, none⟩ = some (.map (some mb)) := fun w2 hb => by rw [cell_of_row w2 _ 3 _ _ _ (heap_keep hb TW4.out.blk)]; rfl
    refine Og.Tail.walk_lit 6 [[],[0],[1,0],[2,1,0],[],[],[3,4,5,0,1,2]] (fun w2 => Below w4.heap.size w4 w2) (fun w1 w2 => Below w1.heap.size w1 w2) (by kernel_rfl) (by kernel_rfl) (by kernel_rfl) (bdrew) ?_
    simp only [List.take_succ_cons, List.take_zero, List.drop_succ_cons, List.drop_zero]
    iterate 3 (refine Og.step_pure (fun _ => Below.refl _ _) ?_; apply Exists.intro; refine And.intro ?_ ?_; focus (intro vs w2 hC hk; revert hk; simp only [Og.KS, Og.K0, Og.Is, List.getD_cons_zero, List.getD_cons_succ, List.getD_nil, List.contains_cons, List.contains_nil, Nat.reduceAdd, Nat.reduceBEq, Bool.or_false, Bool.false_or, Bool.or_true, Bool.true_or, Bool.false_eq_true, false_implies, true_implies, true_and, and_true, forall_const]; intros; go_simp; rfl))
    refine Og.step_pure (fun _ => Below.refl _ _) ?_; apply Exists.intro; refine And.intro ?_ ?_; focus (intro vs w2 hC hk; have hm := HC w2 hC; revert hk; simp only [Og.KS, Og.K0, Og.Is, List.getD_cons_zero, List.getD_cons_succ, List.getD_nil, List.contains_cons, List.contains_nil, Nat.reduceAdd, Nat.reduceBEq, Bool.or_false, Bool.false_or, Bool.or_true, Bool.true_or, Bool.false_eq_true, false_implies, true_implies, true_and, and_true, forall_const]; intros; go_simp; rfl)
    refine Og.step_pure (fun _ => Below.refl _ _) ?_; apply Exists.intro; refine And.intro ?_ ?_; focus (intro vs w2 hC hk; revert hk; simp only [Og.KS, Og.K0, Og.Is, List.getD_cons_zero, List.getD_cons_succ, List.getD_nil, List.contains_cons, List.contains_nil, Nat.reduceAdd, Nat.reduceBEq, Bool.or_false, Bool.false_or, Bool.or_true, Bool.true_or, Bool.false_eq_true, false_implies, true_implies, true_and, and_true, forall_const]; intros; go_simp; rfl)
    refine Og.step_pure (fun _ => Below.refl _ _) ?_; apply Exists.intro; refine And.intro ?_ ?_; focus (intro vs w2 hC hk; have hl := run_loadL (cs := [.int .i64 (a : Int), .slice AD 128 cD, .slice AP 128 cP, .slice (some ⟨gH, 0, none⟩) 128 128]) isAgg25t size25t rfl (AtL_heap (heap_keep hC K7.out)); refine Og.OptB.out ?_; revert hk; simp only [Og.KS, Og.K0, Og.Is, List.getD_cons_zero, List.getD_cons_succ, List.getD_nil, List.contains_cons, List.contains_nil, Nat.reduceAdd, Nat.reduceBEq, Bool.or_false, Bool.false_or, Bool.or_true, Bool.true_or, Bool.false_eq_true, false_implies, true_implies, true_and, and_true, forall_const]; intros; exact optB_loadL (by go_simp) rfl (by go_simp) hl ⟨rfl, rfl⟩)
    intro vs w5 hC hk
    simp only [Og.KS, Og.K0, Og.Is, List.getD_cons_zero, List.getD_cons_succ, List.getD_nil, List.contains_cons, List.contains_nil, Nat.reduceAdd, Nat.reduceBEq, Bool.or_false, Bool.false_or, Bool.or_true, Bool.true_or, Bool.false_eq_true, false_implies, true_implies, true_and, and_true, forall_const] at hk
    simp only [hk, Act.put, List.setIfInBounds_toArray, List.set_cons_zero, List.set_cons_succ]
    clear hk
    have TW5 := TW4.out.below hC
    have F5 := F4.out.below hC
    obtain ⟨w6, hw6⟩ : ∃ w6, w6 = w5.putObj mb (.map (iE 0 (es ++ [(a, Value.agg #[.int .i64 (a : Int), .slice AD 128 cD, .slice AP 128 cP, .slice (some ⟨gH, 0, none⟩) 128 128])])).toArray (es ++ [(a, Value.agg #[.int .i64 (a : Int), .slice AD 128 cD, .slice AP 128 cP, .slice (some ⟨gH, 0, none⟩) 128 128])]).length) := ⟨_, rfl⟩
    have U := Lib.hid (run_updI a (.agg #[.int .i64 (a : Int), .slice AD 128 cD, .slice AP 128 cP, .slice (some ⟨gH, 0, none⟩) 128 128]) TW5.map HF.out)
    have TU := TW5.upd HA.out F5 AV.out
    rw [← hw6] at U TU
    have T6 := Lib.hid TU.1
    have G6 := Lib.hid (gtr (grown_below'' (bthen B4.out hC) (some mb)) TU.2)
    have F6 := Lib.hid (FT_map TW5.map TU.2 F5)
    have kk : ∀ (k : Nat) (X : Array Value), w4.heap[k]? = some (.cells X 25 (0, 0)) → w6.heap[k]? = some (.cells X 25 (0, 0)) := fun k X hk => by
      have h5 := heap_keep hC hk
      refine (TU.2.block k (Array.getElem?_eq_some_iff.1 h5).1 (fun e => ?_)).trans h5
      have hmm := TW5.map
      rw [Option.some.inj e, hmm] at h5
      cases h5
    have L76 := Lib.hid (run_loadL (cs := [.int .i64 (a : Int), .slice AD 128 cD, .slice AP 128 cP, .slice (some ⟨gH, 0, none⟩) 128 128]) isAgg25t size25t rfl (AtL_heap (kk b7 _ K7.out)))
    have K46 := Lib.hid (kk b4 _ K44.out)
    clear TU hw6 kk hC HC TW5 F5
    go_wp2_with (first
      | (refine wpList_upd rfl 68 (.tmp 32) (.tmp 33) (.tmp 34) _ _ _ rfl rfl rfl rfl rfl U.out ?_)
      | (refine wpList_loadL rfl 25 (.tmp 7) rfl b7 0 (.agg #[.int .i64 (a : Int), .slice AD 128 cD, .slice AP 128 cP, .slice (some ⟨gH, 0, none⟩) 128 128]) rfl L76.out ?_)
      | (refine wpList_storeN rfl 25 (.tmp 4) (.tmp 35) rfl rfl b4 #[.int .i64 (a : Int), .slice AD 128 cD, .slice AP 128 cP, .slice (some ⟨gH, 0, none⟩) 128 128] rfl rfl 25 _ K46.out info99s rfl (by simp [Value.oneCell']) ?_; intro w7 hz hb hn hs; have K7 := Lib.hid hz; have B7 := Lib.hid hb; have N7 := Lib.hid hn; clear hz hb hn hs))
    refine bodyPost_ret (results_cell1 rfl rfl (run_loadL (cs := [.int .i64 (a : Int), .slice AD 128 cD, .slice AP 128 cP, .slice (some ⟨gH, 0, none⟩) 128 128]) isAgg25t size25t rfl (AtL_heap K7.out))) rfl ?_
    have z4 := HB4.out
    have h0 := B7.out 0 (Nat.zero_le _)
    have hg7 : w6.grownBy w7 (some b4) := ⟨h0.os, h0.tape, h0.output, h0.size, fun k _ hn => N7.out k (fun e => hn (by rw [e]))⟩
    have F7 : FT 0 a (sL c (dU a)) (pU a) (hU a) (.agg #[.int .i64 (a : Int), .slice AD 128 cD, .slice AP 128 cP, .slice (some ⟨gH, 0, none⟩) 128 128]) w7 := by
      obtain ⟨vD, vP, gH', e1, oD, oP, hgH, kH, hne⟩ := F6.out
      exact ⟨vD, vP, gH', e1, oD.kept hg7 (.inr (ne_own K46.out oD (by decide))), oP.kept hg7 (.inr (ne_own K46.out oP (by decide))), hgH, (N7.out gH' (ne_cells kH K46.out (by decide))).trans kH, hne⟩
    have G7 : w.grownBy w7 (some mb) := ⟨h0.os.trans G6.out.os, h0.tape.trans G6.out.tape, h0.output.trans G6.out.output, Nat.le_trans G6.out.size h0.size, fun k hk hne => (N7.out k (by omega)).trans (G6.out.block k hk hne)⟩
    have hm := HT.out.map
    have hml : mb < w.heap.size := (Array.getElem?_eq_some_iff.1 hm).1
    refine ⟨⟨_, rfl, F7, es ++ [(a, .agg #[.int .i64 (a : Int), .slice AD 128 cD, .slice AP 128 cP, .slice (some ⟨gH, 0, none⟩) 128 128])], ⟨?_, (N7.out mb (by omega)).trans T6.out.map, fun x hx => ?_, GX_map hm G7 HT.out.gx, Tab_map hm G7 HT.out.tb, HT.out.c1, HT.out.c2, fun g hg2 => Nat.lt_of_lt_of_le (HT.out.nl g hg2) G7.size, HT.out.an⟩⟩, G7⟩
    · refine (G7.block bt (Array.getElem?_eq_some_iff.1 HT.out.blk).1 (fun e => ?_)).trans HT.out.blk
      have hb := HT.out.blk
      rw [Option.some.inj e, hm] at hb
      cases hb
    · rcases List.mem_append.1 hx with h1 | h1
      · exact ⟨(HT.out.ent x h1).1, FT_map hm G7 (HT.out.ent x h1).2.1, (HT.out.ent x h1).2.2⟩
      · rw [List.mem_singleton.1 h1]
        exact ⟨HA.out, F7, AV.out⟩

end Go.Proofs.YtjbglifmppilfaaDoor
namespace Go.Proofs.YtjbglifmppilfaaDoor
open Go.ChangeShapes Go.WideShapes Go.ChangeAt Go.RowKit
set_option linter.unusedVariables false
set_option linter.unusedSimpArgs false
attribute [local go_sem] Og.Opt Og.OpY Oper.semAt_some

def dQ (c : Int) (x y : Nat) : Int := kd (sL c (dU x)) y
theorem own_blk2 {w : World} {B ty m n : Nat} {v : Value} {xs : List Value} (h : w.ownsRow B ty m v n xs) (h0 : 0 < n) : ∃ g cap, ∃ a : List Value, v = .slice (some ⟨g, 0, none⟩) n cap ∧ B ≤ g ∧ w.heap[g]? = some (.cells a.toArray ty (0, 0)) ∧ n * m ≤ a.length := by
  rcases h.2 with ⟨_, e⟩ | ⟨g, cap, cur, hv, hb, hk, h1, h2, h3, h4⟩
  · omega
  · exact ⟨g, cap, cur.toList, hv, hb, hk, by rw [Array.length_toList, h3]; exact Nat.mul_le_mul_right m h1⟩
theorem FT_dist {z a : Nat} {ds : List Int} {ps hs : List Nat} {x vD vP vH : Value} {w : World} (h : FT z a ds ps hs (.agg #[x, vD, vP, vH]) w) (hl : ds.length = 128) {b : Nat} (hb : b < 128) : ∃ g cap, vD = .slice (some ⟨g, 0, none⟩) 128 cap ∧ w.cell? ⟨g, b, none⟩ = some (.int .i64 (kd ds b)) := by
  obtain ⟨vD', vP', gH, e, h2, h3, h4, h5, h6⟩ := h
  cases e
  obtain ⟨g, cap, aD, e1, d1, d2, d3⟩ := own_blk2 h2 (by omega)
  refine ⟨g, cap, e1, ?_⟩
  rcases h2.2 with ⟨e0, _⟩ | ⟨g', cap', cur, e0, _, hk, k1, k2, k3, k4⟩
  · rw [e0] at e1; cases e1
  · rw [e0] at e1
    have eg : g' = g := by have := Value.slice.inj e1; have h1 := Option.some.inj this.1; exact (Addr.mk.inj h1).1
    subst eg
    rw [cell_of_row w _ b _ _ _ hk]
    have e2 : cur.toList[b]? = (ds.flatMap cI)[b]? := by rw [← k4, List.getElem?_take_of_lt (by omega)]
    rw [dC_flat] at e2
    rw [← Array.getElem?_toList, e2]
    simp [dC, kd, hl, hb]
theorem FT_hop {z a : Nat} {ds : List Int} {ps hs : List Nat} {x vD vP vH : Value} {w : World} (h : FT z a ds ps hs (.agg #[x, vD, vP, vH]) w) (hl : hs.length = 128) {b : Nat} (hb : b < 128) : ∃ gH, vH = .slice (some ⟨gH, 0, none⟩) 128 128 ∧ AtL w gH (b * 2) (cM (gt hs b)) := by
  obtain ⟨vD', vP', gH, e, h2, h3, h4, h5, h6⟩ := h
  cases e
  refine ⟨gH, rfl, ?_⟩
  have := AtL.sub (n := 2) (b * 2) (AtL_heap h5) (flat_tk cM_len (gt_some (by rw [hl]; exact hb)))
  simpa using this
theorem fld1 (v0 v1 v2 v3 : Value) (w : World) : (Instr.field 25 (.agg #[v0, v1, v2, v3]) 1).run Tryd.prog w = .ok v1 w := by kernel_rfl
theorem fld3 (v0 v1 v2 v3 : Value) (w : World) : (Instr.field 25 (.agg #[v0, v1, v2, v3]) 3).run Tryd.prog w = .ok v3 w := by kernel_rfl
set_option maxRecDepth 100000 in
set_option maxHeartbeats 8000000 in
theorem dist_ok (N : Nat → Prop) (bt mb : Nat) (c : Int) (va vb vc : Value) (es : List (Nat × Value)) (a b : Nat) (ha : isQ a) (hb : b < 128) (w : World) (h : TT w N bt mb c va vb vc es) :
    Calls Tryd.prog 49 #[.pointer (some ⟨bt, 0, none⟩), .int .i64 (a : Int), .int .i64 (b : Int)] w fun e w' => (e = .returned (.int .i64 (dQ c a b)) ∧ ∃ es', TT w' N bt mb c va vb vc es') ∧ w.grownBy w' (some mb) := by
  have TR := Lib.hid (tree_ok N bt mb c va vb vc es a ha w h)
  have HQ := Lib.hid (And.intro ha (And.intro hb (And.intro h.c1 h.c2)))
  have b0 : (0 : Int) ≤ (b : Int) := by omega
  have b1 : (b : Int) < 128 := by omega
  clear h ha hb
  go_enter Tryd.func49, Tryd.ntmps49
  go_wp2_with fail
  refine TR.out.mono ?_
  rintro e w2 ⟨⟨v, rfl, hF, es', hT⟩, hg⟩
  have F2 := Lib.hid (And.intro hT hg)
  have ok := okQs HQ.out.2.2.1 HQ.out.2.2.2 (qf HQ.out.1)
  obtain ⟨vD, vP, gH, rfl, r1, r2, -⟩ := id hF
  obtain ⟨AP, cP, rfl⟩ := own_small r2
  clear r1 r2
  obtain ⟨g, cap, rfl, hc⟩ := FT_dist hF ok.1 HQ.out.2.1
  have hcc : w2.cell? ⟨g, b, none⟩ = some (.int .i64 (dQ c a b)) := hc
  clear hF hT hg ok hc
  have hfl := fld1 (.int .i64 (a : Int)) (.slice (some ⟨g, 0, none⟩) 128 cap) (.slice AP 128 cP) (.slice (some ⟨gH, 0, none⟩) 128 128) w2
  go_wp2_with fail
  go_ret
  exact ⟨⟨rfl, es', F2.out.1⟩, F2.out.2⟩

end Go.Proofs.YtjbglifmppilfaaDoor
namespace Go.Proofs.YtjbglifmppilfaaDoor
open Go.ChangeShapes Go.WideShapes Go.ChangeAt Go.RowKit
set_option linter.unusedVariables false
set_option linter.unusedSimpArgs false
attribute [local go_sem] Og.Opt Og.OpY Oper.semAt_some

/-- is n an alternate of node 1 towards d for the next hop p -/
def okF (c : Int) (d p : Nat) (nd : Bool) (n : Nat) : Bool := !decide (n = p) && decide (clp (dQ c n d) < clp (dsum (dQ c n 1) (dQ c 1 d))) && (!nd || decide (clp (dQ c n d) < clp (dsum (dQ c n p) (dQ c p d))))
def fSt (c : Int) (d p : Nat) (nd : Bool) (M n : Nat) : Nat := if okF c d p nd n = true then putM M n else M
def maskF (c : Int) (d p : Nat) (nd : Bool) (k : Nat) : Nat := ([2, 3].take k).foldl (fSt c d p nd) 0
theorem maskF_s {c : Int} {d p : Nat} {nd : Bool} {k n : Nat} (h : [2, 3][k]? = some n) : maskF c d p nd (k + 1) = fSt c d p nd (maskF c d p nd k) n := by
  unfold maskF
  rw [List.take_add_one, h, List.foldl_append]
  rfl
theorem fSt_lt {c : Int} {d p : Nat} {nd : Bool} {M n : Nat} (hM : M < 2 ^ 128) (hn : n < 128) : fSt c d p nd M n < 2 ^ 128 := by
  unfold fSt
  split
  · exact putM_lt hM hn
  · exact hM
theorem maskF_lt {c : Int} {d p : Nat} {nd : Bool} {k : Nat} (hk : k ≤ 2) : maskF c d p nd k < 2 ^ 128 := by
  rcases k with _ | _ | _ | k
  · exact Nat.two_pow_pos 128
  · exact fSt_lt (n := 2) (Nat.two_pow_pos 128) (by decide)
  · exact fSt_lt (n := 3) (fSt_lt (n := 2) (Nat.two_pow_pos 128) (by decide)) (by decide)
  · omega
theorem view1 (c : Int) : (viewL (lsQ c))[1]? = some [⟨1, 2, c, 0⟩, ⟨1, 3, c, 0⟩] := by
  rw [lsQ_sc, viewL_sc, List.getElem?_map, show (viewL (lsQ 1))[1]? = some [⟨1, 2, 1, 0⟩, ⟨1, 3, 1, 0⟩] by decide +kernel]
  simp [scK]
theorem size45t (w : World) : (sizeOf 45).run Tryd.prog w = .ok 4 w := by kernel_rfl
theorem isAgg45t (w : World) : (isAgg 45).run Tryd.prog w = .ok true w := by kernel_rfl
theorem info45t : (Tryd.prog.info? 45).map (·.size) = some 4 := by kernel_rfl
theorem oksQ : ∀ x ∈ nsQ, oks x.i = true := by decide
theorem oksL (c : Int) : ∀ l ∈ lsQ c, oks l.f = true ∧ oks l.t = true := by
  intro l hl
  rw [lsQ_sc] at hl
  obtain ⟨u, hu, rfl⟩ := List.mem_map.1 hl
  have : ∀ l ∈ lsQ 1, oks l.f = true ∧ oks l.t = true := by decide
  exact this u hu
theorem isQ_lt {a : Nat} (h : isQ a) : a < 128 := by
  rcases h with rfl | rfl | rfl | rfl <;> decide
/-- what the loop over the links reads -/
structure FL (w2 wr : World) (N : Nat → Prop) (bt mb : Nat) (c : Int) (va vb vc : Value) (b10 b11 : Nat) (M : Nat) : Prop where
  tt : ∃ es, TT wr (fun g => (N g ∨ g = b10) ∨ g = b11) bt mb c va vb vc es
  k11 : wr.heap[b11]? = some (.cells (cM M).toArray 35 (0, 0))
  ft : Ft b11 mb none w2 wr
theorem Ft_g {b mb : Nat} {w w' : World} (h : w.grownBy w' (some mb)) : Ft b mb none w w' := ⟨h.os, h.tape, h.output, h.size, fun k hk _ h2 _ => h.block k hk (fun e => h2 (Option.some.inj e))⟩
theorem FL.next {w2 wr wx : World} {N : Nat → Prop} {bt mb : Nat} {c : Int} {va vb vc : Value} {b10 b11 M : Nat} (h : FL w2 wr N bt mb c va vb vc b10 b11 M) (hg : wr.grownBy wx (some mb)) (ht : ∃ es, TT wx (fun g => (N g ∨ g = b10) ∨ g = b11) bt mb c va vb vc es) : FL w2 wx N bt mb c va vb vc b10 b11 M := by
  obtain ⟨es, h1⟩ := h.tt
  have a1 := (h1.an b11 (.inr rfl)).2.2.2.2
  exact ⟨ht, (hg.block b11 (Array.getElem?_eq_some_iff.1 h.k11).1 (fun e => a1 (Option.some.inj e))).trans h.k11, h.ft.trans (Ft_g hg)⟩
theorem FL.store {w2 wr wx : World} {N : Nat → Prop} {bt mb : Nat} {c : Int} {va vb vc : Value} {b10 b11 M M' : Nat} (h : FL w2 wr N bt mb c va vb vc b10 b11 M) (hz : wx.heap[b11]? = some (.cells #[.int .u64 (loM M'), .int .u64 (hiM M')] 35 (0, 0))) (hb : ∀ B, B ≤ b11 → Below B wr wx) (hn : ∀ k, k ≠ b11 → wx.heap[k]? = wr.heap[k]?) : FL w2 wx N bt mb c va vb vc b10 b11 M' := by
  obtain ⟨es, h1⟩ := h.tt
  have b := hb 0 (Nat.zero_le _)
  have hg : wr.grownBy wx (some b11) := ⟨b.os, b.tape, b.output, b.size, fun k _ hne => hn k (fun e => hne (by rw [e]))⟩
  exact ⟨⟨es, h1.st (.inr rfl) hg⟩, hz, h.ft.trans ⟨b.os, b.tape, b.output, b.size, fun k _ h2 _ _ => hn k h2⟩⟩
set_option maxRecDepth 100000 in
set_option maxHeartbeats 16000000 in
theorem find_ok (N : Nat → Prop) (bt mb : Nat) (c : Int) (va vb vc : Value) (es : List (Nat × Value)) (d p : Nat) (nd : Bool) (hd : d < 128) (hp8 : p < 128) (hp : nd = true → isQ p) (w : World) (h : TT w N bt mb c va vb vc es) :
    Calls Tryd.prog 28 #[.pointer (some ⟨bt, 0, none⟩), .int .i64 1, .int .i64 (d : Int), .int .i64 (p : Int), .bool nd] w fun e w' => (e = .returned (mV (maskF c d p nd 2)) ∧ ∃ es', TT w' N bt mb c va vb vc es') ∧ w.grownBy w' (some mb) := by
  obtain ⟨W, hW⟩ : ∃ W, W = (w.alloc (Obj.cells #[.int .u64 0, .int .u64 0] 35)).alloc (Obj.cells #[.int .u64 0, .int .u64 0] 35) := ⟨_, rfl⟩
  obtain ⟨b10, hb10⟩ : ∃ b, b = w.heap.size := ⟨_, rfl⟩
  have b01 : Below w.heap.size w (w.alloc (Obj.cells #[.int .u64 0, .int .u64 0] 35)) := (Below.refl _ _).alloc (Nat.le_refl _) _
  have s01 : (w.alloc (Obj.cells #[.int .u64 0, .int .u64 0] 35)).heap.size = b10 + 1 := by rw [hb10]; simp
  have b02 : Below (w.alloc (Obj.cells #[.int .u64 0, .int .u64 0] 35)).heap.size (w.alloc (Obj.cells #[.int .u64 0, .int .u64 0] 35)) W := by rw [hW]; exact (Below.refl _ _).alloc (Nat.le_refl _) _
  have BW := Lib.hid (bthen b01 b02)
  have SW := Lib.hid (show W.heap.size = b10 + 2 ∧ b10 = w.heap.size from ⟨by rw [hW, hb10]; simp, hb10⟩)
  have K10 := Lib.hid (show W.heap[b10]? = some (.cells #[.int .u64 0, .int .u64 0] 35 (0, 0)) from heap_keep b02 (heap_at hb10))
  have K11 := Lib.hid (show W.heap[b10 + 1]? = some (.cells #[.int .u64 0, .int .u64 0] 35 (0, 0)) by rw [hW]; exact heap_at s01.symm)
  have T1 := h.new b01 (Nat.le_refl _) (show w.heap.size < (w.alloc (Obj.cells #[.int .u64 0, .int .u64 0] 35)).heap.size by simp)
  have TW := Lib.hid (T1.new b02 (Nat.le_refl _) (by rw [s01, SW.out.1]; omega))
  rw [← hb10, s01] at TW
  have HT := Lib.hid h
  have HQ := Lib.hid (And.intro trivial (And.intro hp (And.intro hd hp8)))
  have OF := Lib.hid (full_Of_ok nsQ (lsQ c) va vb vc W TW.out.gx.sa TW.out.gx.sb (by decide) (by simp [lsQ]) oksQ (oksL c))
  have L42 := Lib.hid (run_loadL (w := W) (b := bt) (o := 0) (cs := [va, vb, vc]) isAgg42t size42t rfl (by have := AtL.sub (n := 3) (ds := [va, vb, vc]) 0 (AtL_heap (cs := [va, vb, vc, .map (some mb)]) TW.out.blk) rfl; simpa using this))
  clear h hd hp hp8 b01 b02 s01 T1
  go_enter Tryd.func28, Tryd.ntmps28
  go_wp2_with (refine wpList_loadL rfl 42 (.tmp 18) rfl bt 0 (.agg #[va, vb, vc]) rfl (by rw [← hW]; exact L42.out) ?_)
  rw [← hW, ← hb10]
  clear hW hb10 L42
  refine OF.out.mono ?_
  rintro e w2 ⟨⟨V, vs, rfl, hV, hVw⟩, hb2⟩
  have B2 := Lib.hid hb2
  have T2 := Lib.hid (TW.out.below hb2)
  have K11b := Lib.hid (heap_keep hb2 K11.out)
  have K10b := Lib.hid (heap_keep hb2 K10.out)
  obtain ⟨v1, hv1⟩ : ∃ v1, vs[1]? = some v1 := ⟨_, List.getElem?_eq_getElem (by rw [hVw.nv]; decide)⟩
  have o1 := hVw.own 1 v1 _ hv1 (view1 c)
  obtain ⟨A1, c1, rfl, r1, -, bA, -⟩ := Sl_of_row cLk_len (by decide) o1 rfl
  have q1 := hVw.slot hv1
  have q1' : w2.cell? ⟨V, 129, none⟩ = some (.slice A1 2 c1) := q1
  have ov : ∀ j, j < 128 → w2.cell? ⟨V, j, none⟩ = some (.bool false) := fun j hj => by
    rw [cell_of_row w2 V j _ _ _ hVw.blk, List.getElem?_toArray, List.getElem?_append_left (by rw [oB_len]; exact hj)]
    exact oB_get hj
  have VV := Lib.hid (show (∀ j, j < 128 → w2.cell? ⟨V, j, none⟩ = some (.bool false)) ∧ b10 + 2 ≤ V ∧ V < w2.heap.size ∧ Rd cLk 4 w2 A1 [⟨1, 2, c, 0⟩, ⟨1, 3, c, 0⟩] ∧ (∀ a, A1 = some a → V + 1 ≤ a.block) from ⟨ov, by have := SW.out.1; omega, hVw.lt, r1, bA⟩)
  have F0 : Hid (FL w2 w2 N bt mb c va vb vc b10 (b10 + 1) (maskF c d p nd 0)) := Lib.hid ⟨⟨es, T2.out⟩, by rw [show maskF c d p nd 0 = 0 from rfl, show (cM 0).toArray = #[Value.int .u64 0, .int .u64 0] from rfl]; exact K11b.out, Ft.of (Below.refl _ _)⟩
  have MB : Hid (mb < w.heap.size ∧ bt < w.heap.size) := Lib.hid ⟨(Array.getElem?_eq_some_iff.1 HT.out.map).1, (Array.getElem?_eq_some_iff.1 HT.out.blk).1⟩
  clear hb2 hVw hv1 o1 r1 bA q1 hV ov OF
  go_wp2_with fail
  clear q1'
  go_loopw [28] (fun i wr => ∃ k : Nat, k ≤ 2 ∧ i = .int .i64 k ∧ Hid (FL w2 wr N bt mb c va vb vc b10 (b10 + 1) (maskF c d p nd k))) (fun i _ => 2 - (intOf i).toNat)
  case atStart => exact ⟨0, Nat.zero_le _, rfl, F0⟩
  case round =>
    clear F0
    obtain ⟨k, hk, rfl, hF⟩ := hrel
    by_cases hlt : k < 2
    · have hwk1 : IntKind.i64.wrap ((k : Int) + 1) = (k : Int) + 1 := by rw [IntKind.wrap_i64]; omega
      have hk0 : (0 : Int) ≤ (k : Int) := by omega
      have hk7 : (k : Int) < 2 := by omega
      obtain ⟨n, hn, hl⟩ : ∃ n : Nat, [2, 3][k]? = some n ∧ [(⟨1, 2, c, 0⟩ : Lk), ⟨1, 3, c, 0⟩][k]? = some ⟨1, (n : Int), c, 0⟩ := by
        rcases k with _ | _ | k
        · exact ⟨2, rfl, rfl⟩
        · exact ⟨3, rfl, rfl⟩
        · omega
      have hq : isQ n := by
        rcases k with _ | _ | k
        · simp at hn; exact .inr (.inl hn.symm)
        · simp at hn; exact .inr (.inr (.inl hn.symm))
        · omega
      have n8 := isQ_lt hq
      obtain ⟨gL, oL, rfl, hat⟩ := VV.out.2.2.2.1 k _ hl
      have gLV := VV.out.2.2.2.2 _ rfl
      simp only at gLV
      have KP := Lib.hid (show ∀ (a : Addr) (v : Value), V ≤ a.block → w2.cell? a = some v → wr.cell? a = some v from fun a v ha hc => (World.cell?_of_block (hF.out.ft.block a.block (World.block_lt_of_cell? w2 a hc) (by have := VV.out.2.1; omega) (by have := VV.out.2.1; have := MB.out.1; have := SW.out.2; omega) (by simp))).trans hc)
      have LL := Lib.hid (run_loadL (w := wr) (cs := cLk ⟨1, (n : Int), c, 0⟩) isAgg45t size45t rfl (fun j v hv => KP.out _ _ (by show V ≤ gL; omega) (hat j v hv)))
      have ovn : wr.cell? ⟨V, n, none⟩ = some (.bool false) := KP.out _ _ (Nat.le_refl _) (VV.out.1 n n8)
      have B3 : Below wr.heap.size wr (wr.alloc (Obj.cells #[.int .i64 1, .int .i64 (n : Int), .int .i64 c, .int .i64 0] 45)) := (Below.refl _ _).alloc (Nat.le_refl _) _
      have ov3 := bcell B3 ovn
      have F3 := Lib.hid (hF.out.next (grown_below'' B3 (some mb)) (by obtain ⟨es0, h0⟩ := hF.out.tt; exact ⟨es0, h0.below B3⟩))
      have HN := Lib.hid (And.intro hn (And.intro hq (And.intro n8 hlt)))
      have n0 : (0 : Int) ≤ (n : Int) := by omega
      have n1 : (n : Int) < 128 := by omega
      clear hn hl hq n8 hat gLV hlt ovn B3 hF
      by_cases hnp : n = p
      · have e1 : ((n : Int) == (p : Int)) = true := by simp; omega
        have HE := Lib.hid hnp
        have e2 : (n == p) = true := by simp [hnp]
        clear hnp
        go_wp2_with (refine wpList_loadL rfl 45 (.tmp 30) rfl gL (oL + k * 4) (.agg #[.int .i64 1, .int .i64 (n : Int), .int .i64 c, .int .i64 0]) rfl LL.out ?_)
        go_roundw
        case rel => exact ⟨k + 1, by have := HN.out.2.2.2; omega, by go_num, Lib.hid (by rw [maskF_s HN.out.1, show fSt c d p nd (maskF c d p nd k) n = maskF c d p nd k by unfold fSt okF; simp [HE.out]]; exact F3.out)⟩
        case measure => have := HN.out.2.2.2; simp [intOf]; omega
      · have e1 : ((n : Int) == (p : Int)) = false := by simp; omega
        have HE := Lib.hid hnp
        have e2 : (n == p) = false := by simp [hnp]
        clear hnp
        go_wp2_with (refine wpList_loadL rfl 45 (.tmp 30) rfl gL (oL + k * 4) (.agg #[.int .i64 1, .int .i64 (n : Int), .int .i64 c, .int .i64 0]) rfl LL.out ?_)
        obtain ⟨ae0, aT0⟩ := F3.out.tt
        refine (dist_ok _ bt mb c va vb vc _ n d HN.out.2.1 HQ.out.2.2.1 _ aT0).mono ?_
        rintro e aw0 ⟨⟨rfl, hT⟩, hg⟩
        have aF0 := Lib.hid (F3.out.next hg hT)
        clear hT hg aT0
        go_wp2_with fail
        obtain ⟨ae1, aT1⟩ := aF0.out.tt
        refine (dist_ok _ bt mb c va vb vc _ n 1 HN.out.2.1 (by decide) _ aT1).mono ?_
        rintro e aw1 ⟨⟨rfl, hT⟩, hg⟩
        have aF1 := Lib.hid (aF0.out.next hg hT)
        clear hT hg aT1
        go_wp2_with fail
        obtain ⟨ae2, aT2⟩ := aF1.out.tt
        refine (dist_ok _ bt mb c va vb vc _ 1 d (.inl rfl) HQ.out.2.2.1 _ aT2).mono ?_
        rintro e aw2 ⟨⟨rfl, hT⟩, hg⟩
        have aF2 := Lib.hid (aF1.out.next hg hT)
        clear hT hg aT2
        go_wp2_with fail
        refine (Sum_ok _ _ _).mono ?_
        rintro e aw3 ⟨rfl, hb⟩
        have aF3 := Lib.hid (aF2.out.next (grown_below'' hb (some mb)) (by obtain ⟨es0, h0⟩ := aF2.out.tt; exact ⟨es0, h0.below hb⟩))
        clear hb
        go_wp2_with fail
        refine (Less_ok _ _ _).mono ?_
        rintro e aw4 ⟨rfl, hb⟩
        have aF4 := Lib.hid (aF3.out.next (grown_below'' hb (some mb)) (by obtain ⟨es0, h0⟩ := aF3.out.tt; exact ⟨es0, h0.below hb⟩))
        clear hb
        by_cases hl1 : clp (dQ c n d) < clp (dsum (dQ c n 1) (dQ c 1 d))
        · have g1 : decide (clp (dQ c n d) < clp (dsum (dQ c n 1) (dQ c 1 d))) = true := by simp [hl1]
          have G1 := Lib.hid hl1
          simp only [g1]
          clear hl1
          cases nd with
          | false =>
            obtain ⟨M, hM⟩ : ∃ M, M = maskF c d p false k := ⟨_, rfl⟩
            have ML := Lib.hid (show M < 2 ^ 128 by rw [hM]; exact maskF_lt (by have := HN.out.2.2.2; omega))
            have MS : Hid (maskF c d p false (k + 1) = putM M n) := Lib.hid (by rw [maskF_s HN.out.1, hM]; unfold fSt okF; simp [HE.out, G1.out])
            have FF := aF4
            rw [← hM] at FF
            have KM := Lib.hid FF.out.k11
            clear hM
            go_wp2_with (refine wpList_loadL rfl 35 (.tmp 11) rfl (b10 + 1) 0 (mV M) rfl (cldM KM.out) ?_)
            refine (With_M ML.out HN.out.2.2.1 _).mono ?_
            rintro e w8 ⟨rfl, hb⟩
            have F8 := Lib.hid (FF.out.next (grown_below'' hb (some mb)) (by obtain ⟨es0, h0⟩ := FF.out.tt; exact ⟨es0, h0.below hb⟩))
            have K8 := Lib.hid F8.out.k11
            clear hb KM
            obtain ⟨M2, hM2⟩ : ∃ M2, M2 = putM M n := ⟨_, rfl⟩
            rw [← hM2] at MS ⊢
            clear hM2
            go_wp2_with (first | (refine wpList_storeN rfl 35 (.tmp 11) (.tmp 89) rfl rfl (b10 + 1) #[.int .u64 (loM M2), .int .u64 (hiM M2)] rfl rfl 35 _ K8.out cinfo25s rfl (by simp [Value.oneCell']) ?_; intro w9 hz9 hb9 hn9 hs9; have F9 := Lib.hid (F8.out.store (M' := M2) hz9 hb9 hn9); clear hz9 hb9 hn9 hs9))
            go_roundw
            case rel => exact ⟨k + 1, by have := HN.out.2.2.2; omega, by go_num, by rw [MS.out]; exact F9⟩
            case measure => have := HN.out.2.2.2; simp [intOf]; omega
          | true =>
            go_wp2_with fail
            obtain ⟨be0, bT0⟩ := aF4.out.tt
            refine (dist_ok _ bt mb c va vb vc _ n d HN.out.2.1 HQ.out.2.2.1 _ bT0).mono ?_
            rintro e bw0 ⟨⟨rfl, hT⟩, hg⟩
            have bF0 := Lib.hid (aF4.out.next hg hT)
            clear hT hg bT0
            go_wp2_with fail
            obtain ⟨be1, bT1⟩ := bF0.out.tt
            refine (dist_ok _ bt mb c va vb vc _ n p HN.out.2.1 HQ.out.2.2.2 _ bT1).mono ?_
            rintro e bw1 ⟨⟨rfl, hT⟩, hg⟩
            have bF1 := Lib.hid (bF0.out.next hg hT)
            clear hT hg bT1
            go_wp2_with fail
            obtain ⟨be2, bT2⟩ := bF1.out.tt
            refine (dist_ok _ bt mb c va vb vc _ p d (by simpa using HQ.out.2.1) HQ.out.2.2.1 _ bT2).mono ?_
            rintro e bw2 ⟨⟨rfl, hT⟩, hg⟩
            have bF2 := Lib.hid (bF1.out.next hg hT)
            clear hT hg bT2
            go_wp2_with fail
            refine (Sum_ok _ _ _).mono ?_
            rintro e bw3 ⟨rfl, hb⟩
            have bF3 := Lib.hid (bF2.out.next (grown_below'' hb (some mb)) (by obtain ⟨es0, h0⟩ := bF2.out.tt; exact ⟨es0, h0.below hb⟩))
            clear hb
            go_wp2_with fail
            refine (Less_ok _ _ _).mono ?_
            rintro e bw4 ⟨rfl, hb⟩
            have bF4 := Lib.hid (bF3.out.next (grown_below'' hb (some mb)) (by obtain ⟨es0, h0⟩ := bF3.out.tt; exact ⟨es0, h0.below hb⟩))
            clear hb
            by_cases hl2 : clp (dQ c n d) < clp (dsum (dQ c n p) (dQ c p d))
            · have g2 : decide (clp (dQ c n d) < clp (dsum (dQ c n p) (dQ c p d))) = true := by simp [hl2]
              have G2 := Lib.hid hl2
              simp only [g2]
              clear hl2
              obtain ⟨M, hM⟩ : ∃ M, M = maskF c d p true k := ⟨_, rfl⟩
              have ML := Lib.hid (show M < 2 ^ 128 by rw [hM]; exact maskF_lt (by have := HN.out.2.2.2; omega))
              have MS : Hid (maskF c d p true (k + 1) = putM M n) := Lib.hid (by rw [maskF_s HN.out.1, hM]; unfold fSt okF; simp [HE.out, G1.out, G2.out])
              have FF := bF4
              rw [← hM] at FF
              have KM := Lib.hid FF.out.k11
              clear hM
              go_wp2_with (refine wpList_loadL rfl 35 (.tmp 11) rfl (b10 + 1) 0 (mV M) rfl (cldM KM.out) ?_)
              refine (With_M ML.out HN.out.2.2.1 _).mono ?_
              rintro e w8 ⟨rfl, hb⟩
              have F8 := Lib.hid (FF.out.next (grown_below'' hb (some mb)) (by obtain ⟨es0, h0⟩ := FF.out.tt; exact ⟨es0, h0.below hb⟩))
              have K8 := Lib.hid F8.out.k11
              clear hb KM
              obtain ⟨M2, hM2⟩ : ∃ M2, M2 = putM M n := ⟨_, rfl⟩
              rw [← hM2] at MS ⊢
              clear hM2
              go_wp2_with (first | (refine wpList_storeN rfl 35 (.tmp 11) (.tmp 89) rfl rfl (b10 + 1) #[.int .u64 (loM M2), .int .u64 (hiM M2)] rfl rfl 35 _ K8.out cinfo25s rfl (by simp [Value.oneCell']) ?_; intro w9 hz9 hb9 hn9 hs9; have F9 := Lib.hid (F8.out.store (M' := M2) hz9 hb9 hn9); clear hz9 hb9 hn9 hs9))
              go_roundw
              case rel => exact ⟨k + 1, by have := HN.out.2.2.2; omega, by go_num, by rw [MS.out]; exact F9⟩
              case measure => have := HN.out.2.2.2; simp [intOf]; omega
            · have g2 : decide (clp (dQ c n d) < clp (dsum (dQ c n p) (dQ c p d))) = false := by simp [hl2]
              have G2 := Lib.hid hl2
              simp only [g2]
              clear hl2
              go_wp2_with fail
              go_roundw
              case rel => exact ⟨k + 1, by have := HN.out.2.2.2; omega, by go_num, Lib.hid (by rw [maskF_s HN.out.1, show fSt c d p true (maskF c d p true k) n = maskF c d p true k by unfold fSt okF; simp [HE.out, G1.out, G2.out]]; exact bF4.out)⟩
              case measure => have := HN.out.2.2.2; simp [intOf]; omega
        · have g1 : decide (clp (dQ c n d) < clp (dsum (dQ c n 1) (dQ c 1 d))) = false := by simp [hl1]
          have G1 := Lib.hid hl1
          simp only [g1]
          clear hl1
          go_wp2_with fail
          go_roundw
          case rel => exact ⟨k + 1, by have := HN.out.2.2.2; omega, by go_num, Lib.hid (by rw [maskF_s HN.out.1, show fSt c d p nd (maskF c d p nd k) n = maskF c d p nd k by unfold fSt okF; simp [HE.out, G1.out]]; exact aF4.out)⟩
          case measure => have := HN.out.2.2.2; simp [intOf]; omega
    · have hk9 : ¬ (k : Int) < 2 := by omega
      obtain rfl : k = 2 := by omega
      obtain ⟨es9, T9⟩ := hF.out.tt
      have K9 := Lib.hid hF.out.k11
      have HF := Lib.hid (And.intro T9 hF.out.ft)
      have K109 : Hid (wr.heap[b10]? = some (.cells #[.int .u64 0, .int .u64 0] 35 (0, 0))) := Lib.hid ((hF.out.ft.block b10 (Array.getElem?_eq_some_iff.1 K10b.out).1 (by omega) (by have := MB.out.1; have := SW.out.2; omega) (by simp)).trans K10b.out)
      obtain ⟨M, hM⟩ : ∃ M, M = maskF c d p nd 2 := ⟨_, rfl⟩
      rw [← hM] at K9
      have HMM := Lib.hid hM
      clear T9 hF hM hk
      go_wp2_with (first | (refine wpList_loadL rfl 35 (.tmp 11) rfl (b10 + 1) 0 (mV M) rfl (cldM K9.out) ?_) | (refine wpList_storeN rfl 35 (.tmp 10) (.tmp 92) rfl rfl b10 #[.int .u64 (loM M), .int .u64 (hiM M)] rfl rfl 35 _ K109.out cinfo25s rfl (by simp [Value.oneCell']) ?_; intro w9 hz9 hb9 hn9 hs9; have Z9 := Lib.hid hz9; have B9 := Lib.hid hb9; have N9 := Lib.hid hn9; clear hz9 hb9 hn9 hs9))
      refine bodyPost_ret (results_cell1 rfl rfl (cldM (M := M) Z9.out)) rfl ?_
      have h0 := B9.out 0 (Nat.zero_le _)
      have g9 : wr.grownBy w9 (some b10) := ⟨h0.os, h0.tape, h0.output, h0.size, fun k _ hn => N9.out k (fun e => hn (by rw [e]))⟩
      have e2 := SW.out.2
      have f2 := HF.out.2
      have z2 := (bthen BW.out B2.out).size
      refine ⟨⟨by rw [HMM.out], es9, (HF.out.1.st (.inl (.inr rfl)) g9).wk (fun g hg => .inl (.inl hg))⟩, ⟨h0.os.trans (f2.os.trans (bthen BW.out B2.out).os), h0.tape.trans (f2.tape.trans (bthen BW.out B2.out).tape), h0.output.trans (f2.output.trans (bthen BW.out B2.out).output), Nat.le_trans (Nat.le_trans z2 f2.size) h0.size, fun j hj hne => ?_⟩⟩
      exact (N9.out j (by omega)).trans ((f2.block j (by omega) (by omega) (fun e => hne (by rw [e])) (by simp)).trans ((bthen BW.out B2.out).block j hj))

end Go.Proofs.YtjbglifmppilfaaDoor
namespace Go.Proofs.YtjbglifmppilfaaDoor
open Go.ChangeShapes Go.WideShapes Go.ChangeAt Go.RowKit
set_option linter.unusedVariables false
set_option linter.unusedSimpArgs false
attribute [local go_sem] Og.Opt Og.OpY Oper.semAt_some

/-- what ask answers -/
def askM (c : Int) (d p : Nat) (nd : Bool) : Nat := if (gt (hU 1) d).testBit p = true then maskF c d p nd 2 else 0
def askE (d p : Nat) : Int := if (gt (hU 1) d).testBit p = true then 0 else 8
theorem nodeQ {a : Nat} (h : isQ a) : ∃ k : Nat, nsQ[k]? = some (⟨(a : Int)⟩ : Nd) := by
  rcases h with rfl | rfl | rfl | rfl
  · exact ⟨0, rfl⟩
  · exact ⟨1, rfl⟩
  · exact ⟨2, rfl⟩
  · exact ⟨3, rfl⟩
theorem below_of_g {w w' : World} {B mb : Nat} (h : w.grownBy w' (some mb)) (hm : B ≤ mb) (hB : B ≤ w.heap.size) : Below B w w' := ⟨h.os, h.tape, h.output, h.size, fun k hk => h.block k (by omega) (fun e => by have := Option.some.inj e; omega)⟩
/-- tables just made -/
theorem TT_new {w : World} {bt mb : Nat} {c : Int} {va vb vc : Value} (hb : w.heap[bt]? = some (.cells #[va, vb, vc, .map (some mb)] 70 (0, 0))) (hm : w.heap[mb]? = some (.map #[] 0)) (g : GX w va vb vc nsQ (lsQ c)) (tb : Tab w) (h1 : 1 ≤ c) (h2 : c ≤ 1000) : TT w (fun _ => False) bt mb c va vb vc [] :=
  ⟨hb, hm, fun x hx => by simp at hx, g, tb, h1, h2, fun g hg => hg.elim, fun g hg => hg.elim⟩
set_option maxRecDepth 100000 in
set_option maxHeartbeats 16000000 in
theorem ask_ok (c : Int) (h1 : 1 ≤ c) (h2 : c ≤ 1000) (va vb vc : Value) (d p : Nat) (nd : Bool) (hd : isQ d) (hp : isQ p) (w : World) (g : GX w va vb vc nsQ (lsQ c)) (tb : Tab w) :
    Calls Tryd.prog 25 #[.agg #[va, vb, vc], .int .i64 1, .int .i64 (d : Int), .int .i64 (p : Int), .bool nd] w fun e w' => e = .returned (.tuple #[mV (askM c d p nd), .int .i64 (askE d p)]) ∧ Below w.heap.size w w' := by
  have hmm := @run_makeMap Tryd.prog
  obtain ⟨A, ca, rfl, -⟩ := id g.sa
  obtain ⟨B, cb, rfl, -⟩ := id g.sb
  obtain ⟨C, cc, rfl, -⟩ := id g.sc
  obtain ⟨na, hna⟩ : ∃ n, n = nsQ.length := ⟨_, rfl⟩
  obtain ⟨nb, hnb⟩ : ∃ n, n = (lsQ c).length := ⟨_, rfl⟩
  obtain ⟨nc, hnc⟩ : ∃ n, n = ([] : List Pn).length := ⟨_, rfl⟩
  rw [← hna, ← hnb, ← hnc] at g ⊢
  have HG := Lib.hid g
  have HT := Lib.hid tb
  have HQ := Lib.hid (And.intro hd (And.intro hp (And.intro (isQ_lt hd) (And.intro (isQ_lt hp) (And.intro h1 h2)))))
  obtain ⟨b5, hb5⟩ : ∃ b, b = w.heap.size := ⟨_, rfl⟩
  clear g tb hd hp h1 h2 hna hnb hnc
  go_enter Tryd.func25, Tryd.ntmps25
  go_wp2_with fail
  obtain ⟨W, hW⟩ : ∃ W, W = ((w.alloc (Obj.cells #[.slice A na ca, .slice B nb cb, .slice C nc cc] 42)).alloc (Obj.cells #[.int .u64 0, .int .u64 0] 35)).alloc (Obj.cells #[.int .i64 1, .int .i64 (d : Int), .int .i64 (p : Int)] 3) := ⟨_, rfl⟩
  have b01 : Below w.heap.size w (w.alloc (Obj.cells #[.slice A na ca, .slice B nb cb, .slice C nc cc] 42)) := (Below.refl _ _).alloc (Nat.le_refl _) _
  have b02 : Below w.heap.size w ((w.alloc (Obj.cells #[.slice A na ca, .slice B nb cb, .slice C nc cc] 42)).alloc (Obj.cells #[.int .u64 0, .int .u64 0] 35)) := b01.alloc (by simp) _
  have BW := Lib.hid (show Below w.heap.size w W by rw [hW]; exact b02.alloc (by simp; omega) _)
  have K5 := Lib.hid (show W.heap[b5]? = some (.cells #[.slice A na ca, .slice B nb cb, .slice C nc cc] 42 (0, 0)) by rw [hW]; exact heap_keep ((Below.refl _ _).alloc (Nat.le_refl _) _) (heap_keep ((Below.refl _ _).alloc (Nat.le_refl _) _) (heap_at hb5)))
  have K6 := Lib.hid (show W.heap[b5 + 1]? = some (.cells #[.int .u64 0, .int .u64 0] 35 (0, 0)) by rw [hW]; exact heap_keep ((Below.refl _ _).alloc (Nat.le_refl _) _) (heap_at (by rw [hb5]; simp)))
  have K7 := Lib.hid (show W.heap[b5 + 2]? = some (.cells #[.int .i64 1, .int .i64 (d : Int), .int .i64 (p : Int)] 3 (0, 0)) by rw [hW]; exact heap_at (by rw [hb5]; simp))
  have SW := Lib.hid (show W.heap.size = b5 + 3 ∧ b5 = w.heap.size from ⟨by rw [hW, hb5]; simp, hb5⟩)
  have GW := Lib.hid (HG.out.below BW.out)
  rw [← hW, ← hb5]
  clear hW hb5 b01 b02
  go_loopw [12, 23] (fun u i wr => ∃ k : Nat, k ≤ 3 ∧ u = .int .i64 0 ∧ i = .int .i64 k ∧ Hid (Below W.heap.size W wr)) (fun _ i _ => 3 - (intOf i).toNat)
  case atStart => exact ⟨0, Nat.zero_le _, rfl, rfl, Lib.hid (Below.refl _ _)⟩
  case round =>
    obtain ⟨k, hk, rfl, rfl, hB⟩ := hrel
    have L42 := Lib.hid (run_loadL (cs := [.slice A na ca, .slice B nb cb, .slice C nc cc]) isAgg42t size42t rfl (AtL_heap (heap_keep hB.out K5.out)))
    by_cases hlt : k < 3
    · have hwk1 : IntKind.i64.wrap ((k : Int) + 1) = (k : Int) + 1 := by rw [IntKind.wrap_i64]; omega
      have hk0 : (0 : Int) ≤ (k : Int) := by omega
      have hk7 : (k : Int) < 3 := by omega
      obtain ⟨x, hx, hc⟩ : ∃ x : Nat, isQ x ∧ wr.cell? ⟨b5 + 2, k, none⟩ = some (.int .i64 (x : Int)) := by
        have e : wr.cell? ⟨b5 + 2, k, none⟩ = #[Value.int .i64 1, .int .i64 (d : Int), .int .i64 (p : Int)][k]? := cell_of_row wr _ k _ _ _ (heap_keep hB.out K7.out)
        rcases k with _ | _ | _ | k
        · exact ⟨1, .inl rfl, e⟩
        · exact ⟨d, HQ.out.1, e⟩
        · exact ⟨p, HQ.out.2.1, e⟩
        · omega
      obtain ⟨kx, hkx⟩ := nodeQ hx
      have NODE := Lib.hid (Node_ok (x : Int) kx nsQ (lsQ c) (.slice A na ca) (.slice B nb cb) (.slice C nc cc) wr (GW.out.below hB.out) hkx)
      have HK := Lib.hid hlt
      clear hx hkx hlt
      go_wp2_with (refine wpList_loadL rfl 42 (.tmp 5) rfl b5 0 (.agg #[.slice A na ca, .slice B nb cb, .slice C nc cc]) rfl L42.out ?_)
      refine NODE.out.mono ?_
      rintro e w3 ⟨rfl, hb3⟩
      have B3 := Lib.hid (bthen hB.out hb3)
      have ec : (cNd ⟨(x : Int)⟩).toArray = #[Value.int .i64 (x : Int), .bool false, .complex .f64 0 0] := rfl
      rw [ec]
      clear hb3 hB NODE hc L42 ec
      go_wp2_with (refine wpList_storeN rfl 53 (.tmp 15) (.tmp 31) rfl rfl w3.heap.size #[.int .i64 (x : Int), .bool false, .complex .f64 0 0] rfl rfl 53 _ (heap_at rfl) info41s rfl (by simp [Value.oneCell']) ?_; intro w4 hz hb hn hs; have B4 := Lib.hid (show Below w3.heap.size w3 w4 from ((Below.refl _ _).alloc (Nat.le_refl _) _).trans (hb _ (Nat.le_refl _))); clear hz hb hn hs)
      go_roundw
      case rel => exact ⟨k + 1, by have := HK.out; omega, rfl, by go_num, Lib.hid (bthen B3.out B4.out)⟩
      case measure => have := HK.out; simp [intOf]; omega
    · have hk9 : ¬ (k : Int) < 3 := by omega
      clear hlt hk
      obtain ⟨mb, hmb⟩ : ∃ b, b = wr.heap.size := ⟨_, rfl⟩
      go_wp2_with (refine wpList_loadL rfl 42 (.tmp 5) rfl b5 0 (.agg #[.slice A na ca, .slice B nb cb, .slice C nc cc]) rfl L42.out ?_)
      obtain ⟨wB, hwB⟩ : ∃ x, x = (wr.alloc (.map #[] 0)).alloc (Obj.cells #[.slice A na ca, .slice B nb cb, .slice C nc cc, .map (some mb)] 70) := ⟨_, rfl⟩
      have b1 : Below wr.heap.size wr (wr.alloc (.map #[] 0)) := (Below.refl _ _).alloc (Nat.le_refl _) _
      have b2 : Below (wr.alloc (.map #[] 0)).heap.size (wr.alloc (.map #[] 0)) wB := by rw [hwB]; exact (Below.refl _ _).alloc (Nat.le_refl _) _
      have BB := Lib.hid (bthen BW.out (bthen hB.out (bthen b1 b2)))
      have km : wB.heap[mb]? = some (.map #[] 0) := heap_keep b2 (heap_at hmb)
      have kt : wB.heap[mb + 1]? = some (.cells #[.slice A na ca, .slice B nb cb, .slice C nc cc, .map (some mb)] 70 (0, 0)) := by rw [hwB]; exact heap_at (by rw [hmb]; simp)
      have TTB := Lib.hid (TT_new kt km (HG.out.below BB.out) (HT.out.below BB.out HT.out.size) HQ.out.2.2.2.2.1 HQ.out.2.2.2.2.2)
      have K6B := Lib.hid (heap_keep (bthen hB.out (bthen b1 b2)) K6.out)
      have MB := Lib.hid (show w.heap.size ≤ mb ∧ b5 + 1 < mb ∧ mb < wB.heap.size from by have := hB.out.size; have := SW.out; have := (Array.getElem?_eq_some_iff.1 km).1; omega)
      rw [← hmb, ← hwB]
      clear hwB hmb b1 b2 km kt hB L42 hmm
      refine (tree_ok (fun _ => False) (mb + 1) mb c _ _ _ [] 1 (.inl rfl) wB TTB.out).mono ?_
      rintro e w6 ⟨⟨v, rfl, hF, es6, hT6⟩, hg6⟩
      have T6 := Lib.hid hT6
      have G6 := Lib.hid hg6
      have qq := qf (.inl rfl : isQ 1)
      obtain ⟨vD, vP, gH, rfl, r1, r2, -⟩ := id hF
      obtain ⟨AD, cD, rfl⟩ := own_small r1
      obtain ⟨AP, cP, rfl⟩ := own_small r2
      clear r1 r2
      obtain ⟨gH', eH, hat⟩ := FT_hop hF qq.hl HQ.out.2.2.1
      cases eH
      have LH := Lib.hid (loadAt_M hat)
      obtain ⟨X, hX⟩ : ∃ X, X = gt (hU 1) d := ⟨_, rfl⟩
      rw [← hX] at LH
      have HXX := Lib.hid (And.intro hX (show X < 2 ^ 128 by rw [hX]; exact gt_lt qq.hb d))
      have K66 : Hid (w6.heap[b5 + 1]? = some (.cells #[.int .u64 0, .int .u64 0] 35 (0, 0))) := Lib.hid ((hg6.block (b5 + 1) (Array.getElem?_eq_some_iff.1 K6B.out).1 (fun e => by have := Option.some.inj e; have := MB.out; omega)).trans K6B.out)
      have hfl := fld3 (.int .i64 (1 : Int)) (.slice AD 128 cD) (.slice AP 128 cP) (.slice (some ⟨gH, 0, none⟩) 128 128) w6
      have d0 : (0 : Int) ≤ (d : Int) := by omega
      have d1 : (d : Int) < 128 := by have := HQ.out.2.2.1; omega
      clear hF hT6 hg6 qq hat hX
      go_wp2_with (refine wpList_loadL rfl 35 (.tmp 60) rfl gH (d * 2) (mV X) rfl LH.out ?_)
      refine (Has_M HXX.out.2 HQ.out.2.2.2.1 _).mono ?_
      rintro e w7 ⟨rfl, hb7⟩
      have T7 := Lib.hid (T6.out.below hb7)
      have K67 := Lib.hid (heap_keep hb7 K66.out)
      have G7 := Lib.hid (gtr G6.out (grown_below'' hb7 _))
      clear hb7 hfl LH
      cases hbit : X.testBit p with
      | false =>
        have HB := Lib.hid hbit
        have EM : Hid (askM c d p nd = 0 ∧ askE d p = 8) := Lib.hid (by unfold askM askE; rw [← HXX.out.1, HB.out]; exact ⟨rfl, rfl⟩)
        clear hbit
        go_wp2_with (first | (refine wpList_storeN rfl 35 (.tmp 10) (.tmp 65) rfl rfl (b5 + 1) #[.int .u64 0, .int .u64 0] rfl rfl 35 _ K67.out cinfo25s rfl (by simp [Value.oneCell']) ?_; intro w9 hz9 hb9 hn9 hs9; have Z9 := Lib.hid hz9; have B9 := Lib.hid hb9; clear hz9 hb9 hn9 hs9))
        refine bodyPost_ret (results_cell_tmp1 rfl rfl (cldM (M := 0) Z9.out)) rfl ?_
        refine ⟨by rw [EM.out.1, EM.out.2]; rfl, ?_⟩
        have hm := MB.out
        have hs := SW.out
        exact (BB.out.trans (below_of_g G7.out hm.1 BB.out.size)).trans (B9.out _ (by omega))
      | true =>
        have HB := Lib.hid hbit
        have EM : Hid (askM c d p nd = maskF c d p nd 2 ∧ askE d p = 0) := Lib.hid (by unfold askM askE; rw [← HXX.out.1, HB.out]; exact ⟨rfl, rfl⟩)
        clear hbit
        go_wp2_with fail
        refine (find_ok _ (mb + 1) mb c _ _ _ es6 d p nd HQ.out.2.2.1 HQ.out.2.2.2.1 (fun _ => HQ.out.2.1) w7 T7.out).mono ?_
        rintro e w8 ⟨⟨rfl, -⟩, hg8⟩
        have G8 := Lib.hid (gtr G7.out hg8)
        have K68 : Hid (w8.heap[b5 + 1]? = some (.cells #[.int .u64 0, .int .u64 0] 35 (0, 0))) := Lib.hid ((hg8.block (b5 + 1) (Array.getElem?_eq_some_iff.1 K67.out).1 (fun e => by have := Option.some.inj e; have := MB.out; omega)).trans K67.out)
        obtain ⟨M, hM⟩ : ∃ M, M = maskF c d p nd 2 := ⟨_, rfl⟩
        have HMM := Lib.hid hM
        rw [← hM]
        clear hg8 hM
        go_wp2_with (first | (refine wpList_storeN rfl 35 (.tmp 10) (.tmp 71) rfl rfl (b5 + 1) #[.int .u64 (loM M), .int .u64 (hiM M)] rfl rfl 35 _ K68.out cinfo25s rfl (by simp [Value.oneCell']) ?_; intro w9 hz9 hb9 hn9 hs9; have Z9 := Lib.hid hz9; have B9 := Lib.hid hb9; clear hz9 hb9 hn9 hs9))
        refine bodyPost_ret (results_cell_tmp1 rfl rfl (cldM (M := M) Z9.out)) rfl ?_
        refine ⟨by rw [EM.out.1, EM.out.2, HMM.out]; rfl, ?_⟩
        have hm := MB.out
        have hs := SW.out
        exact (BB.out.trans (below_of_g G8.out hm.1 BB.out.size)).trans (B9.out _ (by omega))

end Go.Proofs.YtjbglifmppilfaaDoor
