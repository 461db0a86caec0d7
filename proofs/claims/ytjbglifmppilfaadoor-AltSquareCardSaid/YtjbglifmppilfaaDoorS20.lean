/- Alternates: Link and Node on the square; conditions as stated. Cover: one next hop of a destination; conditions as stated. Cover: the loop over the destinations; conditions as stated. Cover of node 1 on the square; conditions as stated. The square: the answers in numbers; plain; conditions as stated. awake: the fixed fact; conditions as stated. The square as the law makes it; conditions as stated. -/
import Derived.Test.YtjbglifmppilfaaDoorS19
import Derived.RangeFuncNested
import Derived.RangeFuncBound
import Derived.RangeFuncCalls
import Derived.RangeFuncLeaves
import Derived.Shelf.Abstract
import Derived.Shelf.RegionOpen
import Derived.WalkKit
import Derived.OwnWalkIn
import Derived.TacticsInMore
import Derived.LoopNIn
import Derived.LoopIn
import Derived.Test.YtjbglifmppilfaaDoorS12
import Derived.Test.YtjbglifmppilfaaDoorS13
import Derived.Test.YtjbglifmppilfaaDoorS17
import Derived.Sort.LoopGhostIn
import Derived.Test.YtjbglifmppilfaaDoorS18
namespace Go.Proofs.YtjbglifmppilfaaDoor
open Go.ChangeShapes Go.WideShapes Go.ChangeAt Go.RowKit
set_option linter.unusedVariables false
set_option linter.unusedSimpArgs false
attribute [local go_sem] Og.Opt Og.OpY Oper.semAt_some

set_option maxRecDepth 100000 in
set_option maxHeartbeats 8000000 in
theorem aLink_ok (c : Int) (h1 : 1 ≤ c) (h2 : c ≤ 1000) (va vb vc : Value) (d p : Nat) (hd : isQ d) (hp : isQ p) (w : World) (g : GX w va vb vc nsQ (lsQ c)) (tb : Tab w) :
    Calls Tryd.prog 13 #[.agg #[va, vb, vc], .int .i64 1, .int .i64 (d : Int), .int .i64 (p : Int)] w fun e w' => e = .returned (.tuple #[mV (askM c d p false), .int .i64 (askE d p)]) ∧ Below w.heap.size w w' := by
  obtain ⟨A, ca, rfl, -⟩ := id g.sa
  obtain ⟨B, cb, rfl, -⟩ := id g.sb
  obtain ⟨C, cc, rfl, -⟩ := id g.sc
  obtain ⟨na, hna⟩ : ∃ n, n = nsQ.length := ⟨_, rfl⟩
  obtain ⟨nb, hnb⟩ : ∃ n, n = (lsQ c).length := ⟨_, rfl⟩
  obtain ⟨nc, hnc⟩ : ∃ n, n = ([] : List Pn).length := ⟨_, rfl⟩
  rw [← hna, ← hnb, ← hnc] at g ⊢
  have ASK := Lib.hid (fun X (hb : Below w.heap.size w X) => ask_ok c h1 h2 _ _ _ d p false hd hp X (g.below hb) (tb.below hb tb.size))
  clear g tb hd hp h1 h2 hna hnb hnc
  obtain ⟨W, hW⟩ : ∃ W, W = ((w.alloc (Obj.cells #[.slice A na ca, .slice B nb cb, .slice C nc cc] 42)).alloc (Obj.cells #[.int .u64 0, .int .u64 0] 35)) := ⟨_, rfl⟩
  have b01 : Below w.heap.size w (w.alloc (Obj.cells #[.slice A na ca, .slice B nb cb, .slice C nc cc] 42)) := (Below.refl _ _).alloc (Nat.le_refl _) _
  have BW := Lib.hid (show Below w.heap.size w W by rw [hW]; exact b01.alloc (by simp) _)
  have K4 := Lib.hid (show W.heap[w.heap.size]? = some (.cells #[.slice A na ca, .slice B nb cb, .slice C nc cc] 42 (0, 0)) by rw [hW]; exact heap_keep ((Below.refl _ _).alloc (Nat.le_refl _) _) (heap_at rfl))
  have K8 := Lib.hid (show W.heap[w.heap.size + 1]? = some (.cells #[.int .u64 0, .int .u64 0] 35 (0, 0)) by rw [hW]; exact heap_at (by simp))
  have L42 := Lib.hid (run_loadL (cs := [.slice A na ca, .slice B nb cb, .slice C nc cc]) isAgg42t size42t rfl (AtL_heap K4.out))
  go_enter Tryd.func13, Tryd.ntmps13
  go_wp2_with (refine wpList_loadL rfl 42 (.tmp 4) rfl w.heap.size 0 (.agg #[.slice A na ca, .slice B nb cb, .slice C nc cc]) rfl (by rw [← hW]; exact L42.out) ?_)
  rw [← hW]
  clear hW b01
  refine (ASK.out W BW.out).mono ?_
  rintro e w2 ⟨rfl, hb⟩
  have B2 := Lib.hid (bthen BW.out hb)
  have K82 := Lib.hid (heap_keep hb K8.out)
  obtain ⟨M, hM⟩ : ∃ M, M = askM c d p false := ⟨_, rfl⟩
  have HMM := Lib.hid hM
  rw [← hM]
  clear hM hb ASK
  go_wp2_with (refine wpList_storeN rfl 35 (.tmp 8) (.tmp 15) rfl rfl (w.heap.size + 1) #[.int .u64 (loM M), .int .u64 (hiM M)] rfl rfl 35 _ K82.out cinfo25s rfl (by simp [Value.oneCell']) ?_; intro w9 hz9 hb9 hn9 hs9; have Z9 := Lib.hid hz9; have B9 := Lib.hid hb9; clear hz9 hb9 hn9 hs9)
  refine bodyPost_ret (results_cell_tmp1 rfl rfl (cldM (M := M) Z9.out)) rfl ?_
  exact ⟨by rw [HMM.out]; rfl, B2.out.trans (B9.out _ (by omega))⟩

set_option maxRecDepth 100000 in
set_option maxHeartbeats 8000000 in
theorem aNode_ok (c : Int) (h1 : 1 ≤ c) (h2 : c ≤ 1000) (va vb vc : Value) (d p : Nat) (hd : isQ d) (hp : isQ p) (w : World) (g : GX w va vb vc nsQ (lsQ c)) (tb : Tab w) :
    Calls Tryd.prog 14 #[.agg #[va, vb, vc], .int .i64 1, .int .i64 (d : Int), .int .i64 (p : Int)] w fun e w' => e = .returned (.tuple #[mV (askM c d p true), .int .i64 (askE d p)]) ∧ Below w.heap.size w w' := by
  obtain ⟨A, ca, rfl, -⟩ := id g.sa
  obtain ⟨B, cb, rfl, -⟩ := id g.sb
  obtain ⟨C, cc, rfl, -⟩ := id g.sc
  obtain ⟨na, hna⟩ : ∃ n, n = nsQ.length := ⟨_, rfl⟩
  obtain ⟨nb, hnb⟩ : ∃ n, n = (lsQ c).length := ⟨_, rfl⟩
  obtain ⟨nc, hnc⟩ : ∃ n, n = ([] : List Pn).length := ⟨_, rfl⟩
  rw [← hna, ← hnb, ← hnc] at g ⊢
  have ASK := Lib.hid (fun X (hb : Below w.heap.size w X) => ask_ok c h1 h2 _ _ _ d p true hd hp X (g.below hb) (tb.below hb tb.size))
  clear g tb hd hp h1 h2 hna hnb hnc
  obtain ⟨W, hW⟩ : ∃ W, W = ((w.alloc (Obj.cells #[.slice A na ca, .slice B nb cb, .slice C nc cc] 42)).alloc (Obj.cells #[.int .u64 0, .int .u64 0] 35)) := ⟨_, rfl⟩
  have b01 : Below w.heap.size w (w.alloc (Obj.cells #[.slice A na ca, .slice B nb cb, .slice C nc cc] 42)) := (Below.refl _ _).alloc (Nat.le_refl _) _
  have BW := Lib.hid (show Below w.heap.size w W by rw [hW]; exact b01.alloc (by simp) _)
  have K4 := Lib.hid (show W.heap[w.heap.size]? = some (.cells #[.slice A na ca, .slice B nb cb, .slice C nc cc] 42 (0, 0)) by rw [hW]; exact heap_keep ((Below.refl _ _).alloc (Nat.le_refl _) _) (heap_at rfl))
  have K8 := Lib.hid (show W.heap[w.heap.size + 1]? = some (.cells #[.int .u64 0, .int .u64 0] 35 (0, 0)) by rw [hW]; exact heap_at (by simp))
  have L42 := Lib.hid (run_loadL (cs := [.slice A na ca, .slice B nb cb, .slice C nc cc]) isAgg42t size42t rfl (AtL_heap K4.out))
  go_enter Tryd.func14, Tryd.ntmps14
  go_wp2_with (refine wpList_loadL rfl 42 (.tmp 4) rfl w.heap.size 0 (.agg #[.slice A na ca, .slice B nb cb, .slice C nc cc]) rfl (by rw [← hW]; exact L42.out) ?_)
  rw [← hW]
  clear hW b01
  refine (ASK.out W BW.out).mono ?_
  rintro e w2 ⟨rfl, hb⟩
  have B2 := Lib.hid (bthen BW.out hb)
  have K82 := Lib.hid (heap_keep hb K8.out)
  obtain ⟨M, hM⟩ : ∃ M, M = askM c d p true := ⟨_, rfl⟩
  have HMM := Lib.hid hM
  rw [← hM]
  clear hM hb ASK
  go_wp2_with (refine wpList_storeN rfl 35 (.tmp 8) (.tmp 15) rfl rfl (w.heap.size + 1) #[.int .u64 (loM M), .int .u64 (hiM M)] rfl rfl 35 _ K82.out cinfo25s rfl (by simp [Value.oneCell']) ?_; intro w9 hz9 hb9 hn9 hs9; have Z9 := Lib.hid hz9; have B9 := Lib.hid hb9; clear hz9 hb9 hn9 hs9)
  refine bodyPost_ret (results_cell_tmp1 rfl rfl (cldM (M := M) Z9.out)) rfl ?_
  exact ⟨by rw [HMM.out]; rfl, B2.out.trans (B9.out _ (by omega))⟩

end Go.Proofs.YtjbglifmppilfaaDoor
namespace Go.Proofs.YtjbglifmppilfaaDoor
open Go.ChangeShapes Go.WideShapes Go.ChangeAt Go.RowKit
set_option linter.unusedVariables false
set_option linter.unusedSimpArgs false
attribute [local go_sem] Og.Opt Og.OpY Oper.semAt_some

noncomputable def body15 : Code := match Tryd.f15.body with | some c => c | none => .skip
noncomputable def tail15 : Code := sub2 (sub2 (sub2 body15))
noncomputable def rbody15 : Code := sub3 (sub1 (sub2 (sub2 (sub1 (sub1 (sub2 (sub2 (sub1 (sub1 (sub2 (sub1 tail15)))))))))))
theorem eqMz (M : Nat) (w : World) : (Op.equalIn 10000 35 (.agg #[.int .u64 (loM M), .int .u64 (hiM M)]) (.agg #[.int .u64 0, .int .u64 0])).run Tryd.prog w = .ok (decide (M = 0)) w := by
  have := eqM M 0 w
  unfold Op.equal Op.maxDepth at this
  exact this
/-- what lies as it lay, but for three blocks -/
structure KR (b4 b5 mb : Nat) (w w' : World) : Prop where
  os : w'.os = w.os
  tape : w'.tape = w.tape
  output : w'.output = w.output
  size : w.heap.size ≤ w'.heap.size
  blk : ∀ k, k < w.heap.size → k ≠ b4 → k ≠ b5 → k ≠ mb → w'.heap[k]? = w.heap[k]?
section
variable {b4 b5 mb : Nat} {w w' w'' : World}
theorem KR.refl (w : World) : KR b4 b5 mb w w := ⟨rfl, rfl, rfl, Nat.le_refl _, fun _ _ _ _ _ => rfl⟩
theorem KR.trans (h : KR b4 b5 mb w w') (k : KR b4 b5 mb w' w'') : KR b4 b5 mb w w'' := ⟨k.os.trans h.os, k.tape.trans h.tape, k.output.trans h.output, Nat.le_trans h.size k.size, fun j hj h1 h2 h3 => (k.blk j (Nat.lt_of_lt_of_le hj h.size) h1 h2 h3).trans (h.blk j hj h1 h2 h3)⟩
theorem KR.of_g {r : Option Nat} (h : w.grownBy w' r) (hr : ∀ k, r = some k → k = b4 ∨ k = b5 ∨ k = mb) : KR b4 b5 mb w w' := ⟨h.os, h.tape, h.output, h.size, fun k hk h1 h2 h3 => h.block k hk (fun e => by rcases hr k e.symm with e | e | e <;> contradiction)⟩
theorem KR.below {B : Nat} (h : KR b4 b5 mb w w') (hB : B ≤ w.heap.size) (h1 : B ≤ b4) (h2 : B ≤ b5) (h3 : B ≤ mb) : Below B w w' := ⟨h.os, h.tape, h.output, h.size, fun k hk => h.blk k (by omega) (by omega) (by omega) (by omega)⟩
end
/-- the counters and the tables -/
structure CV (W : World) (bt mb b4 b5 : Nat) (c : Int) (va vb vc : Value) (al he : Nat) : Prop where
  tt : ∃ es, TT W (fun g => g = b4 ∨ g = b5) bt mb c va vb vc es
  k4 : W.heap[b4]? = some (.cells #[.int .i64 (al : Int)] 3 (0, 0))
  k5 : W.heap[b5]? = some (.cells #[.int .i64 (he : Int)] 3 (0, 0))
  n45 : b4 ≠ b5
section
variable {W W' : World} {bt mb b4 b5 : Nat} {c : Int} {va vb vc : Value} {al he : Nat}
theorem CV.below (h : CV W bt mb b4 b5 c va vb vc al he) (hb : Below W.heap.size W W') : CV W' bt mb b4 b5 c va vb vc al he := by
  obtain ⟨es, ht⟩ := h.tt
  exact ⟨⟨es, ht.below hb⟩, heap_keep hb h.k4, heap_keep hb h.k5, h.n45⟩
theorem CV.nmb (h : CV W bt mb b4 b5 c va vb vc al he) : b4 ≠ mb ∧ b5 ≠ mb := by
  obtain ⟨es, ht⟩ := h.tt
  exact ⟨(ht.an b4 (.inl rfl)).2.2.2.2, (ht.an b5 (.inr rfl)).2.2.2.2⟩
theorem CV.call (h : CV W bt mb b4 b5 c va vb vc al he) (hg : W.grownBy W' (some mb)) (ht : ∃ es, TT W' (fun g => g = b4 ∨ g = b5) bt mb c va vb vc es) : CV W' bt mb b4 b5 c va vb vc al he := by
  have n := h.nmb
  exact ⟨ht, (hg.block b4 (Array.getElem?_eq_some_iff.1 h.k4).1 (fun e => n.1 (Option.some.inj e))).trans h.k4, (hg.block b5 (Array.getElem?_eq_some_iff.1 h.k5).1 (fun e => n.2 (Option.some.inj e))).trans h.k5, h.n45⟩
theorem CV.s4 (h : CV W bt mb b4 b5 c va vb vc al he) (x : Nat) : ∃ W', (storeVar 3 ⟨b4, 0, none⟩ (.int .i64 (x : Int))).run Tryd.prog W = .ok () W' ∧ CV W' bt mb b4 b5 c va vb vc x he ∧ W.grownBy W' (some b4) := by
  obtain ⟨w6, r6, k6, s6, n6, b6⟩ := run_store1 (cur := [.int .i64 (al : Int)]) (k := 0) (ty := 3) (.int .i64 (x : Int)) rfl rfl size3 h.k4 (by simp)
  have b := b6 0 (Nat.zero_le _)
  have hg : W.grownBy w6 (some b4) := ⟨b.os, b.tape, b.output, b.size, fun k _ hne => n6 k (fun e => hne (by rw [e]))⟩
  obtain ⟨es, ht⟩ := h.tt
  exact ⟨w6, r6, ⟨⟨es, ht.st (.inl rfl) hg⟩, k6, (n6 b5 (Ne.symm h.n45)).trans h.k5, h.n45⟩, hg⟩
theorem CV.s5 (h : CV W bt mb b4 b5 c va vb vc al he) (x : Nat) : ∃ W', (storeVar 3 ⟨b5, 0, none⟩ (.int .i64 (x : Int))).run Tryd.prog W = .ok () W' ∧ CV W' bt mb b4 b5 c va vb vc al x ∧ W.grownBy W' (some b5) := by
  obtain ⟨w6, r6, k6, s6, n6, b6⟩ := run_store1 (cur := [.int .i64 (he : Int)]) (k := 0) (ty := 3) (.int .i64 (x : Int)) rfl rfl size3 h.k5 (by simp)
  have b := b6 0 (Nat.zero_le _)
  have hg : W.grownBy w6 (some b5) := ⟨b.os, b.tape, b.output, b.size, fun k _ hne => n6 k (fun e => hne (by rw [e]))⟩
  obtain ⟨es, ht⟩ := h.tt
  exact ⟨w6, r6, ⟨⟨es, ht.st (.inr rfl) hg⟩, (n6 b4 h.n45).trans h.k4, k6, h.n45⟩, hg⟩
end
/-- the marks and records of a range leave the tables -/
theorem cell_non {w : World} {r : Nat} {o : Obj} (h : w.heap[r]? = some o) (ho : o.isCells = false) {a : Addr} {v : Value} (hc : w.cell? a = some v) : a.block ≠ r := fun e => by
  obtain ⟨b, of, s⟩ := a
  simp only at e
  subst e
  cases o <;> simp_all [World.cell?, Obj.isCells]
theorem keep_non {w w' : World} {row : Option Nat} (hg : w.grownBy w' row) (hr : ∀ r, row = some r → ∃ o : Obj, w.heap[r]? = some o ∧ o.isCells = false) {k : Nat} {a : Array Value} {t : TypeId} {f : Nat × Nat} (hk : w.heap[k]? = some (.cells a t f)) : w'.heap[k]? = some (.cells a t f) :=
  (hg.block k (Array.getElem?_eq_some_iff.1 hk).1 (fun e => by obtain ⟨o, h1, h2⟩ := hr k e.symm; rw [hk] at h1; cases h1; cases h2)).trans hk
theorem own_non {w w' : World} {row : Option Nat} {B ty m n : Nat} {v : Value} {xs : List Value} (hg : w.grownBy w' row) (hr : ∀ r, row = some r → ∃ o : Obj, w.heap[r]? = some o ∧ o.isCells = false) (ho : w.ownsRow B ty m v n xs) : w'.ownsRow B ty m v n xs := by
  cases hv : v.ownBlock with
  | none => exact ho.kept hg (.inl hv)
  | some k =>
    refine ho.kept hg (.inr (fun e => ?_))
    obtain ⟨o, h1, h2⟩ := hr k (by rw [← e, hv])
    obtain ⟨a, ha⟩ := own_block ho hv
    rw [h1] at ha
    cases ha
    cases h2
theorem cell_keep {w w' : World} {row : Option Nat} (hg : w.grownBy w' row) (hr : ∀ r, row = some r → ∃ o : Obj, w.heap[r]? = some o ∧ o.isCells = false) {a : Addr} {v : Value} (hc : w.cell? a = some v) : w'.cell? a = some v :=
  (World.cell?_of_block (hg.block _ (World.block_lt_of_cell? w _ hc) (fun e => by obtain ⟨o, h1, h2⟩ := hr _ e.symm; exact cell_non h1 h2 hc rfl))).trans hc
theorem Sl_non {α : Type} {f : α → List Value} {m B : Nat} {w w' : World} {row : Option Nat} {v : Value} {xs : List α} (hg : w.grownBy w' row) (hr : ∀ r, row = some r → ∃ o : Obj, w.heap[r]? = some o ∧ o.isCells = false) (h : Sl f m B w v xs) : Sl f m B w' v xs := by
  obtain ⟨A, c, h1, h2, h3⟩ := h
  refine ⟨A, c, h1, fun i x hi => ?_, h3⟩
  obtain ⟨b, o, h4, h5⟩ := h2 i x hi
  exact ⟨b, o, h4, fun j v hv => cell_keep hg hr (h5 j v hv)⟩
theorem FT_non {z a : Nat} {ds : List Int} {ps hs : List Nat} {v : Value} {w w' : World} {row : Option Nat} (hg : w.grownBy w' row) (hr : ∀ r, row = some r → ∃ o : Obj, w.heap[r]? = some o ∧ o.isCells = false) (h : FT z a ds ps hs v w) : FT z a ds ps hs v w' := by
  obtain ⟨vD, vP, gH, h1, h2, h3, h4, h5, h6⟩ := h
  exact ⟨vD, vP, gH, h1, own_non hg hr h2, own_non hg hr h3, h4, keep_non hg hr h5, h6⟩
theorem TT.non {w w' : World} {N : Nat → Prop} {bt mb : Nat} {c : Int} {va vb vc : Value} {es : List (Nat × Value)} {row : Option Nat} (h : TT w N bt mb c va vb vc es) (hg : w.grownBy w' row) (hr : ∀ r, row = some r → ∃ o : Obj, w.heap[r]? = some o ∧ o.isCells = false) (hm : ∀ r, row = some r → r ≠ mb) : TT w' N bt mb c va vb vc es :=
  ⟨keep_non hg hr h.blk, (hg.block mb (Array.getElem?_eq_some_iff.1 h.map).1 (fun e => hm mb e.symm rfl)).trans h.map, fun x hx => ⟨(h.ent x hx).1, FT_non hg hr (h.ent x hx).2.1, (h.ent x hx).2.2⟩, ⟨Sl_non hg hr h.gx.sa, Sl_non hg hr h.gx.sb, Sl_non hg hr h.gx.sc, h.gx.snd, h.gx.len⟩, fun i hi => cell_keep hg hr (h.tb i hi), h.c1, h.c2, fun g hgn => Nat.lt_of_lt_of_le (h.nl g hgn) hg.size, h.an⟩
theorem CV.non {w w' : World} {bt mb b4 b5 : Nat} {c : Int} {va vb vc : Value} {al he : Nat} {row : Option Nat} (h : CV w bt mb b4 b5 c va vb vc al he) (hg : w.grownBy w' row) (hr : ∀ r, row = some r → ∃ o : Obj, w.heap[r]? = some o ∧ o.isCells = false) (hm : ∀ r, row = some r → r ≠ mb) : CV w' bt mb b4 b5 c va vb vc al he := by
  obtain ⟨es, ht⟩ := h.tt
  exact ⟨⟨es, ht.non hg hr hm⟩, keep_non hg hr h.k4, keep_non hg hr h.k5, h.n45⟩
theorem KR.non {wz w w' : World} {b4 b5 mb : Nat} {row : Option Nat} (h : KR b4 b5 mb wz w) (hg : w.grownBy w' row) (hr : ∀ r, row = some r → wz.heap.size ≤ r) : KR b4 b5 mb wz w' :=
  ⟨hg.os.trans h.os, hg.tape.trans h.tape, hg.output.trans h.output, Nat.le_trans h.size hg.size, fun k hk h1 h2 h3 => (hg.block k (Nat.lt_of_lt_of_le hk h.size) (fun e => by have := hr k e.symm; omega)).trans (h.blk k hk h1 h2 h3)⟩
theorem gcell {w w' : World} {g : Nat} (h : w.grownBy w' (some g)) {a : Addr} {v : Value} (hc : w.cell? a = some v) (hne : a.block ≠ g) : w'.cell? a = some v := (World.cell?_of_block (h.block a.block (World.block_lt_of_cell? w a hc) (fun e => hne (Option.some.inj e)))).trans hc
def hitN (c : Int) (v p : Nat) : Nat := if maskF c v p false 2 = 0 then 0 else 1
set_option maxRecDepth 100000 in
set_option maxHeartbeats 16000000 in
theorem covRound (Q : Exit → Act → World → Prop) (N l : Nat) (W : World) (bt mb b2 b3 b4 b5 b9 b10 : Nat) (c : Int) (va vb vc : Value) (al he v p : Nat) (t0 t1 t6 t7 t8 t11 t13 t14 t15 t16 t17 t18 t19 t20 t21 t22 t23 t24 t25 t26 t27 t28 t29 t30 t31 t32 t33 t34 t35 t36 t37 t38 t39 t40 t41 t42 t43 t44 t45 t46 t47 t48 t49 t50 t51 t52 : Value)
    (F : Hid (CV W bt mb b4 b5 c va vb vc al he)) (q3 : W.cell? ⟨b3, 0, none⟩ = some (.int .i64 1)) (q9 : W.cell? ⟨b9, 0, none⟩ = some (.pointer (some ⟨bt, 0, none⟩))) (q10 : W.cell? ⟨b10, 0, none⟩ = some (.int .i64 (v : Int)))
    (hb3 : b3 ≠ b4 ∧ b3 ≠ b5 ∧ b3 ≠ mb) (hb9 : b9 ≠ b4 ∧ b9 ≠ b5 ∧ b9 ≠ mb) (hb10 : b10 ≠ b4 ∧ b10 ≠ b5 ∧ b10 ≠ mb) (hv : v < 128) (hp : p < 128) (hal : al ≤ 100000) (hhe : he ≤ 100000)
    (hN : Hid (∀ a' W', CV W' bt mb b4 b5 c va vb vc (al + 1) (he + hitN c v p) → KR b4 b5 mb W W' → Q .normal a' W')) :
    rbody15.wpIn (Fence.wide.inRound l) N Tryd.prog Q { tmps := #[t0, t1, .pointer (some ⟨b2, 0, none⟩), .pointer (some ⟨b3, 0, none⟩), .pointer (some ⟨b4, 0, none⟩), .pointer (some ⟨b5, 0, none⟩), t6, t7, t8, .pointer (some ⟨b9, 0, none⟩), .pointer (some ⟨b10, 0, none⟩), t11, .int .i64 (p : Int), t13, t14, t15, t16, t17, t18, t19, t20, t21, t22, t23, t24, t25, t26, t27, t28, t29, t30, t31, t32, t33, t34, t35, t36, t37, t38, t39, t40, t41, t42, t43, t44, t45, t46, t47, t48, t49, t50, t51, t52], defers := [] } W := by
  have hw1 : IntKind.i64.wrap ((al : Int) + 1) = (al : Int) + 1 := by rw [IntKind.wrap_i64]; omega
  have hw2 : IntKind.i64.wrap ((he : Int) + 1) = (he : Int) + 1 := by rw [IntKind.wrap_i64]; omega
  obtain ⟨w4, r4, F4, g4⟩ := F.out.s4 (al + 1)
  have e4 : ((al + 1 : Nat) : Int) = (al : Int) + 1 := by omega
  rw [e4] at r4
  have R4 := Lib.hid r4
  have HF4 := Lib.hid F4
  have KR4 := Lib.hid (KR.of_g (mb := mb) (b5 := b5) g4 (fun k e => .inl (Option.some.inj e).symm))
  have c4 : W.cell? ⟨b4, 0, none⟩ = some (.int .i64 (al : Int)) := by rw [cell_of_row W _ 0 _ _ _ F.out.k4]; rfl
  have n3 : w4.cell? ⟨b3, 0, none⟩ = some (.int .i64 1) := gcell g4 q3 hb3.1
  have n9 : w4.cell? ⟨b9, 0, none⟩ = some (.pointer (some ⟨bt, 0, none⟩)) := gcell g4 q9 hb9.1
  have n10 : w4.cell? ⟨b10, 0, none⟩ = some (.int .i64 (v : Int)) := gcell g4 q10 hb10.1
  have HV := Lib.hid (And.intro hv hp)
  obtain ⟨M, hM⟩ : ∃ M, M = maskF c v p false 2 := ⟨_, rfl⟩
  have HM := Lib.hid hM
  clear F r4 F4 g4 e4 q3 q9 q10 hb3 hb9 hb10 hv hp hal hhe hM
  simp only [rbody15, tail15, body15, Tryd.f15, sub1, sub2, sub3]
  gi_wp2_with (refine wpListIn_storeW rfl 3 (.tmp 4) (.tmp 40) rfl rfl b4 0 (.int .i64 ((al : Int) + 1)) rfl rfl R4.out ?_)
  obtain ⟨es, ht⟩ := HF4.out.tt
  refine ⟨trivial, fun h => (by cases h), CallsIn.mono (Og.callsIn_round (find_ok _ bt mb c va vb vc es v p false HV.out.1 HV.out.2 (fun h => by cases h) w4 ht)) ?_⟩
  rintro e w5 ⟨⟨rfl, ht5⟩, hg5⟩
  have F5 := Lib.hid (HF4.out.call hg5 ht5)
  have KR5 := Lib.hid (KR4.out.trans (KR.of_g (b4 := b4) (b5 := b5) hg5 (fun k e => .inr (.inr (Option.some.inj e).symm))))
  rw [← HM.out]
  have he0 := eqMz M w5
  clear ht ht5 hg5 n3 n9 n10 c4 R4
  unfold mV
  by_cases hz : M = 0
  · have HZ := Lib.hid hz
    have hd : decide (M = 0) = true := by simp [hz]
    rw [hd] at he0
    clear hz hd
    gi_wp2_with fail
    try simp only [Exit.then, Exit.inBlock]
    refine hN.out _ _ ?_ KR5.out
    have : hitN c v p = 0 := by unfold hitN; rw [if_pos (by rw [← HM.out]; exact HZ.out)]
    rw [this]
    exact F5.out
  · have HZ := Lib.hid hz
    have hd : decide (M = 0) = false := by simp [hz]
    rw [hd] at he0
    obtain ⟨w6, r6, F6, g6⟩ := F5.out.s5 (he + 1)
    have e6 : ((he + 1 : Nat) : Int) = (he : Int) + 1 := by omega
    rw [e6] at r6
    have R6 := Lib.hid r6
    have HF6 := Lib.hid F6
    have KR6 := Lib.hid (KR5.out.trans (KR.of_g (mb := mb) (b4 := b4) g6 (fun k e => .inr (.inl (Option.some.inj e).symm))))
    have c5 : w5.cell? ⟨b5, 0, none⟩ = some (.int .i64 (he : Int)) := by rw [cell_of_row w5 _ 0 _ _ _ F5.out.k5]; rfl
    clear hz hd r6 F6 g6 e6
    gi_wp2_with (refine wpListIn_storeW rfl 3 (.tmp 5) (.tmp 49) rfl rfl b5 0 (.int .i64 ((he : Int) + 1)) rfl rfl R6.out ?_)
    try simp only [Exit.then, Exit.inBlock]
    refine hN.out _ _ ?_ KR6.out
    have : hitN c v p = 1 := by unfold hitN; rw [if_neg (by rw [← HM.out]; exact HZ.out)]
    rw [this]
    exact HF6.out

end Go.Proofs.YtjbglifmppilfaaDoor
namespace Go.Proofs.YtjbglifmppilfaaDoor
open Go.ChangeShapes Go.WideShapes Go.ChangeAt Go.RowKit
set_option linter.unusedVariables false
set_option linter.unusedSimpArgs false
attribute [local go_sem] Og.Opt Og.OpY Oper.semAt_some

def allN : Nat → Nat
  | 0 => 0
  | k + 1 => allN k + (elM (gt (hU 1) k)).length
def hitL (c : Int) (v : Nat) (l : List (Fin 128)) : Nat := l.foldl (fun n p => n + hitN c v p.val) 0
def helN (c : Int) : Nat → Nat
  | 0 => 0
  | k + 1 => helN c k + hitL c k (elM (gt (hU 1) k))
theorem hitL_s (c : Int) (v : Nat) (l : List (Fin 128)) (p : Fin 128) : hitL c v (l ++ [p]) = hitL c v l + hitN c v p.val := by
  unfold hitL
  rw [List.foldl_append]
  rfl
theorem hitN_le (c : Int) (v p : Nat) : hitN c v p ≤ 1 := by unfold hitN; split <;> omega
theorem hitL_le (c : Int) (v : Nat) (l : List (Fin 128)) : hitL c v l ≤ l.length := by
  have key : ∀ (l : List (Fin 128)) (n : Nat), l.foldl (fun n p => n + hitN c v p.val) n ≤ n + l.length := by
    intro l
    induction l with
    | nil => intro n; simp
    | cons x l ih => intro n; rw [List.foldl_cons, List.length_cons]; have := ih (n + hitN c v x.val); have := hitN_le c v x.val; omega
  have := key l 0
  unfold hitL
  omega
theorem elM_len (M : Nat) : (elM M).length ≤ 128 := by
  unfold elM
  exact Nat.le_trans (List.length_filter_le ..) (by simp)
theorem allN_le : ∀ k, allN k ≤ 128 * k
  | 0 => Nat.le_refl _
  | k + 1 => by rw [allN]; have := allN_le k; have := elM_len (gt (hU 1) k); omega
theorem helN_le (c : Int) : ∀ k, helN c k ≤ 128 * k
  | 0 => Nat.le_refl _
  | k + 1 => by rw [helN]; have := helN_le c k; have := hitL_le c k (elM (gt (hU 1) k)); have := elM_len (gt (hU 1) k); omega
theorem results_3 {fn : Func} {p q u : Tmp} {ty tz : TypeId} {tmps : Array Value} {P : Program} {w : World} {a b : Addr} {v v' : Value} (h : fn.results = #[.cell p ty, .cell q tz, .tmp u]) (ha : tmps.getD p undef = .pointer (some a)) (hb : tmps.getD q undef = .pointer (some b)) (hr : (loadVar ty a).run P w = .ok v w) (hr2 : (loadVar tz b).run P w = .ok v' w) :
    (results fn tmps).run P w = .ok (.tuple #[v, v', tmps.getD u undef]) w := by
  have e : ∀ a : Addr, (asAddr (.pointer (some a))).run P w = .ok a w := fun _ => rfl
  simp only [results, h]
  simp [ha, hb, e, hr, hr2, Sem.run_bind, Result.andThen, -Array.getD_eq_getD_getElem?]
theorem nagg3c (w : World) : (isAgg 3).run Tryd.prog w = .ok false w := by kernel_rfl
set_option maxRecDepth 100000 in
set_option maxHeartbeats 16000000 in
theorem covB (R : Ending → World → Prop) (N : Nat) (hN : 8 ≤ N) (wz : World) (bt mb b2 b3 b4 b5 b9 : Nat) (c : Int) (va vb vc : Value) (t0 t1 t7 t8 t10 t11 t12 t13 t14 t15 t16 t17 t18 t19 t20 t21 t22 t23 t24 t25 t26 t27 t28 t29 t30 t31 t32 t33 t34 t35 t36 t37 t38 t39 t40 t41 t42 t43 t44 t45 t46 t47 t48 t49 t50 t51 t52 : Value)
    (C : Hid (CV wz bt mb b4 b5 c va vb vc 0 0)) (q3 : wz.cell? ⟨b3, 0, none⟩ = some (.int .i64 1)) (q9 : wz.cell? ⟨b9, 0, none⟩ = some (.pointer (some ⟨bt, 0, none⟩)))
    (hb : Hid ((b3 ≠ b4 ∧ b3 ≠ b5 ∧ b3 ≠ mb) ∧ (b9 ≠ b4 ∧ b9 ≠ b5 ∧ b9 ≠ mb)))
    (H : Hid (∀ w', KR b4 b5 mb wz w' → R (.returned (.tuple #[.int .i64 (allN 128 : Nat), .int .i64 (helN c 128 : Nat), .int .i64 0])) w')) :
    tail15.wpIn Fence.wide N Tryd.prog (bodyPostM Fence.wide N Tryd.prog Tryd.f15 R) { tmps := #[t0, t1, .pointer (some ⟨b2, 0, none⟩), .pointer (some ⟨b3, 0, none⟩), .pointer (some ⟨b4, 0, none⟩), .pointer (some ⟨b5, 0, none⟩), .int .i64 0, t7, t8, .pointer (some ⟨b9, 0, none⟩), t10, t11, t12, t13, t14, t15, t16, t17, t18, t19, t20, t21, t22, t23, t24, t25, t26, t27, t28, t29, t30, t31, t32, t33, t34, t35, t36, t37, t38, t39, t40, t41, t42, t43, t44, t45, t46, t47, t48, t49, t50, t51, t52], defers := [] } wz := by
  obtain ⟨es, ht⟩ := C.out.tt
  have TREE := Lib.hid (tree_ok _ bt mb c va vb vc es 1 (.inl rfl) wz ht)
  have Q39 := Lib.hid (And.intro q3 q9)
  clear ht
  simp only [tail15, body15, Tryd.f15, sub2]
  gi_wp2_with fail
  refine ⟨trivial, fun h => (by cases h), CallsIn.mono (callsIn_wide.2 TREE.out) ?_⟩
  rintro e w1 ⟨⟨v, rfl, hF, ht1⟩, hg⟩
  have C1 := Lib.hid (C.out.call hg ht1)
  have KZ := Lib.hid (KR.of_g (b4 := b4) (b5 := b5) hg (fun k e => .inr (.inr (Option.some.inj e).symm)))
  have F1 := Lib.hid hF
  obtain ⟨vD, vP, gH, rfl, r1, r2, -, kH, -⟩ := id hF
  obtain ⟨AD, cD, rfl⟩ := own_small r1
  obtain ⟨AP, cP, rfl⟩ := own_small r2
  have NB := Lib.hid (show gH ≠ b4 ∧ gH ≠ b5 ∧ gH ≠ mb ∧ gH < w1.heap.size ∧ b4 < w1.heap.size ∧ b5 < w1.heap.size ∧ mb < w1.heap.size from by
    obtain ⟨es1, t1⟩ := C1.out.tt
    refine ⟨ne_cells kH C1.out.k4 (by decide), ne_cells kH C1.out.k5 (by decide), fun e => ?_, (Array.getElem?_eq_some_iff.1 kH).1, (Array.getElem?_eq_some_iff.1 C1.out.k4).1, (Array.getElem?_eq_some_iff.1 C1.out.k5).1, (Array.getElem?_eq_some_iff.1 t1.map).1⟩
    rw [e, t1.map] at kH
    cases kH)
  have LOW := Lib.hid (show 1 ≤ b4 ∧ 1 ≤ b5 ∧ 1 ≤ mb from by
    obtain ⟨es1, t1⟩ := C1.out.tt
    have a4 := (t1.an b4 (.inl rfl)).2.2.1
    have a5 := (t1.an b5 (.inr rfl)).2.2.1
    refine ⟨by omega, by omega, ?_⟩
    rcases Nat.eq_zero_or_pos mb with e | e
    · have hc := t1.tb 0 (by decide)
      exact absurd e.symm (cell_map t1.map hc)
    · exact e)
  have ROW : Hid (∀ k, k < 128 → AtL w1 gH (k * 2) (cM (gt (hU 1) k))) := Lib.hid (fun k hk => by
    obtain ⟨g', e, h⟩ := FT_hop F1.out (qf (.inl rfl)).hl hk
    cases e
    exact h)
  have CEL := Lib.hid (show ∀ X, KR b4 b5 mb w1 X → X.cell? ⟨b3, 0, none⟩ = some (.int .i64 1) ∧ X.cell? ⟨b9, 0, none⟩ = some (.pointer (some ⟨bt, 0, none⟩)) from fun X hX => by
    have k := KZ.out.trans hX
    have l3 := World.block_lt_of_cell? wz _ Q39.out.1
    have l9 := World.block_lt_of_cell? wz _ Q39.out.2
    exact ⟨(World.cell?_of_block (k.blk b3 l3 hb.out.1.1 hb.out.1.2.1 hb.out.1.2.2)).trans Q39.out.1, (World.cell?_of_block (k.blk b9 l9 hb.out.2.1 hb.out.2.2.1 hb.out.2.2.2)).trans Q39.out.2⟩)
  have hfl := fld3 (.int .i64 1) (.slice AD 128 cD) (.slice AP 128 cP) (.slice (some ⟨gH, 0, none⟩) 128 128) w1
  clear hF ht1 hg r1 r2 kH q3 q9
  gi_wp2_with fail
  refine wpIn_loop_gh (fun m a1 wr => ∃ (k : Nat) (Ds : List Nat) (s10 s11 s12 s32 s33 s34 s35 s36 s37 s38 s39 s40 s41 s42 s43 s44 s45 s46 s47 s48 s49 s50 : Value), m = 128 - k ∧ k ≤ 128 ∧ a1 = { tmps := #[t0, t1, .pointer (some ⟨b2, 0, none⟩), .pointer (some ⟨b3, 0, none⟩), .pointer (some ⟨b4, 0, none⟩), .pointer (some ⟨b5, 0, none⟩), .int .i64 0, t7, t8, .pointer (some ⟨b9, 0, none⟩), s10, s11, s12, t13, t14, t15, t16, t17, t18, t19, t20, t21, t22, t23, t24, t25, .pointer (some ⟨bt, 0, none⟩), .int .i64 1, .agg #[.int .i64 1, .slice AD 128 cD, .slice AP 128 cP, .slice (some ⟨gH, 0, none⟩) 128 128], .slice (some ⟨gH, 0, none⟩) 128 128, .int .i64 128, .int .i64 (k : Int), s32, s33, s34, s35, s36, s37, s38, s39, s40, s41, s42, s43, s44, s45, s46, s47, s48, s49, s50, t51, t52], defers := Ds.map mkD } ∧ Hid (CV wr bt mb b4 b5 c va vb vc (allN k) (helN c k) ∧ KR b4 b5 mb w1 wr ∧ Ds.Nodup ∧ ∀ D ∈ Ds, w1.heap.size ≤ D ∧ wr.heap[D]? = some (.deferred (some [])))) 128 ?start ?round
  case start => exact ⟨0, [], _, _, _, _, _, _, _, _, _, _, _, _, _, _, _, _, _, _, _, _, _, _, rfl, Nat.zero_le _, rfl, Lib.hid ⟨C1.out, KR.refl _, List.nodup_nil, fun D hD => by simp at hD⟩⟩
  case round =>
    rintro m a1 wr ⟨k, Ds, s10, s11, s12, s32, s33, s34, s35, s36, s37, s38, s39, s40, s41, s42, s43, s44, s45, s46, s47, s48, s49, s50, rfl, hk, rfl, hlf⟩ K hKK
    have HKK := Lib.hid hKK
    clear hKK hfl
    by_cases hlt : k < 128
    · have hkn : (k : Int) < 128 := by omega
      have hk0 : (0 : Int) ≤ (k : Int) := by omega
      have hwk : IntKind.i64.wrap ((k : Int) + 1) = (k : Int) + 1 := by rw [IntKind.wrap_i64]; omega
      have HKN := Lib.hid hlt
      obtain ⟨M, hM⟩ : ∃ M, M = gt (hU 1) k := ⟨_, rfl⟩
      have HM := Lib.hid (And.intro hM (show M < 2 ^ 128 by rw [hM]; exact gt_lt (qf (.inl rfl : isQ 1)).hb k))
      have AT : Hid (AtL wr gH (k * 2) (cM M)) := Lib.hid (fun j v hv => by
        have h1 := ROW.out k hlt j v (by rw [← hM]; exact hv)
        exact (World.cell?_of_block (hlf.out.2.1.blk gH NB.out.2.2.2.1 NB.out.1 NB.out.2.1 NB.out.2.2.1)).trans h1)
      have LDH := Lib.hid (loadAt_M AT.out)
      obtain ⟨b10, hb10⟩ : ∃ b, b = wr.heap.size := ⟨_, rfl⟩
      obtain ⟨wS, hwS⟩ : ∃ x, x = ((wr.alloc (Obj.cells #[.int .i64 (k : Int)] 3)).alloc (Obj.cells #[.int .u64 0, .int .u64 0] 35)).setRow (wr.heap.size + 1) (cM M).toArray := ⟨_, rfl⟩
      have kk : ((wr.alloc (Obj.cells #[.int .i64 (k : Int)] 3)).alloc (Obj.cells #[.int .u64 0, .int .u64 0] 35)).heap[wr.heap.size + 1]? = some (.cells #[.int .u64 0, .int .u64 0] 35 (0, 0)) := heap_at (by simp)
      have SR : Hid ((storeVar 35 ⟨wr.heap.size + 1, 0, none⟩ (mV M)).run Tryd.prog ((wr.alloc (Obj.cells #[.int .i64 (k : Int)] 3)).alloc (Obj.cells #[.int .u64 0, .int .u64 0] 35)) = .ok () wS) := Lib.hid (by rw [hwS]; exact storeM_run M kk rfl)
      have hS : ∀ j, j ≠ wr.heap.size + 1 → wS.heap[j]? = ((wr.alloc (Obj.cells #[.int .i64 (k : Int)] 3)).alloc (Obj.cells #[.int .u64 0, .int .u64 0] 35)).heap[j]? := fun j hj => by rw [hwS]; exact setRow_other _ _ j _ hj
      have b12 : Below wr.heap.size wr ((wr.alloc (Obj.cells #[.int .i64 (k : Int)] 3)).alloc (Obj.cells #[.int .u64 0, .int .u64 0] 35)) := ((Below.refl _ _).alloc (Nat.le_refl _) _).alloc (by simp) _
      have BS := Lib.hid (show Below wr.heap.size wr wS from ⟨by rw [hwS]; exact b12.os, by rw [hwS]; exact b12.tape, by rw [hwS]; exact b12.output, by rw [hwS]; simpa [World.setRow] using b12.size, fun j hj => (hS j (by omega)).trans (b12.block j hj)⟩)
      have K10 := Lib.hid (show wS.heap[wr.heap.size]? = some (.cells #[.int .i64 (k : Int)] 3 (0, 0)) from (hS _ (by omega)).trans (heap_keep ((Below.refl _ _).alloc (Nat.le_refl _) _) (heap_at rfl)))
      have K11 := Lib.hid (show wS.heap[wr.heap.size + 1]? = some (.cells (cM M).toArray 35 (0, 0)) by rw [hwS]; exact setRow_heap _ _ _ _ 35 (0, 0) kk)
      have EACH := Lib.hid (Each_ok M wS)
      clear hM hlt kk hS b12 hwS
      gi_wp2_with (first | (refine wpListIn_loadW rfl 35 (.tmp 34) rfl gH (k * 2) (mV M) rfl LDH.out ?_) | (refine wpListIn_storeW rfl 35 (.tmp 11) (.tmp 35) rfl rfl (wr.heap.size + 1) 0 (mV M) rfl rfl SR.out ?_) | (refine wpListIn_loadW rfl 35 (.tmp 11) rfl (wr.heap.size + 1) 0 (mV M) rfl (cldM K11.out) ?_))
      refine ⟨trivial, fun h => (by cases h), CallsIn.mono (callsIn_wide.2 EACH.out) ?_⟩
      rintro e w2 ⟨rfl, kE, hb2, hsz2⟩
      have B2 := Lib.hid (bthen BS.out hb2)
      have HKE := Lib.hid kE
      have K102 := Lib.hid (heap_keep hb2 K10.out)
      obtain ⟨bE, hbE⟩ : ∃ b, b = wS.heap.size := ⟨_, rfl⟩
      rw [← hbE] at HKE
      rw [← hbE, ← hb10]
      rw [← hb10] at K102
      have HBE := Lib.hid (And.intro hb10 (show 1 ≤ w2.heap.size ∧ w1.heap.size ≤ w2.heap.size ∧ wr.heap.size < w2.heap.size from by have h1 := hlf.out.2.1.size; have h2 := B2.out.size; have h3 := NB.out.2.2.2.1; have h4 := (Array.getElem?_eq_some_iff.1 K102.out).1; omega))
      have C2 := Lib.hid (hlf.out.1.below B2.out)
      have KR2 := Lib.hid (hlf.out.2.1.trans (show KR b4 b5 mb wr w2 from ⟨B2.out.os, B2.out.tape, B2.out.output, B2.out.size, fun j hj _ _ _ => B2.out.block j hj⟩))
      clear kE hb2 hsz2 hbE EACH SR BS K10 K11 LDH AT hb10
      gi_wp2_with fail
      have T2 : Hid (Tab w2) := Lib.hid (by obtain ⟨es2, t2⟩ := C2.out.tt; exact t2.tb)
      have MKS := Lib.hid (show ∀ D' ∈ Ds, D' < wr.heap.size ∧ w1.heap.size ≤ D' ∧ w2.heap[D']? = some (.deferred (some [])) from fun D' hD' => by
        have h := hlf.out.2.2.2 D' hD'
        exact ⟨(Array.getElem?_eq_some_iff.1 h.2).1, h.1, heap_keep B2.out h.2⟩)
      refine wpIn_rangeFunc_ownH rfl (by omega) (gf := 41) (lb := #[.pointer (some ⟨bE, 0, none⟩)]) rfl trivial (enters_of Tryd.func41 (by kernel_rfl) rfl)
        (each_stops (N - 1) (by omega) bE 1 M HM.out.2 w2 HBE.out.2.1 (Nat.le_refl _) T2.out HKE.out) belowK_t (belowK_b HBE.out.2.1) (Below.refl _ _) (fun _ => rfl)
        (fun pre X => CV X bt mb b4 b5 c va vb vc (allN k + pre.length) (helN c k + hitL c k pre) ∧ KR b4 b5 mb w2 X)
        (fun _ _ _ => False)
        (fun s X Y row h1 hg hr => ⟨h1.1.non hg (fun r e => (hr r e).2) (fun r e => by have := (hr r e).1; have := NB.out; have := HBE.out; omega), h1.2.non hg (fun r e => (hr r e).1)⟩)
        (fun _ _ _ _ _ hs _ _ => hs)
        ⟨C2.out, KR.refl _⟩
        (fun x a' _ => ∃ z0 z1 z6 z7 z8 z11 z13 z14 z15 z16 z17 z18 z19 z20 z21 z22 z23 z24 z25 z26 z27 z28 z29 z30 z31 z32 z33 z34 z35 z36 z37 z38 z39 z40 z41 z42 z43 z44 z45 z46 z47 z48 z49 z50 z51 z52 : Value, a' = { tmps := #[z0, z1, .pointer (some ⟨b2, 0, none⟩), .pointer (some ⟨b3, 0, none⟩), .pointer (some ⟨b4, 0, none⟩), .pointer (some ⟨b5, 0, none⟩), z6, z7, z8, .pointer (some ⟨b9, 0, none⟩), .pointer (some ⟨b10, 0, none⟩), z11, .int .i64 (x.val : Int), z13, z14, z15, z16, z17, z18, z19, z20, z21, z22, z23, z24, z25, z26, z27, z28, z29, z30, z31, z32, z33, z34, z35, z36, z37, z38, z39, z40, z41, z42, z43, z44, z45, z46, z47, z48, z49, z50, z51, z52], defers := [] })
        (fun x a' _ X Y row hs hg hr => hs)
        ?assign ?body ?done ?stop
      case assign =>
        rintro l pre x X K2 ⟨hB, hP⟩ hK
        have PB := Lib.hid hB
        have PP := Lib.hid hP
        clear hB hP
        gi_wp2_with fail
        exact hK _ _ (KeepsFrom.refl _ _) (Below.refl _ _) ⟨PB.out, PP.out⟩ ⟨_, _, _, _, _, _, _, _, _, _, _, _, _, _, _, _, _, _, _, _, _, _, _, _, _, _, _, _, _, _, _, _, _, _, _, _, _, _, _, _, _, _, _, _, _, _, rfl⟩
      case body =>
        rintro l pre x a' X hl hrr ⟨hB, hP⟩ ⟨z0, z1, z6, z7, z8, z11, z13, z14, z15, z16, z17, z18, z19, z20, z21, z22, z23, z24, z25, z26, z27, z28, z29, z30, z31, z32, z33, z34, z35, z36, z37, z38, z39, z40, z41, z42, z43, z44, z45, z46, z47, z48, z49, z50, z51, z52, rfl⟩ hlp
        have hkrx := KR2.out.trans hP
        have hc2 := CEL.out X hkrx
        have n10 : b10 ≠ b4 ∧ b10 ≠ b5 ∧ b10 ≠ mb := by have := HBE.out; have := NB.out; have := hlf.out.2.1.size; omega
        have q10 : X.cell? ⟨b10, 0, none⟩ = some (.int .i64 (k : Int)) := by
          rw [cell_of_row X _ 0 _ _ _ ((hP.blk b10 (by have := HBE.out; omega) n10.1 n10.2.1 n10.2.2).trans K102.out)]
          rfl
        have hel := elM_len M
        have ha := allN_le k
        have hh := helN_le c k
        have hl2 := hitL_le c k pre
        refine covRound _ _ l X bt mb b2 b3 b4 b5 b9 b10 c va vb vc _ _ k x.val _ _ _ _ _ _ _ _ _ _ _ _ _ _ _ _ _ _ _ _ _ _ _ _ _ _ _ _ _ _ _ _ _ _ _ _ _ _ _ _ _ _ _ _ _ _ (Lib.hid hB) hc2.1 hc2.2 q10 hb.out.1 hb.out.2 n10 HKN.out x.isLt (by have := HKN.out; omega) (by have := HKN.out; omega) (Lib.hid ?_)
        intro a'' X' hX hK
        have nb := NB.out
        have hbe := HBE.out
        have hps := hP.size
        refine ⟨⟨hK.size, fun j o hBj hj _ => (hK.blk j (Array.getElem?_eq_some_iff.1 hj).1 (by omega) (by omega) (by omega)).trans hj⟩, hK.below (by omega) LOW.out.1 LOW.out.2.1 LOW.out.2.2, ?_, hP.trans hK⟩
        rw [List.length_append, List.length_singleton, hitL_s, ← Nat.add_assoc, ← Nat.add_assoc]
        exact hX
      case done =>
        rintro D xs X hD rfl ⟨hB, hP⟩ hK
        have PB := Lib.hid hB
        have PP := Lib.hid hP
        have PD := Lib.hid (And.intro hD hK)
        clear hB hP hD hK
        gi_wp2_with fail
        refine HKK.out (128 - (k + 1)) _ _ (by have := HKN.out; omega) ⟨k + 1, D :: Ds, _, _, _, _, _, _, _, _, _, _, _, _, _, _, _, _, _, _, _, _, _, _, rfl, by have := HKN.out; omega, rfl, Lib.hid ⟨?_, KR2.out.trans PP.out, ?_, ?_⟩⟩
        · rw [allN, helN, ← HM.out.1]
          exact PB.out
        · exact List.nodup_cons.2 ⟨fun hm => by have := (MKS.out D hm).1; have := PD.out.1; have := HBE.out; omega, hlf.out.2.2.1⟩
        · intro D' hD'
          rcases List.mem_cons.1 hD' with rfl | h
          · exact ⟨by have := PD.out.1; have := HBE.out; omega, PD.out.2⟩
          · have m := MKS.out D' h
            have nb := NB.out
            exact ⟨m.2.1, (PP.out.blk D' (Array.getElem?_eq_some_iff.1 m.2.2).1 (by omega) (by omega) (by omega)).trans m.2.2⟩
      case stop =>
        rintro D cc pre X _ hpre hbad _
        exact hbad.elim
    · have hkn : ¬ (k : Int) < 128 := by omega
      obtain rfl : k = 128 := by omega
      obtain ⟨al, hal⟩ : ∃ n, n = allN 128 := ⟨_, rfl⟩
      obtain ⟨he, hhe⟩ : ∃ n, n = helN c 128 := ⟨_, rfl⟩
      rw [← hal, ← hhe] at hlf
      have HAL := Lib.hid (And.intro hal hhe)
      have Y0 := Lib.hid (show CV wr bt mb b4 b5 c va vb vc al he ∧ KR b4 b5 mb w1 wr ∧ ∀ D ∈ Ds, wr.heap[D]? = some (.deferred (some [])) from ⟨hlf.out.1, hlf.out.2.1, fun D hD => (hlf.out.2.2.2 D hD).2⟩)
      have HC := Lib.hid (show ∀ X : World, (CV X bt mb b4 b5 c va vb vc al he ∧ KR b4 b5 mb w1 X ∧ ∀ D ∈ Ds, X.heap[D]? = some (.deferred (some []))) → X.cell? ⟨b4, 0, none⟩ = some (.int .i64 (al : Int)) ∧ X.cell? ⟨b5, 0, none⟩ = some (.int .i64 (he : Int)) from fun X h => ⟨by rw [cell_of_row X _ 0 _ _ _ h.1.k4]; rfl, by rw [cell_of_row X _ 0 _ _ _ h.1.k5]; rfl⟩)
      have S4 := Lib.hid (show ∀ X : World, (CV X bt mb b4 b5 c va vb vc al he ∧ KR b4 b5 mb w1 X ∧ ∀ D ∈ Ds, X.heap[D]? = some (.deferred (some []))) → ∃ X', (storeVar 3 ⟨b4, 0, none⟩ (.int .i64 (al : Int))).run Tryd.prog X = .ok () X' ∧ (CV X' bt mb b4 b5 c va vb vc al he ∧ KR b4 b5 mb w1 X' ∧ ∀ D ∈ Ds, X'.heap[D]? = some (.deferred (some []))) from fun X h => by
        obtain ⟨X', r, hc, hg⟩ := h.1.s4 al
        refine ⟨X', r, hc, h.2.1.trans (KR.of_g hg (fun k e => .inl (Option.some.inj e).symm)), fun D hD => (hg.block D (Array.getElem?_eq_some_iff.1 (h.2.2 D hD)).1 (fun e => ?_)).trans (h.2.2 D hD)⟩
        have := h.2.2 D hD
        rw [Option.some.inj e, h.1.k4] at this
        cases this)
      have S5 := Lib.hid (show ∀ X : World, (CV X bt mb b4 b5 c va vb vc al he ∧ KR b4 b5 mb w1 X ∧ ∀ D ∈ Ds, X.heap[D]? = some (.deferred (some []))) → ∃ X', (storeVar 3 ⟨b5, 0, none⟩ (.int .i64 (he : Int))).run Tryd.prog X = .ok () X' ∧ (CV X' bt mb b4 b5 c va vb vc al he ∧ KR b4 b5 mb w1 X' ∧ ∀ D ∈ Ds, X'.heap[D]? = some (.deferred (some []))) from fun X h => by
        obtain ⟨X', r, hc, hg⟩ := h.1.s5 he
        refine ⟨X', r, hc, h.2.1.trans (KR.of_g hg (fun k e => .inr (.inl (Option.some.inj e).symm))), fun D hD => (hg.block D (Array.getElem?_eq_some_iff.1 (h.2.2 D hD)).1 (fun e => ?_)).trans (h.2.2 D hD)⟩
        have := h.2.2 D hD
        rw [Option.some.inj e, h.1.k5] at this
        cases this)
      have DS := Lib.hid (And.intro hlf.out.2.2.1 (fun D hD => (hlf.out.2.2.2 D hD).1))
      clear hal hhe hlf hk HKK
      gi_wp2_with fail
      refine wpIn_wide.2 ?_
      refine Og.Joint2.walk_lit 3 [[],[],[0],[1,2,0],[3,0,1,2]] (fun _ _ X => CV X bt mb b4 b5 c va vb vc al he ∧ KR b4 b5 mb w1 X ∧ ∀ D ∈ Ds, X.heap[D]? = some (.deferred (some []))) (fun _ _ => True) (by kernel_rfl) (by kernel_rfl) (by kernel_rfl) (fun vs => ⟨Y0.out.1.below bdrew, Y0.out.2.1.trans ⟨rfl, rfl, rfl, Nat.le_refl _, fun _ _ _ _ _ => rfl⟩, Y0.out.2.2⟩) ?_
      simp only [List.take_succ_cons, List.take_zero, List.drop_succ_cons, List.drop_zero]
      iterate 2 (refine Og.Joint2.step_pureP (fun p vs v w h => h) (fun _ => trivial) ?_; apply Exists.intro; refine And.intro ?_ ?_; focus (intro p vs w2 hp hC hk; have hm := HC.out w2 hC; refine Og.OptB.mk ?_; revert hk; simp only [Og.KS, Og.K0, Og.Is, List.getD_cons_zero, List.getD_cons_succ, List.getD_nil, List.contains_cons, List.contains_nil, Nat.reduceAdd, Nat.reduceBEq, Bool.or_false, Bool.false_or, Bool.or_true, Bool.true_or, Bool.false_eq_true, false_implies, true_implies, true_and, and_true, forall_const]; intros; go_simp; rfl))
      refine Og.Joint2.step_any (fun _ _ => True) (fun _ _ _ _ _ => trivial) ?_ ?_; focus (intro p vs w2 hp hC hk; obtain ⟨w3, hr, hY⟩ := S4.out w2 hC; revert hk; simp only [Og.KS, Og.K0, Og.Is, List.getD_cons_zero, List.getD_cons_succ, List.getD_nil, List.contains_cons, List.contains_nil, Nat.reduceAdd, Nat.reduceBEq, Bool.or_false, Bool.false_or, Bool.or_true, Bool.true_or, Bool.false_eq_true, false_implies, true_implies, true_and, and_true, forall_const]; intros; refine optB_storeR (g := b4) (off := 0) (v := .int .i64 (al : Int)) (by go_simp) rfl (by go_simp) (by go_simp) hr (by first | exact hY | exact ⟨hY, trivial, trivial⟩))
      intro p vs w5 hp hC hk
      simp only [Og.KS, Og.K0, Og.Is, List.getD_cons_zero, List.getD_cons_succ, List.getD_nil, List.contains_cons, List.contains_nil, Nat.reduceAdd, Nat.reduceBEq, Bool.or_false, Bool.false_or, Bool.or_true, Bool.true_or, Bool.false_eq_true, false_implies, true_implies, true_and, and_true, forall_const] at hk
      simp only [hk, Act.put, List.setIfInBounds_toArray, List.set_cons_zero, List.set_cons_succ]
      clear hk hp
      obtain ⟨w6, r6, y6⟩ := S5.out w5 hC
      have R6 := Lib.hid r6
      have Y6 := Lib.hid y6
      clear hC r6 y6 HC S4 S5
      go_wp2_with (refine wpList_storeR (ty := 3) (x := .tmp 5) (y := .tmp 52) rfl rfl rfl (by go_simp) (by go_simp) R6.out ?_)
      gi_wp2_with fail
      refine leaves_marksD w1.heap.size (fun w9 => CV w9 bt mb b4 b5 c va vb vc al he ∧ KR b4 b5 mb w1 w9) (fun w D hBD hD hk => ?_) (fun w hk => ?_) Ds _ DS.out.1 (fun D hD => ⟨DS.out.2 D hD, Y6.out.2.2 D hD⟩) ⟨Y6.out.1, Y6.out.2.1⟩
      · have g := grownBy_putObj' w D (.deferred none)
        have hr : ∀ r, some D = some r → ∃ o : Obj, w.heap[r]? = some o ∧ o.isCells = false := fun r e => by cases e; exact ⟨_, hD, rfl⟩
        exact ⟨hk.1.non g hr (fun r e => by cases e; have := NB.out; omega), hk.2.non g (fun r e => by cases e; exact hBD)⟩
      · have hh := H.out w (KZ.out.trans hk.2)
        rw [← HAL.out.1, ← HAL.out.2] at hh
        exact ⟨_, results_3 rfl rfl rfl (run_load1 nagg3c (by rw [cell_of_row w _ 0 _ _ _ hk.1.k4]; rfl)) (run_load1 nagg3c (by rw [cell_of_row w _ 0 _ _ _ hk.1.k5]; rfl)), hh⟩

end Go.Proofs.YtjbglifmppilfaaDoor
namespace Go.Proofs.YtjbglifmppilfaaDoor
open Go.ChangeShapes Go.WideShapes Go.ChangeAt Go.RowKit
set_option linter.unusedVariables false
set_option linter.unusedSimpArgs false
attribute [local go_sem] Og.Opt Og.OpY Oper.semAt_some

theorem body15_eq : Tryd.f15.body = some ((sub1 body15).seq ((sub1 (sub2 body15)).seq ((sub1 (sub2 (sub2 body15))).seq tail15))) := by kernel_rfl
set_option maxRecDepth 100000 in
set_option maxHeartbeats 16000000 in
theorem Cover_ok (c : Int) (h1 : 1 ≤ c) (h2 : c ≤ 1000) (va vb vc : Value) (w : World) (g : GX w va vb vc nsQ (lsQ c)) (tb : Tab w) :
    Calls Tryd.prog 15 #[.agg #[va, vb, vc], .int .i64 1] w fun e w' => e = .returned (.tuple #[.int .i64 (allN 128 : Nat), .int .i64 (helN c 128 : Nat), .int .i64 0]) ∧ Below w.heap.size w w' := by
  have TA := Lib.hid (@covB)
  have hmm := @run_makeMap Tryd.prog
  obtain ⟨A, ca, rfl, -⟩ := id g.sa
  obtain ⟨B, cb, rfl, -⟩ := id g.sb
  obtain ⟨C, cc, rfl, -⟩ := id g.sc
  obtain ⟨na, hna⟩ : ∃ n, n = nsQ.length := ⟨_, rfl⟩
  obtain ⟨nb, hnb⟩ : ∃ n, n = (lsQ c).length := ⟨_, rfl⟩
  obtain ⟨nc, hnc⟩ : ∃ n, n = ([] : List Pn).length := ⟨_, rfl⟩
  rw [← hna, ← hnb, ← hnc] at g ⊢
  have HG := Lib.hid g
  have HT := Lib.hid (And.intro tb (And.intro h1 h2))
  clear g tb h1 h2 hna hnb hnc
  refine (callsIn_wide (n := 8)).1 (callsIn_of_wp_marks Tryd.func15 body15_eq trivial ((wpIn_wide).2 ?_) rfl)
  simp only [Tryd.ntmps15, List.size_toArray, List.length_cons, List.length_nil, Nat.reduceAdd, Nat.reduceSub, Array.replicate_succ, Array.replicate_zero, List.push_toArray, List.append_toArray, List.nil_append, List.cons_append]
  simp only [body15, Tryd.f15, sub1, sub2]
  obtain ⟨W, hW⟩ : ∃ W, W = (((w.alloc (Obj.cells #[.slice A na ca, .slice B nb cb, .slice C nc cc] 42)).alloc (Obj.cells #[.int .i64 1] 3)).alloc (Obj.cells #[.int .i64 0] 3)).alloc (Obj.cells #[.int .i64 0] 3) := ⟨_, rfl⟩
  obtain ⟨b2, hb2⟩ : ∃ b, b = w.heap.size := ⟨_, rfl⟩
  have x1 : Below w.heap.size w (w.alloc (Obj.cells #[.slice A na ca, .slice B nb cb, .slice C nc cc] 42)) := (Below.refl _ _).alloc (Nat.le_refl _) _
  have y2 : Below (w.alloc (Obj.cells #[.slice A na ca, .slice B nb cb, .slice C nc cc] 42)).heap.size (w.alloc (Obj.cells #[.slice A na ca, .slice B nb cb, .slice C nc cc] 42)) ((w.alloc (Obj.cells #[.slice A na ca, .slice B nb cb, .slice C nc cc] 42)).alloc (Obj.cells #[.int .i64 1] 3)) := (Below.refl _ _).alloc (Nat.le_refl _) _
  have y3 : Below ((w.alloc (Obj.cells #[.slice A na ca, .slice B nb cb, .slice C nc cc] 42)).alloc (Obj.cells #[.int .i64 1] 3)).heap.size ((w.alloc (Obj.cells #[.slice A na ca, .slice B nb cb, .slice C nc cc] 42)).alloc (Obj.cells #[.int .i64 1] 3)) (((w.alloc (Obj.cells #[.slice A na ca, .slice B nb cb, .slice C nc cc] 42)).alloc (Obj.cells #[.int .i64 1] 3)).alloc (Obj.cells #[.int .i64 0] 3)) := (Below.refl _ _).alloc (Nat.le_refl _) _
  have y4 : Below (((w.alloc (Obj.cells #[.slice A na ca, .slice B nb cb, .slice C nc cc] 42)).alloc (Obj.cells #[.int .i64 1] 3)).alloc (Obj.cells #[.int .i64 0] 3)).heap.size (((w.alloc (Obj.cells #[.slice A na ca, .slice B nb cb, .slice C nc cc] 42)).alloc (Obj.cells #[.int .i64 1] 3)).alloc (Obj.cells #[.int .i64 0] 3)) W := by rw [hW]; exact (Below.refl _ _).alloc (Nat.le_refl _) _
  have BW := Lib.hid (bthen x1 (bthen y2 (bthen y3 y4)))
  have K2 := Lib.hid (show W.heap[b2]? = some (.cells #[.slice A na ca, .slice B nb cb, .slice C nc cc] 42 (0, 0)) from heap_keep (bthen y2 (bthen y3 y4)) (heap_at hb2))
  have K3 := Lib.hid (show W.heap[b2 + 1]? = some (.cells #[.int .i64 1] 3 (0, 0)) from heap_keep (bthen y3 y4) (heap_at (by rw [hb2]; simp)))
  have K4 := Lib.hid (show W.heap[b2 + 2]? = some (.cells #[.int .i64 0] 3 (0, 0)) from heap_keep y4 (heap_at (by rw [hb2]; simp)))
  have K5 := Lib.hid (show W.heap[b2 + 3]? = some (.cells #[.int .i64 0] 3 (0, 0)) by rw [hW]; exact heap_at (by rw [hb2]; simp))
  have SW := Lib.hid (show W.heap.size = b2 + 4 ∧ b2 = w.heap.size from ⟨by rw [hW, hb2]; simp, hb2⟩)
  have L2 := Lib.hid (run_loadL (cs := [.slice A na ca, .slice B nb cb, .slice C nc cc]) isAgg42t size42t rfl (AtL_heap K2.out))
  have NODE := Lib.hid (Node_ok ((1 : Nat) : Int) 0 nsQ (lsQ c) (.slice A na ca) (.slice B nb cb) (.slice C nc cc) W (HG.out.below BW.out) rfl)
  clear x1 y2 y3 y4
  go_wp2_with (refine wpList_loadL rfl 42 (.tmp 2) rfl w.heap.size 0 (.agg #[.slice A na ca, .slice B nb cb, .slice C nc cc]) rfl (by rw [← hW, ← hb2]; exact L2.out) ?_)
  rw [← hW, ← hb2]
  clear hW hb2
  refine NODE.out.mono ?_
  rintro e w3 ⟨rfl, hb3⟩
  have ec : (cNd ⟨((1 : Nat) : Int)⟩).toArray = #[Value.int .i64 1, .bool false, .complex .f64 0 0] := rfl
  rw [ec]
  have B3 := Lib.hid hb3
  clear hb3 ec NODE L2
  go_wp2_with (first | (refine wpList_storeN rfl 53 (.tmp 7) (.tmp 17) rfl rfl w3.heap.size #[.int .i64 1, .bool false, .complex .f64 0 0] rfl rfl 53 _ (heap_at rfl) info41s rfl (by simp [Value.oneCell']) ?_; intro w4 hz hb hn hs; have B4 := Lib.hid (bthen B3.out (show Below w3.heap.size w3 w4 from ((Below.refl _ _).alloc (Nat.le_refl _) _).trans (hb _ (Nat.le_refl _)))); have L24 := Lib.hid (run_loadL (cs := [.slice A na ca, .slice B nb cb, .slice C nc cc]) isAgg42t size42t rfl (AtL_heap (heap_keep B4.out K2.out))); clear hz hb hn hs) | (refine wpList_loadL rfl 42 (.tmp 2) rfl b2 0 (.agg #[.slice A na ca, .slice B nb cb, .slice C nc cc]) rfl L24.out ?_))
  obtain ⟨mb, hmb⟩ : ∃ b, b = w4.heap.size := ⟨_, rfl⟩
  obtain ⟨wz, hwz⟩ : ∃ x, x = ((w4.alloc (.map #[] 0)).alloc (Obj.cells #[.slice A na ca, .slice B nb cb, .slice C nc cc, .map (some w4.heap.size)] 70)).alloc (Obj.cells #[.pointer (some ⟨w4.heap.size + 1, 0, none⟩)] 67) := ⟨_, rfl⟩
  have y1 : Below w4.heap.size w4 (w4.alloc (.map #[] 0)) := (Below.refl _ _).alloc (Nat.le_refl _) _
  have y2 : Below (w4.alloc (.map #[] 0)).heap.size (w4.alloc (.map #[] 0)) ((w4.alloc (.map #[] 0)).alloc (Obj.cells #[.slice A na ca, .slice B nb cb, .slice C nc cc, .map (some w4.heap.size)] 70)) := (Below.refl _ _).alloc (Nat.le_refl _) _
  have y3 : Below ((w4.alloc (.map #[] 0)).alloc (Obj.cells #[.slice A na ca, .slice B nb cb, .slice C nc cc, .map (some w4.heap.size)] 70)).heap.size ((w4.alloc (.map #[] 0)).alloc (Obj.cells #[.slice A na ca, .slice B nb cb, .slice C nc cc, .map (some w4.heap.size)] 70)) wz := by rw [hwz]; exact (Below.refl _ _).alloc (Nat.le_refl _) _
  have BZ := Lib.hid (bthen B4.out (bthen y1 (bthen y2 y3)))
  have km : wz.heap[mb]? = some (.map #[] 0) := heap_keep (bthen y2 y3) (heap_at hmb)
  have kt : wz.heap[mb + 1]? = some (.cells #[.slice A na ca, .slice B nb cb, .slice C nc cc, .map (some mb)] 70 (0, 0)) := by rw [hmb]; exact heap_keep y3 (heap_at (by simp))
  have k9 : wz.heap[mb + 2]? = some (.cells #[.pointer (some ⟨mb + 1, 0, none⟩)] 67 (0, 0)) := by rw [hwz, hmb]; exact heap_at (by simp)
  have SZ := Lib.hid (show b2 + 4 ≤ mb ∧ mb < wz.heap.size ∧ b2 = w.heap.size from by have h1 := SW.out; have h2 := B4.out.size; have h3 := (Array.getElem?_eq_some_iff.1 km).1; omega)
  have gz := HG.out.below (bthen BW.out BZ.out)
  have tz := HT.out.1.below (bthen BW.out BZ.out) HT.out.1.size
  have lA : ∀ k, Value.ownBlock (.slice A na ca) = some k → k < w.heap.size := fun k e => Sl_lt (fun x => by simp [cNd]) (by decide) HG.out.sa e
  have lB : ∀ k, Value.ownBlock (.slice B nb cb) = some k → k < w.heap.size := fun k e => Sl_lt (fun x => by simp [cLk]) (by simp [lsQ]) HG.out.sb e
  have w0 := HT.out.1.size
  have sz := SZ.out
  have sw := SW.out
  have CVZ : Hid (CV wz (mb + 1) mb (b2 + 2) (b2 + 3) c (.slice A na ca) (.slice B nb cb) (.slice C nc cc) 0 0) := Lib.hid
    ⟨⟨[], kt, km, fun x hx => by simp at hx, gz, tz, HT.out.2.1, HT.out.2.2, fun k hk => by rcases hk with rfl | rfl <;> omega, fun k hk => by
      refine ⟨fun e => by have := lA k e; rcases hk with rfl | rfl <;> omega, fun e => by have := lB k e; rcases hk with rfl | rfl <;> omega, by rcases hk with rfl | rfl <;> omega, by rcases hk with rfl | rfl <;> omega, by rcases hk with rfl | rfl <;> omega⟩⟩,
     heap_keep BZ.out K4.out, heap_keep BZ.out K5.out, by omega⟩
  have q3 : wz.cell? ⟨b2 + 1, 0, none⟩ = some (.int .i64 1) := by rw [cell_of_row wz _ 0 _ _ _ (heap_keep BZ.out K3.out)]; rfl
  have q9 : wz.cell? ⟨mb + 2, 0, none⟩ = some (.pointer (some ⟨mb + 1, 0, none⟩)) := by rw [cell_of_row wz _ 0 _ _ _ k9]; rfl
  rw [← hwz, ← hmb]
  clear hwz y1 y2 y3 km kt k9 gz tz lA lB hmm hmb
  refine (wpIn_wide).1 (TA.out _ 8 (by omega) wz (mb + 1) mb b2 (b2 + 1) (b2 + 2) (b2 + 3) (mb + 2) c (.slice A na ca) (.slice B nb cb) (.slice C nc cc) _ _ _ _ _ _ _ _ _ _ _ _ _ _ _ _ _ _ _ _ _ _ _ _ _ _ _ _ _ _ _ _ _ _ _ _ _ _ _ _ _ _ _ _ _ _ _ CVZ q3 q9 (Lib.hid ⟨⟨by omega, by omega, by omega⟩, ⟨by omega, by omega, by omega⟩⟩) (Lib.hid ?_))
  intro w' hk
  exact ⟨rfl, (bthen BW.out BZ.out).trans (hk.below (bthen BW.out BZ.out).size (by omega) (by omega) (by omega))⟩

end Go.Proofs.YtjbglifmppilfaaDoor
namespace Go.Proofs.YtjbglifmppilfaaDoor
set_option linter.unusedVariables false
set_option linter.unusedSectionVars false
section
variable {c : Int} (h1 : 1 ≤ c) (h2 : c ≤ 1000)
include h1 h2
theorem dq {x y : Nat} {k : Int} (h : kd (dU x) y = k) (hk : 0 ≤ k ∧ k ≤ 2) : dQ c x y = c * k := by
  unfold dQ
  rw [kd_sL, h, phi_small hk.1 (by omega)]
theorem dq0 (x y : Nat) (h : kd (dU x) y = 1) : dQ c x y = c := by rw [dq h1 h2 h (by omega), Int.mul_one]
theorem dq2 (x y : Nat) (h : kd (dU x) y = 2) : dQ c x y = 2 * c := by rw [dq h1 h2 h (by omega), Int.mul_comm]
theorem v21 : dQ c 2 1 = c := dq0 h1 h2 2 1 (by decide +kernel)
theorem v31 : dQ c 3 1 = c := dq0 h1 h2 3 1 (by decide +kernel)
theorem v12 : dQ c 1 2 = c := dq0 h1 h2 1 2 (by decide +kernel)
theorem v13 : dQ c 1 3 = c := dq0 h1 h2 1 3 (by decide +kernel)
theorem v14 : dQ c 1 4 = 2 * c := dq2 h1 h2 1 4 (by decide +kernel)
theorem v24 : dQ c 2 4 = c := dq0 h1 h2 2 4 (by decide +kernel)
theorem v34 : dQ c 3 4 = c := dq0 h1 h2 3 4 (by decide +kernel)
theorem v23 : dQ c 2 3 = 2 * c := dq2 h1 h2 2 3 (by decide +kernel)
theorem v32 : dQ c 3 2 = 2 * c := dq2 h1 h2 3 2 (by decide +kernel)
theorem lt3 : decide (clp c < clp (dsum c (2 * c))) = true := by unfold clp dsum clp; simp; omega
theorem lt4 : decide (clp c < clp (dsum (2 * c) c)) = true := by unfold clp dsum clp; simp; omega
theorem ge2 : decide (clp (2 * c) < clp (dsum c c)) = false := by unfold clp dsum clp; simp; omega
theorem m42 : maskF c 4 2 false 2 = 8 := by
  have a : okF c 4 2 false 2 = false := by unfold okF; simp
  have b : okF c 4 2 false 3 = true := by unfold okF; rw [v34 h1 h2, v31 h1 h2, v14 h1 h2, lt3 h1 h2]; rfl
  show fSt c 4 2 false (fSt c 4 2 false 0 2) 3 = 8
  unfold fSt
  rw [a, b]
  decide
theorem m43 : maskF c 4 3 false 2 = 4 := by
  have a : okF c 4 3 false 2 = true := by unfold okF; rw [v24 h1 h2, v21 h1 h2, v14 h1 h2, lt3 h1 h2]; rfl
  have b : okF c 4 3 false 3 = false := by unfold okF; simp
  show fSt c 4 3 false (fSt c 4 3 false 0 2) 3 = 4
  unfold fSt
  rw [a, b]
  decide
theorem m43t : maskF c 4 3 true 2 = 4 := by
  have a : okF c 4 3 true 2 = true := by unfold okF; rw [v24 h1 h2, v21 h1 h2, v14 h1 h2, v23 h1 h2, v34 h1 h2, lt3 h1 h2, lt4 h1 h2]; rfl
  have b : okF c 4 3 true 3 = false := by unfold okF; simp
  show fSt c 4 3 true (fSt c 4 3 true 0 2) 3 = 4
  unfold fSt
  rw [a, b]
  decide
theorem m22 : maskF c 2 2 false 2 = 0 := by
  have a : okF c 2 2 false 2 = false := by unfold okF; simp
  have b : okF c 2 2 false 3 = false := by unfold okF; rw [v32 h1 h2, v31 h1 h2, v12 h1 h2, ge2 h1 h2]; rfl
  show fSt c 2 2 false (fSt c 2 2 false 0 2) 3 = 0
  unfold fSt
  rw [a, b]
  decide
theorem m33 : maskF c 3 3 false 2 = 0 := by
  have a : okF c 3 3 false 2 = false := by unfold okF; rw [v23 h1 h2, v21 h1 h2, v13 h1 h2, ge2 h1 h2]; rfl
  have b : okF c 3 3 false 3 = false := by unfold okF; simp
  show fSt c 3 3 false (fSt c 3 3 false 0 2) 3 = 0
  unfold fSt
  rw [a, b]
  decide
theorem ans1 : askM c 4 2 false = 8 ∧ askE 4 2 = 0 := by
  have hb : (gt (hU 1) 4).testBit 2 = true := by decide +kernel
  unfold askM askE
  rw [if_pos hb, if_pos hb]
  exact ⟨m42 h1 h2, rfl⟩
theorem ans2 : askM c 4 3 true = 4 ∧ askE 4 3 = 0 := by
  have hb : (gt (hU 1) 4).testBit 3 = true := by decide +kernel
  unfold askM askE
  rw [if_pos hb, if_pos hb]
  exact ⟨m43t h1 h2, rfl⟩
theorem ans3 : askM c 2 2 false = 0 ∧ askE 2 2 = 0 := by
  have hb : (gt (hU 1) 2).testBit 2 = true := by decide +kernel
  unfold askM askE
  rw [if_pos hb, if_pos hb]
  exact ⟨m22 h1 h2, rfl⟩
end
theorem ans4 : askE 4 4 = 8 := by
  have hb : ¬ (gt (hU 1) 4).testBit 4 = true := by decide +kernel
  unfold askE
  rw [if_neg hb]
theorem elM_e : (List.range 128).all (fun v => decide (v = 2) || decide (v = 3) || decide (v = 4) || decide (elM (gt (hU 1) v) = [])) = true := by decide +kernel
theorem elM_nil {v : Nat} (hv : v < 128) (h2 : v ≠ 2) (h3 : v ≠ 3) (h4 : v ≠ 4) : elM (gt (hU 1) v) = [] := by
  have := List.all_eq_true.1 elM_e v (List.mem_range.2 hv)
  simp [h2, h3, h4] at this
  exact this
theorem el2 : elM (gt (hU 1) 2) = [⟨2, by decide⟩] := by decide +kernel
theorem el3 : elM (gt (hU 1) 3) = [⟨3, by decide⟩] := by decide +kernel
theorem el4 : elM (gt (hU 1) 4) = [⟨2, by decide⟩, ⟨3, by decide⟩] := by decide +kernel
theorem allN_5 : allN 5 = 4 := by
  simp only [allN, el2, el3, el4, elM_nil (show 0 < 128 by decide) (by decide) (by decide) (by decide), elM_nil (show 1 < 128 by decide) (by decide) (by decide) (by decide)]
  rfl
theorem allN_k : ∀ k, k ≤ 123 → allN (5 + k) = 4
  | 0, _ => allN_5
  | k + 1, h => by
    show allN (5 + k) + (elM (gt (hU 1) (5 + k))).length = 4
    rw [allN_k k (by omega), elM_nil (by omega) (by omega) (by omega) (by omega)]
    rfl
theorem allN_128 : allN 128 = 4 := allN_k 123 (by decide)
theorem helN_5 {c : Int} (h1 : 1 ≤ c) (h2 : c ≤ 1000) : helN c 5 = 2 := by
  have a22 : hitN c 2 2 = 0 := by unfold hitN; rw [m22 h1 h2]; rfl
  have a33 : hitN c 3 3 = 0 := by unfold hitN; rw [m33 h1 h2]; rfl
  have a42 : hitN c 4 2 = 1 := by unfold hitN; rw [m42 h1 h2]; rfl
  have a43 : hitN c 4 3 = 1 := by unfold hitN; rw [m43 h1 h2]; rfl
  simp only [helN, el2, el3, el4, elM_nil (show 0 < 128 by decide) (by decide) (by decide) (by decide), elM_nil (show 1 < 128 by decide) (by decide) (by decide) (by decide), hitL, List.foldl_cons, List.foldl_nil, a22, a33, a42, a43]
theorem helN_k {c : Int} (h1 : 1 ≤ c) (h2 : c ≤ 1000) : ∀ k, k ≤ 123 → helN c (5 + k) = 2
  | 0, _ => helN_5 h1 h2
  | k + 1, h => by
    show helN c (5 + k) + hitL c (5 + k) (elM (gt (hU 1) (5 + k))) = 2
    rw [helN_k h1 h2 k (by omega), elM_nil (by omega) (by omega) (by omega) (by omega)]
    rfl
theorem helN_128 {c : Int} (h1 : 1 ≤ c) (h2 : c ≤ 1000) : helN c 128 = 2 := helN_k h1 h2 123 (by decide)
end Go.Proofs.YtjbglifmppilfaaDoor
namespace Go.Proofs.YtjbglifmppilfaaDoor
open Go.ChangeShapes Go.WideShapes Go.ChangeAt Go.RowKit
set_option linter.unusedVariables false
set_option linter.unusedSimpArgs false
attribute [local go_sem] Og.Opt Og.OpY Oper.semAt_some

theorem Sl_heap {α : Type} {f : α → List Value} {m : Nat} {w : World} {g : Nat} {xs : List α} {ty : TypeId} (hm : ∀ x, (f x).length = m) (k : w.heap[g]? = some (.cells (xs.flatMap f).toArray ty (0, 0))) : Sl f m 0 w (.slice (some ⟨g, 0, none⟩) xs.length xs.length) xs :=
  ⟨_, _, rfl, fun i x hx => ⟨g, 0, rfl, AtL.sub (n := m) (i * m) (AtL_heap k) (flat_tk hm hx)⟩, fun h => (by cases h), fun a _ => Nat.zero_le _, Nat.le_refl _⟩
theorem cLk_len' (x : Lk) : (cLk x).length = 4 := rfl
theorem gt_hs3 : gt hs3 3 = 12 := by decide +kernel
theorem lo12 : mV 12 = .agg #[.int .u64 12, .int .u64 0] := by kernel_rfl
set_option maxRecDepth 100000 in
set_option maxHeartbeats 8000000 in
theorem awake_ok (w : World) (tb : Tab w) : Calls Tryd.prog 5 #[] w fun e w' => e = .returned (.bool true) ∧ Below w.heap.size w w' := by
  have TB := Lib.hid tb
  obtain ⟨z, hz⟩ : ∃ z, z = w.heap.size := ⟨_, rfl⟩
  have HZ := Lib.hid hz
  clear tb
  go_enter Tryd.func5, Tryd.ntmps5
  go_wp2_with fail
  rw [← hz]
  clear hz
  obtain ⟨wa, hwa⟩ : ∃ wa, wa = (((w.alloc (.cells (ns3.flatMap cNd).toArray 53)).alloc (.cells (ls3.flatMap cLk).toArray 45)).alloc (.cells #[.slice (some ⟨z, 0, none⟩) 3 3, .slice (some ⟨z + 1, 0, none⟩) 3 3, .slice none 0 0] 42)) := ⟨_, rfl⟩
  have b1 : Below w.heap.size w wa := by rw [hwa]; exact (((Below.refl _ _).alloc (Nat.le_refl _) _).alloc (by simp) _).alloc (by simp; omega) _
  have k0 : wa.heap[z]? = some (.cells (ns3.flatMap cNd).toArray 53 (0, 0)) := by rw [hwa]; exact heap_keep ((Below.refl _ _).alloc (Nat.le_refl _) _) (heap_keep ((Below.refl _ _).alloc (Nat.le_refl _) _) (heap_at HZ.out))
  have k1 : wa.heap[z + 1]? = some (.cells (ls3.flatMap cLk).toArray 45 (0, 0)) := by rw [hwa]; exact heap_keep ((Below.refl _ _).alloc (Nat.le_refl _) _) (heap_at (by rw [HZ.out]; simp))
  have hG : GX wa (.slice (some ⟨z, 0, none⟩) 3 3) (.slice (some ⟨z + 1, 0, none⟩) 3 3) (.slice none 0 0) ns3 ls3 := ⟨Sl_heap cNd_len k0, Sl_heap cLk_len' k1, Sl.nil, snd3, by decide⟩
  have HW : (((w.alloc (.cells #[.int .i64 1, .bool false, .complex .f64 0 0, .int .i64 2, .bool false, .complex .f64 0 0, .int .i64 3, .bool false, .complex .f64 0 0] 53)).alloc (.cells #[.int .i64 1, .int .i64 2, .int .i64 1, .int .i64 0, .int .i64 1, .int .i64 3, .int .i64 2, .int .i64 0, .int .i64 2, .int .i64 3, .int .i64 1, .int .i64 0] 45)).alloc (.cells #[.slice (some ⟨z, 0, none⟩) 3 3, .slice (some ⟨z + 1, 0, none⟩) 3 3, .slice none 0 0] 42)) = wa := by rw [hwa]; rfl
  rw [HW]
  clear HW hwa k0 k1
  refine (hRun_ok 1 0 ns3 ls3 _ _ _ ds3 ps3 wa hG rfl tree3 (dsOkB_ok ds3_ok) (allMB_ok ps3_ok).1 (allMB_ok ps3_ok).2 (TB.out.below b1 TB.out.size)).mono ?_
  rintro e w2 ⟨⟨v, ys, rfl, hF, hys, hup⟩, hb2⟩
  rw [fill_is near3 filled3 (by decide +kernel) ds3_ok hys hup] at hF
  obtain ⟨vD, vP, gH, rfl, oD, oP, hgH, kH, hne⟩ := hF
  obtain ⟨AD, cD, eD⟩ := own_small oD
  obtain ⟨AP, cP, eP⟩ := own_small oP
  subst eD
  subst eP
  have B2 := Lib.hid (bthen b1 hb2)
  have r12 : AtL w2 gH 6 (cM 12) := by
    have := AtL.sub (n := 2) (3 * 2) (AtL_heap kH) (flat_tk cM_len (show hs3[3]? = some 12 by decide +kernel))
    simpa using this
  have R12 := Lib.hid r12
  clear oD oP hgH kH hne b1 hG hb2 hys hup r12
  go_wp2_with (first | (refine wpList_storeN rfl 25 (.tmp 2) (.tmp 16) rfl rfl w2.heap.size #[.int .i64 1, .slice AD 128 cD, .slice AP 128 cP, .slice (some ⟨gH, 0, none⟩) 128 128] rfl rfl 25 _ (heap_at rfl) info99s rfl (by simp [Value.oneCell']) ?_; intro w5 hz5 hb5 hn5 hs5; have b5 := below_storeA hb5; have Z5 := Lib.hid hz5; have B5 := Lib.hid (bthen B2.out b5); have q6 : w5.cell? ⟨gH, 6, none⟩ = some (.int .u64 12) := R12.out.below b5 0 _ rfl; have q7 : w5.cell? ⟨gH, 7, none⟩ = some (.int .u64 0) := R12.out.below b5 1 _ rfl; have q3 : w5.cell? ⟨w2.heap.size, 3, none⟩ = some (.slice (some ⟨gH, 0, none⟩) 128 128) := (by rw [cell_of_row w5 _ 3 _ _ _ Z5.out]; rfl); clear hz5 hb5 hn5 hs5 b5))
  have he := eqM 12 12 w5
  rw [lo12] at he
  simp only [decide_true] at he
  unfold Op.equal Op.maxDepth at he
  unfold Oper.upon
  go_simp
  clear he
  go_wp2_with fail
  go_ret
  exact ⟨rfl, B5.out⟩

end Go.Proofs.YtjbglifmppilfaaDoor
namespace Go.Proofs.YtjbglifmppilfaaDoor
open Go.ChangeShapes Go.WideShapes Go.ChangeAt Go.RowKit
set_option linter.unusedVariables false
set_option linter.unusedSimpArgs false
attribute [local go_sem] Og.Opt Og.OpY Oper.semAt_some

set_option maxRecDepth 100000 in
set_option maxHeartbeats 8000000 in
theorem square_ok (w : World) : Calls Tryd.prog 12 #[] w fun e w' => (∃ gN gL, e = .returned (.agg #[.slice (some ⟨gN, 0, none⟩) 4 4, .slice (some ⟨gL, 0, none⟩) 8 8, .slice none 0 0]) ∧ w.heap.size ≤ gN ∧ w.heap.size ≤ gL ∧ w'.heap[gN]? = some (.cells (nsQ.flatMap cNd).toArray 53 (0, 0)) ∧ w'.heap[gL]? = some (.cells ((lsQ 1).flatMap cLk).toArray 45 (0, 0))) ∧ Below w.heap.size w w' := by
  go_enter Tryd.func12, Tryd.ntmps12
  go_wp2_with fail
  obtain ⟨z, hz⟩ : ∃ z, z = w.heap.size := ⟨_, rfl⟩
  rw [← hz]
  have b1 : Below w.heap.size w (w.alloc (Obj.cells #[.slice (some ⟨z + 1, 0, none⟩) 4 4, .slice (some ⟨z + 1 + 1, 0, none⟩) 8 8, .slice none 0 0] 42)) := (Below.refl _ _).alloc (Nat.le_refl _) _
  have b2 : Below (w.alloc (Obj.cells #[.slice (some ⟨z + 1, 0, none⟩) 4 4, .slice (some ⟨z + 1 + 1, 0, none⟩) 8 8, .slice none 0 0] 42)).heap.size (w.alloc (Obj.cells #[.slice (some ⟨z + 1, 0, none⟩) 4 4, .slice (some ⟨z + 1 + 1, 0, none⟩) 8 8, .slice none 0 0] 42)) ((w.alloc (Obj.cells #[.slice (some ⟨z + 1, 0, none⟩) 4 4, .slice (some ⟨z + 1 + 1, 0, none⟩) 8 8, .slice none 0 0] 42)).alloc (Obj.cells (nsQ.flatMap cNd).toArray 53)) := (Below.refl _ _).alloc (Nat.le_refl _) _
  have b3 : Below ((w.alloc (Obj.cells #[.slice (some ⟨z + 1, 0, none⟩) 4 4, .slice (some ⟨z + 1 + 1, 0, none⟩) 8 8, .slice none 0 0] 42)).alloc (Obj.cells (nsQ.flatMap cNd).toArray 53)).heap.size ((w.alloc (Obj.cells #[.slice (some ⟨z + 1, 0, none⟩) 4 4, .slice (some ⟨z + 1 + 1, 0, none⟩) 8 8, .slice none 0 0] 42)).alloc (Obj.cells (nsQ.flatMap cNd).toArray 53)) (((w.alloc (Obj.cells #[.slice (some ⟨z + 1, 0, none⟩) 4 4, .slice (some ⟨z + 1 + 1, 0, none⟩) 8 8, .slice none 0 0] 42)).alloc (Obj.cells (nsQ.flatMap cNd).toArray 53)).alloc (Obj.cells ((lsQ 1).flatMap cLk).toArray 45)) := (Below.refl _ _).alloc (Nat.le_refl _) _
  have k0 : (((w.alloc (Obj.cells #[.slice (some ⟨z + 1, 0, none⟩) 4 4, .slice (some ⟨z + 1 + 1, 0, none⟩) 8 8, .slice none 0 0] 42)).alloc (Obj.cells (nsQ.flatMap cNd).toArray 53)).alloc (Obj.cells ((lsQ 1).flatMap cLk).toArray 45)).heap[z]? = some (.cells #[.slice (some ⟨z + 1, 0, none⟩) 4 4, .slice (some ⟨z + 1 + 1, 0, none⟩) 8 8, .slice none 0 0] 42 (0, 0)) := heap_keep (bthen b2 b3) (heap_at hz)
  have k1 : (((w.alloc (Obj.cells #[.slice (some ⟨z + 1, 0, none⟩) 4 4, .slice (some ⟨z + 1 + 1, 0, none⟩) 8 8, .slice none 0 0] 42)).alloc (Obj.cells (nsQ.flatMap cNd).toArray 53)).alloc (Obj.cells ((lsQ 1).flatMap cLk).toArray 45)).heap[z + 1]? = some (.cells (nsQ.flatMap cNd).toArray 53 (0, 0)) := heap_keep b3 (heap_at (by rw [hz]; simp))
  have k2 : (((w.alloc (Obj.cells #[.slice (some ⟨z + 1, 0, none⟩) 4 4, .slice (some ⟨z + 1 + 1, 0, none⟩) 8 8, .slice none 0 0] 42)).alloc (Obj.cells (nsQ.flatMap cNd).toArray 53)).alloc (Obj.cells ((lsQ 1).flatMap cLk).toArray 45)).heap[z + 1 + 1]? = some (.cells ((lsQ 1).flatMap cLk).toArray 45 (0, 0)) := heap_at (by rw [hz]; simp)
  refine bodyPost_ret (results_cell1 rfl rfl (run_loadL (cs := [.slice (some ⟨z + 1, 0, none⟩) 4 4, .slice (some ⟨z + 1 + 1, 0, none⟩) 8 8, .slice none 0 0]) isAgg42t size42t rfl (AtL_heap k0))) rfl ?_
  exact ⟨⟨z + 1, z + 1 + 1, rfl, by omega, by omega, k1, k2⟩, by have hb := bthen b1 (bthen b2 b3); rw [← hz] at hb; exact hb⟩

end Go.Proofs.YtjbglifmppilfaaDoor
