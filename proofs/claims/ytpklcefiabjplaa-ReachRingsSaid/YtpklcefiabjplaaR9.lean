/- The tree of nearest ways as a function on plain data; what its walk keeps; no condition. -/
import Derived.Test.YtpklcefiabjplaaR8
namespace Go.Proofs.Ytpklcefiabjplaa
open Go.ChangeShapes Go.WideShapes Go.ChangeAt Go.RowKit
set_option linter.unusedVariables false
set_option linter.unusedSimpArgs false
attribute [local go_sem] Og.Opt Og.OpY

attribute [local go_sem] Og.Opt Og.OpY
structure Ts where
  hs : Hs
  ds : List Int
def infZ : Int := 1073741824
def relaxP (s : Ts) (d : Int) (l : Lk) : Option Ts :=
  if oks l.t = true then
    match s.ds[l.t.toNat]? with
    | some old =>
      if old = infZ then (pushP s.hs l.t (dsum d l.c)).map fun h => ⟨h, if dsum d l.c < old then s.ds.set l.t.toNat (dsum d l.c) else s.ds⟩
      else if dsum d l.c < old then (lowerP s.hs l.t (dsum d l.c)).map fun h => ⟨h, s.ds.set l.t.toNat (dsum d l.c)⟩
      else some s
    | none => none
  else none
def relaxL : Ts → Int → List Lk → Option Ts
  | s, _, [] => some s
  | s, d, l :: ls => (relaxP s d l).bind fun s' => relaxL s' d ls
def treeLoop (xss : List (List Lk)) : Nat → Ts → Option (List Int)
  | 0, _ => none
  | f + 1, s => if s.hs.es.length = 0 then some s.ds else
    (popP s.hs).bind fun r => if oks r.1.n = true then
      match xss[r.1.n.toNat]? with
      | some ls => (relaxL ⟨r.2, s.ds⟩ r.1.k ls).bind fun s' => treeLoop xss f s'
      | none => none
    else none
def treeP (xss : List (List Lk)) (root : Int) : Option (List Int) :=
  if oks root = true then (pushP h0s root 0).bind fun h => treeLoop xss 2000 ⟨h, (List.replicate 128 infZ).set root.toNat 0⟩ else none
theorem exists_least {P : Nat → Prop} (h : ∃ n, P n) : ∃ n, P n ∧ ∀ m, P m → n ≤ m := by
  obtain ⟨n, hn⟩ := h
  induction n using Nat.strongRecOn with
  | _ n ih =>
    by_cases hx : ∃ m, m < n ∧ P m
    · obtain ⟨m, hm, hp⟩ := hx
      exact ih m hm hp
    · exact ⟨n, hn, fun m hm => Nat.le_of_not_lt fun hl => hx ⟨m, hl, hm⟩⟩
/-- the least n with P n; 0 where there is none -/
noncomputable def fuelOf (P : Nat → Prop) : Nat := by
  classical
  exact if h : ∃ f, P f then Classical.choose (exists_least h) else 0
theorem fuelOf_spec {P : Nat → Prop} (h : ∃ f, P f) : P (fuelOf P) := by
  classical
  unfold fuelOf
  rw [dif_pos h]
  exact (Classical.choose_spec (exists_least h)).1
theorem fuelOf_le {P : Nat → Prop} {n : Nat} (h : P n) : fuelOf P ≤ n := by
  classical
  unfold fuelOf
  rw [dif_pos ⟨n, h⟩]
  exact (Classical.choose_spec (exists_least ⟨n, h⟩)).2 n h
def dC (ds : List Int) : List Value := ds.map fun z => Value.int .i64 z
theorem dC_set (ds : List Int) (k : Nat) (z : Int) : (dC ds).set k (.int .i64 z) = dC (ds.set k z) := by simp [dC, List.map_set]
/-- a row of sets: whatever they are -/
def PL (cur : List Value) : Prop := cur.length = 256 ∧ ∀ u ∈ cur, ∃ z, u = Value.int .u64 z
theorem PL.get {cur : List Value} (h : PL cur) {k : Nat} (hk : k < 256) : ∃ z, cur[k]? = some (.int .u64 z) := by
  have hk' : k < cur.length := by rw [h.1]; exact hk
  have h1 : cur[k]? = some cur[k] := List.getElem?_eq_getElem hk'
  obtain ⟨z, hz⟩ := h.2 _ (List.getElem_mem hk')
  exact ⟨z, by rw [h1, hz]⟩
theorem PL.put {cur : List Value} (h : PL cur) {k : Nat} (hk : k < 128) (a b : Int) : PL (cur.take (k * 2) ++ [Value.int .u64 a, Value.int .u64 b] ++ cur.drop (k * 2 + 2)) := by
  refine ⟨by simp only [List.length_append, List.length_take, List.length_drop, List.length_cons, List.length_nil, h.1]; omega, fun u hu => ?_⟩
  simp only [List.mem_append, List.mem_cons, List.not_mem_nil, or_false] at hu
  rcases hu with (hu | rfl | rfl) | hu
  · exact h.2 u (List.mem_of_mem_take hu)
  · exact ⟨_, rfl⟩
  · exact ⟨_, rfl⟩
  · exact h.2 u (List.mem_of_mem_drop hu)
theorem run_storeB {w : World} {g k : Nat} {t : TypeId} {cur : List Value} (q : Int × Int) (hg : w.heap[g]? = some (.cells cur.toArray t (0, 0))) (hk : k * 2 + 2 ≤ cur.length) :
    ∃ w', (storeVar 25 ⟨g, k * 2, none⟩ (bV q)).run Try.prog w = .ok () w' ∧ w'.heap[g]? = some (.cells (cur.take (k * 2) ++ [Value.int .u64 q.1, Value.int .u64 q.2] ++ cur.drop (k * 2 + 2)).toArray t (0, 0)) ∧ w'.heap.size = w.heap.size ∧ (∀ j, j ≠ g → w'.heap[j]? = w.heap[j]?) ∧ (∀ B, B ≤ g → Below B w w') := by
  have hst := run_storeCells_at Try.prog g (k * 2) t [.int .u64 q.1, .int .u64 q.2] 0 cur.toArray w hg (by simp; omega) (by intro v hv; simp only [List.mem_cons, List.not_mem_nil, or_false] at hv; rcases hv with rfl | rfl <;> rfl)
  simp only [Nat.add_zero, List.length_cons, List.length_nil, Nat.zero_add, Nat.reduceAdd] at hst
  refine ⟨w.setRow g (cur.take (k * 2) ++ [Value.int .u64 q.1, Value.int .u64 q.2] ++ cur.drop (k * 2 + 2)).toArray, ?_, setRow_heap w g _ _ t (0, 0) hg, by simp [World.setRow], fun j hj => setRow_other w g j _ hj, fun B hB => ⟨rfl, rfl, rfl, by simp [World.setRow], fun j hj => setRow_other w g j _ (by omega)⟩⟩
  unfold storeVar
  have e1 : (bV q).cells.size = 2 := rfl
  have e2 : (bV q).cells.toList = [.int .u64 q.1, .int .u64 q.2] := rfl
  simp only [Sem.run_bind, size25, Result.andThen_ok, e1, ne_eq, not_true_eq_false, if_false, e2, hst, Sem.run_pure]
/-- what the walk of Tree keeps: low: nothing below w changes; the tree's block b5, its rows gD and gP, the heap at h -/
structure Tr (w : World) (h b5 gD gP : Nat) (root : Int) (vH : Value) (wr : World) (s : Ts) (v : Value) : Prop where
  low : Below w.heap.size w wr
  k4 : ∃ old : Array Value, wr.heap[w.heap.size]? = some (.cells old 99 (0, 0)) ∧ old.size = 4
  k5 : wr.heap[b5]? = some (.cells #[.int .i64 root, .slice (some ⟨gD, 0, none⟩) 128 128, .slice (some ⟨gP, 0, none⟩) 128 128, vH] 99 (0, 0))
  kD : wr.heap[gD]? = some (.cells (dC s.ds).toArray 3 (0, 0))
  kP : ∃ ps : List Value, wr.heap[gP]? = some (.cells ps.toArray 25 (0, 0)) ∧ PL ps
  hp : Hp h wr v s.hs.es s.hs.tb
  len : s.ds.length = 128
structure Od (z h b5 gD gP : Nat) : Prop where
  o5 : z < b5
  oD : z < gD
  oP : z < gP
  h5 : b5 < h
  hD : gD < h
  hP : gP < h
  d5 : gD ≠ b5
  p5 : gP ≠ b5
  dp : gD ≠ gP
section
variable {w wr w2 : World} {h b5 gD gP : Nat} {root : Int} {vH v v' : Value} {s : Ts}
theorem Tr.below (T : Tr w h b5 gD gP root vH wr s v) (hb : Below wr.heap.size wr w2) : Tr w h b5 gD gP root vH w2 s v := by
  obtain ⟨old, h4, h4s⟩ := T.k4
  obtain ⟨ps, hp1, hp2⟩ := T.kP
  exact ⟨bthen T.low hb, ⟨old, heap_keep hb h4, h4s⟩, heap_keep hb T.k5, heap_keep hb T.kD, ⟨ps, heap_keep hb hp1, hp2⟩, T.hp.below hb, T.len⟩
theorem Tr.heap (T : Tr w h b5 gD gP root vH wr s v) (O : Od w.heap.size h b5 gD gP) (f : Fr h v wr w2) {hs : Hs} (H : Hp h w2 v' hs.es hs.tb) : Tr w h b5 gD gP root vH w2 ⟨hs, s.ds⟩ v' := by
  obtain ⟨old, h4, h4s⟩ := T.k4
  obtain ⟨ps, hp1, hp2⟩ := T.kP
  have b := f.bel
  have z := T.low.size
  have hh := T.hp.lt
  have := O.o5; have := O.h5
  exact ⟨T.low.trans (b.mono (by omega)), ⟨old, (b.block _ (by omega)).trans h4, h4s⟩, (b.block _ O.h5).trans T.k5, (b.block _ O.hD).trans T.kD, ⟨ps, (b.block _ O.hP).trans hp1, hp2⟩, H, T.len⟩
/-- one distance stored -/
theorem Tr.dist (T : Tr w h b5 gD gP root vH wr s v) (O : Od w.heap.size h b5 gD gP) {k : Nat} {z : Int} (h1 : w2.heap[gD]? = some (.cells (dC (s.ds.set k z)).toArray 3 (0, 0))) (h2 : ∀ j, j ≠ gD → w2.heap[j]? = wr.heap[j]?) (h3 : ∀ B, B ≤ gD → Below B wr w2) : Tr w h b5 gD gP root vH w2 ⟨s.hs, s.ds.set k z⟩ v := by
  obtain ⟨old, h4, h4s⟩ := T.k4
  obtain ⟨ps, hp1, hp2⟩ := T.kP
  have hsz := (h3 0 (Nat.zero_le _)).size
  have := O.oD; have := O.hD
  refine ⟨T.low.trans (h3 _ (by omega)), ⟨old, (h2 _ (by omega)).trans h4, h4s⟩, (h2 _ (Ne.symm O.d5)).trans T.k5, h1, ⟨ps, (h2 _ (Ne.symm O.dp)).trans hp1, hp2⟩, ⟨(h2 h (by omega)).trans T.hp.blk, ownR_same T.hp.own (fun g hg => h2 g (fun e => ?_)) hsz, T.hp.len⟩, by simpa using T.len⟩
  subst e
  have := (T.hp.own.lt _ hg).1
  omega
/-- one set stored -/
theorem Tr.par (T : Tr w h b5 gD gP root vH wr s v) (O : Od w.heap.size h b5 gD gP) (h1 : ∃ ps : List Value, w2.heap[gP]? = some (.cells ps.toArray 25 (0, 0)) ∧ PL ps) (h2 : ∀ j, j < wr.heap.size → j ≠ gP → w2.heap[j]? = wr.heap[j]?) (h3 : Below gP wr w2) : Tr w h b5 gD gP root vH w2 s v := by
  obtain ⟨old, h4, h4s⟩ := T.k4
  have hsz := h3.size
  have := O.oP; have := O.hP; have hhl := T.hp.lt; have := O.hD; have := O.h5; have := T.low.size
  refine ⟨T.low.trans (h3.mono (by omega)), ⟨old, (h2 _ (by omega) (by omega)).trans h4, h4s⟩, (h2 _ (by omega) (Ne.symm O.p5)).trans T.k5, (h2 _ (by omega) O.dp).trans T.kD, h1, ⟨(h2 h (by omega) (by omega)).trans T.hp.blk, ownR_same T.hp.own (fun g hg => ?_) hsz, T.hp.len⟩, T.len⟩
  have := T.hp.own.lt _ hg
  exact h2 g (by omega) (by omega)
end
theorem relaxL_drop {s s2 : Ts} {d : Int} {ls : List Lk} {k : Nat} {l : Lk} (h : relaxL s d (ls.drop k) = some s2) (hl : ls[k]? = some l) : ∃ s', relaxP s d l = some s' ∧ relaxL s' d (ls.drop (k + 1)) = some s2 := by
  obtain ⟨hk, e⟩ := List.getElem?_eq_some_iff.1 hl
  rw [List.drop_eq_getElem_cons hk, e, relaxL, Option.bind_eq_some_iff] at h
  exact h
theorem relaxP_some {s s' : Ts} {d : Int} {l : Lk} (h : relaxP s d l = some s') : oks l.t = true ∧ ∃ old, s.ds[l.t.toNat]? = some old ∧
    ((old = infZ ∧ ∃ hs, pushP s.hs l.t (dsum d l.c) = some hs ∧ s' = ⟨hs, if dsum d l.c < old then s.ds.set l.t.toNat (dsum d l.c) else s.ds⟩) ∨
     (old ≠ infZ ∧ dsum d l.c < old ∧ ∃ hs, lowerP s.hs l.t (dsum d l.c) = some hs ∧ s' = ⟨hs, s.ds.set l.t.toNat (dsum d l.c)⟩) ∨
     (old ≠ infZ ∧ ¬ dsum d l.c < old ∧ s' = s)) := by
  unfold relaxP at h
  split at h
  · rename_i ho
    refine ⟨ho, ?_⟩
    split at h
    · rename_i old hold
      refine ⟨old, hold, ?_⟩
      split at h
      · rename_i hi
        rw [Option.map_eq_some_iff] at h
        obtain ⟨hs, h1, h2⟩ := h
        exact .inl ⟨hi, hs, h1, h2.symm⟩
      · rename_i hi
        split at h
        · rename_i hc
          rw [Option.map_eq_some_iff] at h
          obtain ⟨hs, h1, h2⟩ := h
          exact .inr (.inl ⟨hi, hc, hs, h1, h2.symm⟩)
        · rename_i hc
          cases h
          exact .inr (.inr ⟨hi, hc, rfl⟩)
    · cases h
  · cases h

end Go.Proofs.Ytpklcefiabjplaa
