/- Contracts of delta.change, delta.good and of the reference's good; condition: the addresses are uint32. -/
import Derived.Test.YtpnhkniegjfncaaD24
namespace Go.Proofs.Ytpnhkniegjfncaa
open Go.ChangeShapes Go.WideShapes Go.ChangeAt Go.RowKit
set_option linter.unusedVariables false
set_option linter.unusedSimpArgs false
attribute [local go_sem] Og.Opt Og.OpY
attribute [local go_sem high] eqB1 eqP1 eqR1 eqC1

/-- is a change sound by itself? -/
def goodC (c : Ch) : Bool := if c.k = 1 then rouB c.n else if c.k = 2 then rouB c.o else if c.k = 3 then rouB c.o && rouB c.n && decide (c.o.p = c.n.p) && !decide (c.o = c.n) else false
def zC : Ch := ⟨0, zR, zR⟩
/-- the change from one route to another, and whether there is one -/
def chgP (o n : Ro) : Ch × Bool := if o = n then (zC, false) else (⟨if o = zR then 1 else if n = zR then 2 else 3, o, n⟩, true)
theorem chgP_L (o n : Ro) : chgL o n = if (chgP o n).2 then [(chgP o n).1] else [] := by
  unfold chgL chgP
  by_cases h : o = n
  · simp [h]
  · by_cases h1 : o = zR
    · subst h1; simp [h]
    · by_cases h2 : n = zR
      · subst h2; simp [h, h1]
      · simp [h, h1, h2]
theorem sndT_one (r : Ro) : sndT [r] = rouB r := by simp [sndT, okI, List.range_succ]
theorem AtR_new (w : World) (r : Ro) : AtR (w.alloc (.cells #[.int .u32 r.p.a, .int .i64 r.p.l, .int .i64 r.m, .int .u64 r.o0, .int .u64 r.o1, .int .u64 r.h0, .int .u64 r.h1] 40)) w.heap.size 0 r := by
  have h := heap_alloc_new w (.cells #[.int .u32 r.p.a, .int .i64 r.p.l, .int .i64 r.m, .int .u64 r.o0, .int .u64 r.o1, .int .u64 r.h0, .int .u64 r.h1] 40)
  exact cells7 h
theorem Sound_one (r : Ro) (g : Nat) (w : World) (h : AtR w g 0 r) : Calls Try.prog 22 #[.slice (some ⟨g, 0, none⟩) 1 1] w fun e w' => e = .returned (.int .i64 (errT (rouB r))) ∧ Below w.heap.size w w' := by
  have := Sound_ok [r] (some ⟨g, 0, none⟩) 1 w (fun i r' hi => by
    have hi' := (List.getElem?_eq_some_iff.1 hi).1
    obtain rfl : i = 0 := by simp at hi'; exact hi'
    obtain rfl : r = r' := by simpa using hi
    exact ⟨g, 0, rfl, by simpa using h⟩) (by simp)
  rwa [sndT_one] at this

set_option maxRecDepth 100000 in
set_option maxHeartbeats 2000000 in
theorem changeP_1 (o n : Ro) (w : World) (t1 : eqRb o.p.a o.p.l o.m o.o0 o.o1 o.h0 o.h1 n.p.a n.p.l n.m n.o0 n.o1 n.h0 n.h1 = true) (E : Hid (chgP o n = (zC, false))) :
    Calls Try.prog 35 #[.agg #[.int .u32 o.p.a, .int .i64 o.p.l, .int .i64 o.m, .int .u64 o.o0, .int .u64 o.o1, .int .u64 o.h0, .int .u64 o.h1], .agg #[.int .u32 n.p.a, .int .i64 n.p.l, .int .i64 n.m, .int .u64 n.o0, .int .u64 n.o1, .int .u64 n.h0, .int .u64 n.h1]] w fun e w' => e = .returned (.tuple #[.agg #[.int .i64 (chgP o n).1.k, .int .u32 (chgP o n).1.o.p.a, .int .i64 (chgP o n).1.o.p.l, .int .i64 (chgP o n).1.o.m, .int .u64 (chgP o n).1.o.o0, .int .u64 (chgP o n).1.o.o1, .int .u64 (chgP o n).1.o.h0, .int .u64 (chgP o n).1.o.h1, .int .u32 (chgP o n).1.n.p.a, .int .i64 (chgP o n).1.n.p.l, .int .i64 (chgP o n).1.n.m, .int .u64 (chgP o n).1.n.o0, .int .u64 (chgP o n).1.n.o1, .int .u64 (chgP o n).1.n.h0, .int .u64 (chgP o n).1.n.h1], .bool (chgP o n).2]) ∧ Below w.heap.size w w' := by
  go_enter Try.func35, Try.ntmps35
  go_wp2_with fail
  exact bodyPost_ret (v := .tuple #[.agg #[.int .i64 0, .int .u32 0, .int .i64 0, .int .i64 0, .int .u64 0, .int .u64 0, .int .u64 0, .int .u64 0, .int .u32 0, .int .i64 0, .int .i64 0, .int .u64 0, .int .u64 0, .int .u64 0, .int .u64 0], .bool false]) (by simp [results, Try.f35, go_sem]) rfl ⟨by rw [E.out]; try rfl, (by repeat (first | exact Below.refl _ _ | refine Below.setCell ?_ (by first | (simp; done) | (simp; omega)) _ | refine Below.alloc ?_ (by first | exact Nat.le_refl _ | (simp; done) | (simp; omega)) _))⟩

set_option maxRecDepth 100000 in
set_option maxHeartbeats 2000000 in
theorem changeP_2 (o n : Ro) (w : World) (t1 : eqRb o.p.a o.p.l o.m o.o0 o.o1 o.h0 o.h1 n.p.a n.p.l n.m n.o0 n.o1 n.h0 n.h1 = false) (t2 : eqRb o.p.a o.p.l o.m o.o0 o.o1 o.h0 o.h1 0 0 0 0 0 0 0 = true) (E : Hid (chgP o n = (⟨1, o, n⟩, true))) :
    Calls Try.prog 35 #[.agg #[.int .u32 o.p.a, .int .i64 o.p.l, .int .i64 o.m, .int .u64 o.o0, .int .u64 o.o1, .int .u64 o.h0, .int .u64 o.h1], .agg #[.int .u32 n.p.a, .int .i64 n.p.l, .int .i64 n.m, .int .u64 n.o0, .int .u64 n.o1, .int .u64 n.h0, .int .u64 n.h1]] w fun e w' => e = .returned (.tuple #[.agg #[.int .i64 (chgP o n).1.k, .int .u32 (chgP o n).1.o.p.a, .int .i64 (chgP o n).1.o.p.l, .int .i64 (chgP o n).1.o.m, .int .u64 (chgP o n).1.o.o0, .int .u64 (chgP o n).1.o.o1, .int .u64 (chgP o n).1.o.h0, .int .u64 (chgP o n).1.o.h1, .int .u32 (chgP o n).1.n.p.a, .int .i64 (chgP o n).1.n.p.l, .int .i64 (chgP o n).1.n.m, .int .u64 (chgP o n).1.n.o0, .int .u64 (chgP o n).1.n.o1, .int .u64 (chgP o n).1.n.h0, .int .u64 (chgP o n).1.n.h1], .bool (chgP o n).2]) ∧ Below w.heap.size w w' := by
  go_enter Try.func35, Try.ntmps35
  go_wp2_with fail
  exact bodyPost_ret (v := .tuple #[.agg #[.int .i64 1, .int .u32 o.p.a, .int .i64 o.p.l, .int .i64 o.m, .int .u64 o.o0, .int .u64 o.o1, .int .u64 o.h0, .int .u64 o.h1, .int .u32 n.p.a, .int .i64 n.p.l, .int .i64 n.m, .int .u64 n.o0, .int .u64 n.o1, .int .u64 n.h0, .int .u64 n.h1], .bool true]) (by simp [results, Try.f35, go_sem]) rfl ⟨by rw [E.out]; try rfl, (by repeat (first | exact Below.refl _ _ | refine Below.setCell ?_ (by first | (simp; done) | (simp; omega)) _ | refine Below.alloc ?_ (by first | exact Nat.le_refl _ | (simp; done) | (simp; omega)) _))⟩

set_option maxRecDepth 100000 in
set_option maxHeartbeats 2000000 in
theorem changeP_3 (o n : Ro) (w : World) (t1 : eqRb o.p.a o.p.l o.m o.o0 o.o1 o.h0 o.h1 n.p.a n.p.l n.m n.o0 n.o1 n.h0 n.h1 = false) (t2 : eqRb o.p.a o.p.l o.m o.o0 o.o1 o.h0 o.h1 0 0 0 0 0 0 0 = false) (t3 : eqRb n.p.a n.p.l n.m n.o0 n.o1 n.h0 n.h1 0 0 0 0 0 0 0 = true) (E : Hid (chgP o n = (⟨2, o, n⟩, true))) :
    Calls Try.prog 35 #[.agg #[.int .u32 o.p.a, .int .i64 o.p.l, .int .i64 o.m, .int .u64 o.o0, .int .u64 o.o1, .int .u64 o.h0, .int .u64 o.h1], .agg #[.int .u32 n.p.a, .int .i64 n.p.l, .int .i64 n.m, .int .u64 n.o0, .int .u64 n.o1, .int .u64 n.h0, .int .u64 n.h1]] w fun e w' => e = .returned (.tuple #[.agg #[.int .i64 (chgP o n).1.k, .int .u32 (chgP o n).1.o.p.a, .int .i64 (chgP o n).1.o.p.l, .int .i64 (chgP o n).1.o.m, .int .u64 (chgP o n).1.o.o0, .int .u64 (chgP o n).1.o.o1, .int .u64 (chgP o n).1.o.h0, .int .u64 (chgP o n).1.o.h1, .int .u32 (chgP o n).1.n.p.a, .int .i64 (chgP o n).1.n.p.l, .int .i64 (chgP o n).1.n.m, .int .u64 (chgP o n).1.n.o0, .int .u64 (chgP o n).1.n.o1, .int .u64 (chgP o n).1.n.h0, .int .u64 (chgP o n).1.n.h1], .bool (chgP o n).2]) ∧ Below w.heap.size w w' := by
  go_enter Try.func35, Try.ntmps35
  go_wp2_with fail
  exact bodyPost_ret (v := .tuple #[.agg #[.int .i64 2, .int .u32 o.p.a, .int .i64 o.p.l, .int .i64 o.m, .int .u64 o.o0, .int .u64 o.o1, .int .u64 o.h0, .int .u64 o.h1, .int .u32 n.p.a, .int .i64 n.p.l, .int .i64 n.m, .int .u64 n.o0, .int .u64 n.o1, .int .u64 n.h0, .int .u64 n.h1], .bool true]) (by simp [results, Try.f35, go_sem]) rfl ⟨by rw [E.out]; try rfl, (by repeat (first | exact Below.refl _ _ | refine Below.setCell ?_ (by first | (simp; done) | (simp; omega)) _ | refine Below.alloc ?_ (by first | exact Nat.le_refl _ | (simp; done) | (simp; omega)) _))⟩

set_option maxRecDepth 100000 in
set_option maxHeartbeats 2000000 in
theorem changeP_4 (o n : Ro) (w : World) (t1 : eqRb o.p.a o.p.l o.m o.o0 o.o1 o.h0 o.h1 n.p.a n.p.l n.m n.o0 n.o1 n.h0 n.h1 = false) (t2 : eqRb o.p.a o.p.l o.m o.o0 o.o1 o.h0 o.h1 0 0 0 0 0 0 0 = false) (t3 : eqRb n.p.a n.p.l n.m n.o0 n.o1 n.h0 n.h1 0 0 0 0 0 0 0 = false) (E : Hid (chgP o n = (⟨3, o, n⟩, true))) :
    Calls Try.prog 35 #[.agg #[.int .u32 o.p.a, .int .i64 o.p.l, .int .i64 o.m, .int .u64 o.o0, .int .u64 o.o1, .int .u64 o.h0, .int .u64 o.h1], .agg #[.int .u32 n.p.a, .int .i64 n.p.l, .int .i64 n.m, .int .u64 n.o0, .int .u64 n.o1, .int .u64 n.h0, .int .u64 n.h1]] w fun e w' => e = .returned (.tuple #[.agg #[.int .i64 (chgP o n).1.k, .int .u32 (chgP o n).1.o.p.a, .int .i64 (chgP o n).1.o.p.l, .int .i64 (chgP o n).1.o.m, .int .u64 (chgP o n).1.o.o0, .int .u64 (chgP o n).1.o.o1, .int .u64 (chgP o n).1.o.h0, .int .u64 (chgP o n).1.o.h1, .int .u32 (chgP o n).1.n.p.a, .int .i64 (chgP o n).1.n.p.l, .int .i64 (chgP o n).1.n.m, .int .u64 (chgP o n).1.n.o0, .int .u64 (chgP o n).1.n.o1, .int .u64 (chgP o n).1.n.h0, .int .u64 (chgP o n).1.n.h1], .bool (chgP o n).2]) ∧ Below w.heap.size w w' := by
  go_enter Try.func35, Try.ntmps35
  go_wp2_with fail
  exact bodyPost_ret (v := .tuple #[.agg #[.int .i64 3, .int .u32 o.p.a, .int .i64 o.p.l, .int .i64 o.m, .int .u64 o.o0, .int .u64 o.o1, .int .u64 o.h0, .int .u64 o.h1, .int .u32 n.p.a, .int .i64 n.p.l, .int .i64 n.m, .int .u64 n.o0, .int .u64 n.o1, .int .u64 n.h0, .int .u64 n.h1], .bool true]) (by simp [results, Try.f35, go_sem]) rfl ⟨by rw [E.out]; try rfl, (by repeat (first | exact Below.refl _ _ | refine Below.setCell ?_ (by first | (simp; done) | (simp; omega)) _ | refine Below.alloc ?_ (by first | exact Nat.le_refl _ | (simp; done) | (simp; omega)) _))⟩

theorem changeP_ok (o n : Ro) (w : World) :
    Calls Try.prog 35 #[.agg #[.int .u32 o.p.a, .int .i64 o.p.l, .int .i64 o.m, .int .u64 o.o0, .int .u64 o.o1, .int .u64 o.h0, .int .u64 o.h1], .agg #[.int .u32 n.p.a, .int .i64 n.p.l, .int .i64 n.m, .int .u64 n.o0, .int .u64 n.o1, .int .u64 n.h0, .int .u64 n.h1]] w fun e w' => e = .returned (.tuple #[.agg #[.int .i64 (chgP o n).1.k, .int .u32 (chgP o n).1.o.p.a, .int .i64 (chgP o n).1.o.p.l, .int .i64 (chgP o n).1.o.m, .int .u64 (chgP o n).1.o.o0, .int .u64 (chgP o n).1.o.o1, .int .u64 (chgP o n).1.o.h0, .int .u64 (chgP o n).1.o.h1, .int .u32 (chgP o n).1.n.p.a, .int .i64 (chgP o n).1.n.p.l, .int .i64 (chgP o n).1.n.m, .int .u64 (chgP o n).1.n.o0, .int .u64 (chgP o n).1.n.o1, .int .u64 (chgP o n).1.n.h0, .int .u64 (chgP o n).1.n.h1], .bool (chgP o n).2]) ∧ Below w.heap.size w w' := by
  by_cases h1 : o = n
  · exact changeP_1 o n w (by rw [eqRb_of]; simpa using h1) (Lib.hid (by unfold chgP; rw [if_pos h1]))
  · have t1 : eqRb o.p.a o.p.l o.m o.o0 o.o1 o.h0 o.h1 n.p.a n.p.l n.m n.o0 n.o1 n.h0 n.h1 = false := by rw [eqRb_of]; simpa using h1
    by_cases h2 : o = zR
    · exact changeP_2 o n w t1 (by have := eqRb_of o zR; rw [decide_eq_true h2] at this; exact this) (Lib.hid (by unfold chgP; rw [if_neg h1, if_pos h2]))
    · have t2 : eqRb o.p.a o.p.l o.m o.o0 o.o1 o.h0 o.h1 0 0 0 0 0 0 0 = false := by have := eqRb_of o zR; rw [decide_eq_false h2] at this; exact this
      by_cases h3 : n = zR
      · exact changeP_3 o n w t1 t2 (by have := eqRb_of n zR; rw [decide_eq_true h3] at this; exact this) (Lib.hid (by unfold chgP; rw [if_neg h1, if_neg h2, if_pos h3]))
      · exact changeP_4 o n w t1 t2 (by have := eqRb_of n zR; rw [decide_eq_false h3] at this; exact this) (Lib.hid (by unfold chgP; rw [if_neg h1, if_neg h2, if_neg h3]))

set_option maxRecDepth 100000 in
set_option maxHeartbeats 4000000 in
theorem good_ok (c : Ch) (w : World) :
    Calls Try.prog 50 #[.agg #[.int .i64 c.k, .int .u32 c.o.p.a, .int .i64 c.o.p.l, .int .i64 c.o.m, .int .u64 c.o.o0, .int .u64 c.o.o1, .int .u64 c.o.h0, .int .u64 c.o.h1, .int .u32 c.n.p.a, .int .i64 c.n.p.l, .int .i64 c.n.m, .int .u64 c.n.o0, .int .u64 c.n.o1, .int .u64 c.n.h0, .int .u64 c.n.h1]] w fun e w' => e = .returned (.bool (goodC c)) ∧ Below w.heap.size w w' := by
  have HS := Lib.hid Sound_one
  have E : Hid (∀ b, goodC c = b → Hid (goodC c = b)) := Lib.hid (fun b h => Lib.hid h)
  go_enter Try.func50, Try.ntmps50
  go_wp2_with fail
  obtain ⟨W1, hW⟩ : ∃ W1, W1 = w.alloc (.cells #[.int .i64 c.k, .int .u32 c.o.p.a, .int .i64 c.o.p.l, .int .i64 c.o.m, .int .u64 c.o.o0, .int .u64 c.o.o1, .int .u64 c.o.h0, .int .u64 c.o.h1, .int .u32 c.n.p.a, .int .i64 c.n.p.l, .int .i64 c.n.m, .int .u64 c.n.o0, .int .u64 c.n.o1, .int .u64 c.n.h0, .int .u64 c.n.h1] 42) := ⟨_, rfl⟩
  have hB1 := Lib.hid (show Below w.heap.size w W1 by rw [hW]; exact (Below.refl _ _).alloc (Nat.le_refl _) _)
  have hx : W1.heap[w.heap.size]? = some (.cells #[.int .i64 c.k, .int .u32 c.o.p.a, .int .i64 c.o.p.l, .int .i64 c.o.m, .int .u64 c.o.o0, .int .u64 c.o.o1, .int .u64 c.o.h0, .int .u64 c.o.h1, .int .u32 c.n.p.a, .int .i64 c.n.p.l, .int .i64 c.n.m, .int .u64 c.n.o0, .int .u64 c.n.o1, .int .u64 c.n.h0, .int .u64 c.n.h1] 42 (0, 0)) := by rw [hW]; exact heap_alloc_new w _
  rw [← hW]
  clear hW
  have HX := Lib.hid hx
  obtain ⟨x0, x1, x2, x3, x4, x5, x6, x7, x8, x9, x10, x11, x12, x13, x14⟩ := cells15 hx
  have HC : ∀ w2, Below W1.heap.size W1 w2 → w2.cell? ⟨w.heap.size, 0, none⟩ = some (.int .i64 c.k) ∧ w2.cell? ⟨w.heap.size, 1, none⟩ = some (.int .u32 c.o.p.a) ∧ w2.cell? ⟨w.heap.size, 2, none⟩ = some (.int .i64 c.o.p.l) ∧ w2.cell? ⟨w.heap.size, 3, none⟩ = some (.int .i64 c.o.m) ∧ w2.cell? ⟨w.heap.size, 4, none⟩ = some (.int .u64 c.o.o0) ∧ w2.cell? ⟨w.heap.size, 5, none⟩ = some (.int .u64 c.o.o1) ∧ w2.cell? ⟨w.heap.size, 6, none⟩ = some (.int .u64 c.o.h0) ∧ w2.cell? ⟨w.heap.size, 7, none⟩ = some (.int .u64 c.o.h1) ∧ w2.cell? ⟨w.heap.size, 8, none⟩ = some (.int .u32 c.n.p.a) ∧ w2.cell? ⟨w.heap.size, 9, none⟩ = some (.int .i64 c.n.p.l) ∧ w2.cell? ⟨w.heap.size, 10, none⟩ = some (.int .i64 c.n.m) ∧ w2.cell? ⟨w.heap.size, 11, none⟩ = some (.int .u64 c.n.o0) ∧ w2.cell? ⟨w.heap.size, 12, none⟩ = some (.int .u64 c.n.o1) ∧ w2.cell? ⟨w.heap.size, 13, none⟩ = some (.int .u64 c.n.h0) ∧ w2.cell? ⟨w.heap.size, 14, none⟩ = some (.int .u64 c.n.h1) := fun w2 h => ⟨bcell h x0, bcell h x1, bcell h x2, bcell h x3, bcell h x4, bcell h x5, bcell h x6, bcell h x7, bcell h x8, bcell h x9, bcell h x10, bcell h x11, bcell h x12, bcell h x13, bcell h x14⟩
  clear hx x0 x1 x2 x3 x4 x5 x6 x7 x8 x9 x10 x11 x12 x13 x14
  refine Og.walk_lit [[],[0],[1,0],[],[3],[4,3],[2,0,1],[5,6,0,1,2,3,4]] (fun w2 => Below W1.heap.size W1 w2) (fun w1 w2 => Below w1.heap.size w1 w2) (by kernel_rfl) (by kernel_rfl) (bdrew) ?_
  iterate 2 (first | (refine Og.step_pure (fun _ => Below.refl _ _) ?_; apply Exists.intro; refine And.intro ?_ ?_; focus (intro vs w2 hC hk; have hm := HC w2 hC; revert hk; simp only [Og.KS, Og.K0, Og.Is, List.getD_cons_zero, List.getD_cons_succ, List.getD_nil, List.contains_cons, List.contains_nil, Nat.reduceAdd, Nat.reduceBEq, Bool.or_false, Bool.false_or, Bool.or_true, Bool.true_or, Bool.false_eq_true, false_implies, true_implies, true_and, and_true, forall_const]; intros; go_simp; rfl)))
  refine Og.step_any (fun v w2 => ∃ g, v = .slice (some ⟨g, 0, none⟩) 1 1 ∧ AtR w2 g 0 c.o) (fun v w1 w2 hb ⟨g, h1, h2⟩ => ⟨g, h1, h2.below hb⟩) ?_ ?_
  · intro vs w2 hC hk; have hm := HC w2 hC; revert hk; simp only [Og.KS, Og.K0, Og.Is, List.getD_cons_zero, List.getD_cons_succ, List.getD_nil, List.contains_cons, List.contains_nil, Nat.reduceAdd, Nat.reduceBEq, Bool.or_false, Bool.false_or, Bool.or_true, Bool.true_or, Bool.false_eq_true, false_implies, true_implies, true_and, and_true, forall_const]; intros; go_simp; exact ⟨hC.alloc hC.size _, (Below.refl _ _).alloc (Nat.le_refl _) _, AtR_new _ _⟩
  iterate 2 (first | (refine Og.step_pure (fun _ => Below.refl _ _) ?_; apply Exists.intro; refine And.intro ?_ ?_; focus (intro vs w2 hC hk; have hm := HC w2 hC; revert hk; simp only [Og.KS, Og.K0, Og.Is, List.getD_cons_zero, List.getD_cons_succ, List.getD_nil, List.contains_cons, List.contains_nil, Nat.reduceAdd, Nat.reduceBEq, Bool.or_false, Bool.false_or, Bool.or_true, Bool.true_or, Bool.false_eq_true, false_implies, true_implies, true_and, and_true, forall_const]; intros; go_simp; rfl)))
  refine Og.step_any (fun v w2 => ∃ g, v = .slice (some ⟨g, 0, none⟩) 1 1 ∧ AtR w2 g 0 c.n) (fun v w1 w2 hb ⟨g, h1, h2⟩ => ⟨g, h1, h2.below hb⟩) ?_ ?_
  · intro vs w2 hC hk; have hm := HC w2 hC; revert hk; simp only [Og.KS, Og.K0, Og.Is, List.getD_cons_zero, List.getD_cons_succ, List.getD_nil, List.contains_cons, List.contains_nil, Nat.reduceAdd, Nat.reduceBEq, Bool.or_false, Bool.false_or, Bool.or_true, Bool.true_or, Bool.false_eq_true, false_implies, true_implies, true_and, and_true, forall_const]; intros; go_simp; exact ⟨hC.alloc hC.size _, (Below.refl _ _).alloc (Nat.le_refl _) _, AtR_new _ _⟩
  refine Og.step_any (fun v w2 => ∃ g, v = .slice (some ⟨g, 0, none⟩) 1 1 ∧ AtR w2 g 0 c.o) (fun v w1 w2 hb ⟨g, h1, h2⟩ => ⟨g, h1, h2.below hb⟩) ?_ ?_
  · intro vs w2 hC hk
    revert hk
    simp only [Og.KS, Og.K0, Og.Is, List.getD_cons_zero, List.getD_cons_succ, List.getD_nil, List.contains_cons, List.contains_nil, Nat.reduceAdd, Nat.reduceBEq, Bool.or_false, Bool.false_or, Bool.or_true, Bool.true_or, Bool.false_eq_true, false_implies, true_implies, true_and, and_true, forall_const]
    intros
    go_simp
    exact Below.refl _ _
  refine Og.step_any (fun v w2 => ∃ g, v = .slice (some ⟨g, 0, none⟩) 1 1 ∧ AtR w2 g 0 c.n) (fun v w1 w2 hb ⟨g, h1, h2⟩ => ⟨g, h1, h2.below hb⟩) ?_ ?_
  · intro vs w2 hC hk
    revert hk
    simp only [Og.KS, Og.K0, Og.Is, List.getD_cons_zero, List.getD_cons_succ, List.getD_nil, List.contains_cons, List.contains_nil, Nat.reduceAdd, Nat.reduceBEq, Bool.or_false, Bool.false_or, Bool.or_true, Bool.true_or, Bool.false_eq_true, false_implies, true_implies, true_and, and_true, forall_const]
    intros
    go_simp
    exact Below.refl _ _
  intro vs w2 hC hk
  have hm := HC w2 hC
  simp only [Og.KS, Og.K0, Og.Is, List.getD_cons_zero, List.getD_cons_succ, List.getD_nil, List.contains_cons, List.contains_nil, Nat.reduceAdd, Nat.reduceBEq, Bool.or_false, Bool.false_or, Bool.or_true, Bool.true_or, Bool.false_eq_true, false_implies, true_implies, true_and, and_true, forall_const] at hk
  obtain ⟨⟨gn, e7, hn⟩, ⟨g0, e6, ho⟩, ⟨g5, e5, _⟩, e4, e3, ⟨g2, e2, _⟩, e1, e0⟩ := hk
  simp only [e7, e6, e5, e4, e3, e2, e1, e0, Act.put, List.setIfInBounds_toArray, List.set_cons_zero, List.set_cons_succ]
  have B2 := Lib.hid (bthen' hB1.out hB1.out.size hC)
  have X2 := Lib.hid (heap_keep hC HX.out)
  have RN2 := Lib.hid hn
  have RO2 := Lib.hid ho
  clear e7 e6 e5 e4 e3 e2 e1 e0 hn ho hC HC hB1 HX
  by_cases k1 : c.k = 1
  · have t1 : (c.k == 1) = true := by simpa using k1
    cases hbH1 : rouB c.n with
    | true =>
      have H1 : Hid (∀ g w, AtR w g 0 c.n → Calls Try.prog 22 #[.slice (some ⟨g, 0, none⟩) 1 1] w fun e w' => e = .returned (.int .i64 0) ∧ Below w.heap.size w w') := Lib.hid (fun g w h => by have := HS.out c.n g w h; rw [hbH1] at this; exact this)
      have E1 : Hid (goodC c = true) := Lib.hid (by unfold goodC; simp [k1, hbH1])
      clear k1 hbH1
      go_wp2_with fail
      refine Calls.mono (H1.out gn w2 RN2.out) ?_
      rintro e w3 ⟨rfl, hb⟩
      have B3 := Lib.hid (bthen' B2.out B2.out.size hb)
      have RN3 := Lib.hid (RN2.out.below hb)
      have X3 := Lib.hid (heap_keep hb X2.out)
      clear hb
      go_wp2_with fail
      go_ret
      exact ⟨by rw [E1.out]; rfl, B3.out⟩
    | false =>
      have H1 : Hid (∀ g w, AtR w g 0 c.n → Calls Try.prog 22 #[.slice (some ⟨g, 0, none⟩) 1 1] w fun e w' => e = .returned (.int .i64 1) ∧ Below w.heap.size w w') := Lib.hid (fun g w h => by have := HS.out c.n g w h; rw [hbH1] at this; exact this)
      have E1 : Hid (goodC c = false) := Lib.hid (by unfold goodC; simp [k1, hbH1])
      clear k1 hbH1
      go_wp2_with fail
      refine Calls.mono (H1.out gn w2 RN2.out) ?_
      rintro e w3 ⟨rfl, hb⟩
      have B3 := Lib.hid (bthen' B2.out B2.out.size hb)
      have RN3 := Lib.hid (RN2.out.below hb)
      have X3 := Lib.hid (heap_keep hb X2.out)
      clear hb
      go_wp2_with fail
      go_ret
      exact ⟨by rw [E1.out]; rfl, B3.out⟩
  · have t1 : (c.k == 1) = false := by simpa using k1
    by_cases k2 : c.k = 2
    · have t2 : (c.k == 2) = true := by simpa using k2
      cases hbH1 : rouB c.o with
      | true =>
        have H1 : Hid (∀ g w, AtR w g 0 c.o → Calls Try.prog 22 #[.slice (some ⟨g, 0, none⟩) 1 1] w fun e w' => e = .returned (.int .i64 0) ∧ Below w.heap.size w w') := Lib.hid (fun g w h => by have := HS.out c.o g w h; rw [hbH1] at this; exact this)
        have E1 : Hid (goodC c = true) := Lib.hid (by unfold goodC; simp [k1, k2, hbH1])
        clear k1 k2 hbH1
        go_wp2_with fail
        refine Calls.mono (H1.out g0 w2 RO2.out) ?_
        rintro e w3 ⟨rfl, hb⟩
        have B3 := Lib.hid (bthen' B2.out B2.out.size hb)
        have RN3 := Lib.hid (RN2.out.below hb)
        have X3 := Lib.hid (heap_keep hb X2.out)
        clear hb
        go_wp2_with fail
        go_ret
        exact ⟨by rw [E1.out]; rfl, B3.out⟩
      | false =>
        have H1 : Hid (∀ g w, AtR w g 0 c.o → Calls Try.prog 22 #[.slice (some ⟨g, 0, none⟩) 1 1] w fun e w' => e = .returned (.int .i64 1) ∧ Below w.heap.size w w') := Lib.hid (fun g w h => by have := HS.out c.o g w h; rw [hbH1] at this; exact this)
        have E1 : Hid (goodC c = false) := Lib.hid (by unfold goodC; simp [k1, k2, hbH1])
        clear k1 k2 hbH1
        go_wp2_with fail
        refine Calls.mono (H1.out g0 w2 RO2.out) ?_
        rintro e w3 ⟨rfl, hb⟩
        have B3 := Lib.hid (bthen' B2.out B2.out.size hb)
        have RN3 := Lib.hid (RN2.out.below hb)
        have X3 := Lib.hid (heap_keep hb X2.out)
        clear hb
        go_wp2_with fail
        go_ret
        exact ⟨by rw [E1.out]; rfl, B3.out⟩
    · have t2 : (c.k == 2) = false := by simpa using k2
      by_cases k3 : c.k = 3
      · have t3 : (c.k == 3) = true := by simpa using k3
        cases hbH1 : rouB c.o with
        | false =>
          have H1 : Hid (∀ g w, AtR w g 0 c.o → Calls Try.prog 22 #[.slice (some ⟨g, 0, none⟩) 1 1] w fun e w' => e = .returned (.int .i64 1) ∧ Below w.heap.size w w') := Lib.hid (fun g w h => by have := HS.out c.o g w h; rw [hbH1] at this; exact this)
          have E1 : Hid (goodC c = false) := Lib.hid (by unfold goodC; simp [k1, k2, k3, hbH1])
          clear k1 k2 k3 hbH1
          go_wp2_with fail
          refine Calls.mono (H1.out g0 w2 RO2.out) ?_
          rintro e w3 ⟨rfl, hb⟩
          have B3 := Lib.hid (bthen' B2.out B2.out.size hb)
          have RN3 := Lib.hid (RN2.out.below hb)
          have X3 := Lib.hid (heap_keep hb X2.out)
          clear hb
          go_wp2_with fail
          go_ret
          exact ⟨by rw [E1.out]; rfl, B3.out⟩
        | true =>
          have H1 : Hid (∀ g w, AtR w g 0 c.o → Calls Try.prog 22 #[.slice (some ⟨g, 0, none⟩) 1 1] w fun e w' => e = .returned (.int .i64 0) ∧ Below w.heap.size w w') := Lib.hid (fun g w h => by have := HS.out c.o g w h; rw [hbH1] at this; exact this)
          cases hbH2 : rouB c.n with
          | false =>
            have H2 : Hid (∀ g w, AtR w g 0 c.n → Calls Try.prog 22 #[.slice (some ⟨g, 0, none⟩) 1 1] w fun e w' => e = .returned (.int .i64 1) ∧ Below w.heap.size w w') := Lib.hid (fun g w h => by have := HS.out c.n g w h; rw [hbH2] at this; exact this)
            have E1 : Hid (goodC c = false) := Lib.hid (by unfold goodC; simp [k1, k2, k3, hbH1, hbH2])
            clear k1 k2 k3 hbH1 hbH2
            go_wp2_with fail
            refine Calls.mono (H1.out g0 w2 RO2.out) ?_
            rintro e w3 ⟨rfl, hb⟩
            have B3 := Lib.hid (bthen' B2.out B2.out.size hb)
            have RN3 := Lib.hid (RN2.out.below hb)
            have X3 := Lib.hid (heap_keep hb X2.out)
            clear hb
            go_wp2_with fail
            refine Calls.mono (H2.out gn w3 RN3.out) ?_
            rintro e w4 ⟨rfl, hb⟩
            have B4 := Lib.hid (bthen' B3.out B3.out.size hb)
            have RN4 := Lib.hid (RN3.out.below hb)
            have X4 := Lib.hid (heap_keep hb X3.out)
            clear hb
            go_wp2_with fail
            go_ret
            exact ⟨by rw [E1.out]; rfl, B4.out⟩
          | true =>
            have H2 : Hid (∀ g w, AtR w g 0 c.n → Calls Try.prog 22 #[.slice (some ⟨g, 0, none⟩) 1 1] w fun e w' => e = .returned (.int .i64 0) ∧ Below w.heap.size w w') := Lib.hid (fun g w h => by have := HS.out c.n g w h; rw [hbH2] at this; exact this)
            by_cases h4 : c.o.p = c.n.p
            · have t4 : eqPb c.o.p.a c.o.p.l c.n.p.a c.n.p.l = true := by rw [eqPb_of]; simpa using h4
              by_cases h5 : c.o = c.n
              · have t5 : eqRb c.o.p.a c.o.p.l c.o.m c.o.o0 c.o.o1 c.o.h0 c.o.h1 c.n.p.a c.n.p.l c.n.m c.n.o0 c.n.o1 c.n.h0 c.n.h1 = true := by rw [eqRb_of]; simpa using h5
                have E1 : Hid (goodC c = false) := Lib.hid (by unfold goodC; simp [k1, k2, k3, hbH1, hbH2, h5])
                clear k1 k2 k3 hbH1 hbH2 h4 h5
                go_wp2_with fail
                refine Calls.mono (H1.out g0 w2 RO2.out) ?_
                rintro e w3 ⟨rfl, hb⟩
                have B3 := Lib.hid (bthen' B2.out B2.out.size hb)
                have RN3 := Lib.hid (RN2.out.below hb)
                have X3 := Lib.hid (heap_keep hb X2.out)
                clear hb
                go_wp2_with fail
                refine Calls.mono (H2.out gn w3 RN3.out) ?_
                rintro e w4 ⟨rfl, hb⟩
                have B4 := Lib.hid (bthen' B3.out B3.out.size hb)
                have RN4 := Lib.hid (RN3.out.below hb)
                have X4 := Lib.hid (heap_keep hb X3.out)
                clear hb
                have hm4 := cells15 X4.out
                go_wp2_with fail
                go_ret
                exact ⟨by rw [E1.out]; rfl, B4.out⟩
              · have t5 : eqRb c.o.p.a c.o.p.l c.o.m c.o.o0 c.o.o1 c.o.h0 c.o.h1 c.n.p.a c.n.p.l c.n.m c.n.o0 c.n.o1 c.n.h0 c.n.h1 = false := by rw [eqRb_of]; simpa using h5
                have E1 : Hid (goodC c = true) := Lib.hid (by unfold goodC; simp [k1, k2, k3, hbH1, hbH2, h4, h5])
                clear k1 k2 k3 hbH1 hbH2 h4 h5
                go_wp2_with fail
                refine Calls.mono (H1.out g0 w2 RO2.out) ?_
                rintro e w3 ⟨rfl, hb⟩
                have B3 := Lib.hid (bthen' B2.out B2.out.size hb)
                have RN3 := Lib.hid (RN2.out.below hb)
                have X3 := Lib.hid (heap_keep hb X2.out)
                clear hb
                go_wp2_with fail
                refine Calls.mono (H2.out gn w3 RN3.out) ?_
                rintro e w4 ⟨rfl, hb⟩
                have B4 := Lib.hid (bthen' B3.out B3.out.size hb)
                have RN4 := Lib.hid (RN3.out.below hb)
                have X4 := Lib.hid (heap_keep hb X3.out)
                clear hb
                have hm4 := cells15 X4.out
                go_wp2_with fail
                go_ret
                exact ⟨by rw [E1.out]; rfl, B4.out⟩
            · have t4 : eqPb c.o.p.a c.o.p.l c.n.p.a c.n.p.l = false := by rw [eqPb_of]; simpa using h4
              have E1 : Hid (goodC c = false) := Lib.hid (by unfold goodC; simp [k1, k2, k3, hbH1, hbH2, h4])
              clear k1 k2 k3 hbH1 hbH2 h4
              go_wp2_with fail
              refine Calls.mono (H1.out g0 w2 RO2.out) ?_
              rintro e w3 ⟨rfl, hb⟩
              have B3 := Lib.hid (bthen' B2.out B2.out.size hb)
              have RN3 := Lib.hid (RN2.out.below hb)
              have X3 := Lib.hid (heap_keep hb X2.out)
              clear hb
              go_wp2_with fail
              refine Calls.mono (H2.out gn w3 RN3.out) ?_
              rintro e w4 ⟨rfl, hb⟩
              have B4 := Lib.hid (bthen' B3.out B3.out.size hb)
              have RN4 := Lib.hid (RN3.out.below hb)
              have X4 := Lib.hid (heap_keep hb X3.out)
              clear hb
              have hm4 := cells15 X4.out
              go_wp2_with fail
              go_ret
              exact ⟨by rw [E1.out]; rfl, B4.out⟩
      · have t3 : (c.k == 3) = false := by simpa using k3
        have E1 : Hid (goodC c = false) := Lib.hid (by unfold goodC; simp [k1, k2, k3])
        clear k1 k2 k3
        go_wp2_with fail
        go_ret
        exact ⟨by rw [E1.out]; rfl, B2.out⟩

set_option maxRecDepth 100000 in
set_option maxHeartbeats 4000000 in
theorem rgood_ok (c : Ch) (w : World) (hf : FitC c) :
    Calls Try.prog 43 #[.agg #[.int .i64 c.k, .int .u32 c.o.p.a, .int .i64 c.o.p.l, .int .i64 c.o.m, .int .u64 c.o.o0, .int .u64 c.o.o1, .int .u64 c.o.h0, .int .u64 c.o.h1, .int .u32 c.n.p.a, .int .i64 c.n.p.l, .int .i64 c.n.m, .int .u64 c.n.o0, .int .u64 c.n.o1, .int .u64 c.n.h0, .int .u64 c.n.h1]] w fun e w' => e = .returned (.bool (goodC c)) ∧ Below w.heap.size w w' := by
  have HO := Lib.hid (fun w => rou_ok c.o w hf.1)
  have HN := Lib.hid (fun w => rou_ok c.n w hf.2)
  clear hf
  obtain ⟨W1, hW⟩ : ∃ W1, W1 = w.alloc (.cells #[.int .i64 c.k, .int .u32 c.o.p.a, .int .i64 c.o.p.l, .int .i64 c.o.m, .int .u64 c.o.o0, .int .u64 c.o.o1, .int .u64 c.o.h0, .int .u64 c.o.h1, .int .u32 c.n.p.a, .int .i64 c.n.p.l, .int .i64 c.n.m, .int .u64 c.n.o0, .int .u64 c.n.o1, .int .u64 c.n.h0, .int .u64 c.n.h1] 42) := ⟨_, rfl⟩
  have hB1 := Lib.hid (show Below w.heap.size w W1 by rw [hW]; exact (Below.refl _ _).alloc (Nat.le_refl _) _)
  have hx : W1.heap[w.heap.size]? = some (.cells #[.int .i64 c.k, .int .u32 c.o.p.a, .int .i64 c.o.p.l, .int .i64 c.o.m, .int .u64 c.o.o0, .int .u64 c.o.o1, .int .u64 c.o.h0, .int .u64 c.o.h1, .int .u32 c.n.p.a, .int .i64 c.n.p.l, .int .i64 c.n.m, .int .u64 c.n.o0, .int .u64 c.n.o1, .int .u64 c.n.h0, .int .u64 c.n.h1] 42 (0, 0)) := by rw [hW]; exact heap_alloc_new w _
  have X2 := Lib.hid hx
  have HW := Lib.hid hW
  clear hx hW
  by_cases k1 : c.k = 1
  · have t1 : (c.k == 1) = true := by simpa using k1
    cases hbH1 : rouB c.n with
    | true =>
      have H1 : Hid (∀ w, Calls Try.prog 30 #[.agg #[.int .u32 c.n.p.a, .int .i64 c.n.p.l, .int .i64 c.n.m, .int .u64 c.n.o0, .int .u64 c.n.o1, .int .u64 c.n.h0, .int .u64 c.n.h1]] w fun e w' => e = .returned (.bool true) ∧ Below w.heap.size w w') := Lib.hid (fun w => by have := HN.out w; rw [hbH1] at this; exact this)
      have E1 : Hid (goodC c = true) := Lib.hid (by unfold goodC; simp [k1, hbH1])
      clear k1 hbH1
      have hm2 := cells15 X2.out
      go_enter Try.func43, Try.ntmps43
      go_wp2_with fail
      rw [← HW.out]
      go_wp2_with fail
      refine Calls.mono (H1.out _) ?_
      rintro e w3 ⟨rfl, hb⟩
      have B3 := Lib.hid (bthen' hB1.out hB1.out.size hb)
      have X3 := Lib.hid (heap_keep hb X2.out)
      clear hb
      have hm3 := cells15 X3.out
      go_wp2_with fail
      go_ret
      exact ⟨by rw [E1.out]; rfl, B3.out⟩
    | false =>
      have H1 : Hid (∀ w, Calls Try.prog 30 #[.agg #[.int .u32 c.n.p.a, .int .i64 c.n.p.l, .int .i64 c.n.m, .int .u64 c.n.o0, .int .u64 c.n.o1, .int .u64 c.n.h0, .int .u64 c.n.h1]] w fun e w' => e = .returned (.bool false) ∧ Below w.heap.size w w') := Lib.hid (fun w => by have := HN.out w; rw [hbH1] at this; exact this)
      have E1 : Hid (goodC c = false) := Lib.hid (by unfold goodC; simp [k1, hbH1])
      clear k1 hbH1
      have hm2 := cells15 X2.out
      go_enter Try.func43, Try.ntmps43
      go_wp2_with fail
      rw [← HW.out]
      go_wp2_with fail
      refine Calls.mono (H1.out _) ?_
      rintro e w3 ⟨rfl, hb⟩
      have B3 := Lib.hid (bthen' hB1.out hB1.out.size hb)
      have X3 := Lib.hid (heap_keep hb X2.out)
      clear hb
      have hm3 := cells15 X3.out
      go_wp2_with fail
      go_ret
      exact ⟨by rw [E1.out]; rfl, B3.out⟩
  · have t1 : (c.k == 1) = false := by simpa using k1
    by_cases k2 : c.k = 2
    · have t2 : (c.k == 2) = true := by simpa using k2
      cases hbH1 : rouB c.o with
      | true =>
        have H1 : Hid (∀ w, Calls Try.prog 30 #[.agg #[.int .u32 c.o.p.a, .int .i64 c.o.p.l, .int .i64 c.o.m, .int .u64 c.o.o0, .int .u64 c.o.o1, .int .u64 c.o.h0, .int .u64 c.o.h1]] w fun e w' => e = .returned (.bool true) ∧ Below w.heap.size w w') := Lib.hid (fun w => by have := HO.out w; rw [hbH1] at this; exact this)
        have E1 : Hid (goodC c = true) := Lib.hid (by unfold goodC; simp [k1, k2, hbH1])
        clear k1 k2 hbH1
        have hm2 := cells15 X2.out
        go_enter Try.func43, Try.ntmps43
        go_wp2_with fail
        rw [← HW.out]
        go_wp2_with fail
        refine Calls.mono (H1.out _) ?_
        rintro e w3 ⟨rfl, hb⟩
        have B3 := Lib.hid (bthen' hB1.out hB1.out.size hb)
        have X3 := Lib.hid (heap_keep hb X2.out)
        clear hb
        have hm3 := cells15 X3.out
        go_wp2_with fail
        go_ret
        exact ⟨by rw [E1.out]; rfl, B3.out⟩
      | false =>
        have H1 : Hid (∀ w, Calls Try.prog 30 #[.agg #[.int .u32 c.o.p.a, .int .i64 c.o.p.l, .int .i64 c.o.m, .int .u64 c.o.o0, .int .u64 c.o.o1, .int .u64 c.o.h0, .int .u64 c.o.h1]] w fun e w' => e = .returned (.bool false) ∧ Below w.heap.size w w') := Lib.hid (fun w => by have := HO.out w; rw [hbH1] at this; exact this)
        have E1 : Hid (goodC c = false) := Lib.hid (by unfold goodC; simp [k1, k2, hbH1])
        clear k1 k2 hbH1
        have hm2 := cells15 X2.out
        go_enter Try.func43, Try.ntmps43
        go_wp2_with fail
        rw [← HW.out]
        go_wp2_with fail
        refine Calls.mono (H1.out _) ?_
        rintro e w3 ⟨rfl, hb⟩
        have B3 := Lib.hid (bthen' hB1.out hB1.out.size hb)
        have X3 := Lib.hid (heap_keep hb X2.out)
        clear hb
        have hm3 := cells15 X3.out
        go_wp2_with fail
        go_ret
        exact ⟨by rw [E1.out]; rfl, B3.out⟩
    · have t2 : (c.k == 2) = false := by simpa using k2
      by_cases k3 : c.k = 3
      · have t3 : (c.k == 3) = true := by simpa using k3
        cases hbH1 : rouB c.o with
        | false =>
          have H1 : Hid (∀ w, Calls Try.prog 30 #[.agg #[.int .u32 c.o.p.a, .int .i64 c.o.p.l, .int .i64 c.o.m, .int .u64 c.o.o0, .int .u64 c.o.o1, .int .u64 c.o.h0, .int .u64 c.o.h1]] w fun e w' => e = .returned (.bool false) ∧ Below w.heap.size w w') := Lib.hid (fun w => by have := HO.out w; rw [hbH1] at this; exact this)
          have E1 : Hid (goodC c = false) := Lib.hid (by unfold goodC; simp [k1, k2, k3, hbH1])
          clear k1 k2 k3 hbH1
          have hm2 := cells15 X2.out
          go_enter Try.func43, Try.ntmps43
          go_wp2_with fail
          rw [← HW.out]
          go_wp2_with fail
          refine Calls.mono (H1.out _) ?_
          rintro e w3 ⟨rfl, hb⟩
          have B3 := Lib.hid (bthen' hB1.out hB1.out.size hb)
          have X3 := Lib.hid (heap_keep hb X2.out)
          clear hb
          have hm3 := cells15 X3.out
          go_wp2_with fail
          go_ret
          exact ⟨by rw [E1.out]; rfl, B3.out⟩
        | true =>
          have H1 : Hid (∀ w, Calls Try.prog 30 #[.agg #[.int .u32 c.o.p.a, .int .i64 c.o.p.l, .int .i64 c.o.m, .int .u64 c.o.o0, .int .u64 c.o.o1, .int .u64 c.o.h0, .int .u64 c.o.h1]] w fun e w' => e = .returned (.bool true) ∧ Below w.heap.size w w') := Lib.hid (fun w => by have := HO.out w; rw [hbH1] at this; exact this)
          cases hbH2 : rouB c.n with
          | false =>
            have H2 : Hid (∀ w, Calls Try.prog 30 #[.agg #[.int .u32 c.n.p.a, .int .i64 c.n.p.l, .int .i64 c.n.m, .int .u64 c.n.o0, .int .u64 c.n.o1, .int .u64 c.n.h0, .int .u64 c.n.h1]] w fun e w' => e = .returned (.bool false) ∧ Below w.heap.size w w') := Lib.hid (fun w => by have := HN.out w; rw [hbH2] at this; exact this)
            have E1 : Hid (goodC c = false) := Lib.hid (by unfold goodC; simp [k1, k2, k3, hbH1, hbH2])
            clear k1 k2 k3 hbH1 hbH2
            have hm2 := cells15 X2.out
            go_enter Try.func43, Try.ntmps43
            go_wp2_with fail
            rw [← HW.out]
            go_wp2_with fail
            refine Calls.mono (H1.out _) ?_
            rintro e w3 ⟨rfl, hb⟩
            have B3 := Lib.hid (bthen' hB1.out hB1.out.size hb)
            have X3 := Lib.hid (heap_keep hb X2.out)
            clear hb
            have hm3 := cells15 X3.out
            go_wp2_with fail
            refine Calls.mono (H2.out w3) ?_
            rintro e w4 ⟨rfl, hb⟩
            have B4 := Lib.hid (bthen' B3.out B3.out.size hb)
            have X4 := Lib.hid (heap_keep hb X3.out)
            clear hb
            have hm4 := cells15 X4.out
            go_wp2_with fail
            go_ret
            exact ⟨by rw [E1.out]; rfl, B4.out⟩
          | true =>
            have H2 : Hid (∀ w, Calls Try.prog 30 #[.agg #[.int .u32 c.n.p.a, .int .i64 c.n.p.l, .int .i64 c.n.m, .int .u64 c.n.o0, .int .u64 c.n.o1, .int .u64 c.n.h0, .int .u64 c.n.h1]] w fun e w' => e = .returned (.bool true) ∧ Below w.heap.size w w') := Lib.hid (fun w => by have := HN.out w; rw [hbH2] at this; exact this)
            by_cases h4 : c.o.p = c.n.p
            · have t4 : eqPb c.o.p.a c.o.p.l c.n.p.a c.n.p.l = true := by rw [eqPb_of]; simpa using h4
              by_cases h5 : c.o = c.n
              · have t5 : eqRb c.o.p.a c.o.p.l c.o.m c.o.o0 c.o.o1 c.o.h0 c.o.h1 c.n.p.a c.n.p.l c.n.m c.n.o0 c.n.o1 c.n.h0 c.n.h1 = true := by rw [eqRb_of]; simpa using h5
                have E1 : Hid (goodC c = false) := Lib.hid (by unfold goodC; simp [k1, k2, k3, hbH1, hbH2, h5])
                clear k1 k2 k3 hbH1 hbH2 h4 h5
                have hm2 := cells15 X2.out
                go_enter Try.func43, Try.ntmps43
                go_wp2_with fail
                rw [← HW.out]
                go_wp2_with fail
                refine Calls.mono (H1.out _) ?_
                rintro e w3 ⟨rfl, hb⟩
                have B3 := Lib.hid (bthen' hB1.out hB1.out.size hb)
                have X3 := Lib.hid (heap_keep hb X2.out)
                clear hb
                have hm3 := cells15 X3.out
                go_wp2_with fail
                refine Calls.mono (H2.out w3) ?_
                rintro e w4 ⟨rfl, hb⟩
                have B4 := Lib.hid (bthen' B3.out B3.out.size hb)
                have X4 := Lib.hid (heap_keep hb X3.out)
                clear hb
                have hm4 := cells15 X4.out
                go_wp2_with fail
                go_ret
                exact ⟨by rw [E1.out]; rfl, B4.out⟩
              · have t5 : eqRb c.o.p.a c.o.p.l c.o.m c.o.o0 c.o.o1 c.o.h0 c.o.h1 c.n.p.a c.n.p.l c.n.m c.n.o0 c.n.o1 c.n.h0 c.n.h1 = false := by rw [eqRb_of]; simpa using h5
                have E1 : Hid (goodC c = true) := Lib.hid (by unfold goodC; simp [k1, k2, k3, hbH1, hbH2, h4, h5])
                clear k1 k2 k3 hbH1 hbH2 h4 h5
                have hm2 := cells15 X2.out
                go_enter Try.func43, Try.ntmps43
                go_wp2_with fail
                rw [← HW.out]
                go_wp2_with fail
                refine Calls.mono (H1.out _) ?_
                rintro e w3 ⟨rfl, hb⟩
                have B3 := Lib.hid (bthen' hB1.out hB1.out.size hb)
                have X3 := Lib.hid (heap_keep hb X2.out)
                clear hb
                have hm3 := cells15 X3.out
                go_wp2_with fail
                refine Calls.mono (H2.out w3) ?_
                rintro e w4 ⟨rfl, hb⟩
                have B4 := Lib.hid (bthen' B3.out B3.out.size hb)
                have X4 := Lib.hid (heap_keep hb X3.out)
                clear hb
                have hm4 := cells15 X4.out
                go_wp2_with fail
                go_ret
                exact ⟨by rw [E1.out]; rfl, B4.out⟩
            · have t4 : eqPb c.o.p.a c.o.p.l c.n.p.a c.n.p.l = false := by rw [eqPb_of]; simpa using h4
              have E1 : Hid (goodC c = false) := Lib.hid (by unfold goodC; simp [k1, k2, k3, hbH1, hbH2, h4])
              clear k1 k2 k3 hbH1 hbH2 h4
              have hm2 := cells15 X2.out
              go_enter Try.func43, Try.ntmps43
              go_wp2_with fail
              rw [← HW.out]
              go_wp2_with fail
              refine Calls.mono (H1.out _) ?_
              rintro e w3 ⟨rfl, hb⟩
              have B3 := Lib.hid (bthen' hB1.out hB1.out.size hb)
              have X3 := Lib.hid (heap_keep hb X2.out)
              clear hb
              have hm3 := cells15 X3.out
              go_wp2_with fail
              refine Calls.mono (H2.out w3) ?_
              rintro e w4 ⟨rfl, hb⟩
              have B4 := Lib.hid (bthen' B3.out B3.out.size hb)
              have X4 := Lib.hid (heap_keep hb X3.out)
              clear hb
              have hm4 := cells15 X4.out
              go_wp2_with fail
              go_ret
              exact ⟨by rw [E1.out]; rfl, B4.out⟩
      · have t3 : (c.k == 3) = false := by simpa using k3
        have E1 : Hid (goodC c = false) := Lib.hid (by unfold goodC; simp [k1, k2, k3])
        clear k1 k2 k3
        have hm2 := cells15 X2.out
        go_enter Try.func43, Try.ntmps43
        go_wp2_with fail
        rw [← HW.out]
        go_wp2_with fail
        go_wp2_with fail
        go_ret
        exact ⟨by rw [E1.out]; rfl, hB1.out⟩

end Go.Proofs.Ytpnhkniegjfncaa
