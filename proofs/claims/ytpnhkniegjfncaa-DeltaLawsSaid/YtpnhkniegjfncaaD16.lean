/- causewaylaw16.all: nothing where a table is not sound; conditions: the routes and the changes fit the memory. -/
import Derived.Test.YtpnhkniegjfncaaD15
namespace Go.Proofs.Ytpnhkniegjfncaa
open Go.ChangeShapes Go.WideShapes Go.ChangeAt Go.RowKit
set_option linter.unusedVariables false
set_option linter.unusedSimpArgs false
attribute [local go_sem] Og.Opt Og.OpY Oper.semAt_some
attribute [local go_sem high] eqB1 eqP1 eqR1 eqC1

theorem no_stops (n n₀ : Nat) (w : World) : SeqStopsK Fence.wide n Try.prog 23 #[] (fun x : Ch => #[.agg #[.int .i64 x.k, .int .u32 x.o.p.a, .int .i64 x.o.p.l, .int .i64 x.o.m, .int .u64 x.o.o0, .int .u64 x.o.o1, .int .u64 x.o.h0, .int .u64 x.o.h1, .int .u32 x.n.p.a, .int .i64 x.n.p.l, .int .i64 x.n.m, .int .u64 x.n.o0, .int .u64 x.n.o1, .int .u64 x.n.h0, .int .u64 x.n.h1]]) (Below n₀) (fun zs => zs = []) (fun _ => False) 0 w := fun l J Jx W hW hJ hJx hY h0 => by
  refine callsIn_of_wp Try.func23 rfl trivial ?_ rfl
  gi_wp2_with fail
  go_end0
  exact ⟨⟨_, rfl⟩, h0⟩

set_option maxRecDepth 100000 in
set_option maxHeartbeats 4000000 in
theorem all_no (xs ys : List Ro) (A A' : Option Addr) (c c' : Nat) (w : World) (hr : RdR w A xs) (hr' : RdR w A' ys) (hA0 : A = none → c = 0) (hA0' : A' = none → c' = 0) (hl : xs.length ≤ 2513169434843) (hl' : ys.length ≤ 2513169434843) (h : (sndT xs && sndT ys) = false) :
    Calls Try.prog 13 #[.slice A xs.length c, .slice A' ys.length c'] w fun e w' => (∃ v, e = .returned (.tuple #[v, .int .i64 1]) ∧ SlC w.heap.size w' v []) ∧ Below w.heap.size w w' := by
  refine (callsIn_wide (n := 6)).1 ?_
  have HA := Lib.hid (fun (w2 : World) (hb : Below w.heap.size w w2) => All_no xs ys A A' c c' w2 (hr.below hb) (hr'.below hb) hl hl' h)
  have HL := Lib.hid (And.intro hl hl')
  obtain ⟨nx, hnx⟩ : ∃ n, n = xs.length := ⟨_, rfl⟩
  obtain ⟨ny, hny⟩ : ∃ n, n = ys.length := ⟨_, rfl⟩
  have HNX := Lib.hid hnx
  have HNY := Lib.hid hny
  rw [← hnx] at HA ⊢
  rw [← hny] at HA ⊢
  clear hr hr' hA0 hA0' hl hl' h hnx hny
  obtain ⟨i0, hi, hz0, hz1, hz2⟩ := info_parts info42
  refine callsIn_of_wp_marks Try.func13 rfl trivial ?_ rfl
  simp only [Try.ntmps13, List.size_toArray, List.length_cons, List.length_nil, Nat.reduceAdd, Nat.reduceSub, Array.replicate_succ, Array.replicate_zero, List.push_toArray, List.append_toArray, List.nil_append, List.cons_append]
  gi_wp2_with fail
  obtain ⟨W1, hW⟩ : ∃ W1, W1 = (w.alloc (Obj.cells #[.slice A nx c] 22)).alloc (Obj.cells #[.slice A' ny c'] 22) := ⟨_, rfl⟩
  have hB1 : Below w.heap.size w W1 := by rw [hW]; exact ((Below.refl _ _).alloc (Nat.le_refl _) _).alloc (by simp) _
  have b0 : Boxed W1 w.heap.size 22 (.slice A nx c) := by rw [hW]; exact (Boxed.new w 22 _).alloc _
  have b1 : Boxed W1 (w.heap.size + 1) 22 (.slice A' ny c') := by
    rw [hW]
    have := Boxed.new (w.alloc (Obj.cells #[.slice A nx c] 22)) 22 (.slice A' ny c')
    simpa only [World.size_alloc] using this
  rw [← hW]
  clear hW
  refine ⟨trivial, CallsIn.mono (callsIn_wide.2 (HA.out W1 hB1)) ?_⟩
  rintro e w2 ⟨rfl, hb2⟩
  have HB2 := Lib.hid (bthen' hB1 hB1.size hb2)
  have BB := Lib.hid (And.intro (boxed_below b0 hb2) (boxed_below b1 hb2))
  clear hB1 hb2 b0 b1 HA
  have hnil := fun w => func_nil #[] 23 w
  gi_wp2_with fail
  obtain ⟨W0, hW0⟩ : ∃ W0, (w2.alloc (Obj.cells #[] 42)).alloc (Obj.cells #[.slice (some ⟨w2.heap.size, 0, none⟩) 0 0] 29) = W0 := ⟨_, rfl⟩
  have hB0 : Below w2.heap.size w2 W0 := by rw [← hW0]; exact ((Below.refl _ _).alloc (Nat.le_refl _) _).alloc (by simp) _
  have hsz : W0.heap.size = w2.heap.size + 2 := by rw [← hW0]; simp
  have bO : Boxed W0 (w2.heap.size + 1) 29 (.slice (some ⟨w2.heap.size, 0, none⟩) 0 0) := by
    rw [← hW0]
    have := Boxed.new (w2.alloc (Obj.cells #[] 42)) 29 (.slice (some ⟨w2.heap.size, 0, none⟩) 0 0)
    simpa only [World.size_alloc] using this
  have rO : W0.ownsRow w2.heap.size 42 15 (.slice (some ⟨w2.heap.size, 0, none⟩) 0 0) 0 [] := by
    rw [← hW0]
    exact (fresh_row w2 42 15 w2.heap.size (Nat.le_refl _)).alloc _
  rw [hW0]
  clear hW0
  refine wpIn_rangeFunc_ownH rfl (by omega) (gf := 23) (lb := #[]) rfl trivial (enters_of Try.func23 (by kernel_rfl) rfl)
    (no_stops 5 w2.heap.size W0) belowK_t (belowK_b (by omega)) (Below.refl _ _) (fun _ => rfl)
    (fun pre W => (∃ v, Boxed W (w2.heap.size + 1) 29 v ∧ W.ownsRow w2.heap.size 42 15 v pre.length (pre.flatMap ccV) ∧ v ≠ .slice none 0 0) ∧ Below w2.heap.size w2 W)
    (fun _ _ _ => False)
    (OwnFrom.and (Own.from (holdsRow_own w2.heap.size (w2.heap.size + 1) 29 42 15 (fun pre : List Ch => pre.length) (fun pre => pre.flatMap ccV) (fun _ v => v ≠ .slice none 0 0)) _) (ownFrom_below (Nat.le_refl _) (by omega)))
    (fun _ _ _ _ _ hs _ _ => hs)
    ⟨⟨_, bO, rO, by simp⟩, hB0⟩
    (fun x a' W => ∃ Bx, w2.heap.size + 1 < Bx ∧ W.heap[Bx]? = some (.cells #[.int .i64 x.k, .int .u32 x.o.p.a, .int .i64 x.o.p.l, .int .i64 x.o.m, .int .u64 x.o.o0, .int .u64 x.o.o1, .int .u64 x.o.h0, .int .u64 x.o.h1, .int .u32 x.n.p.a, .int .i64 x.n.p.l, .int .i64 x.n.m, .int .u64 x.n.o0, .int .u64 x.n.o1, .int .u64 x.n.h0, .int .u64 x.n.h1] 42 (0, 0)) ∧ a' = { tmps := #[.slice A nx c, .slice A' ny c', .pointer (some ⟨w.heap.size, 0, none⟩), .pointer (some ⟨w.heap.size + 1, 0, none⟩), .slice none 0 0, .int .i64 0, .func (.func 23) #[] #[], .int .i64 1, .pointer (some ⟨w2.heap.size + 1, 0, none⟩), .pointer (some ⟨Bx, 0, none⟩), .tuple #[.func (.func 23) #[] #[], .int .i64 1], .slice A nx c, .slice A' ny c', .tuple #[.func (.func 23) #[] #[], .int .i64 1], .func (.func 23) #[] #[], .int .i64 1, .slice (some ⟨w2.heap.size, 0, none⟩) 0 0, .func (.func 23) #[] #[], .bool false, .func (.func 23) #[] #[], .agg #[.int .i64 x.k, .int .u32 x.o.p.a, .int .i64 x.o.p.l, .int .i64 x.o.m, .int .u64 x.o.o0, .int .u64 x.o.o1, .int .u64 x.o.h0, .int .u64 x.o.h1, .int .u32 x.n.p.a, .int .i64 x.n.p.l, .int .i64 x.n.m, .int .u64 x.n.o0, .int .u64 x.n.o1, .int .u64 x.n.h0, .int .u64 x.n.h1], undef, undef, undef, undef, undef, undef, undef, undef, undef, undef, undef, undef, undef, undef], defers := [] })
    (fun x a' _ X Y row hs hg hr => by
      obtain ⟨Bx, h1, h2, h3⟩ := hs
      refine ⟨Bx, h1, (hg.block Bx (Array.getElem?_eq_some_iff.1 h2).1 (fun e => ?_)).trans h2, h3⟩
      obtain ⟨_, o, ho, hc⟩ := hr Bx e.symm
      rw [h2] at ho; cases ho; cases hc)
    ?assign ?body ?done ?stop
  case assign =>
    rintro l pre x W K ⟨⟨v, hv, hrow, hne⟩, hB⟩ hK
    gi_wp2_with fail
    exact hK _ _ ((KeepsOthers.alloc _ _).from _) ((Below.refl _ W).alloc hB.size _) ⟨⟨v, hv.alloc _, hrow.alloc _, hne⟩, hB.alloc hB.size _⟩ ⟨W.heap.size, hv.lt, heap_alloc_new W _, rfl⟩
  case body =>
    rintro l pre x a' W hl hr hI hA hlt
    exact absurd hlt (by omega)
  case done =>
    rintro D zs W hD rfl ⟨⟨v, hv, hrow, hne⟩, hB⟩ hK
    have cv := hv.cell
    have HS := Lib.hid (SlC_of_row hrow rfl)
    have HK := Lib.hid hK
    have HB := Lib.hid hB
    have HR := Lib.hid hrow
    clear hv hrow hne hB hK
    gi_wp2_with fail
    refine ⟨by simp, .inl ⟨_, _, rfl, run_takeDeferred HK.out, ?_⟩⟩
    refine ⟨.tuple #[v, .int .i64 1], by simp [results, Try.f13, go_sem], ⟨v, rfl, SlC.mono (SlC_of_row (ownsRow_putObj HR.out _ HK.out rfl) rfl) HB2.out.size⟩, ?_⟩
    exact (bthen' HB2.out HB2.out.size HB.out).trans (belowK_b (w := w) (Nat.le_refl _) _ D _ _ (by have := HB2.out.size; omega) HK.out rfl rfl)
  case stop =>
    rintro D c pre W _ _ h _
    exact h.elim


end Go.Proofs.Ytpnhkniegjfncaa
