/- causewaylaw16.all: every change between two sound tables; conditions: the routes and the changes fit the memory. -/
import Derived.Test.YtpnhkniegjfncaaD12
namespace Go.Proofs.Ytpnhkniegjfncaa
open Go.ChangeShapes Go.WideShapes Go.ChangeAt Go.RowKit
set_option linter.unusedVariables false
set_option linter.unusedSimpArgs false
attribute [local go_sem] Og.Opt Og.OpY Oper.semAt_some
attribute [local go_sem high] eqB1 eqP1 eqR1 eqC1

theorem SlC.mono {B B' : Nat} {w : World} {v : Value} {xs : List Ch} (h : SlC B w v xs) (hB : B' ≤ B) : SlC B' w v xs := by
  obtain ⟨A, c, hv, hr, h1, h2, h3⟩ := h
  exact ⟨A, c, hv, hr, h1, fun a ha => Nat.le_trans hB (h2 a ha), h3⟩
theorem mrg_len : ∀ (a b : List Ro), (mrg a b).length ≤ a.length + b.length
  | [], [] => by simp [mrg]
  | x :: a, [] => by rw [mrg]; have := mrg_len a []; simp at this ⊢; omega
  | [], y :: b => by rw [mrg]; have := mrg_len [] b; simp at this ⊢; omega
  | x :: a, y :: b => by
    rw [mrg]
    have h1 := mrg_len a (y :: b)
    have h2 := mrg_len (x :: a) b
    have h3 := mrg_len a b
    simp only [List.length_cons] at h1 h2 h3 ⊢
    split
    · simp; omega
    · split
      · simp; omega
      · simp; omega
termination_by a b => a.length + b.length
theorem mrgK_len (a b : List Ro) : (mrgK a b).length ≤ a.length + b.length := Nat.le_trans (List.length_filter_le _ _) (mrg_len a b)

set_option maxRecDepth 100000 in
set_option maxHeartbeats 4000000 in
theorem all_yes (xs ys : List Ro) (A A' : Option Addr) (c c' : Nat) (w : World) (hr : RdR w A xs) (hr' : RdR w A' ys) (hA0 : A = none → c = 0) (hA0' : A' = none → c' = 0) (hl : xs.length ≤ 2513169434843) (hl' : ys.length ≤ 2513169434843) (h : (sndT xs && sndT ys) = true) (hN : (mrgK xs ys).length ≤ 1172812402926) :
    Calls Try.prog 13 #[.slice A xs.length c, .slice A' ys.length c'] w fun e w' => (∃ v, e = .returned (.tuple #[v, .int .i64 0]) ∧ SlC w.heap.size w' v (mrgK xs ys)) ∧ Below w.heap.size w w' := by
  refine (callsIn_wide (n := 6)).1 ?_
  have HA := Lib.hid (fun (w2 : World) (hb : Below w.heap.size w w2) => All_yes xs ys A A' c c' w2 (hr.below hb) (hr'.below hb) hA0 hA0' hl hl' h)
  have HN := Lib.hid hN
  have HM := Lib.hid (mrgK_len xs ys)
  have HL := Lib.hid (And.intro hl hl')
  obtain ⟨nx, hnx⟩ : ∃ n, n = xs.length := ⟨_, rfl⟩
  obtain ⟨ny, hny⟩ : ∃ n, n = ys.length := ⟨_, rfl⟩
  have HNX := Lib.hid hnx
  have HNY := Lib.hid hny
  rw [← hnx] at HA ⊢
  rw [← hny] at HA ⊢
  clear hr hr' hA0 hA0' hl hl' h hN hnx hny
  obtain ⟨i0, hi, hz0, hz1, hz2⟩ := info_parts info42
  refine callsIn_of_wp_marks Try.func13 rfl trivial ?_ rfl
  simp only [Try.ntmps13, List.size_toArray, List.length_cons, List.length_nil, Nat.reduceAdd, Nat.reduceSub, Array.replicate_succ, Array.replicate_zero, List.push_toArray, List.append_toArray, List.nil_append, List.cons_append]
  gi_wp2_with fail
  obtain ⟨W1, hW⟩ : ∃ W1, W1 = (w.alloc (Obj.cells #[.slice A nx c] 22)).alloc (Obj.cells #[.slice A' ny c'] 22) := ⟨_, rfl⟩
  have hB1 : Below w.heap.size w W1 := by rw [hW]; exact ((Below.refl _ _).alloc (Nat.le_refl _) _).alloc (by simp) _
  have b0 : Boxed W1 w.heap.size 22 (.slice A nx c) := by rw [hW]; exact (Boxed.new w 22 _).alloc _
  have b1 : Boxed W1 (w.heap.size + 1) 22 (.slice A' ny c') := by
    rw [hW]
    have := Boxed.new (w.alloc (Obj.cells #[.slice A nx c] 22)) 22 (.slice A' ny c')
    simpa only [World.size_alloc] using this
  rw [← hW]
  clear hW
  refine ⟨trivial, CallsIn.mono (callsIn_wide.2 (HA.out W1 hB1)) ?_⟩
  rintro e w2 ⟨⟨Ba, Bb, rfl, ha, hb⟩, hb2⟩
  have HB2 := Lib.hid (bthen' hB1 hB1.size hb2)
  have BB := Lib.hid (And.intro (boxed_below b0 hb2) (boxed_below b1 hb2))
  have AA := Lib.hid (And.intro ha hb)
  clear hB1 hb2 b0 b1 HA ha hb
  have hnil := fun w => func_nil #[.pointer (some ⟨Ba, 0, none⟩), .pointer (some ⟨Bb, 0, none⟩)] 25 w
  gi_wp2_with fail
  obtain ⟨W0, hW0⟩ : ∃ W0, (w2.alloc (Obj.cells #[] 42)).alloc (Obj.cells #[.slice (some ⟨w2.heap.size, 0, none⟩) 0 0] 29) = W0 := ⟨_, rfl⟩
  have hB0 : Below w2.heap.size w2 W0 := by rw [← hW0]; exact ((Below.refl _ _).alloc (Nat.le_refl _) _).alloc (by simp) _
  have hsz : W0.heap.size = w2.heap.size + 2 := by rw [← hW0]; simp
  have bO : Boxed W0 (w2.heap.size + 1) 29 (.slice (some ⟨w2.heap.size, 0, none⟩) 0 0) := by
    rw [← hW0]
    have := Boxed.new (w2.alloc (Obj.cells #[] 42)) 29 (.slice (some ⟨w2.heap.size, 0, none⟩) 0 0)
    simpa only [World.size_alloc] using this
  have rO : W0.ownsRow w2.heap.size 42 15 (.slice (some ⟨w2.heap.size, 0, none⟩) 0 0) 0 [] := by
    rw [← hW0]
    exact (fresh_row w2 42 15 w2.heap.size (Nat.le_refl _)).alloc _
  rw [hW0]
  clear hW0
  obtain ⟨⟨ha0, va, ha1, ha2⟩, hb0, vb, hbb1, hbb2⟩ := AA.out
  refine wpIn_rangeFunc_ownH rfl (by omega) (gf := 25) (lb := #[.pointer (some ⟨Ba, 0, none⟩), .pointer (some ⟨Bb, 0, none⟩)]) rfl trivial (enters_of Try.func25 (by kernel_rfl) rfl)
    (iter_stops 5 (by omega) Ba Bb w2.heap.size xs ys HL.out.1 HL.out.2 W0 va vb (boxed_below ha1 hB0).cell (boxed_below hbb1 hB0).cell (by omega) ((slAt_of ha2).below hB0) ((slAt_of hbb2).below hB0)) belowK_t (belowK_b (by omega)) (Below.refl _ _) (fun _ => rfl)
    (fun pre W => (∃ v, Boxed W (w2.heap.size + 1) 29 v ∧ W.ownsRow w2.heap.size 42 15 v pre.length (pre.flatMap ccV) ∧ v ≠ .slice none 0 0) ∧ Below w2.heap.size w2 W)
    (fun _ _ _ => False)
    (OwnFrom.and (Own.from (holdsRow_own w2.heap.size (w2.heap.size + 1) 29 42 15 (fun pre : List Ch => pre.length) (fun pre => pre.flatMap ccV) (fun _ v => v ≠ .slice none 0 0)) _) (ownFrom_below (Nat.le_refl _) (by omega)))
    (fun _ _ _ _ _ hs _ _ => hs)
    ⟨⟨_, bO, rO, by simp⟩, hB0⟩
    (fun x a' W => ∃ Bx, w2.heap.size + 1 < Bx ∧ W.heap[Bx]? = some (.cells #[.int .i64 x.k, .int .u32 x.o.p.a, .int .i64 x.o.p.l, .int .i64 x.o.m, .int .u64 x.o.o0, .int .u64 x.o.o1, .int .u64 x.o.h0, .int .u64 x.o.h1, .int .u32 x.n.p.a, .int .i64 x.n.p.l, .int .i64 x.n.m, .int .u64 x.n.o0, .int .u64 x.n.o1, .int .u64 x.n.h0, .int .u64 x.n.h1] 42 (0, 0)) ∧ a' = { tmps := #[.slice A nx c, .slice A' ny c', .pointer (some ⟨w.heap.size, 0, none⟩), .pointer (some ⟨w.heap.size + 1, 0, none⟩), .slice none 0 0, .int .i64 0, .func (.func 25) #[] #[.pointer (some ⟨Ba, 0, none⟩), .pointer (some ⟨Bb, 0, none⟩)], .int .i64 0, .pointer (some ⟨w2.heap.size + 1, 0, none⟩), .pointer (some ⟨Bx, 0, none⟩), .tuple #[.func (.func 25) #[] #[.pointer (some ⟨Ba, 0, none⟩), .pointer (some ⟨Bb, 0, none⟩)], .int .i64 0], .slice A nx c, .slice A' ny c', .tuple #[.func (.func 25) #[] #[.pointer (some ⟨Ba, 0, none⟩), .pointer (some ⟨Bb, 0, none⟩)], .int .i64 0], .func (.func 25) #[] #[.pointer (some ⟨Ba, 0, none⟩), .pointer (some ⟨Bb, 0, none⟩)], .int .i64 0, .slice (some ⟨w2.heap.size, 0, none⟩) 0 0, .func (.func 25) #[] #[.pointer (some ⟨Ba, 0, none⟩), .pointer (some ⟨Bb, 0, none⟩)], .bool false, .func (.func 25) #[] #[.pointer (some ⟨Ba, 0, none⟩), .pointer (some ⟨Bb, 0, none⟩)], .agg #[.int .i64 x.k, .int .u32 x.o.p.a, .int .i64 x.o.p.l, .int .i64 x.o.m, .int .u64 x.o.o0, .int .u64 x.o.o1, .int .u64 x.o.h0, .int .u64 x.o.h1, .int .u32 x.n.p.a, .int .i64 x.n.p.l, .int .i64 x.n.m, .int .u64 x.n.o0, .int .u64 x.n.o1, .int .u64 x.n.h0, .int .u64 x.n.h1], undef, undef, undef, undef, undef, undef, undef, undef, undef, undef, undef, undef, undef, undef], defers := [] })
    (fun x a' _ X Y row hs hg hr => by
      obtain ⟨Bx, h1, h2, h3⟩ := hs
      refine ⟨Bx, h1, (hg.block Bx (Array.getElem?_eq_some_iff.1 h2).1 (fun e => ?_)).trans h2, h3⟩
      obtain ⟨_, o, ho, hc⟩ := hr Bx e.symm
      rw [h2] at ho; cases ho; cases hc)
    ?assign ?body ?done ?stop
  case assign =>
    rintro l pre x W K ⟨⟨v, hv, hrow, hne⟩, hB⟩ hK
    gi_wp2_with fail
    exact hK _ _ ((KeepsOthers.alloc _ _).from _) ((Below.refl _ W).alloc hB.size _) ⟨⟨v, hv.alloc _, hrow.alloc _, hne⟩, hB.alloc hB.size _⟩ ⟨W.heap.size, hv.lt, heap_alloc_new W _, rfl⟩
  case body =>
    rintro l pre x a' W hl ⟨r, hr⟩ ⟨⟨v, hv, hrow, hne⟩, hB⟩ ⟨Bx, hBx, bX, rfl⟩ hlt
    have hm := HM.out
    have hn := HN.out
    have hq := HL.out
    rw [← HNX.out, ← HNY.out] at hm hq
    obtain ⟨k, hk⟩ : ∃ k, k = pre.length := ⟨_, rfl⟩
    rw [← hk] at hrow hlt
    have hk1 : (k : Int) + 1 ≤ (nx : Int) + (ny : Int) := by omega
    have hk2 : k + 1 ≤ 1172812402926 := by omega
    have hx1 : nx ≤ 2513169434843 := hq.1
    have hy1 : ny ≤ 2513169434843 := hq.2
    have HK := Lib.hid hk
    have b0 := (boxed_below BB.out.1 hB).cell
    have b1 := (boxed_below BB.out.2 hB).cell
    have cx := cells15 bX
    have cv := hv.cell
    have fv := hv.frozen
    have HB := Lib.hid hB
    have HV := Lib.hid hv
    have HR := Lib.hid hrow
    clear hl hr r hlt hB bX hq hm hn hk
    gi_wp2_with (gi_at_builtin; refine wpListIn_append_own _ rfl (.tmp 21) (.tmp 23) 29 rfl w2.heap.size 42 i0 _ 15 120 Try.underlying29 hi hz0 hz1 hz2 rfl (by decide) _ k _ rfl (HR.out.alloc _) ⟨W.heap.size, 0, none⟩ 1 1 (ccV x) rfl rfl (news_block rfl) (ccV_one _) (by unfold maxLen; omega) (by omega) (by have := HB.out.size; simp; omega) ?_; intro v' w1 hown' hgrow _; obtain ⟨g', cap', rfl⟩ := ownsRow_succ hown'; obtain ⟨hv1, hv2, hr2, hk3, hb3⟩ := HV.out.appended (by decide) HR.out HB.out.size (by omega) hown' hgrow; have hc1 := hv1.cell; have hf1 := hv1.frozen; have b0' := (boxed_below BB.out.1 (HB.out.trans hb3)).cell; have b1' := (boxed_below BB.out.2 (HB.out.trans hb3)).cell; have F := Lib.hid (And.intro hv2 (And.intro hr2 (And.intro hk3 hb3))); clear hv2 hr2 hk3 hb3 hv1 hown' hgrow)
    obtain ⟨hv2, hr2, hk3, hb3⟩ := F.out
    exact ⟨hk3.from _, hb3, ⟨_, hv2, by simpa [← HK.out] using hr2, by simp⟩, HB.out.trans hb3⟩
  case done =>
    rintro D zs W hD rfl ⟨⟨v, hv, hrow, hne⟩, hB⟩ hK
    have cv := hv.cell
    have HS := Lib.hid (SlC_of_row hrow rfl)
    have HK := Lib.hid hK
    have HB := Lib.hid hB
    have HR := Lib.hid hrow
    clear hv hrow hne hB hK
    gi_wp2_with fail
    refine ⟨by simp, .inl ⟨_, _, rfl, run_takeDeferred HK.out, ?_⟩⟩
    refine ⟨.tuple #[v, .int .i64 0], by simp [results, Try.f13, go_sem], ⟨v, rfl, SlC.mono (SlC_of_row (ownsRow_putObj HR.out _ HK.out rfl) rfl) HB2.out.size⟩, ?_⟩
    exact (bthen' HB2.out HB2.out.size HB.out).trans (belowK_b (w := w) (Nat.le_refl _) _ D _ _ (by have := HB2.out.size; omega) HK.out rfl rfl)
  case stop =>
    rintro D c pre W _ _ h _
    exact h.elim

end Go.Proofs.Ytpnhkniegjfncaa
