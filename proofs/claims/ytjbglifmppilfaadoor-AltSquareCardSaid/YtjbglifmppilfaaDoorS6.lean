/- The heap of whole numbers: an entry rises and sinks; conditions as stated. graph.clone; conditions: the lists fit the memory, the places are 0. As Og3, with a class of worlds that knows what has been done and what it yielded. Conditions: as in Og. The graph that an edit changes: links and pins added and taken out; conditions as stated. -/
import Derived.Test.YtjbglifmppilfaaDoorS5
import Derived.ScopeJumps
import Derived.WalkMore
import Derived.Test.YtjbglifmppilfaaDoorS3
import Derived.Test.YtjbglifmppilfaaDoorS2
import Derived.Test.YtjbglifmppilfaaDoorS1
import Derived.Tactics
import Derived.Test.YtjbglifmppilfaaDoorS4
namespace Go
section
variable {P : Program} {a : Act} {w : World} {Q : Exit → Act → World → Prop}
/-- a scope that begins with its label -/
theorem wp_scope_lab {R : Code} (l : Nat) (J : Act → World → Prop) (μ : Act → World → Nat) (h0 : J a w)
    (pass : ∀ a w, J a w → R.wp P (Exit.jump l (fun a' w' => J a' w' ∧ μ a' w' < μ a w) Q) a w) : (Code.scope ((Code.label l).seq R)).wp P Q a w := by
  refine wp_scope_jumps (rest := Code.skip.seq R) l J μ (by simp [findLabel]) (wp_seq (wp_label ?_)) (fun a w h => wp_seq (wp_skip (pass a w h)))
  refine wp_mono (pass a w h0) fun e a' w' h => ?_
  cases e with
  | goto l' => exact ⟨h.1, h.2.1⟩
  | _ => exact h
/-- .. and one whose label stands behind its first part -/
theorem wp_scope_lab2 {A R : Code} (l : Nat) (J : Act → World → Prop) (μ : Act → World → Nat) (hA : findLabel A l = none) (h0 : A.wp P (fun e a w => e = .normal ∧ J a w) a w)
    (pass : ∀ a w, J a w → R.wp P (Exit.jump l (fun a' w' => J a' w' ∧ μ a' w' < μ a w) Q) a w) : (Code.scope (A.seq ((Code.label l).seq R))).wp P Q a w := by
  refine wp_scope_jumps (rest := Code.skip.seq R) l J μ (by simp [findLabel, hA]) (wp_seq (wp_mono h0 ?_)) (fun a w h => wp_seq (wp_skip (pass a w h)))
  rintro e a' w' ⟨rfl, h⟩
  refine wp_seq (wp_label ?_)
  refine wp_mono (pass a' w' h) fun e a' w' h => ?_
  cases e with
  | goto l' => exact ⟨h.1, h.2.1⟩
  | _ => exact h
end
end Go
namespace Go.Proofs.YtjbglifmppilfaaDoor
open Go.ChangeShapes Go.WideShapes Go.ChangeAt Go.RowKit
set_option linter.unusedVariables false
set_option linter.unusedSimpArgs false

/-- a heap: its entries and where they stand -/
structure Hs where
  es : List En
  tb : List Int
def swapP (s : Hs) (i j : Nat) : Option Hs :=
  match s.es[i]?, s.es[j]? with
  | some x, some y => if (oks x.n && oks y.n && (i == j || x.n != y.n)) = true then some ⟨(s.es.set i y).set j x, (s.tb.set y.n.toNat (i + 1)).set x.n.toNat (j + 1)⟩ else none
  | _, _ => none
def upP : Nat → Hs → Nat → Option Hs
  | 0, _, _ => none
  | f + 1, s, i => if i = 0 then some s else
    match s.es[i]?, s.es[(i - 1) / 2]? with
    | some x, some y => if bef x y = true then (swapP s i ((i - 1) / 2)).bind fun s' => upP f s' ((i - 1) / 2) else some s
    | _, _ => none
def kidP (es : List En) (k : Nat) : Option Nat :=
  if k + 1 < es.length then
    match es[k + 1]?, es[k]? with
    | some x, some y => some (if bef x y = true then k + 1 else k)
    | _, _ => none
  else some k
def downP : Nat → Hs → Nat → Option Hs
  | 0, _, _ => none
  | f + 1, s, i => if s.es.length ≤ 2 * i + 1 then some s else
    (kidP s.es (2 * i + 1)).bind fun k =>
      match s.es[k]?, s.es[i]? with
      | some x, some y => if bef x y = true then (swapP s i k).bind fun s' => downP f s' k else some s
      | _, _ => none
theorem swapP_some {s s' : Hs} {i j : Nat} (h : swapP s i j = some s') : ∃ x y, s.es[i]? = some x ∧ s.es[j]? = some y ∧ oks x.n = true ∧ oks y.n = true ∧ (i = j ∨ x.n ≠ y.n) ∧ s' = ⟨(s.es.set i y).set j x, (s.tb.set y.n.toNat (i + 1)).set x.n.toNat (j + 1)⟩ := by
  unfold swapP at h
  split at h
  · rename_i x y hx hy
    split at h
    · rename_i hc
      simp only [Bool.and_eq_true, Bool.or_eq_true, beq_iff_eq, bne_iff_ne] at hc
      cases h
      exact ⟨x, y, hx, hy, hc.1.1, hc.1.2, hc.2, rfl⟩
    · cases h
  · cases h
theorem swapP_len {s s' : Hs} {i j : Nat} (h : swapP s i j = some s') : s'.es.length = s.es.length := by
  obtain ⟨x, y, -, -, -, -, -, rfl⟩ := swapP_some h
  simp
theorem swap_okP {s s' : Hs} {i j h : Nat} {v : Value} {w : World} (H : Hp h w v s.es s.tb) (hl : s.es.length ≤ 1000000) (hs : swapP s i j = some s') :
    Calls Tryd.prog 86 #[.pointer (some ⟨h, 0, none⟩), .int .i64 (i : Int), .int .i64 (j : Int)] w fun e w' => e = .returned (.tuple #[]) ∧ Fr h v w w' ∧ Hp h w' v s'.es s'.tb := by
  obtain ⟨x, y, hx, hy, ox, oy, hd, rfl⟩ := swapP_some hs
  exact swap_ok s.es s.tb h i j x y v w H hx hy hl ox oy hd
theorem before_okP {s : Hs} {i j h : Nat} {x y : En} {v : Value} {w : World} (H : Hp h w v s.es s.tb) (hl : s.es.length ≤ 1000000) (hx : s.es[i]? = some x) (hy : s.es[j]? = some y) :
    Calls Tryd.prog 85 #[.pointer (some ⟨h, 0, none⟩), .int .i64 (i : Int), .int .i64 (j : Int)] w fun e w' => e = .returned (.bool (bef x y)) ∧ Below w.heap.size w w' :=
  before_ok s.es h i j x y v w H.v0 H.sl hx hy hl
theorem bstep {h : Nat} {v : Value} {w w1 w2 : World} (k : h < w1.heap.size) (a : Fr h v w w1) (b : Below w1.heap.size w1 w2) : Fr h v w w2 := a.trans (Fr.of (Nat.le_of_lt k) b)

set_option maxRecDepth 100000 in
set_option maxHeartbeats 4000000 in
theorem up_ok (s0 s' : Hs) (f0 i0 h : Nat) (v : Value) (w : World) (H0 : Hp h w v s0.es s0.tb) (hl : s0.es.length ≤ 1000000) (hi : i0 ≤ 1000000) (hu : upP f0 s0 i0 = some s') :
    Calls Tryd.prog 76 #[.pointer (some ⟨h, 0, none⟩), .int .i64 (i0 : Int)] w fun e w' => e = .returned (.tuple #[]) ∧ Fr h v w w' ∧ Hp h w' v s'.es s'.tb ∧ s'.es.length = s0.es.length := by
  go_enter Tryd.func76, Tryd.ntmps76
  go_wp2_with fail
  refine wp_scope_lab 0 (fun a' w' => ∃ (f : Nat) (s : Hs) (i : Nat) (u2 u3 u4 u5 u6 u7 u8 u9 u10 u11 u12 u13 u14 u15 u16 u17 u18 u19 u20 u21 u22 : Value), a' = { tmps := #[.pointer (some ⟨h, 0, none⟩), .int .i64 (i : Int), u2, u3, u4, u5, u6, u7, u8, u9, u10, u11, u12, u13, u14, u15, u16, u17, u18, u19, u20, u21, u22], defers := [] } ∧ Hp h w' v s.es s.tb ∧ s.es.length = s0.es.length ∧ upP f s i = some s' ∧ Fr h v w w' ∧ i ≤ 1000000) (fun a' _ => (intOf (a'.tmps.getD 1 undef)).toNat) ?_ ?_
  · exact ⟨f0, s0, i0, _, _, _, _, _, _, _, _, _, _, _, _, _, _, _, _, _, _, _, _, _, rfl, H0, rfl, hu, Fr.refl _ _ _, hi⟩
  · clear H0 hu hi
    rintro a' w1 ⟨f, s, i, u2, u3, u4, u5, u6, u7, u8, u9, u10, u11, u12, u13, u14, u15, u16, u17, u18, u19, u20, u21, u22, rfl, H, hsl, hu, hb, hi⟩
    cases f with
    | zero => cases hu
    | succ f =>
      by_cases h0 : i = 0
      · subst h0
        rw [upP, if_pos rfl] at hu
        cases hu
        have F := Lib.hid (And.intro hb (And.intro H hsl))
        clear hb H hsl
        go_wp2_with fail
        simp only [Exit.jump]
        go_end0
        exact ⟨rfl, F.out⟩
      · rw [upP, if_neg h0] at hu
        split at hu
        · rename_i x y hx hy
          obtain ⟨m, rfl⟩ : ∃ m, i = m + 1 := ⟨i - 1, by omega⟩
          rw [show (m + 1 - 1) / 2 = m / 2 by omega] at hu hy
          have HB := Lib.hid (fun w2 (k : Hp h w2 v s.es s.tb) => before_okP k (by omega) hx hy)
          have HH := Lib.hid H
          have hbb := Lib.hid hb
          have hln := Lib.hid hsl
          have g0 : (0 : Int) < ((m + 1 : Nat) : Int) := by omega
          have gm : wrap64 (m : Int) = (m : Int) := by unfold wrap64; omega
          have gd : RowKit.Hid (wrap64 ((m : Int) / 2) = ((m / 2 : Nat) : Int)) := Lib.hid (by unfold wrap64; omega)
          have hu' := Lib.hid hu
          have hi' := Lib.hid hi
          clear hu H hb hsl hi hx hy h0
          by_cases hbf : bef x y = true
          · have hs := hu'.out
            rw [if_pos hbf, Option.bind_eq_some_iff] at hs
            obtain ⟨s2, hs2, hu2⟩ := hs
            have HS := Lib.hid (fun w2 (k : Hp h w2 v s.es s.tb) => swap_okP k (by have := hln.out; omega) hs2)
            have HF := Lib.hid (And.intro (swapP_len hs2) hu2)
            clear hs2 hu2 hu'
            go_wp2_with fail
            rw [gd.out, show ((m : Int) + 1) = ((m + 1 : Nat) : Int) from rfl]
            with_reducible refine (HB.out _ HH.out).mono ?_
            rintro e w2 ⟨rfl, b2⟩
            have H2 := Lib.hid (HH.out.below b2)
            have B2 := Lib.hid (bstep HH.out.lt hbb.out b2)
            rw [hbf]
            clear b2
            go_wp2_with fail
            rw [gd.out, show ((m : Int) + 1) = ((m + 1 : Nat) : Int) from rfl]
            with_reducible refine (HS.out _ H2.out).mono ?_
            rintro e w3 ⟨rfl, b3, H3⟩
            have B3 := Lib.hid (B2.out.trans b3)
            have H3' := Lib.hid H3
            clear b3 H3
            go_wp2_with fail
            rw [gd.out]
            go_step3
            refine ⟨rfl, ⟨f, s2, m / 2, _, _, _, _, _, _, _, _, _, _, _, _, _, _, _, _, _, _, _, _, _, rfl, H3'.out, HF.out.1.trans hln.out, HF.out.2, B3.out, by have := hi'.out; omega⟩, ?_⟩
            simp [intOf]
            omega
          · have hs := hu'.out
            rw [if_neg hbf] at hs
            cases hs
            go_wp2_with fail
            rw [gd.out, show ((m : Int) + 1) = ((m + 1 : Nat) : Int) from rfl]
            with_reducible refine (HB.out _ HH.out).mono ?_
            rintro e w2 ⟨rfl, b2⟩
            have H2 := Lib.hid (HH.out.below b2)
            have B2 := Lib.hid (bstep HH.out.lt hbb.out b2)
            rw [Bool.not_eq_true] at hbf
            rw [hbf]
            clear b2
            go_wp2_with fail
            simp only [Exit.jump]
            go_end0
            exact ⟨rfl, B2.out, H2.out, hln.out⟩
        · cases hu

-- down
theorem before_okZ {s : Hs} {i j h : Nat} {x y : En} {v : Value} {w : World} {a b : Int} (ha : a = i) (hb : b = j) (H : Hp h w v s.es s.tb) (hl : s.es.length ≤ 1000000) (hx : s.es[i]? = some x) (hy : s.es[j]? = some y) :
    Calls Tryd.prog 85 #[.pointer (some ⟨h, 0, none⟩), .int .i64 a, .int .i64 b] w fun e w' => e = .returned (.bool (bef x y)) ∧ Below w.heap.size w w' := by
  subst ha hb
  exact before_okP H hl hx hy
theorem swap_okZ {s s' : Hs} {i j h : Nat} {v : Value} {w : World} {a b : Int} (ha : a = i) (hb : b = j) (H : Hp h w v s.es s.tb) (hl : s.es.length ≤ 1000000) (hs : swapP s i j = some s') :
    Calls Tryd.prog 86 #[.pointer (some ⟨h, 0, none⟩), .int .i64 a, .int .i64 b] w fun e w' => e = .returned (.tuple #[]) ∧ Fr h v w w' ∧ Hp h w' v s'.es s'.tb := by
  subst ha hb
  exact swap_okP H hl hs
theorem kidP_some {es : List En} {k k' : Nat} (h : kidP es k = some k') : (k + 1 < es.length ∧ ∃ x y, es[k + 1]? = some x ∧ es[k]? = some y ∧ k' = (if bef x y = true then k + 1 else k)) ∨ (¬ k + 1 < es.length ∧ k' = k) := by
  unfold kidP at h
  split at h
  · rename_i hc
    split at h
    · rename_i x y hx hy
      cases h
      exact .inl ⟨hc, x, y, hx, hy, rfl⟩
    · cases h
  · rename_i hc
    cases h
    exact .inr ⟨hc, rfl⟩
set_option maxRecDepth 100000 in
set_option maxHeartbeats 4000000 in
theorem down_ok (s0 s' : Hs) (f0 i0 h : Nat) (v : Value) (w : World) (H0 : Hp h w v s0.es s0.tb) (hl : s0.es.length ≤ 1000000) (hi : i0 ≤ 1000000) (hu : downP f0 s0 i0 = some s') :
    Calls Tryd.prog 87 #[.pointer (some ⟨h, 0, none⟩), .int .i64 (i0 : Int)] w fun e w' => e = .returned (.tuple #[]) ∧ Fr h v w w' ∧ Hp h w' v s'.es s'.tb ∧ s'.es.length = s0.es.length := by
  obtain ⟨A, c, hv, -⟩ := H0.sl
  obtain ⟨n, hn⟩ : ∃ n, n = s0.es.length := ⟨_, rfl⟩
  rw [← hn] at hv hl ⊢
  subst hv
  have HN := Lib.hid hn
  clear hn
  go_enter Tryd.func87, Tryd.ntmps87
  go_wp2_with fail
  refine wp_scope_lab2 0 (fun a' w' => ∃ (f : Nat) (s : Hs) (i : Nat) (u2 u3 u4 u5 u6 u7 u8 u9 u10 u11 u12 u13 u14 u15 u16 u17 u18 u19 u20 u21 u22 u23 u24 u25 u26 u27 u28 u29 u30 u31 u32 u33 u34 u35 u36 u37 u38 u39 u40 : Value), a' = { tmps := #[.pointer (some ⟨h, 0, none⟩), .int .i64 (i : Int), u2, u3, u4, u5, u6, u7, u8, u9, u10, u11, u12, u13, u14, u15, u16, u17, u18, u19, u20, u21, u22, u23, u24, u25, u26, u27, u28, u29, u30, u31, u32, u33, u34, u35, u36, u37, u38, u39, u40], defers := [] } ∧ Hp h w' (.slice A n c) s.es s.tb ∧ s.es.length = n ∧ downP f s i = some s' ∧ Fr h (.slice A n c) w w' ∧ i ≤ 1000000) (fun a' _ => n - (intOf (a'.tmps.getD 1 undef)).toNat) rfl ?_ ?_
  · go_wp2_with fail
    exact ⟨f0, s0, i0, rfl, H0, HN.out.symm, hu, Fr.refl _ _ _, hi⟩
  · clear H0 hu hi HN
    rintro a' w1 ⟨f, s, i, u2, u3, u4, u5, u6, u7, u8, u9, u10, u11, u12, u13, u14, u15, u16, u17, u18, u19, u20, u21, u22, u23, u24, u25, u26, u27, u28, u29, u30, u31, u32, u33, u34, u35, u36, u37, u38, u39, u40, rfl, H, hsl, hu, hb, hi⟩
    cases f with
    | zero => cases hu
    | succ f =>
      have gk : wrap64 (2 * (i : Int)) = 2 * (i : Int) := by unfold wrap64; omega
      have gk1 : wrap64 (2 * (i : Int) + 1) = 2 * (i : Int) + 1 := by unfold wrap64; omega
      have m0 := H.v0
      by_cases h0 : n ≤ 2 * i + 1
      · rw [downP, hsl, if_pos h0] at hu
        cases hu
        have F := Lib.hid (And.intro hb (And.intro H hsl))
        have g0 : (n : Int) ≤ 2 * (i : Int) + 1 := by omega
        clear hb H hsl
        go_wp2_with fail
        simp only [Exit.jump]
        refine bodyPost_ret (results_none rfl _ _ _) rfl ?_
        exact ⟨rfl, F.out⟩
      · rw [downP, hsl, if_neg h0] at hu
        rw [Option.bind_eq_some_iff] at hu
        obtain ⟨k, hk, hu⟩ := hu
        split at hu
        · rename_i x y hx hy
          have HH := Lib.hid H
          have hbb := Lib.hid hb
          have hln := Lib.hid hsl
          have g0 : ¬ (n : Int) ≤ 2 * (i : Int) + 1 := by omega
          have hu' := Lib.hid hu
          have hi' := Lib.hid hi
          have hx' := Lib.hid hx
          have hy' := Lib.hid hy
          have hz : RowKit.Hid (2 * i + 1 < n ∧ n ≤ 1000000) := Lib.hid ⟨by omega, hl⟩
          rcases kidP_some hk with ⟨hlt, x0, y0, hx0, hy0, hkk⟩ | ⟨hlt, rfl⟩
          · have HB0 := Lib.hid (fun w2 (k : Hp h w2 (.slice A n c) s.es s.tb) => before_okZ (a := 2 * (i : Int) + 1 + 1) (b := 2 * (i : Int) + 1) (by omega) (by omega) k (by have := hln.out; omega) hx0 hy0)
            rw [hsl] at hlt
            have g1 : 2 * (i : Int) + 1 + 1 < (n : Int) := by omega
            have g2 : wrap64 (2 * (i : Int) + 1 + 1) = 2 * (i : Int) + 1 + 1 := by unfold wrap64; omega
            have hz2 := Lib.hid hlt
            clear H hb hsl hi h0 hk hx0 hy0 hlt
            by_cases hb0 : bef x0 y0 = true
            · rw [if_pos hb0] at hkk
              subst hkk
              have hz : RowKit.Hid (2 * i + 1 + 1 < n ∧ n ≤ 1000000) := Lib.hid ⟨hz2.out, hl⟩
              clear hu hx hy hz2
              go_wp2_with fail
              with_reducible refine (HB0.out _ HH.out).mono ?_
              rintro e w3 ⟨rfl, b2⟩
              have H3 := Lib.hid (HH.out.below b2)
              have B3 := Lib.hid (bstep HH.out.lt hbb.out b2)
              rw [hb0]
              clear b2
              have HB := Lib.hid (fun w2 (k : Hp h w2 (.slice A n c) s.es s.tb) => before_okZ (a := 2 * (i : Int) + 1 + 1) (b := (i : Int)) (by omega) (by omega) k (by have := hln.out; omega) hx'.out hy'.out)
              by_cases hbf : bef x y = true
              · have hs := hu'.out
                rw [if_pos hbf, Option.bind_eq_some_iff] at hs
                obtain ⟨s2, hs2, hu2⟩ := hs
                have HS := Lib.hid (fun w2 (k : Hp h w2 (.slice A n c) s.es s.tb) => swap_okZ (a := (i : Int)) (b := 2 * (i : Int) + 1 + 1) (by omega) (by omega) k (by have := hln.out; omega) hs2)
                have HF := Lib.hid (And.intro (swapP_len hs2) hu2)
                clear hs2 hu2 hu'
                go_wp2_with fail
                with_reducible refine (HB.out _ H3.out).mono ?_
                rintro e w4 ⟨rfl, b2⟩
                have H4 := Lib.hid (H3.out.below b2)
                have B4 := Lib.hid (bstep H3.out.lt B3.out b2)
                rw [hbf]
                clear b2
                go_wp2_with fail
                with_reducible refine (HS.out _ H4.out).mono ?_
                rintro e w5 ⟨rfl, b3, H5⟩
                have B5 := Lib.hid (B4.out.trans b3)
                have H5' := Lib.hid H5
                clear b3 H5
                go_wp2_with fail
                go_step3
                refine ⟨rfl, ⟨f, s2, 2 * i + 1 + 1, _, _, _, _, _, _, _, _, _, _, _, _, _, _, _, _, _, _, _, _, _, _, _, _, _, _, _, _, _, _, _, _, _, _, _, _, _, _, _, rfl, H5'.out, HF.out.1.trans hln.out, HF.out.2, B5.out, by have := hz.out; omega⟩, ?_⟩
                have := hz.out
                simp [intOf]
                omega
              · have hs := hu'.out
                rw [if_neg hbf] at hs
                cases hs
                go_wp2_with fail
                with_reducible refine (HB.out _ H3.out).mono ?_
                rintro e w4 ⟨rfl, b2⟩
                have H4 := Lib.hid (H3.out.below b2)
                have B4 := Lib.hid (bstep H3.out.lt B3.out b2)
                rw [Bool.not_eq_true] at hbf
                rw [hbf]
                clear b2
                go_wp2_with fail
                simp only [Exit.jump]
                go_end0
                exact ⟨rfl, B4.out, H4.out, hln.out⟩
            · rw [if_neg hb0] at hkk
              subst hkk
              clear hu hx hy hz2
              go_wp2_with fail
              with_reducible refine (HB0.out _ HH.out).mono ?_
              rintro e w3 ⟨rfl, b2⟩
              have H3 := Lib.hid (HH.out.below b2)
              have B3 := Lib.hid (bstep HH.out.lt hbb.out b2)
              rw [Bool.not_eq_true] at hb0
              rw [hb0]
              clear b2
              have HB := Lib.hid (fun w2 (k : Hp h w2 (.slice A n c) s.es s.tb) => before_okZ (a := 2 * (i : Int) + 1) (b := (i : Int)) (by omega) (by omega) k (by have := hln.out; omega) hx'.out hy'.out)
              by_cases hbf : bef x y = true
              · have hs := hu'.out
                rw [if_pos hbf, Option.bind_eq_some_iff] at hs
                obtain ⟨s2, hs2, hu2⟩ := hs
                have HS := Lib.hid (fun w2 (k : Hp h w2 (.slice A n c) s.es s.tb) => swap_okZ (a := (i : Int)) (b := 2 * (i : Int) + 1) (by omega) (by omega) k (by have := hln.out; omega) hs2)
                have HF := Lib.hid (And.intro (swapP_len hs2) hu2)
                clear hs2 hu2 hu'
                go_wp2_with fail
                with_reducible refine (HB.out _ H3.out).mono ?_
                rintro e w4 ⟨rfl, b2⟩
                have H4 := Lib.hid (H3.out.below b2)
                have B4 := Lib.hid (bstep H3.out.lt B3.out b2)
                rw [hbf]
                clear b2
                go_wp2_with fail
                with_reducible refine (HS.out _ H4.out).mono ?_
                rintro e w5 ⟨rfl, b3, H5⟩
                have B5 := Lib.hid (B4.out.trans b3)
                have H5' := Lib.hid H5
                clear b3 H5
                go_wp2_with fail
                go_step3
                refine ⟨rfl, ⟨f, s2, 2 * i + 1, _, _, _, _, _, _, _, _, _, _, _, _, _, _, _, _, _, _, _, _, _, _, _, _, _, _, _, _, _, _, _, _, _, _, _, _, _, _, _, rfl, H5'.out, HF.out.1.trans hln.out, HF.out.2, B5.out, by have := hz.out; omega⟩, ?_⟩
                have := hz.out
                simp [intOf]
                omega
              · have hs := hu'.out
                rw [if_neg hbf] at hs
                cases hs
                go_wp2_with fail
                with_reducible refine (HB.out _ H3.out).mono ?_
                rintro e w4 ⟨rfl, b2⟩
                have H4 := Lib.hid (H3.out.below b2)
                have B4 := Lib.hid (bstep H3.out.lt B3.out b2)
                rw [Bool.not_eq_true] at hbf
                rw [hbf]
                clear b2
                go_wp2_with fail
                simp only [Exit.jump]
                go_end0
                exact ⟨rfl, B4.out, H4.out, hln.out⟩
          · rw [hsl] at hlt
            have g1 : ¬ 2 * (i : Int) + 1 + 1 < (n : Int) := by omega
            have g2 : wrap64 (2 * (i : Int) + 1 + 1) = 2 * (i : Int) + 1 + 1 := by unfold wrap64; omega
            clear H hb hsl hi h0 hk hlt hu hx hy
            have HB := Lib.hid (fun w2 (k : Hp h w2 (.slice A n c) s.es s.tb) => before_okZ (a := 2 * (i : Int) + 1) (b := (i : Int)) (by omega) (by omega) k (by have := hln.out; omega) hx'.out hy'.out)
            by_cases hbf : bef x y = true
            · have hs := hu'.out
              rw [if_pos hbf, Option.bind_eq_some_iff] at hs
              obtain ⟨s2, hs2, hu2⟩ := hs
              have HS := Lib.hid (fun w2 (k : Hp h w2 (.slice A n c) s.es s.tb) => swap_okZ (a := (i : Int)) (b := 2 * (i : Int) + 1) (by omega) (by omega) k (by have := hln.out; omega) hs2)
              have HF := Lib.hid (And.intro (swapP_len hs2) hu2)
              clear hs2 hu2 hu'
              go_wp2_with fail
              with_reducible refine (HB.out _ HH.out).mono ?_
              rintro e w4 ⟨rfl, b2⟩
              have H4 := Lib.hid (HH.out.below b2)
              have B4 := Lib.hid (bstep HH.out.lt hbb.out b2)
              rw [hbf]
              clear b2
              go_wp2_with fail
              with_reducible refine (HS.out _ H4.out).mono ?_
              rintro e w5 ⟨rfl, b3, H5⟩
              have B5 := Lib.hid (B4.out.trans b3)
              have H5' := Lib.hid H5
              clear b3 H5
              go_wp2_with fail
              go_step3
              refine ⟨rfl, ⟨f, s2, 2 * i + 1, _, _, _, _, _, _, _, _, _, _, _, _, _, _, _, _, _, _, _, _, _, _, _, _, _, _, _, _, _, _, _, _, _, _, _, _, _, _, _, rfl, H5'.out, HF.out.1.trans hln.out, HF.out.2, B5.out, by have := hz.out; omega⟩, ?_⟩
              have := hz.out
              simp [intOf]
              omega
            · have hs := hu'.out
              rw [if_neg hbf] at hs
              cases hs
              go_wp2_with fail
              with_reducible refine (HB.out _ HH.out).mono ?_
              rintro e w4 ⟨rfl, b2⟩
              have H4 := Lib.hid (HH.out.below b2)
              have B4 := Lib.hid (bstep HH.out.lt hbb.out b2)
              rw [Bool.not_eq_true] at hbf
              rw [hbf]
              clear b2
              go_wp2_with fail
              simp only [Exit.jump]
              go_end0
              exact ⟨rfl, B4.out, H4.out, hln.out⟩
        · cases hu

end Go.Proofs.YtjbglifmppilfaaDoor
namespace Go.Proofs.YtjbglifmppilfaaDoor
open Go.ChangeShapes Go.WideShapes Go.ChangeAt Go.RowKit
set_option linter.unusedVariables false
set_option linter.unusedSimpArgs false
attribute [local go_sem] Og.Opt Og.OpY

theorem opt_spreadNd {ops : Array Oper} {o : Oper} {a : Act} {w : World} {R : Value → World → Prop} (hw : Region.wanted o (yielded ops a.tmps) = true) (s x : Operand) (ho : o.op = .call { callee := .builtin .append, args := #[s, x], argTypes := #[38, 38] }) (xs : List Nd) (v : Value) (hs : a.eval s = .slice none 0 0) (hx : a.eval x = v) (hsl : Sl cNd 3 0 w v xs) (hl : xs.length ≤ 1172812402926)
    (h : ∀ v' w', w'.ownsRow w.heap.size 53 3 v' xs.length (xs.flatMap cNd) → Below w.heap.size w w' → R v' w') : Og.OptB Tryd.prog ops o a w R := by
  obtain ⟨v', w', hr, h1, h2⟩ := run_spreadNd o.type xs v hsl hl
  refine ⟨opt_of_wanted hw ?_⟩
  unfold Og.OpY
  simp [execOp, ho, resolve, invoke, builtin, hs, hx, hr, Result.andThen]
  exact h v' w' h1 ⟨h2.os, h2.tape, h2.output, h2.size, fun j hj => h2.block j hj (by simp)⟩

theorem opt_spreadLk {ops : Array Oper} {o : Oper} {a : Act} {w : World} {R : Value → World → Prop} (hw : Region.wanted o (yielded ops a.tmps) = true) (s x : Operand) (ho : o.op = .call { callee := .builtin .append, args := #[s, x], argTypes := #[39, 39] }) (xs : List Lk) (v : Value) (hs : a.eval s = .slice none 0 0) (hx : a.eval x = v) (hsl : Sl cLk 4 0 w v xs) (hl : xs.length ≤ 1172812402926)
    (h : ∀ v' w', w'.ownsRow w.heap.size 45 4 v' xs.length (xs.flatMap cLk) → Below w.heap.size w w' → R v' w') : Og.OptB Tryd.prog ops o a w R := by
  obtain ⟨v', w', hr, h1, h2⟩ := run_spreadLk o.type xs v hsl hl
  refine ⟨opt_of_wanted hw ?_⟩
  unfold Og.OpY
  simp [execOp, ho, resolve, invoke, builtin, hs, hx, hr, Result.andThen]
  exact h v' w' h1 ⟨h2.os, h2.tape, h2.output, h2.size, fun j hj => h2.block j hj (by simp)⟩

theorem opt_spreadPn {ops : Array Oper} {o : Oper} {a : Act} {w : World} {R : Value → World → Prop} (hw : Region.wanted o (yielded ops a.tmps) = true) (s x : Operand) (ho : o.op = .call { callee := .builtin .append, args := #[s, x], argTypes := #[40, 40] }) (xs : List Pn) (v : Value) (hs : a.eval s = .slice none 0 0) (hx : a.eval x = v) (hsl : Sl cPn 4 0 w v xs) (hl : xs.length ≤ 1172812402926)
    (h : ∀ v' w', w'.ownsRow w.heap.size 124 4 v' xs.length (xs.flatMap cPn) → Below w.heap.size w w' → R v' w') : Og.OptB Tryd.prog ops o a w R := by
  obtain ⟨v', w', hr, h1, h2⟩ := run_spreadPn o.type xs v hsl hl
  refine ⟨opt_of_wanted hw ?_⟩
  unfold Og.OpY
  simp [execOp, ho, resolve, invoke, builtin, hs, hx, hr, Result.andThen]
  exact h v' w' h1 ⟨h2.os, h2.tape, h2.output, h2.size, fun j hj => h2.block j hj (by simp)⟩

theorem setCell_self {w : World} {g i : Nat} {cur : Array Value} {t : TypeId} {v : Value} (h : w.heap[g]? = some (.cells cur t (0, 0))) (hc : w.cell? ⟨g, i, none⟩ = some v) : w.setCell ⟨g, i, none⟩ v = w := by
  rw [setCell_eq_setRow w g i cur t (0, 0) v h]
  rw [cell_of_row w g i cur t (0, 0) h] at hc
  have e : cur.setIfInBounds i v = cur := by
    obtain ⟨h1, h2⟩ := Array.getElem?_eq_some_iff.1 hc
    apply Array.ext
    · simp
    · intro j hj1 hj2
      rw [Array.getElem_setIfInBounds]
      split
      · next e => subst e; exact h2.symm
      · rfl
  rw [e, setRow_self w g cur t (0, 0) h]
theorem below_of_grown {w w' : World} (h : w.grownBy w' none) : Below w.heap.size w w' := ⟨h.os, h.tape, h.output, h.size, fun j hj => h.block j hj (by simp)⟩

end Go.Proofs.YtjbglifmppilfaaDoor
namespace Go
namespace Og
namespace Joint
open Tail
def Cls := (Nat → Bool) → (Nat → Value) → World → Prop
def pSet (p : Nat → Bool) (i : Nat) : Nat → Bool := fun k => p k || k == i
def vSet (vs : Nat → Value) (i : Nat) (v : Value) : Nat → Value := fun k => if k = i then v else vs k
def Steps (P : Program) (C : Cls) (Rel : World → World → Prop) (V : Nat → Value → World → Prop) (A : List (List Nat)) (ops : Array Oper) (a : Act) : List Oper → Nat → Prop
  | [], _ => True
  | o :: r, i => (∀ p vs w, p i = false → C p vs w → Know V vs w (A.getD i []) → Opt P ops o (lexF ops vs a i) w (fun v w' => C (pSet p i) (vSet vs i v) w' ∧ Rel w w' ∧ getV V i v w')) ∧ Steps P C Rel V A ops a r (i + 1)
section
variable {P : Program} {ops : Array Oper} {Q : Exit → Act → World → Prop} {m : Nat} {C : Cls} {Rel : World → World → Prop} {V : Nat → Value → World → Prop} {A : List (List Nat)} {a : Act}
theorem steps_at : ∀ (l : List Oper) (k : Nat), Steps P C Rel V A ops a l k → ∀ (i : Nat) (o : Oper), l[i]? = some o → ∀ p vs w, p (k + i) = false → C p vs w → Know V vs w (A.getD (k + i) []) →
    Opt P ops o (lexF ops vs a (k + i)) w (fun v w' => C (pSet p (k + i)) (vSet vs (k + i) v) w' ∧ Rel w w' ∧ getV V (k + i) v w')
  | [], _, _, i, o, h => by simp at h
  | o :: r, k, hs, 0, o', h => by
    simp only [List.getElem?_cons_zero, Option.some.injEq] at h
    subst h
    exact hs.1
  | o :: r, k, hs, i + 1, o', h => by
    have := steps_at r (k + 1) hs.2 i o' (by simpa using h)
    rwa [show k + 1 + i = k + (i + 1) by omega] at this
theorem main (h : okB ops A = true) (ht : tailB ops A m = true) (stab : ∀ i v w w', Rel w w' → getV V i v w → getV V i v w')
    (hst : Steps P C Rel V A ops a (ops.toList.take m) 0)
    (fin : ∀ p vs w, (∀ j, j < m → p j = true) → C p vs w → Know V vs w (List.range m) → wpList P ops Q (ops.toList.drop m) (lexF ops vs a m) w) :
    ∀ (fuel : Nat) (listed : Array Bool) (vs : Nat → Value) (w : World), listed.size = ops.size → (List.range ops.size).countP (fun k => !listed.getD k false) ≤ fuel →
      Closed ops (fun k => listed.getD k false) → C (fun k => listed.getD k false) vs w → (∀ j, j < ops.size → listed.getD j false = true → getV V j (vs j) w) → (∀ j, m ≤ j → j < ops.size → listed.getD j false = false) →
      wpAny P .any ops Q fuel listed (filF ops vs (fun k => listed.getD k false) a ops.size) w := by
  have hdone : ∀ (fuel : Nat) (listed : Array Bool) (vs : Nat → Value) (w : World), listed.size = ops.size → (List.range ops.size).countP (fun k => !listed.getD k false) ≤ fuel → C (fun k => listed.getD k false) vs w → (∀ j, j < ops.size → listed.getD j false = true → getV V j (vs j) w) →
      (∀ j, j < ops.size → listed.getD j false = decide (j < m)) → wpAny P .any ops Q fuel listed (filF ops vs (fun k => listed.getD k false) a ops.size) w := by
    intro fuel listed vs w hs hcnt hC hV hl
    obtain ⟨hm, _⟩ := tailB_at ht
    have e : filF ops vs (fun k => listed.getD k false) a ops.size = lexF ops vs a m := filF_lt ops.size hm hl
    rw [e]
    refine tail h ht (ops.size - m) m (by omega) (Nat.le_refl _) fuel listed _ w hs (Nat.le_trans ?_ hcnt) hl (fin _ vs w (fun j hj => by have := hl j (by omega); simp only [this]; simpa using hj) hC fun j hj => hV j (by have := List.mem_range.1 hj; omega) (by rw [hl j (by have := List.mem_range.1 hj; omega)]; simpa using List.mem_range.1 hj))
    have : ∀ n, m ≤ n → n ≤ ops.size → n - m ≤ (List.range n).countP (fun k => !listed.getD k false) := by
      intro n
      induction n with
      | zero => intro _ _; omega
      | succ n ih =>
        intro h1 h2
        rw [List.range_succ, List.countP_append]
        by_cases hmn : m = n + 1
        · omega
        · have := ih (by omega) (by omega)
          have h3 := hl n (by omega)
          rw [decide_eq_false (show ¬ n < m by omega)] at h3
          simp only [List.countP_singleton, h3, Bool.not_false, if_true]
          omega
    exact this ops.size hm (Nat.le_refl _)
  intro fuel
  induction fuel with
  | zero =>
    intro listed vs w hs hcnt hc hC hV hlo
    have hz : (List.range ops.size).countP (fun k => !listed.getD k false) = 0 := by omega
    refine hdone 0 listed vs w hs hcnt hC hV (fun j hj => ?_)
    have := (List.countP_eq_zero.1 hz) j (List.mem_range.2 hj)
    have h1 : listed.getD j false = true := by simpa using this
    rw [h1]
    by_cases hjm : j < m
    · simp [hjm]
    · have := hlo j (by omega) hj; rw [this] at h1; cases h1
  | succ fuel ih =>
    intro listed vs w hs hcnt hc hC hV hlo
    by_cases hall : ∀ j, j < m → listed.getD j false = true
    · exact hdone (fuel + 1) listed vs w hs hcnt hC hV (fun j hj => by
        by_cases hjm : j < m
        · rw [hall j hjm]; simp [hjm]
        · rw [hlo j (by omega) hj]; simp [hjm])
    have hex : ∃ j, j < m ∧ listed.getD j false = false := Decidable.byContradiction fun hne => hall fun j hj => by
      cases hq : listed.getD j false with
      | true => rfl
      | false => exact absurd ⟨j, hj, hq⟩ hne
    obtain ⟨j0, hj0, hj0f⟩ := hex
    obtain ⟨hms, htl⟩ := tailB_at ht
    refine ⟨fun hr => (by have := all_listed h hs hr (j0 + 1) j0 (by omega) (by omega); rw [hj0f] at this; cases this), fun i hi => ?_⟩
    obtain ⟨o, ho, hl, hdirs⟩ := ready_spec hi
    have hlt := (Array.getElem?_eq_some_iff.1 ho).1
    have him : i < m := by
      by_cases him : i < m
      · exact him
      · exfalso
        obtain ⟨_, e, he, he'⟩ := (okB_at h ho).2.1 j0 (htl i (by omega) hlt j0 (by omega))
        have h1 := hdirs e he
        rcases he' with rfl | he'
        · rw [hj0f] at h1; cases h1
        · have hes : e < ops.size := by have := (okB_at h ho).1 e he; omega
          have := closed_anc h hc (e + 1) e (by omega) ops[e] (Array.getElem?_eq_getElem hes) h1 j0 he'
          rw [hj0f] at this; cases this
    have hp : listed.getD i false = false := by
      simp only [Array.getD_eq_getD_getElem?] at hl ⊢
      rw [Array.getElem?_eq_getElem (by omega)] at hl ⊢
      simpa using hl
    have hdst : dstOf ops i = o.dst := by simp [dstOf, ho]
    -- what follows, whatever op i yields
    have next : ∀ v w', C (pSet (fun k => listed.getD k false) i) (vSet vs i v) w' ∧ Rel w w' ∧ getV V i v w' →
        wpAny P .any ops Q fuel (listed.setIfInBounds i true) ((filF ops vs (fun k => listed.getD k false) a ops.size).put o.dst v) w' := by
      rintro v w' ⟨hC', hR, hv⟩
      have hpe : ∀ k, k < ops.size → (listed.setIfInBounds i true).getD k false = (listed.getD k false || k == i) := by
        intro k hk
        simp only [Array.getD_eq_getD_getElem?, Array.getElem?_setIfInBounds]
        by_cases hki : i = k
        · subst hki
          simp [hs, hk]
        · have : (k == i) = false := by simp; omega
          simp [hki, this]
      have hput : (filF ops vs (fun k => listed.getD k false) a ops.size).put o.dst v = filF ops (fun k => if k = i then v else vs k) (fun k => (listed.setIfInBounds i true).getD k false) a ops.size := by
        rw [← hdst, filF_put i v hlt hp (fun k hk hne d hd he => ?_)]
        · exact filF_congr _ (fun j hj => (hpe j hj).symm) (fun _ _ _ => rfl)
        · obtain ⟨_, _, _, hdist, _⟩ := okB_at h ho
          exact hdist d (by rw [← hdst]; exact hd) k hk hne he
      rw [hput]
      have hpf : (fun k => (listed.setIfInBounds i true).getD k false) = pSet (fun k => listed.getD k false) i := by
        funext k
        by_cases hk : k < ops.size
        · exact hpe k hk
        · have e1 : (k == i) = false := by simp; omega
          simp only [pSet, e1, Bool.or_false, Array.getD_eq_getD_getElem?, Array.getElem?_setIfInBounds]
          rw [if_neg (show ¬ i = k by omega)]
      refine ih _ _ w' (by simp [hs]) ?_ ?_ (by rw [hpf]; exact hC') ?_ (fun j hj hjs => by rw [hpe j hjs, hlo j hj hjs]; simp; omega)
      · have e : (List.range ops.size).countP (fun k => !(listed.setIfInBounds i true).getD k false) = (List.range ops.size).countP (fun k => !(listed.getD k false || k == i)) :=
          List.countP_congr fun k hk => by rw [hpe k (List.mem_range.1 hk)]
        rw [e]
        have := countP_set ops.size i (fun k => listed.getD k false) hlt hp
        omega
      · intro j oj hoj hj k hk
        have hjn := (Array.getElem?_eq_some_iff.1 hoj).1
        have hkj := (okB_at h hoj).1 k hk
        simp only [hpe j hjn] at hj
        simp only [hpe k (by omega)]
        by_cases hji : j = i
        · subst hji
          rw [ho] at hoj
          cases hoj
          rw [hdirs k hk]; rfl
        · have e1 : (j == i) = false := by simp; omega
          rw [e1, Bool.or_false] at hj
          have := hc j oj hoj hj k hk
          simp only at this
          rw [this]; rfl
      · intro j hj hjl
        rw [hpe j hj] at hjl
        by_cases hji : j = i
        · subst hji
          simpa using hv
        · have e1 : (j == i) = false := by simp; omega
          rw [e1, Bool.or_false] at hjl
          simp only [if_neg hji]
          exact stab j _ w w' hR (hV j hj hjl)
    -- op i's own obligation
    have hkn : Know V vs w (A.getD i []) := by
      intro j hj
      obtain ⟨_, ha, _, _, _⟩ := okB_at h ho
      obtain ⟨hji, k, hk, hk'⟩ := ha j hj
      have hpk := hdirs k hk
      refine hV j (by omega) ?_
      rcases hk' with rfl | hk'
      · exact hpk
      · have hkn : k < ops.size := by have := (okB_at h ho).1 k hk; omega
        exact closed_anc h hc (k + 1) k (by omega) ops[k] (Array.getElem?_eq_getElem hkn) hpk j hk'
    have hob := steps_at (ops.toList.take m) 0 hst i o (by rw [List.getElem?_take_of_lt him]; simpa using ho) _ vs w (by rw [Nat.zero_add]; exact hp) hC (by rwa [Nat.zero_add])
    rw [Nat.zero_add] at hob
    obtain ⟨he, hw⟩ := eval_agree (a := a) (vs := vs) h hc ho hp hdirs
    unfold Opt at hob
    rw [← hw] at hob
    unfold wpOp
    simp only [ho]
    by_cases hwt : Region.wanted o (yielded ops (filF ops vs (fun k => listed.getD k false) a ops.size).tmps) = true
    · rw [if_pos hwt] at hob ⊢
      refine .inl ?_
      unfold OpY at hob
      rw [← he] at hob
      unfold Oper.wp
      generalize (execOp (filF ops vs (fun k => listed.getD k false) a ops.size).eval o).run P w = r at hob
      cases r with
      | ok nx w' =>
        cases nx with
        | value v => exact next v w' hob
        | skip => exact next undef w' hob
        | enter f args => exact Calls.mono hob (fun e w'' ⟨v, hv, hR⟩ => by subst hv; exact next v w'' hR)
        | _ => exact hob.elim
      | halt x w' => exact hob.elim
    · rw [if_neg hwt] at hob ⊢
      exact next undef w hob

/-- THE RULE -/
theorem wp_region_og {id : Nat} {w : World} (hm : P.follows .mixedOrders = true) (h : okB ops A = true) (ht : tailB ops A m = true) (hC : ∀ vs, C (fun _ => false) vs w.drew)
    (stab : ∀ i v w w', Rel w w' → getV V i v w → getV V i v w')
    (hst : Steps P C Rel V A ops a (ops.toList.take m) 0)
    (fin : ∀ p vs w, (∀ j, j < m → p j = true) → C p vs w → Know V vs w (List.range m) → wpList P ops Q (ops.toList.drop m) (lexF ops vs a m) w) : (Code.region id ops true).wp P Q a w := by
  refine wp_region_any hm ?_
  have e : a = filF ops (fun _ => undef) (fun k => (Array.replicate ops.size false).getD k false) a ops.size := by
    have : ∀ n, filF ops (fun _ => undef) (fun k => (Array.replicate ops.size false).getD k false) a n = a := by
      intro n
      induction n with
      | zero => rfl
      | succ n ih =>
        simp only [filF]
        rw [if_neg (by simp [Array.getD_eq_getD_getElem?, Array.getElem?_replicate]; split <;> simp), ih]
    exact (this _).symm
  have hfalse : ∀ k, (Array.replicate ops.size false).getD k false = false := by
    intro k
    simp only [Array.getD_eq_getD_getElem?, Array.getElem?_replicate]
    split <;> rfl
  have := main (Q := Q) h ht stab hst fin ops.size (Array.replicate ops.size false) (fun _ => undef) w.drew (by simp) (Nat.le_trans List.countP_le_length (by simp))
    (fun j o _ hj => by simp only [hfalse] at hj; cases hj) (by rw [show (fun k => (Array.replicate ops.size false).getD k false) = fun _ => false from funext hfalse]; exact hC _) (fun j _ hj => by rw [hfalse] at hj; cases hj) (fun j _ _ => hfalse j)
  rw [← e] at this
  exact this

/-- the walk in the text's order -/
def Walk (P : Program) (m : Nat) (C : Cls) (Rel : World → World → Prop) (A : List (List Nat)) (ops : Array Oper) (Q : Act → World → Prop) :
    List Oper → Nat → ((Nat → Value) → Act) → ((Nat → Bool) → (Nat → Value) → World → Prop) → Prop
  | [], _, F, K => ∀ p vs w, (∀ j, j < m → p j = true) → C p vs w → K (fun _ => true) vs w → Q (F vs) w
  | o :: r, i, F, K => ∃ D : Value → World → Prop, (∀ v w w', Rel w w' → D v w → D v w') ∧
      (∀ p vs w, p i = false → C p vs w → K (fun j => (A.getD i []).contains j) vs w → Opt P ops o (F vs) w (fun v w' => C (pSet p i) (vSet vs i v) w' ∧ Rel w w' ∧ D v w')) ∧
      Walk P m C Rel A ops Q r (i + 1) (fun vs => (F vs).put o.dst (vs i)) (KS i D K)

theorem walk_sound {Q' : Act → World → Prop} : ∀ (l : List Oper) (i : Nat) (F : (Nat → Value) → Act) (K : (Nat → Bool) → (Nat → Value) → World → Prop) (V0 : Nat → Value → World → Prop),
    i ≤ m → m ≤ ops.size → (ops.toList.take m).drop i = l → (∀ vs, F vs = lexF ops vs a i) → (∀ V vs w (l : Nat → Bool), (∀ j, j < i → V j = V0 j) → (∀ j, j < i → l j = true → getV V j (vs j) w) → K l vs w) → (∀ j v w w', j < i → Rel w w' → V0 j v w → V0 j v w') →
    Walk P m C Rel A ops Q' l i F K → ∃ V : Nat → Value → World → Prop, (∀ j, j < i → V j = V0 j) ∧ (∀ j v w w', Rel w w' → V j v w → V j v w') ∧ Steps P C Rel V A ops a l i ∧
      (∀ p vs w, (∀ j, j < m → p j = true) → C p vs w → Know V vs w (List.range m) → Q' (lexF ops vs a m) w) := by
  intro l
  induction l with
  | nil =>
    intro i F K V0 hle hms hl hF hK hst hw
    have hi : i = m := by
      have := congrArg List.length hl
      simp at this
      omega
    subst hi
    refine ⟨fun j => if j < i then V0 j else fun _ _ => True, fun j hj => if_pos hj, ?_, trivial, ?_⟩
    · intro j v w w' hR
      by_cases hj : j < i
      · simp only [if_pos hj]; exact hst j v w w' hj hR
      · simp only [if_neg hj]; exact fun h => h
    · intro p vs w hp hC hk
      have h1 := hw p vs w hp hC (hK _ vs w _ (fun j hj => if_pos hj) (fun j hj _ => hk j (List.mem_range.2 hj)))
      rw [hF] at h1; exact h1
  | cons o r ih =>
    intro i F K V0 hle hms hl hF hK hst hw
    obtain ⟨D, hD, hop, hrest⟩ := hw
    have him : i < m := by
      have := congrArg List.length hl
      simp at this
      omega
    have ho : ops[i]? = some o := by
      have h1 : ((ops.toList.take m).drop i)[0]? = some o := by rw [hl]; rfl
      rw [List.getElem?_drop, Nat.add_zero, List.getElem?_take_of_lt him] at h1
      simpa using h1
    have hdrop : (ops.toList.take m).drop (i + 1) = r := by
      have := congrArg List.tail hl
      simpa using this
    have hF' : ∀ vs, (F vs).put o.dst (vs i) = lexF ops vs a (i + 1) := by
      intro vs
      rw [hF]
      show _ = Act.put (lexF ops vs a i) (dstOf ops i) (vs i)
      simp [dstOf, ho]
    obtain ⟨V, hV, hVs, hs, hfin⟩ := ih (i + 1) _ _ (fun j => if j = i then D else V0 j) (by omega) hms hdrop hF' (by
      intro V vs w l hV hk
      refine ⟨fun hc => ?_, hK V vs w l (fun j hj => by rw [hV j (by omega), if_neg (by omega)]) (fun j hj hlj => hk j (by omega) hlj)⟩
      have := hk i (by omega) hc
      unfold getV at this
      rwa [hV i (by omega), if_pos rfl] at this) (by
      intro j v w w' hj hR
      by_cases hji : j = i
      · simp only [if_pos hji]; exact hD v w w' hR
      · simp only [if_neg hji]; exact hst j v w w' (by omega) hR) hrest
    refine ⟨V, fun j hj => by rw [hV j (by omega), if_neg (by omega)], hVs, ⟨fun p vs w hp hC hk => ?_, hs⟩, hfin⟩
    have h1 := hop p vs w hp hC (hK V vs w _ (fun j hj => by rw [hV j (by omega), if_neg (by omega)]) (fun j hj hlj => hk j (List.contains_iff_mem.1 hlj)))
    rw [hF] at h1
    have h2 : getV V i = D := by
      unfold getV
      rw [hV i (by omega), if_pos rfl]
    rw [h2]
    exact h1


theorem walk_lit {id : Nat} {w : World} {l : List Oper} (m : Nat) (A : List (List Nat)) (C : Cls) (Rel : World → World → Prop) (hm : P.follows .mixedOrders = true) (h : okB l.toArray A = true) (ht : tailB l.toArray A m = true) (hC : ∀ vs, C (fun _ => false) vs w.drew)
    (hw : Walk P m C Rel A l.toArray (wpList P l.toArray Q (l.drop m)) (l.take m) 0 (fun _ => a) K0) : (Code.region id l.toArray true).wp P Q a w := by
  obtain ⟨V, _, hV, hs, hfin⟩ := walk_sound (m := m) (a := a) (l.take m) 0 (fun _ => a) K0 (fun _ _ _ => True) (Nat.zero_le _) (tailB_at ht).1 rfl (fun _ => rfl) (fun _ _ _ _ _ _ => trivial) (fun _ _ _ _ _ _ h => h) hw
  exact wp_region_og hm h ht hC hV (by simpa using hs) (by simpa using hfin)
section
variable {Q : Act → World → Prop} {o : Oper} {r : List Oper} {i : Nat} {F : (Nat → Value) → Act} {K : (Nat → Bool) → (Nat → Value) → World → Prop}
/-- an operation that leaves the world alone and of which the class says nothing -/
theorem step_pure (hI : ∀ p vs v w, C p vs w → C (pSet p i) (vSet vs i v) w) (hr : ∀ w, Rel w w) (h : ∃ x, (∀ p vs w, C p vs w → K (fun j => (A.getD i []).contains j) vs w → OptB P ops o (F vs) w (fun v w' => w' = w ∧ v = x)) ∧ Walk P m C Rel A ops Q r (i + 1) (fun vs => (F vs).put o.dst (vs i)) (KS i (Is x) K)) :
    Walk P m C Rel A ops Q (o :: r) i F K := by
  obtain ⟨x, h1, h2⟩ := h
  refine ⟨Is x, fun _ _ _ _ h => h, fun p vs w _ hC hk => ?_, h2⟩
  have := (h1 p vs w hC hk).out
  unfold Opt at this ⊢
  split
  · rename_i hw
    rw [if_pos hw] at this
    unfold OpY at this ⊢
    generalize (execOp (F vs).eval o).run P w = res at this
    cases res with
    | ok nx w' =>
      cases nx with
      | value v => obtain ⟨rfl, rfl⟩ := this; exact ⟨hI _ _ _ _ hC, hr _, rfl⟩
      | skip => obtain ⟨rfl, hu⟩ := this; exact ⟨hI _ _ _ _ hC, hr _, hu⟩
      | enter f args => exact Calls.mono this (fun e w'' ⟨v, he, hw', hv⟩ => ⟨v, he, by rw [hw']; exact hI _ _ _ _ hC, by rw [hw']; exact hr _, hv⟩)
      | _ => exact this.elim
    | halt x w' => exact this.elim
  · rename_i hw
    rw [if_neg hw] at this
    obtain ⟨_, hu⟩ := this
    exact ⟨hI _ _ _ _ hC, hr _, hu⟩
/-- any operation -/
theorem step_any (D : Value → World → Prop) (hD : ∀ v w w', Rel w w' → D v w → D v w') (h1 : ∀ p vs w, p i = false → C p vs w → K (fun j => (A.getD i []).contains j) vs w → OptB P ops o (F vs) w (fun v w' => C (pSet p i) (vSet vs i v) w' ∧ Rel w w' ∧ D v w'))
    (h2 : Walk P m C Rel A ops Q r (i + 1) (fun vs => (F vs).put o.dst (vs i)) (KS i D K)) : Walk P m C Rel A ops Q (o :: r) i F K :=
  ⟨D, hD, fun p vs w hp hC hk => (h1 p vs w hp hC hk).out, h2⟩
end
end
end Joint
end Og
end Go
namespace Go.Proofs.YtjbglifmppilfaaDoor
open Go.ChangeShapes Go.WideShapes Go.ChangeAt Go.RowKit
set_option linter.unusedVariables false
set_option linter.unusedSimpArgs false
attribute [local go_sem] Og.Opt Og.OpY

/-- the graph at h: its three rows are the call's own, from block B on -/
structure GS (B : Nat) (w : World) (h : Nat) (va vb vc : Value) (ns : List Nd) (ls : List Lk) (ps : List Pn) : Prop where
  hB : B ≤ h
  hh : w.heap[h]? = some (.cells #[va, vb, vc] 42 (0, 0))
  na : w.ownsRow B 53 3 va ns.length (ns.flatMap cNd)
  la : w.ownsRow B 45 4 vb ls.length (ls.flatMap cLk)
  pa : w.ownsRow B 124 4 vc ps.length (ps.flatMap cPn)
theorem own_type {w : World} {B e m n g : Nat} {v : Value} {xs : List Value} (h : w.ownsRow B e m v n xs) (hg : v.ownBlock = some g) : ∃ cur, w.heap[g]? = some (.cells cur e (0, 0)) := by
  rcases h.2 with ⟨h0, _⟩ | ⟨g', cap, cur, hv, hb, hg', _⟩
  · rw [h0] at hg; cases hg
  · rw [hv] at hg
    have e2 : g' = g := by simpa [Value.ownBlock] using hg
    subst e2
    exact ⟨cur, hg'⟩
theorem own_ne {w : World} {B e m n B' e' m' n' : Nat} {v v' : Value} {xs xs' : List Value} (h : w.ownsRow B e m v n xs) (h' : w.ownsRow B' e' m' v' n' xs') (he : e ≠ e') : v.ownBlock = none ∨ v.ownBlock ≠ v'.ownBlock := by
  cases hv : v.ownBlock with
  | none => exact .inl rfl
  | some g =>
    refine .inr fun e2 => he ?_
    obtain ⟨c1, h1⟩ := own_type h hv
    obtain ⟨c2, h2⟩ := own_type h' e2.symm
    rw [h1] at h2
    cases h2
    rfl
theorem own_at {w : World} {B e m n g : Nat} {v : Value} {xs : List Value} {cur : Array Value} {e' : TypeId} (h : w.ownsRow B e m v n xs) (hg : w.heap[g]? = some (.cells cur e' (0, 0))) (he : e ≠ e') : v.ownBlock ≠ some g := fun hv => by
  obtain ⟨c1, h1⟩ := own_type h hv
  rw [h1] at hg
  cases hg
  exact he rfl
section
variable {B h : Nat} {va vb vc : Value} {ns : List Nd} {ls : List Lk} {ps : List Pn}
theorem GS.below {w w2 : World} (g : GS B w h va vb vc ns ls ps) (hb : Below w.heap.size w w2) : GS B w2 h va vb vc ns ls ps :=
  ⟨g.hB, heap_keep hb g.hh, own_below g.na hb, own_below g.la hb, own_below g.pa hb⟩
theorem heap_grown {w w2 : World} {g : Nat} {ob : Obj} {row : Option Nat} (hg : w.grownBy w2 row) (h : w.heap[g]? = some ob) (hne : some g ≠ row) : w2.heap[g]? = some ob := (hg.block g (Array.getElem?_eq_some_iff.1 h).1 hne).trans h
theorem setCell_cells {w : World} {g i : Nat} {cur : Array Value} {t : TypeId} {v : Value} (h : w.heap[g]? = some (.cells cur t (0, 0))) : (w.setCell ⟨g, i, none⟩ v).heap[g]? = some (.cells (cur.setIfInBounds i v) t (0, 0)) := by
  rw [setCell_eq_setRow w g i cur t (0, 0) v h]
  exact setRow_heap w g cur _ t (0, 0) h
end
theorem wpList_absA {P : Program} {ops : Array Oper} {Q : Exit → Act → World → Prop} {o : Oper} {rest : List Oper} {a : Act} {w : World} {ob : Obj} {d : Nat} (hd : o.dst = some d) (h : ∀ W, W = w.alloc ob → wpList P ops Q (o :: rest) a W) : wpList P ops Q (o :: rest) a (w.alloc ob) := h _ rfl
theorem isAgg30 (w : World) : (isAgg 39).run Tryd.prog w = .ok false w := by kernel_rfl
theorem isAgg31 (w : World) : (isAgg 40).run Tryd.prog w = .ok false w := by kernel_rfl
theorem isAgg29 (w : World) : (isAgg 38).run Tryd.prog w = .ok false w := by kernel_rfl
theorem run_load1 {w : World} {b o : Nat} {ty : TypeId} {v : Value} (hg : ∀ w, (isAgg ty).run Tryd.prog w = .ok false w) (hc : w.cell? ⟨b, o, none⟩ = some v) : (loadVar ty ⟨b, o, none⟩).run Tryd.prog w = .ok v w := by
  unfold loadVar
  simp [hg, hc]
/-- the class of a region with an insertion: what is known as long as it is not done, and behind it -/
def CI (wq : World) (RB : Option Nat) (iI : Nat) (INS : Value → World → Prop) : Og.Joint.Cls := fun p vs w => wq.grownBy w RB ∧ (p iI = false → Below wq.heap.size wq w) ∧ (p iI = true → INS (vs iI) w)
theorem gtrans {a b c : World} {row : Option Nat} (h : a.grownBy b row) (k : b.grownBy c row) : a.grownBy c row := ⟨k.os.trans h.os, k.tape.trans h.tape, k.output.trans h.output, Nat.le_trans h.size k.size, fun j hj hne => (k.block j (Nat.lt_of_lt_of_le hj h.size) hne).trans (h.block j hj hne)⟩
section
variable {wq w : World} {RB : Option Nat} {iI i : Nat} {INS : Value → World → Prop} {p : Nat → Bool} {vs : Nat → Value} {v : Value}
theorem CI.other (h : i ≠ iI) (c : CI wq RB iI INS p vs w) : CI wq RB iI INS (Og.Joint.pSet p i) (Og.Joint.vSet vs i v) w := by
  obtain ⟨h1, h2, h3⟩ := c
  have e : Og.Joint.pSet p i iI = p iI := by simp [Og.Joint.pSet, Ne.symm h]
  have e2 : Og.Joint.vSet vs i v iI = vs iI := by simp [Og.Joint.vSet, Ne.symm h]
  exact ⟨h1, fun k => h2 (e ▸ k), fun k => by rw [e2]; exact h3 (e ▸ k)⟩
theorem CI.alloc (h : i ≠ iI) (hI : ∀ v w o, INS v w → INS v (w.alloc o)) (ob : Obj) (c : CI wq RB iI INS p vs w) : CI wq RB iI INS (Og.Joint.pSet p i) (Og.Joint.vSet vs i v) (w.alloc ob) := by
  obtain ⟨h1, h2, h3⟩ := c
  have e : Og.Joint.pSet p i iI = p iI := by simp [Og.Joint.pSet, Ne.symm h]
  have e2 : Og.Joint.vSet vs i v iI = vs iI := by simp [Og.Joint.vSet, Ne.symm h]
  exact ⟨gtrans h1 (World.grownBy_alloc w ob RB), fun k => (h2 (e ▸ k)).alloc (h2 (e ▸ k)).size _, fun k => by rw [e2]; exact hI _ _ _ (h3 (e ▸ k))⟩
theorem CI.ins {w2 : World} (c : CI wq RB iI INS p vs w) (hg : w.grownBy w2 RB) (hI : INS v w2) : CI wq RB iI INS (Og.Joint.pSet p iI) (Og.Joint.vSet vs iI v) w2 := by
  obtain ⟨h1, h2, h3⟩ := c
  exact ⟨gtrans h1 hg, fun k => by simp [Og.Joint.pSet] at k, fun _ => by simpa [Og.Joint.vSet] using hI⟩
end

end Go.Proofs.YtjbglifmppilfaaDoor
