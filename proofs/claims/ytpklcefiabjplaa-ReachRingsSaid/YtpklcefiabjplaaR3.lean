/- The heap of whole numbers: an entry rises and sinks; conditions as stated. -/
import Derived.Test.YtpklcefiabjplaaR2
import Derived.ScopeJumps
import Derived.WalkMore
namespace Go
section
variable {P : Program} {a : Act} {w : World} {Q : Exit → Act → World → Prop}
/-- a scope that begins with its label -/
theorem wp_scope_lab {R : Code} (l : Nat) (J : Act → World → Prop) (μ : Act → World → Nat) (h0 : J a w)
    (pass : ∀ a w, J a w → R.wp P (Exit.jump l (fun a' w' => J a' w' ∧ μ a' w' < μ a w) Q) a w) : (Code.scope ((Code.label l).seq R)).wp P Q a w := by
  refine wp_scope_jumps (rest := Code.skip.seq R) l J μ (by simp [findLabel]) (wp_seq (wp_label ?_)) (fun a w h => wp_seq (wp_skip (pass a w h)))
  refine wp_mono (pass a w h0) fun e a' w' h => ?_
  cases e with
  | goto l' => exact ⟨h.1, h.2.1⟩
  | _ => exact h
/-- .. and one whose label stands behind its first part -/
theorem wp_scope_lab2 {A R : Code} (l : Nat) (J : Act → World → Prop) (μ : Act → World → Nat) (hA : findLabel A l = none) (h0 : A.wp P (fun e a w => e = .normal ∧ J a w) a w)
    (pass : ∀ a w, J a w → R.wp P (Exit.jump l (fun a' w' => J a' w' ∧ μ a' w' < μ a w) Q) a w) : (Code.scope (A.seq ((Code.label l).seq R))).wp P Q a w := by
  refine wp_scope_jumps (rest := Code.skip.seq R) l J μ (by simp [findLabel, hA]) (wp_seq (wp_mono h0 ?_)) (fun a w h => wp_seq (wp_skip (pass a w h)))
  rintro e a' w' ⟨rfl, h⟩
  refine wp_seq (wp_label ?_)
  refine wp_mono (pass a' w' h) fun e a' w' h => ?_
  cases e with
  | goto l' => exact ⟨h.1, h.2.1⟩
  | _ => exact h
end
end Go
namespace Go.Proofs.Ytpklcefiabjplaa
open Go.ChangeShapes Go.WideShapes Go.ChangeAt Go.RowKit
set_option linter.unusedVariables false
set_option linter.unusedSimpArgs false

/-- a heap: its entries and where they stand -/
structure Hs where
  es : List En
  tb : List Int
def swapP (s : Hs) (i j : Nat) : Option Hs :=
  match s.es[i]?, s.es[j]? with
  | some x, some y => if (oks x.n && oks y.n && (i == j || x.n != y.n)) = true then some ⟨(s.es.set i y).set j x, (s.tb.set y.n.toNat (i + 1)).set x.n.toNat (j + 1)⟩ else none
  | _, _ => none
def upP : Nat → Hs → Nat → Option Hs
  | 0, _, _ => none
  | f + 1, s, i => if i = 0 then some s else
    match s.es[i]?, s.es[(i - 1) / 2]? with
    | some x, some y => if bef x y = true then (swapP s i ((i - 1) / 2)).bind fun s' => upP f s' ((i - 1) / 2) else some s
    | _, _ => none
def kidP (es : List En) (k : Nat) : Option Nat :=
  if k + 1 < es.length then
    match es[k + 1]?, es[k]? with
    | some x, some y => some (if bef x y = true then k + 1 else k)
    | _, _ => none
  else some k
def downP : Nat → Hs → Nat → Option Hs
  | 0, _, _ => none
  | f + 1, s, i => if s.es.length ≤ 2 * i + 1 then some s else
    (kidP s.es (2 * i + 1)).bind fun k =>
      match s.es[k]?, s.es[i]? with
      | some x, some y => if bef x y = true then (swapP s i k).bind fun s' => downP f s' k else some s
      | _, _ => none
theorem swapP_some {s s' : Hs} {i j : Nat} (h : swapP s i j = some s') : ∃ x y, s.es[i]? = some x ∧ s.es[j]? = some y ∧ oks x.n = true ∧ oks y.n = true ∧ (i = j ∨ x.n ≠ y.n) ∧ s' = ⟨(s.es.set i y).set j x, (s.tb.set y.n.toNat (i + 1)).set x.n.toNat (j + 1)⟩ := by
  unfold swapP at h
  split at h
  · rename_i x y hx hy
    split at h
    · rename_i hc
      simp only [Bool.and_eq_true, Bool.or_eq_true, beq_iff_eq, bne_iff_ne] at hc
      cases h
      exact ⟨x, y, hx, hy, hc.1.1, hc.1.2, hc.2, rfl⟩
    · cases h
  · cases h
theorem swapP_len {s s' : Hs} {i j : Nat} (h : swapP s i j = some s') : s'.es.length = s.es.length := by
  obtain ⟨x, y, -, -, -, -, -, rfl⟩ := swapP_some h
  simp
theorem swap_okP {s s' : Hs} {i j h : Nat} {v : Value} {w : World} (H : Hp h w v s.es s.tb) (hl : s.es.length ≤ 1000000) (hs : swapP s i j = some s') :
    Calls Try.prog 134 #[.pointer (some ⟨h, 0, none⟩), .int .i64 (i : Int), .int .i64 (j : Int)] w fun e w' => e = .returned (.tuple #[]) ∧ Fr h v w w' ∧ Hp h w' v s'.es s'.tb := by
  obtain ⟨x, y, hx, hy, ox, oy, hd, rfl⟩ := swapP_some hs
  exact swap_ok s.es s.tb h i j x y v w H hx hy hl ox oy hd
theorem before_okP {s : Hs} {i j h : Nat} {x y : En} {v : Value} {w : World} (H : Hp h w v s.es s.tb) (hl : s.es.length ≤ 1000000) (hx : s.es[i]? = some x) (hy : s.es[j]? = some y) :
    Calls Try.prog 133 #[.pointer (some ⟨h, 0, none⟩), .int .i64 (i : Int), .int .i64 (j : Int)] w fun e w' => e = .returned (.bool (bef x y)) ∧ Below w.heap.size w w' :=
  before_ok s.es h i j x y v w H.v0 H.sl hx hy hl
theorem bstep {h : Nat} {v : Value} {w w1 w2 : World} (k : h < w1.heap.size) (a : Fr h v w w1) (b : Below w1.heap.size w1 w2) : Fr h v w w2 := a.trans (Fr.of (Nat.le_of_lt k) b)

set_option maxRecDepth 100000 in
set_option maxHeartbeats 4000000 in
theorem up_ok (s0 s' : Hs) (f0 i0 h : Nat) (v : Value) (w : World) (H0 : Hp h w v s0.es s0.tb) (hl : s0.es.length ≤ 1000000) (hi : i0 ≤ 1000000) (hu : upP f0 s0 i0 = some s') :
    Calls Try.prog 117 #[.pointer (some ⟨h, 0, none⟩), .int .i64 (i0 : Int)] w fun e w' => e = .returned (.tuple #[]) ∧ Fr h v w w' ∧ Hp h w' v s'.es s'.tb ∧ s'.es.length = s0.es.length := by
  go_enter Try.func117, Try.ntmps117
  go_wp2_with fail
  refine wp_scope_lab 0 (fun a' w' => ∃ (f : Nat) (s : Hs) (i : Nat) (u2 u3 u4 u5 u6 u7 u8 u9 u10 u11 u12 u13 u14 u15 u16 u17 u18 u19 u20 u21 u22 : Value), a' = { tmps := #[.pointer (some ⟨h, 0, none⟩), .int .i64 (i : Int), u2, u3, u4, u5, u6, u7, u8, u9, u10, u11, u12, u13, u14, u15, u16, u17, u18, u19, u20, u21, u22], defers := [] } ∧ Hp h w' v s.es s.tb ∧ s.es.length = s0.es.length ∧ upP f s i = some s' ∧ Fr h v w w' ∧ i ≤ 1000000) (fun a' _ => (intOf (a'.tmps.getD 1 undef)).toNat) ?_ ?_
  · exact ⟨f0, s0, i0, _, _, _, _, _, _, _, _, _, _, _, _, _, _, _, _, _, _, _, _, _, rfl, H0, rfl, hu, Fr.refl _ _ _, hi⟩
  · clear H0 hu hi
    rintro a' w1 ⟨f, s, i, u2, u3, u4, u5, u6, u7, u8, u9, u10, u11, u12, u13, u14, u15, u16, u17, u18, u19, u20, u21, u22, rfl, H, hsl, hu, hb, hi⟩
    cases f with
    | zero => cases hu
    | succ f =>
      by_cases h0 : i = 0
      · subst h0
        rw [upP, if_pos rfl] at hu
        cases hu
        have F := Lib.hid (And.intro hb (And.intro H hsl))
        clear hb H hsl
        go_wp2_with fail
        simp only [Exit.jump]
        go_end0
        exact ⟨rfl, F.out⟩
      · rw [upP, if_neg h0] at hu
        split at hu
        · rename_i x y hx hy
          obtain ⟨m, rfl⟩ : ∃ m, i = m + 1 := ⟨i - 1, by omega⟩
          rw [show (m + 1 - 1) / 2 = m / 2 by omega] at hu hy
          have HB := Lib.hid (fun w2 (k : Hp h w2 v s.es s.tb) => before_okP k (by omega) hx hy)
          have HH := Lib.hid H
          have hbb := Lib.hid hb
          have hln := Lib.hid hsl
          have g0 : (0 : Int) < ((m + 1 : Nat) : Int) := by omega
          have gm : wrap64 (m : Int) = (m : Int) := by unfold wrap64; omega
          have gd : RowKit.Hid (wrap64 ((m : Int) / 2) = ((m / 2 : Nat) : Int)) := Lib.hid (by unfold wrap64; omega)
          have hu' := Lib.hid hu
          have hi' := Lib.hid hi
          clear hu H hb hsl hi hx hy h0
          by_cases hbf : bef x y = true
          · have hs := hu'.out
            rw [if_pos hbf, Option.bind_eq_some_iff] at hs
            obtain ⟨s2, hs2, hu2⟩ := hs
            have HS := Lib.hid (fun w2 (k : Hp h w2 v s.es s.tb) => swap_okP k (by have := hln.out; omega) hs2)
            have HF := Lib.hid (And.intro (swapP_len hs2) hu2)
            clear hs2 hu2 hu'
            go_wp2_with fail
            rw [gd.out, show ((m : Int) + 1) = ((m + 1 : Nat) : Int) from rfl]
            with_reducible refine (HB.out _ HH.out).mono ?_
            rintro e w2 ⟨rfl, b2⟩
            have H2 := Lib.hid (HH.out.below b2)
            have B2 := Lib.hid (bstep HH.out.lt hbb.out b2)
            rw [hbf]
            clear b2
            go_wp2_with fail
            rw [gd.out, show ((m : Int) + 1) = ((m + 1 : Nat) : Int) from rfl]
            with_reducible refine (HS.out _ H2.out).mono ?_
            rintro e w3 ⟨rfl, b3, H3⟩
            have B3 := Lib.hid (B2.out.trans b3)
            have H3' := Lib.hid H3
            clear b3 H3
            go_wp2_with fail
            rw [gd.out]
            go_step3
            refine ⟨rfl, ⟨f, s2, m / 2, _, _, _, _, _, _, _, _, _, _, _, _, _, _, _, _, _, _, _, _, _, rfl, H3'.out, HF.out.1.trans hln.out, HF.out.2, B3.out, by have := hi'.out; omega⟩, ?_⟩
            simp [intOf]
            omega
          · have hs := hu'.out
            rw [if_neg hbf] at hs
            cases hs
            go_wp2_with fail
            rw [gd.out, show ((m : Int) + 1) = ((m + 1 : Nat) : Int) from rfl]
            with_reducible refine (HB.out _ HH.out).mono ?_
            rintro e w2 ⟨rfl, b2⟩
            have H2 := Lib.hid (HH.out.below b2)
            have B2 := Lib.hid (bstep HH.out.lt hbb.out b2)
            rw [Bool.not_eq_true] at hbf
            rw [hbf]
            clear b2
            go_wp2_with fail
            simp only [Exit.jump]
            go_end0
            exact ⟨rfl, B2.out, H2.out, hln.out⟩
        · cases hu

-- down
theorem before_okZ {s : Hs} {i j h : Nat} {x y : En} {v : Value} {w : World} {a b : Int} (ha : a = i) (hb : b = j) (H : Hp h w v s.es s.tb) (hl : s.es.length ≤ 1000000) (hx : s.es[i]? = some x) (hy : s.es[j]? = some y) :
    Calls Try.prog 133 #[.pointer (some ⟨h, 0, none⟩), .int .i64 a, .int .i64 b] w fun e w' => e = .returned (.bool (bef x y)) ∧ Below w.heap.size w w' := by
  subst ha hb
  exact before_okP H hl hx hy
theorem swap_okZ {s s' : Hs} {i j h : Nat} {v : Value} {w : World} {a b : Int} (ha : a = i) (hb : b = j) (H : Hp h w v s.es s.tb) (hl : s.es.length ≤ 1000000) (hs : swapP s i j = some s') :
    Calls Try.prog 134 #[.pointer (some ⟨h, 0, none⟩), .int .i64 a, .int .i64 b] w fun e w' => e = .returned (.tuple #[]) ∧ Fr h v w w' ∧ Hp h w' v s'.es s'.tb := by
  subst ha hb
  exact swap_okP H hl hs
theorem kidP_some {es : List En} {k k' : Nat} (h : kidP es k = some k') : (k + 1 < es.length ∧ ∃ x y, es[k + 1]? = some x ∧ es[k]? = some y ∧ k' = (if bef x y = true then k + 1 else k)) ∨ (¬ k + 1 < es.length ∧ k' = k) := by
  unfold kidP at h
  split at h
  · rename_i hc
    split at h
    · rename_i x y hx hy
      cases h
      exact .inl ⟨hc, x, y, hx, hy, rfl⟩
    · cases h
  · rename_i hc
    cases h
    exact .inr ⟨hc, rfl⟩
set_option maxRecDepth 100000 in
set_option maxHeartbeats 4000000 in
theorem down_ok (s0 s' : Hs) (f0 i0 h : Nat) (v : Value) (w : World) (H0 : Hp h w v s0.es s0.tb) (hl : s0.es.length ≤ 1000000) (hi : i0 ≤ 1000000) (hu : downP f0 s0 i0 = some s') :
    Calls Try.prog 135 #[.pointer (some ⟨h, 0, none⟩), .int .i64 (i0 : Int)] w fun e w' => e = .returned (.tuple #[]) ∧ Fr h v w w' ∧ Hp h w' v s'.es s'.tb ∧ s'.es.length = s0.es.length := by
  obtain ⟨A, c, hv, -⟩ := H0.sl
  obtain ⟨n, hn⟩ : ∃ n, n = s0.es.length := ⟨_, rfl⟩
  rw [← hn] at hv hl ⊢
  subst hv
  have HN := Lib.hid hn
  clear hn
  go_enter Try.func135, Try.ntmps135
  go_wp2_with fail
  refine wp_scope_lab2 0 (fun a' w' => ∃ (f : Nat) (s : Hs) (i : Nat) (u2 u3 u4 u5 u6 u7 u8 u9 u10 u11 u12 u13 u14 u15 u16 u17 u18 u19 u20 u21 u22 u23 u24 u25 u26 u27 u28 u29 u30 u31 u32 u33 u34 u35 u36 u37 u38 u39 u40 : Value), a' = { tmps := #[.pointer (some ⟨h, 0, none⟩), .int .i64 (i : Int), u2, u3, u4, u5, u6, u7, u8, u9, u10, u11, u12, u13, u14, u15, u16, u17, u18, u19, u20, u21, u22, u23, u24, u25, u26, u27, u28, u29, u30, u31, u32, u33, u34, u35, u36, u37, u38, u39, u40], defers := [] } ∧ Hp h w' (.slice A n c) s.es s.tb ∧ s.es.length = n ∧ downP f s i = some s' ∧ Fr h (.slice A n c) w w' ∧ i ≤ 1000000) (fun a' _ => n - (intOf (a'.tmps.getD 1 undef)).toNat) rfl ?_ ?_
  · go_wp2_with fail
    exact ⟨f0, s0, i0, rfl, H0, HN.out.symm, hu, Fr.refl _ _ _, hi⟩
  · clear H0 hu hi HN
    rintro a' w1 ⟨f, s, i, u2, u3, u4, u5, u6, u7, u8, u9, u10, u11, u12, u13, u14, u15, u16, u17, u18, u19, u20, u21, u22, u23, u24, u25, u26, u27, u28, u29, u30, u31, u32, u33, u34, u35, u36, u37, u38, u39, u40, rfl, H, hsl, hu, hb, hi⟩
    cases f with
    | zero => cases hu
    | succ f =>
      have gk : wrap64 (2 * (i : Int)) = 2 * (i : Int) := by unfold wrap64; omega
      have gk1 : wrap64 (2 * (i : Int) + 1) = 2 * (i : Int) + 1 := by unfold wrap64; omega
      have m0 := H.v0
      by_cases h0 : n ≤ 2 * i + 1
      · rw [downP, hsl, if_pos h0] at hu
        cases hu
        have F := Lib.hid (And.intro hb (And.intro H hsl))
        have g0 : (n : Int) ≤ 2 * (i : Int) + 1 := by omega
        clear hb H hsl
        go_wp2_with fail
        simp only [Exit.jump]
        refine bodyPost_ret (results_none rfl _ _ _) rfl ?_
        exact ⟨rfl, F.out⟩
      · rw [downP, hsl, if_neg h0] at hu
        rw [Option.bind_eq_some_iff] at hu
        obtain ⟨k, hk, hu⟩ := hu
        split at hu
        · rename_i x y hx hy
          have HH := Lib.hid H
          have hbb := Lib.hid hb
          have hln := Lib.hid hsl
          have g0 : ¬ (n : Int) ≤ 2 * (i : Int) + 1 := by omega
          have hu' := Lib.hid hu
          have hi' := Lib.hid hi
          have hx' := Lib.hid hx
          have hy' := Lib.hid hy
          have hz : RowKit.Hid (2 * i + 1 < n ∧ n ≤ 1000000) := Lib.hid ⟨by omega, hl⟩
          rcases kidP_some hk with ⟨hlt, x0, y0, hx0, hy0, hkk⟩ | ⟨hlt, rfl⟩
          · have HB0 := Lib.hid (fun w2 (k : Hp h w2 (.slice A n c) s.es s.tb) => before_okZ (a := 2 * (i : Int) + 1 + 1) (b := 2 * (i : Int) + 1) (by omega) (by omega) k (by have := hln.out; omega) hx0 hy0)
            rw [hsl] at hlt
            have g1 : 2 * (i : Int) + 1 + 1 < (n : Int) := by omega
            have g2 : wrap64 (2 * (i : Int) + 1 + 1) = 2 * (i : Int) + 1 + 1 := by unfold wrap64; omega
            have hz2 := Lib.hid hlt
            clear H hb hsl hi h0 hk hx0 hy0 hlt
            by_cases hb0 : bef x0 y0 = true
            · rw [if_pos hb0] at hkk
              subst hkk
              have hz : RowKit.Hid (2 * i + 1 + 1 < n ∧ n ≤ 1000000) := Lib.hid ⟨hz2.out, hl⟩
              clear hu hx hy hz2
              go_wp2_with fail
              with_reducible refine (HB0.out _ HH.out).mono ?_
              rintro e w3 ⟨rfl, b2⟩
              have H3 := Lib.hid (HH.out.below b2)
              have B3 := Lib.hid (bstep HH.out.lt hbb.out b2)
              rw [hb0]
              clear b2
              have HB := Lib.hid (fun w2 (k : Hp h w2 (.slice A n c) s.es s.tb) => before_okZ (a := 2 * (i : Int) + 1 + 1) (b := (i : Int)) (by omega) (by omega) k (by have := hln.out; omega) hx'.out hy'.out)
              by_cases hbf : bef x y = true
              · have hs := hu'.out
                rw [if_pos hbf, Option.bind_eq_some_iff] at hs
                obtain ⟨s2, hs2, hu2⟩ := hs
                have HS := Lib.hid (fun w2 (k : Hp h w2 (.slice A n c) s.es s.tb) => swap_okZ (a := (i : Int)) (b := 2 * (i : Int) + 1 + 1) (by omega) (by omega) k (by have := hln.out; omega) hs2)
                have HF := Lib.hid (And.intro (swapP_len hs2) hu2)
                clear hs2 hu2 hu'
                go_wp2_with fail
                with_reducible refine (HB.out _ H3.out).mono ?_
                rintro e w4 ⟨rfl, b2⟩
                have H4 := Lib.hid (H3.out.below b2)
                have B4 := Lib.hid (bstep H3.out.lt B3.out b2)
                rw [hbf]
                clear b2
                go_wp2_with fail
                with_reducible refine (HS.out _ H4.out).mono ?_
                rintro e w5 ⟨rfl, b3, H5⟩
                have B5 := Lib.hid (B4.out.trans b3)
                have H5' := Lib.hid H5
                clear b3 H5
                go_wp2_with fail
                go_step3
                refine ⟨rfl, ⟨f, s2, 2 * i + 1 + 1, _, _, _, _, _, _, _, _, _, _, _, _, _, _, _, _, _, _, _, _, _, _, _, _, _, _, _, _, _, _, _, _, _, _, _, _, _, _, _, rfl, H5'.out, HF.out.1.trans hln.out, HF.out.2, B5.out, by have := hz.out; omega⟩, ?_⟩
                have := hz.out
                simp [intOf]
                omega
              · have hs := hu'.out
                rw [if_neg hbf] at hs
                cases hs
                go_wp2_with fail
                with_reducible refine (HB.out _ H3.out).mono ?_
                rintro e w4 ⟨rfl, b2⟩
                have H4 := Lib.hid (H3.out.below b2)
                have B4 := Lib.hid (bstep H3.out.lt B3.out b2)
                rw [Bool.not_eq_true] at hbf
                rw [hbf]
                clear b2
                go_wp2_with fail
                simp only [Exit.jump]
                go_end0
                exact ⟨rfl, B4.out, H4.out, hln.out⟩
            · rw [if_neg hb0] at hkk
              subst hkk
              clear hu hx hy hz2
              go_wp2_with fail
              with_reducible refine (HB0.out _ HH.out).mono ?_
              rintro e w3 ⟨rfl, b2⟩
              have H3 := Lib.hid (HH.out.below b2)
              have B3 := Lib.hid (bstep HH.out.lt hbb.out b2)
              rw [Bool.not_eq_true] at hb0
              rw [hb0]
              clear b2
              have HB := Lib.hid (fun w2 (k : Hp h w2 (.slice A n c) s.es s.tb) => before_okZ (a := 2 * (i : Int) + 1) (b := (i : Int)) (by omega) (by omega) k (by have := hln.out; omega) hx'.out hy'.out)
              by_cases hbf : bef x y = true
              · have hs := hu'.out
                rw [if_pos hbf, Option.bind_eq_some_iff] at hs
                obtain ⟨s2, hs2, hu2⟩ := hs
                have HS := Lib.hid (fun w2 (k : Hp h w2 (.slice A n c) s.es s.tb) => swap_okZ (a := (i : Int)) (b := 2 * (i : Int) + 1) (by omega) (by omega) k (by have := hln.out; omega) hs2)
                have HF := Lib.hid (And.intro (swapP_len hs2) hu2)
                clear hs2 hu2 hu'
                go_wp2_with fail
                with_reducible refine (HB.out _ H3.out).mono ?_
                rintro e w4 ⟨rfl, b2⟩
                have H4 := Lib.hid (H3.out.below b2)
                have B4 := Lib.hid (bstep H3.out.lt B3.out b2)
                rw [hbf]
                clear b2
                go_wp2_with fail
                with_reducible refine (HS.out _ H4.out).mono ?_
                rintro e w5 ⟨rfl, b3, H5⟩
                have B5 := Lib.hid (B4.out.trans b3)
                have H5' := Lib.hid H5
                clear b3 H5
                go_wp2_with fail
                go_step3
                refine ⟨rfl, ⟨f, s2, 2 * i + 1, _, _, _, _, _, _, _, _, _, _, _, _, _, _, _, _, _, _, _, _, _, _, _, _, _, _, _, _, _, _, _, _, _, _, _, _, _, _, _, rfl, H5'.out, HF.out.1.trans hln.out, HF.out.2, B5.out, by have := hz.out; omega⟩, ?_⟩
                have := hz.out
                simp [intOf]
                omega
              · have hs := hu'.out
                rw [if_neg hbf] at hs
                cases hs
                go_wp2_with fail
                with_reducible refine (HB.out _ H3.out).mono ?_
                rintro e w4 ⟨rfl, b2⟩
                have H4 := Lib.hid (H3.out.below b2)
                have B4 := Lib.hid (bstep H3.out.lt B3.out b2)
                rw [Bool.not_eq_true] at hbf
                rw [hbf]
                clear b2
                go_wp2_with fail
                simp only [Exit.jump]
                go_end0
                exact ⟨rfl, B4.out, H4.out, hln.out⟩
          · rw [hsl] at hlt
            have g1 : ¬ 2 * (i : Int) + 1 + 1 < (n : Int) := by omega
            have g2 : wrap64 (2 * (i : Int) + 1 + 1) = 2 * (i : Int) + 1 + 1 := by unfold wrap64; omega
            clear H hb hsl hi h0 hk hlt hu hx hy
            have HB := Lib.hid (fun w2 (k : Hp h w2 (.slice A n c) s.es s.tb) => before_okZ (a := 2 * (i : Int) + 1) (b := (i : Int)) (by omega) (by omega) k (by have := hln.out; omega) hx'.out hy'.out)
            by_cases hbf : bef x y = true
            · have hs := hu'.out
              rw [if_pos hbf, Option.bind_eq_some_iff] at hs
              obtain ⟨s2, hs2, hu2⟩ := hs
              have HS := Lib.hid (fun w2 (k : Hp h w2 (.slice A n c) s.es s.tb) => swap_okZ (a := (i : Int)) (b := 2 * (i : Int) + 1) (by omega) (by omega) k (by have := hln.out; omega) hs2)
              have HF := Lib.hid (And.intro (swapP_len hs2) hu2)
              clear hs2 hu2 hu'
              go_wp2_with fail
              with_reducible refine (HB.out _ HH.out).mono ?_
              rintro e w4 ⟨rfl, b2⟩
              have H4 := Lib.hid (HH.out.below b2)
              have B4 := Lib.hid (bstep HH.out.lt hbb.out b2)
              rw [hbf]
              clear b2
              go_wp2_with fail
              with_reducible refine (HS.out _ H4.out).mono ?_
              rintro e w5 ⟨rfl, b3, H5⟩
              have B5 := Lib.hid (B4.out.trans b3)
              have H5' := Lib.hid H5
              clear b3 H5
              go_wp2_with fail
              go_step3
              refine ⟨rfl, ⟨f, s2, 2 * i + 1, _, _, _, _, _, _, _, _, _, _, _, _, _, _, _, _, _, _, _, _, _, _, _, _, _, _, _, _, _, _, _, _, _, _, _, _, _, _, _, rfl, H5'.out, HF.out.1.trans hln.out, HF.out.2, B5.out, by have := hz.out; omega⟩, ?_⟩
              have := hz.out
              simp [intOf]
              omega
            · have hs := hu'.out
              rw [if_neg hbf] at hs
              cases hs
              go_wp2_with fail
              with_reducible refine (HB.out _ HH.out).mono ?_
              rintro e w4 ⟨rfl, b2⟩
              have H4 := Lib.hid (HH.out.below b2)
              have B4 := Lib.hid (bstep HH.out.lt hbb.out b2)
              rw [Bool.not_eq_true] at hbf
              rw [hbf]
              clear b2
              go_wp2_with fail
              simp only [Exit.jump]
              go_end0
              exact ⟨rfl, B4.out, H4.out, hln.out⟩
        · cases hu

end Go.Proofs.Ytpklcefiabjplaa
