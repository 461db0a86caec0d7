/- DeltaApplies: it answers true; conditions: the table and the list fit the memory. -/
import Derived.Test.YtpnhkniegjfncaaD43
import Derived.Test.YtpnhkniegjfncaaD8
import Derived.Test.YtpnhkniegjfncaaD12
namespace Go.Proofs.Ytpnhkniegjfncaa
open Go.ChangeShapes Go.WideShapes Go.ChangeAt Go.RowKit
set_option linter.unusedVariables false
set_option linter.unusedSimpArgs false
attribute [local go_sem] Og.Opt Og.OpY

theorem applyV_len {t0 : List Ro} {xs : List Ch} (hf : ∀ (i : Nat) r, t0[i]? = some r → FitR r) (hf' : ∀ (i : Nat) r, xs[i]? = some r → FitC r) : (applyV t0 xs).1.length ≤ 141733920768 := by
  unfold applyV
  cases hs : sndT t0 with
  | false => simp
  | true =>
    rw [if_pos rfl]
    have key : ∀ i t, runA xs t0 i = .ok t → Tab t := by
      intro i
      induction i with
      | zero =>
        intro t h
        cases h
        exact Tab.of hs hf
      | succ i ih =>
        intro t h
        unfold runA at h
        cases hr : runA xs t0 i with
        | error e => rw [hr] at h; cases h
        | ok t1 =>
          rw [hr] at h
          cases hx : xs[i]? with
          | none => rw [hx] at h; cases h; exact ih t hr
          | some c =>
            rw [hx] at h
            simp only at h
            cases ho : okC xs i with
            | false => rw [ho] at h; cases h
            | true =>
              rw [ho, if_pos rfl] at h
              cases hst : stepA t1 c with
              | error e => rw [hst] at h; cases h
              | ok t2 =>
                rw [hst] at h
                cases h
                exact stepA_tab (ih t1 hr) (okC_good hx ho) (hf' i c hx) hst
    cases hr : runA xs t0 xs.length with
    | error e => obtain ⟨i, e⟩ := e; simp
    | ok t => exact (key _ t hr).len
theorem sameR_sl (L : List Ro) (v v' : Value) (B B' : Nat) (w : World) (h : SlR B w v L) (h' : SlR B' w v' L) (hl : L.length ≤ 1125899906842624) : Calls Try.prog 12 #[v, v'] w fun e w' => e = .returned (.bool true) ∧ Below w.heap.size w w' := by
  obtain ⟨A, c, rfl, hr, _⟩ := h
  obtain ⟨A', c', rfl, hr', _⟩ := h'
  have := Same_ok L L A A' c c' w hr hr' hl hl
  simpa using this
theorem sameC_sl (L : List Ch) (v v' : Value) (B B' : Nat) (w : World) (h : SlC B w v L) (h' : SlC B' w v' L) (hl : L.length ≤ 1125899906842624) : Calls Try.prog 16 #[v, v'] w fun e w' => e = .returned (.bool true) ∧ Below w.heap.size w w' := by
  obtain ⟨A, c, rfl, hr, _⟩ := h
  obtain ⟨A', c', rfl, hr', _⟩ := h'
  have := same_ok L L A A' c c' w hr hr' hl hl
  simpa using this
theorem SlR.belowB {B B' : Nat} {w w' : World} {v : Value} {xs : List Ro} (h : SlR B w v xs) (hb : Below B' w w') (hlt : ∀ k, v.ownBlock = some k → k < B') : SlR B w' v xs := by
  obtain ⟨A, c, rfl, h1, h2, h3, h4⟩ := h
  refine ⟨A, c, rfl, fun i r hi => ?_, h2, h3, h4⟩
  obtain ⟨b, o, rfl, ha⟩ := h1 i r hi
  exact ⟨b, o, rfl, AtR_of fun j u hu => (hb.cell (hlt b rfl)).trans (AtR_get ha j u hu)⟩
theorem SlC.belowB {B B' : Nat} {w w' : World} {v : Value} {xs : List Ch} (h : SlC B w v xs) (hb : Below B' w w') (hlt : ∀ k, v.ownBlock = some k → k < B') : SlC B w' v xs := by
  obtain ⟨A, c, rfl, h1, h2, h3, h4⟩ := h
  refine ⟨A, c, rfl, fun i r hi => ?_, h2, h3, h4⟩
  obtain ⟨b, o, rfl, ha⟩ := h1 i r hi
  exact ⟨b, o, rfl, AtC_of fun j u hu => (hb.cell (hlt b rfl)).trans (AtC_get ha j u hu)⟩

set_option maxRecDepth 100000 in
set_option maxHeartbeats 8000000 in
theorem DeltaApplies_ok (t0 : List Ro) (xs : List Ch) (A A' : Option Addr) (c c' : Nat) (w : World) (hr : RdR w A t0) (hr' : RdC w A' xs) (hA0 : A = none → c = 0) (hA0' : A' = none → c' = 0) (hc : t0.length ≤ c) (hc' : xs.length ≤ c') (hl : t0.length ≤ 2513169434843) (hl' : xs.length ≤ 1172812402926) (hf : ∀ (i : Nat) r, t0[i]? = some r → FitR r) (hf' : ∀ (i : Nat) r, xs[i]? = some r → FitC r) :
    Calls Try.prog 7 #[.slice A t0.length c, .slice A' xs.length c'] w fun e w' => e = .returned (.bool true) ∧ Below w.heap.size w w' := by
  have H1 := Lib.hid (fun (A : Option Addr) (c : Nat) (A' : Option Addr) (c' : Nat) (w : World) hr hr' hA0 => Apply_ok t0 xs A A' c c' w hr hr' hA0 hl hl' hf hf')
  have H2 := Lib.hid (fun (A : Option Addr) (c : Nat) (A' : Option Addr) (c' : Nat) (w : World) hr hr' hA0 => rApply_ok t0 xs A A' c c' w hr hr' hA0 hl hl' hf hf')
  have SO := Lib.hid (show SlR 0 w (.slice A t0.length c) t0 from ⟨A, c, rfl, hr, hA0, fun _ _ => Nat.zero_le _, hc⟩)
  have SL := Lib.hid (show SlC 0 w (.slice A' xs.length c') xs from ⟨A', c', rfl, hr', hA0', fun _ _ => Nat.zero_le _, hc'⟩)
  have HRT := Lib.hid hr
  have HRL := Lib.hid hr'
  have HA := Lib.hid (And.intro hA0 hA0')
  have HL := Lib.hid (And.intro hl hl')
  have HVL := Lib.hid (applyV_len hf hf')
  obtain ⟨V, hV⟩ : ∃ V, V = applyV t0 xs := ⟨_, rfl⟩
  have HV : Hid (∀ B e w', ApplyR t0 xs B e w' → ∃ v, e = .returned (.tuple #[v, .int .i64 (V.2.1 : Nat), .int .i64 V.2.2]) ∧ w'.ownsRow B 40 7 v V.1.length (V.1.flatMap rcV)) := Lib.hid (fun B e w' h => by rw [hV]; exact h)
  rw [← hV] at HVL
  obtain ⟨⟨L, pl, er⟩, rfl⟩ : ∃ V', V' = V := ⟨V, rfl⟩
  simp only at HV HVL
  obtain ⟨nt, hnt⟩ : ∃ n, n = t0.length := ⟨_, rfl⟩
  obtain ⟨nx, hnx⟩ : ∃ n, n = xs.length := ⟨_, rfl⟩
  rw [← hnt] at H1 H2 SO ⊢
  rw [← hnx] at H1 H2 SL ⊢
  have HNT := Lib.hid hnt
  have HNX := Lib.hid hnx
  have te1 : ((pl : Int) == (pl : Int)) = true := by simp
  have te2 : (er == er) = true := by simp
  clear hr hr' hA0 hA0' hc hc' hl hl' hf hf' hV hnt hnx
  go_enter Try.func7, Try.ntmps7
  go_wp2_with (first
    | (at_builtin; refine wpList_spreadR rfl (.tmp 14) (.tmp 15) 22 rfl Try.underlying22 info40 w.heap.size (.slice (some ⟨w.heap.size, 0, none⟩) 0 0) rfl (fresh_row w 40 7 w.heap.size (Nat.le_refl _)) (by simp) (by simp) t0 HL.out.1 A c (by rw [← HNT.out]; rfl) (HRT.out.below ((Below.refl _ _).alloc (Nat.le_refl _) _)) HA.out.1 ?_; intro v1 w1 hown1 hv1 hgrow1; have O1 := Lib.hid hown1; have B1 := Lib.hid (((Below.refl w.heap.size w).alloc (Nat.le_refl _) _).grown hgrow1 (by simp) (fun j hj => by simp [Value.ownBlock] at hj; omega)); clear hown1 hv1 hgrow1)
    | (at_builtin; refine wpList_spreadC rfl (.tmp 17) (.tmp 18) 29 rfl Try.underlying29 info42 w1.heap.size (.slice (some ⟨w1.heap.size, 0, none⟩) 0 0) rfl (fresh_row w1 42 15 w1.heap.size (Nat.le_refl _)) (by simp) (by simp) xs HL.out.2 A' c' (by rw [← HNX.out]; rfl) (HRL.out.below (B1.out.alloc B1.out.size _)) HA.out.2 ?_; intro v2 w2 hown2 hv2 hgrow2; have O2 := Lib.hid hown2; have b2 := Lib.hid (((Below.refl w1.heap.size w1).alloc (Nat.le_refl _) _).grown hgrow2 (by simp) (fun j hj => by simp [Value.ownBlock] at hj; omega)); clear hown2 hv2 hgrow2))
  have K1 := Lib.hid (fun k (h : v1.ownBlock = some k) => Nat.lt_of_lt_of_le (O1.out.lt k h).2 (Nat.le_trans b2.out.size (Nat.le_refl w2.heap.size)))
  have K2 := Lib.hid (fun k (h : v2.ownBlock = some k) => (O2.out.lt k h).2)
  have S1 := Lib.hid ((SlR_of_row O1.out rfl).below b2.out)
  have S2 := Lib.hid (SlC_of_row O2.out rfl)
  have B2 := Lib.hid (bthen' B1.out B1.out.size b2.out)
  clear O1 O2 B1 b2
  obtain ⟨A1, c1, hv1, r1, n1, _⟩ := S1.out
  obtain ⟨A2, c2, hv2, r2, n2, _⟩ := S2.out
  rw [← HNT.out] at hv1
  rw [← HNX.out] at hv2
  subst hv1 hv2
  have H1' := Lib.hid (H1.out A1 c1 A2 c2 w2 r1 r2 n1)
  clear r1 r2 n1 n2 H1
  obtain ⟨nl, hnl⟩ : ∃ n, n = L.length := ⟨_, rfl⟩
  have HNL := Lib.hid hnl
  rw [← hnl] at HV
  clear hnl
  refine Calls.mono H1'.out ?_
  rintro e w3 ⟨hj, hb3⟩
  obtain ⟨v3, rfl, own3⟩ := HV.out _ _ _ hj
  obtain ⟨A3, c3, hv3, _⟩ := SlR_of_row own3 HNL.out.symm
  rw [← HNL.out] at hv3
  subst hv3
  have O3 := Lib.hid own3
  have B3 := Lib.hid (bthen' B2.out B2.out.size hb3)
  have S13 := Lib.hid (S1.out.below hb3)
  have S23 := Lib.hid (S2.out.below hb3)
  have HS3 := Lib.hid hb3.size
  clear hj own3 hb3 H1' S1 S2
  go_wp2_with fail
  refine Calls.mono (H2.out A c A' c' w3 (HRT.out.below B3.out) (HRL.out.below B3.out) HA.out.1) ?_
  rintro e w4 ⟨hj, hb4⟩
  obtain ⟨v4, rfl, own4⟩ := HV.out _ _ _ hj
  have O34 := Lib.hid (own_below O3.out hb4)
  have S4 := Lib.hid (SlR_of_row own4 HNL.out.symm)
  have B4 := Lib.hid (bthen' B3.out B3.out.size hb4)
  have S14 := Lib.hid (S13.out.below hb4)
  have S24 := Lib.hid (S23.out.below hb4)
  have HS4 := Lib.hid (Nat.le_trans HS3.out hb4.size)
  clear hj own4 hb4 O3 B3 S13 S23 H2 HS3
  go_wp2_with fail
  refine Calls.mono (awake_ok w4) ?_
  rintro e w5 ⟨rfl, hb5⟩
  have O35 := Lib.hid (own_below O34.out hb5)
  have S45 := Lib.hid (S4.out.below hb5)
  have B5 := Lib.hid (bthen' B4.out B4.out.size hb5)
  have S15 := Lib.hid (S14.out.below hb5)
  have S25 := Lib.hid (S24.out.below hb5)
  have HS5 := Lib.hid (Nat.le_trans HS4.out hb5.size)
  clear hb5 O34 B4 S14 S24 S4 HS4
  go_wp2_with fail
  refine Calls.mono (sameR_sl L _ v4 _ _ w5 (SlR_of_row O35.out HNL.out.symm) S45.out (by have := HVL.out; omega)) ?_
  rintro e w6 ⟨rfl, hb6⟩
  have O36 := Lib.hid (own_below O35.out hb6)
  have B6 := Lib.hid (bthen' B5.out B5.out.size hb6)
  have S16 := Lib.hid (S15.out.below hb6)
  have S26 := Lib.hid (S25.out.below hb6)
  have HS6 := Lib.hid (Nat.le_trans HS5.out hb6.size)
  have hnl : nl ≤ 141733920768 := by rw [HNL.out]; exact HVL.out
  have HW2 := Lib.hid B2.out.size
  obtain ⟨m2, hm2⟩ : ∃ m, m = w2.heap.size := ⟨_, rfl⟩
  rw [← hm2] at O36 HS6 HW2 K1 K2
  clear hb6 O35 B5 S15 S25 S45 HS5 hm2
  go_wp2_with fail
  go_loopw [13] (fun i wr => ∃ (k : Nat) (ys : List Ro), k ≤ nl ∧ i = .int .i64 k ∧ Hid (ys.length = nl) ∧ Hid (wr.ownsRow m2 40 7 (.slice A3 nl c3) nl (ys.flatMap rcV)) ∧ Hid (Below m2 w6 wr)) (fun i _ => nl - (intOf i).toNat)
  case atStart => exact ⟨0, L, Nat.zero_le _, rfl, Lib.hid HNL.out.symm, O36, Lib.hid (Below.refl _ _)⟩
  case round =>
    clear O36
    obtain ⟨k, ys, hk, rfl, hys, hown, hbw⟩ := hrel
    by_cases hlt : k < nl
    · have hwk : IntKind.i64.wrap (k : Int) = k := wrapk (by omega)
      have hwk1 : IntKind.i64.wrap ((k : Int) + 1) = (k : Int) + 1 := by rw [IntKind.wrap_i64]; omega
      have hk0 : (0 : Int) ≤ (k : Int) := by omega
      have hkn : (k : Int) < (nl : Int) := by omega
      obtain ⟨g, cap, hv, hbg, hgl⟩ := own_some hown.out (fun e => by cases e; omega)
      cases hv
      go_wp2_with (refine wpList_storeR zR rfl (.tmp 61) (.tmp 60) rfl rfl hown.out hys.out hlt rfl rfl ?_; intro w7 own7 hs7 ho7 hb7; have O7 := Lib.hid own7; have B7 := Lib.hid (hbw.out.trans (hb7 _ hbg)); clear own7 hs7 ho7 hb7)
      go_roundw
      case rel => exact ⟨k + 1, ys.set k zR, by omega, by go_num, Lib.hid (by rw [List.length_set]; exact hys.out), O7, B7⟩
      case measure => simp [intOf]; omega
    · have hkn : k = nl := by omega
      subst hkn
      have BR := Lib.hid (B6.out.trans (hbw.out.mono HW2.out))
      have S1r := Lib.hid (S16.out.belowB hbw.out K1.out)
      have S2r := Lib.hid (S26.out.belowB hbw.out K2.out)
      have SOr := Lib.hid (SO.out.below BR.out)
      have SLr := Lib.hid (SL.out.below BR.out)
      clear S16 S26 hbw hown SO SL K1 K2
      go_wp2_with fail
      refine Calls.mono (sameR_sl t0 _ _ _ _ wr S1r.out SOr.out (by have := HL.out.1; omega)) ?_
      rintro e w8 ⟨rfl, hb8⟩
      have B8 := Lib.hid (bthen' BR.out BR.out.size hb8)
      have S28 := Lib.hid (S2r.out.below hb8)
      have SL8 := Lib.hid (SLr.out.below hb8)
      clear hb8 BR S2r SLr S1r SOr
      go_wp2_with fail
      refine Calls.mono (sameC_sl xs _ _ _ _ w8 S28.out SL8.out (by have := HL.out.2; omega)) ?_
      rintro e w9 ⟨rfl, hb9⟩
      have B9 := Lib.hid (bthen' B8.out B8.out.size hb9)
      clear hb9
      go_wp2_with fail
      go_ret
      exact ⟨rfl, B9.out⟩
end Go.Proofs.Ytpnhkniegjfncaa
