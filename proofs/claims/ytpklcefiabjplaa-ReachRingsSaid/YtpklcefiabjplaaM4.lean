/- Rings: what the law needs to know of a ring; plain; conditions as stated. -/
import Derived.Test.YtpklcefiabjplaaM3
namespace Go.Proofs.Ytpklcefiabjplaa
open Go.ChangeShapes Go.WideShapes Go.ChangeAt Go.RowKit
set_option linter.unusedVariables false
theorem lsR_get {n : Nat} {c : Int} {i : Nat} {x : Lk} (h : (lsR n c)[i]? = some x) : ∃ y, (lsR n 1)[i]? = some y ∧ x = scK c y := by
  rw [lsR_sc n c, List.getElem?_map] at h
  obtain ⟨y, h1, h2⟩ := Option.map_eq_some_iff.1 h
  exact ⟨y, h1, h2.symm⟩
theorem sndR {n : Nat} {c : Int} (hc : 1 ≤ c) (hc5 : c ≤ 500) (h : SndG (nsR n) (lsR n 1) []) : SndG (nsR n) (lsR n c) [] := by
  refine ⟨h.nr, h.na, by rw [lsR_sc n c, List.length_map]; exact h.ll, fun i x hx => ?_, fun i x y hx hy => ?_, h.pl, h.pr, h.pa⟩
  · obtain ⟨u, h1, rfl⟩ := lsR_get hx
    obtain ⟨a1, a2, a3, -, a5⟩ := h.lr i u h1
    have hone := lsR_one u (List.mem_of_getElem? h1)
    refine ⟨a1, a2, a3, ?_, a5⟩
    simp only [scK, hone, Int.mul_one, rng, Bool.and_eq_true, decide_eq_true_eq]
    omega
  · obtain ⟨u, h1, rfl⟩ := lsR_get hx
    obtain ⟨v, h2, rfl⟩ := lsR_get hy
    exact h.la i u v h1 h2
structure RingF (n : Nat) (c : Int) : Prop where
  snd : SndG (nsR n) (lsR n c) []
  k0 : (lsR n c)[0]? = some ⟨1, 2, c, 0⟩
  hat : At (fun x => cmpL x ⟨1, 2, 0, 0⟩) (lsR n c) 0 true
  hh : ∀ r : Nat, (∃ x ∈ nsR n, x.i = (r : Int)) → treeP (viewL (lsR n c)) (r : Int) = some (sL c (dU n r))
  hr : relayS (fun r => sL c (dU n r)) c 1 2 (nsR n) = (loM (XR n), hiM (XR n))
  tk : ∀ x, x < 128 → (distR (nsR n).length (lsR n c) 1).getD x 0 < 1073741824 → TkR (parsR (distR (nsR n).length (lsR n c) 1) 1 (lsR n c) 128) x 1 2 (tkA n x)
  tk2 : ∀ r : Nat, (∃ x ∈ nsR n, x.i = (r : Int)) → (distR (nsR n).length (lsR n c) r).getD 2 0 < 1073741824 → TkR (parsR (distR (nsR n).length (lsR n c) r) r (lsR n c) 128) 2 1 2 (tkB n r)
  hf : ofM (relR 1 (ofM (lkP (nearR (distR (nsR n).length (lsR n c) 1) (tkA n)) 128)) (ofM (farL (farR (nsR n).length (lsR n c) 2 (tkB n)) (nsR n)))) = XR n
theorem nsR_mem {n r : Nat} (h : ∃ x ∈ nsR n, x.i = (r : Int)) : ∃ i, i < n ∧ r = i + 1 := by
  obtain ⟨x, hx, hr⟩ := h
  unfold nsR at hx
  obtain ⟨i, hi, rfl⟩ := List.mem_map.1 hx
  exact ⟨i, List.mem_range.1 hi, by have : ((i + 1 : Nat) : Int) = (r : Int) := hr; omega⟩
theorem ringF {n : Nat} (h3 : 3 ≤ n) (h22 : n ≤ 22) {c : Int} (hc : 1 ≤ c) (hc5 : c ≤ 500) : RingF n c := by
  have h := okN_all h3 h22
  unfold okN at h
  simp only [Bool.and_eq_true] at h
  obtain ⟨⟨⟨⟨⟨hA, hT⟩, hD⟩, hR⟩, hK⟩, hF⟩ := h
  unfold okA at hA
  simp only [Bool.and_eq_true, decide_eq_true_eq] at hA
  obtain ⟨⟨⟨hA1, hA2⟩, hA3⟩, hA4⟩ := hA
  have hfn : ∀ r, ∀ x ∈ dU n r, fnB 900 x := fun r => dU_fn h22 r
  have hfn2 : ∀ r, ∀ x ∈ dU n r, fnB 2000 x := fun r x hx => fnB_mono (hfn r x hx) (by omega)
  have hdist : ∀ i, i < n → distR (nsR n).length (lsR n c) (i + 1) = sL c (dU n (i + 1)) := fun i hi => by
    rw [nsR_l, distR_sc hc hc5 hA2]
    congr 1
    have := List.all_eq_true.1 hD i (List.mem_range.2 hi)
    simp only [beq_iff_eq] at this
    unfold distR
    rw [← itF_eq, this]
  have hk0 : (lsR n c)[0]? = some ⟨1, 2, c, 0⟩ := by
    rw [lsR_sc n c, List.getElem?_map]
    cases e : (lsR n 1)[0]? with
    | none => rw [e] at hA3; cases hA3
    | some l =>
      rw [e] at hA3
      simp only [Bool.and_eq_true, decide_eq_true_eq] at hA3
      have hone := lsR_one l (List.mem_of_getElem? e)
      obtain ⟨⟨h1, h2⟩, h4⟩ := hA3
      simp only [Option.map_some, scK, hone, Int.mul_one, h1, h2, h4]
  have hd1 : distR (nsR n).length (lsR n c) 1 = sL c (dU n 1) := hdist 0 (by omega)
  unfold okK at hK
  simp only [Bool.and_eq_true] at hK
  refine ⟨sndR hc hc5 (sndC_ok hA1), hk0, ?_, ?_, ?_, ?_, ?_, ?_⟩
  · refine At.all_ge (fun i x hx => ?_) ?_
    · obtain ⟨y, h1, rfl⟩ := lsR_get hx
      have := List.all_eq_true.1 hA4 y (List.mem_of_getElem? h1)
      change 0 ≤ cmpL y ⟨1, 2, 0, 0⟩
      simpa using this
    · unfold hitE
      rw [hk0]
      rfl
  · intro r hr
    obtain ⟨i, hi, rfl⟩ := nsR_mem hr
    have := List.all_eq_true.1 hT i (List.mem_range.2 hi)
    simp only [beq_iff_eq] at this
    exact treeR hc hc5 this
  · rw [relayS_sc hc hc5 _ hfn]
    simpa [okR] using hR
  · intro x hx hlt
    rw [hd1] at hlt ⊢
    rw [parsR_sc hc hc5 _ _ _ (hfn2 1)]
    rw [sL_getD] at hlt
    have h1 : (dU n 1).getD x 0 < 1073741824 := by
      have := phi_lt hc hc5 (fnB_mono (fnB_getD (hfn 1) x) (show 900 ≤ 2000 by omega))
      rw [decide_eq_true hlt] at this
      simpa using this.symm
    have := List.all_eq_true.1 hK.1 x (List.mem_range.2 hx)
    rw [decide_eq_true h1] at this
    exact tkv_ok (by simpa using this)
  · intro r hr hlt
    obtain ⟨i, hi, rfl⟩ := nsR_mem hr
    rw [hdist i hi, parsR_sc hc hc5 _ _ _ (hfn2 _)]
    have := List.all_eq_true.1 hK.2 i (List.mem_range.2 hi)
    exact tkv_ok this
  · unfold okF at hF
    simp only [beq_iff_eq] at hF
    have e1 : lkP (nearR (distR (nsR n).length (lsR n c) 1) (tkA n)) 128 = lkP (nearR (dU n 1) (tkA n)) 128 := by
      unfold lkP
      refine List.filter_congr fun x hx => ?_
      unfold nearR
      rw [hd1, sL_getD, phi_lt hc hc5 (fnB_mono (fnB_getD (hfn 1) x) (show 900 ≤ 2000 by omega))]
    have e2 : farL (farR (nsR n).length (lsR n c) 2 (tkB n)) (nsR n) = farL (fun r => decide ((dU n r).getD 2 0 < 1073741824) && !tkB n r) (nsR n) := by
      unfold farL
      congr 1
      refine List.filter_congr fun x hx => ?_
      unfold nsR at hx
      obtain ⟨i, hi, rfl⟩ := List.mem_map.1 hx
      have ei : ((i + 1 : Nat) : Int).toNat = i + 1 := Int.toNat_natCast _
      simp only [ei]
      unfold farR
      rw [hdist i (List.mem_range.1 hi), sL_getD, phi_lt hc hc5 (fnB_mono (fnB_getD (hfn _) 2) (show 900 ≤ 2000 by omega))]
    rw [e1, e2]
    exact hF
theorem XR_odd {n : Nat} (h3 : 3 ≤ n) (h22 : n ≤ 22) (h : n % 2 = 1) : XR n < 2 ^ 128 ∧ (listM (XR n)).length = 1 ∧ (XR n).testBit ((n + 3) / 2) = true := by
  have : n = 3 ∨ n = 5 ∨ n = 7 ∨ n = 9 ∨ n = 11 ∨ n = 13 ∨ n = 15 ∨ n = 17 ∨ n = 19 ∨ n = 21 := by omega
  rcases this with rfl | rfl | rfl | rfl | rfl | rfl | rfl | rfl | rfl | rfl <;> exact ⟨by decide, by decide, by decide⟩
theorem XR_even {n : Nat} (h : ¬ n % 2 = 1) : XR n = 0 := by unfold XR; rw [if_neg h]
end Go.Proofs.Ytpklcefiabjplaa
