/- The changes between two sound tables, found prefix by prefix; no condition. -/
import Derived.Test.YtpnhkniegjfncaaD17
import Derived.Test.YtpnhkniegjfncaaD22
namespace Go.Proofs.Ytpnhkniegjfncaa
set_option linter.unusedVariables false

theorem sndT_srt {t : List Ro} (h : sndT t = true) : Srt (t.map Ro.p) := by
  unfold Srt
  rw [List.pairwise_map, List.pairwise_iff_getElem]
  have key : ∀ (d i : Nat) (hi : i + d + 1 < t.length), befP (t[i]'(by omega)).p t[i + d + 1].p = true := by
    intro d
    induction d with
    | zero =>
      intro i hi
      exact (sndT_at h (List.getElem?_eq_getElem hi)).2 i _ (by omega) (List.getElem?_eq_getElem (by omega))
    | succ d ih =>
      intro i hi
      have h1 := ih i (by omega)
      have h2 := (sndT_at h (i := i + (d + 1) + 1) (List.getElem?_eq_getElem hi)).2 (i + d + 1) _ (by omega) (List.getElem?_eq_getElem (by omega))
      exact bef_trans h1 h2
  intro i j hi hj hij
  have := key (j - i - 1) i (by omega)
  simpa [show i + (j - i - 1) + 1 = j by omega] using this
theorem mrgK_nil : mrgK [] [] = [] := by simp [mrgK, mrg]
theorem mrgK_step {a b : List Ro} {p : Pf} (hp : hdK (a.map Ro.p) (b.map Ro.p) = some p) (ha : ∀ r ∈ a, r ≠ zR) (hb : ∀ r ∈ b, r ≠ zR) :
    mrgK a b = chgL ((headP Ro.p p a).getD zR) ((headP Ro.p p b).getD zR) ++ mrgK (dropP Ro.p p a) (dropP Ro.p p b) := by
  cases a with
  | nil =>
    cases b with
    | nil => cases hp
    | cons y b =>
      have hy := hb y (by simp)
      have hy' : ¬ zR = y := fun e => hy e.symm
      have hk : keepC ⟨1, zR, y⟩ = true := by simp [keepC, hy']
      simp only [List.map_nil, List.map_cons, hdK, Option.some.injEq] at hp
      subst hp
      unfold mrgK
      rw [mrg, List.filter_cons, if_pos hk]
      simp [headP, dropP, chgL, hy']
  | cons x a =>
    have hx := ha x (by simp)
    cases b with
    | nil =>
      have hk : keepC ⟨2, x, zR⟩ = true := by simp [keepC, hx]
      simp only [List.map_nil, List.map_cons, hdK, Option.some.injEq] at hp
      subst hp
      unfold mrgK
      rw [mrg, List.filter_cons, if_pos hk]
      simp [headP, dropP, chgL, hx]
    | cons y b =>
      have hy := hb y (by simp)
      have hy' : ¬ zR = y := fun e => hy e.symm
      simp only [List.map_cons, hdK] at hp
      cases h1 : befP x.p y.p with
      | true =>
        rw [bef_asym h1] at hp
        simp only [Bool.false_eq_true, if_false, Option.some.injEq] at hp
        subst hp
        have hne : ¬ y.p = x.p := fun e => bef_ne h1 e.symm
        have hk : keepC ⟨2, x, zR⟩ = true := by simp [keepC, hx]
        unfold mrgK
        rw [mrg, if_pos h1, List.filter_cons, if_pos hk]
        simp [headP, dropP, chgL, hx, hne]
      | false =>
        cases h2 : befP y.p x.p with
        | true =>
          rw [h2] at hp
          simp only [if_true, Option.some.injEq] at hp
          subst hp
          have hne : ¬ x.p = y.p := fun e => bef_ne h2 e.symm
          have hk : keepC ⟨1, zR, y⟩ = true := by simp [keepC, hy']
          unfold mrgK
          rw [mrg, if_neg (by rw [h1]; simp), if_pos h2, List.filter_cons, if_pos hk]
          simp [headP, dropP, chgL, hy', hne]
        | false =>
          rw [h2] at hp
          simp only [Bool.false_eq_true, if_false, Option.some.injEq] at hp
          subst hp
          have he : y.p = x.p := bef_total h2 h1
          unfold mrgK
          rw [mrg, if_neg (by rw [h1]; simp), if_neg (by rw [h2]; simp), List.filter_cons]
          by_cases hxy : x = y
          · subst hxy
            rw [if_neg (by simp [keepC])]
            simp [headP, dropP, chgL]
          · rw [if_pos (by simp [keepC, hxy])]
            simp [headP, dropP, chgL, he, hxy, hx, hy]
end Go.Proofs.Ytpnhkniegjfncaa
