/- The changes from no table and to none, and how long a sound table can be; condition: the addresses are uint32. -/
import Derived.Test.YtpnhkniegjfncaaD12
namespace Go.Proofs.Ytpnhkniegjfncaa
open Go.ChangeShapes Go.WideShapes Go.ChangeAt Go.RowKit
set_option linter.unusedVariables false
set_option linter.unusedSimpArgs false

theorem mrgK_come : ∀ t : List Ro, (∀ r ∈ t, r ≠ zR) → mrgK [] t = t.map (fun r => ⟨1, zR, r⟩)
  | [], _ => by simp [mrgK, mrg]
  | r :: t, h => by
    have h1 : keepC ⟨1, zR, r⟩ = true := by
      have := h r (by simp)
      simp only [keepC, Bool.not_eq_true', decide_eq_false_iff_not]
      exact fun e => this e.symm
    have ih := mrgK_come t (fun x hx => h x (by simp [hx]))
    unfold mrgK at ih ⊢
    rw [mrg, List.filter_cons, if_pos h1, ih]
    rfl
theorem mrgK_go : ∀ t : List Ro, (∀ r ∈ t, r ≠ zR) → mrgK t [] = t.map (fun r => ⟨2, r, zR⟩)
  | [], _ => by simp [mrgK, mrg]
  | r :: t, h => by
    have h1 : keepC ⟨2, r, zR⟩ = true := by
      have := h r (by simp)
      simp only [keepC, Bool.not_eq_true', decide_eq_false_iff_not]
      exact this
    have ih := mrgK_go t (fun x hx => h x (by simp [hx]))
    unfold mrgK at ih ⊢
    rw [mrg, List.filter_cons, if_pos h1, ih]
    rfl
theorem sndT_at {t : List Ro} (h : sndT t = true) {i : Nat} {r : Ro} (hr : t[i]? = some r) : rouB r = true ∧ ∀ j r', i = j + 1 → t[j]? = some r' → befP r'.p r.p = true := by
  have := List.all_eq_true.1 h i (List.mem_range.2 (List.getElem?_eq_some_iff.1 hr).1)
  unfold okI at this
  rw [hr] at this
  simp only [Bool.and_eq_true] at this
  refine ⟨this.1, fun j r' hj hr' => ?_⟩
  subst hj
  have h2 := this.2
  simp only [hr'] at h2
  exact h2
theorem rouB_ne {r : Ro} (h : rouB r = true) : r ≠ zR := by
  rintro rfl
  simp [rouB, zR] at h
theorem sndT_ne {t : List Ro} (h : sndT t = true) : ∀ r ∈ t, r ≠ zR := by
  intro r hr
  obtain ⟨i, hi, rfl⟩ := List.getElem_of_mem hr
  exact rouB_ne (sndT_at h (List.getElem?_eq_getElem hi)).1
def keyP (p : Pf) : Int := p.a * 33 + p.l
theorem rouB_len {r : Ro} (h : rouB r = true) : 0 ≤ r.p.l ∧ r.p.l ≤ 32 := by
  simp only [rouB, sndP, Bool.and_eq_true, decide_eq_true_eq] at h
  omega
theorem befP_key {p q : Pf} (h : befP p q = true) (hp : p.l ≤ 32) (hq : 0 ≤ q.l) : keyP p < keyP q := by
  simp only [befP, Bool.or_eq_true, Bool.and_eq_true, decide_eq_true_eq] at h
  unfold keyP
  omega
theorem sndT_key {t : List Ro} (h : sndT t = true) (hf : ∀ (i : Nat) r, t[i]? = some r → FitR r) : ∀ (i : Nat) r, t[i]? = some r → (i : Int) ≤ keyP r.p
  | 0, r, hr => by
    have h1 := hf 0 r hr
    have h2 := rouB_len (sndT_at h hr).1
    unfold FitR FitP at h1
    unfold keyP
    omega
  | i + 1, r, hr => by
    obtain ⟨r', hr'⟩ : ∃ r', t[i]? = some r' := ⟨_, List.getElem?_eq_getElem (by have := (List.getElem?_eq_some_iff.1 hr).1; omega)⟩
    have ih := sndT_key h hf i r' hr'
    have hb := (sndT_at h hr).2 i r' rfl hr'
    have := befP_key hb (rouB_len (sndT_at h hr').1).2 (rouB_len (sndT_at h hr).1).1
    omega
theorem sndT_len {t : List Ro} (h : sndT t = true) (hf : ∀ (i : Nat) r, t[i]? = some r → FitR r) : t.length ≤ 141733920768 := by
  rcases Nat.eq_zero_or_pos t.length with h0 | h0
  · omega
  · obtain ⟨r, hr⟩ : ∃ r, t[t.length - 1]? = some r := ⟨_, List.getElem?_eq_getElem (by omega)⟩
    have h1 := sndT_key h hf _ r hr
    have h2 := hf _ r hr
    have h3 := rouB_len (sndT_at h hr).1
    unfold FitR FitP at h2
    unfold keyP at h1
    omega

end Go.Proofs.Ytpnhkniegjfncaa
