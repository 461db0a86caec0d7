/- Joining two lists of changes, prefix by prefix; no condition. -/
import Derived.Test.YtpnhkniegjfncaaD27
namespace Go.Proofs.Ytpnhkniegjfncaa
set_option linter.unusedVariables false

theorem sndC_at {t : List Ch} (h : sndC t = true) {i : Nat} {r : Ch} (hr : t[i]? = some r) : goodC r = true ∧ ∀ j r', i = j + 1 → t[j]? = some r' → befP (atC r') (atC r) = true := by
  have := List.all_eq_true.1 h i (List.mem_range.2 (List.getElem?_eq_some_iff.1 hr).1)
  unfold okC at this
  rw [hr] at this
  simp only [Bool.and_eq_true] at this
  refine ⟨this.1, fun j r' hj hr' => ?_⟩
  subst hj
  have h2 := this.2
  simp only [hr'] at h2
  exact h2
theorem sndC_srt {t : List Ch} (h : sndC t = true) : Srt (t.map atC) := by
  unfold Srt
  rw [List.pairwise_map, List.pairwise_iff_getElem]
  have key : ∀ (d i : Nat) (hi : i + d + 1 < t.length), befP (atC (t[i]'(by omega))) (atC t[i + d + 1]) = true := by
    intro d
    induction d with
    | zero =>
      intro i hi
      exact (sndC_at h (List.getElem?_eq_getElem hi)).2 i _ (by omega) (List.getElem?_eq_getElem (by omega))
    | succ d ih =>
      intro i hi
      have h1 := ih i (by omega)
      have h2 := (sndC_at h (i := i + (d + 1) + 1) (List.getElem?_eq_getElem hi)).2 (i + d + 1) _ (by omega) (List.getElem?_eq_getElem (by omega))
      exact bef_trans h1 h2
  intro i j hi hj hij
  have := key (j - i - 1) i (by omega)
  simpa [show i + (j - i - 1) + 1 = j by omega] using this
theorem goodC_len {c : Ch} (h : goodC c = true) : 0 ≤ (atC c).l ∧ (atC c).l ≤ 32 := by
  unfold goodC at h
  unfold atC
  by_cases h1 : c.k = 1
  · rw [if_pos h1] at h ⊢; exact rouB_len h
  · rw [if_neg h1] at h ⊢
    by_cases h2 : c.k = 2
    · rw [if_pos h2] at h; exact rouB_len h
    · rw [if_neg h2] at h
      by_cases h3 : c.k = 3
      · rw [if_pos h3] at h
        simp only [Bool.and_eq_true] at h
        exact rouB_len h.1.1.1
      · rw [if_neg h3] at h; cases h
theorem sndC_len {t : List Ch} (h : sndC t = true) (hf : ∀ (i : Nat) r, t[i]? = some r → FitC r) : t.length ≤ 141733920768 := by
  have fit : ∀ (i : Nat) r, t[i]? = some r → FitP (atC r) := fun i r hr => by
    have := hf i r hr
    unfold FitC FitR at this
    unfold atC
    split
    · exact this.2
    · exact this.1
  have key : ∀ (i : Nat) r, t[i]? = some r → (i : Int) ≤ keyP (atC r) := by
    intro i
    induction i with
    | zero =>
      intro r hr
      have h1 := fit 0 r hr
      have h2 := goodC_len (sndC_at h hr).1
      unfold FitP at h1
      unfold keyP
      omega
    | succ i ih =>
      intro r hr
      obtain ⟨r', hr'⟩ : ∃ r', t[i]? = some r' := ⟨_, List.getElem?_eq_getElem (by have := (List.getElem?_eq_some_iff.1 hr).1; omega)⟩
      have := ih r' hr'
      have hb := (sndC_at h hr).2 i r' rfl hr'
      have := befP_key hb (goodC_len (sndC_at h hr').1).2 (goodC_len (sndC_at h hr).1).1
      omega
  rcases Nat.eq_zero_or_pos t.length with h0 | h0
  · omega
  · obtain ⟨r, hr⟩ : ∃ r, t[t.length - 1]? = some r := ⟨_, List.getElem?_eq_getElem (by omega)⟩
    have h1 := key _ r hr
    have h2 := fit _ r hr
    have h3 := goodC_len (sndC_at h hr).1
    unfold FitP at h2
    unfold keyP at h1
    omega
/-- the changes that do what first and then second do; none where they do not fit -/
def jn : List Ch → List Ch → Option (List Ch)
  | [], [] => some []
  | x :: a, [] => (jn a []).map (plC x :: ·)
  | [], y :: b => (jn [] b).map (plC y :: ·)
  | x :: a, y :: b =>
    if befP (atC x) (atC y) then (jn a (y :: b)).map (plC x :: ·)
    else if befP (atC y) (atC x) then (jn (x :: a) b).map (plC y :: ·)
    else if (plC x).n = (plC y).o then (jn a b).map (chgL (plC x).o (plC y).n ++ ·) else none
termination_by a b => a.length + b.length
/-- what one prefix gives -/
def jn1 : Option Ch → Option Ch → Option (List Ch)
  | some x, some y => if (plC x).n = (plC y).o then some (chgL (plC x).o (plC y).n) else none
  | some x, none => some [plC x]
  | none, some y => some [plC y]
  | none, none => some []
theorem jn_nil : jn [] [] = some [] := by rw [jn]
theorem jn_x {x : Ch} {a : List Ch} : jn (x :: a) [] = (jn a []).map ([plC x] ++ ·) := by rw [jn]; rfl
theorem jn_y {y : Ch} {b : List Ch} : jn [] (y :: b) = (jn [] b).map ([plC y] ++ ·) := by rw [jn]; rfl
theorem jn_lt {x y : Ch} {a b : List Ch} (h : befP (atC x) (atC y) = true) : jn (x :: a) (y :: b) = (jn a (y :: b)).map ([plC x] ++ ·) := by rw [jn, if_pos h]; rfl
theorem jn_gt {x y : Ch} {a b : List Ch} (h : befP (atC x) (atC y) = false) (k : befP (atC y) (atC x) = true) : jn (x :: a) (y :: b) = (jn (x :: a) b).map ([plC y] ++ ·) := by rw [jn, if_neg (by rw [h]; simp), if_pos k]; rfl
theorem jn_no {x y : Ch} {a b : List Ch} (h : befP (atC x) (atC y) = false) (k : befP (atC y) (atC x) = false) (he : ¬ (plC x).n = (plC y).o) : jn (x :: a) (y :: b) = none := by rw [jn, if_neg (by rw [h]; simp), if_neg (by rw [k]; simp), if_neg he]
theorem jn_eq {x y : Ch} {a b : List Ch} (h : befP (atC x) (atC y) = false) (k : befP (atC y) (atC x) = false) (he : (plC x).n = (plC y).o) : jn (x :: a) (y :: b) = (jn a b).map (chgL (plC x).o (plC y).n ++ ·) := by rw [jn, if_neg (by rw [h]; simp), if_neg (by rw [k]; simp), if_pos he]
theorem jn_step {a b : List Ch} {p : Pf} (hp : hdK (a.map atC) (b.map atC) = some p) :
    jn a b = (jn1 (headP atC p a) (headP atC p b)).bind fun l => (jn (dropP atC p a) (dropP atC p b)).map (l ++ ·) := by
  cases a with
  | nil =>
    cases b with
    | nil => cases hp
    | cons y b =>
      simp only [List.map_nil, List.map_cons, hdK, Option.some.injEq] at hp
      subst hp
      rw [jn_y]
      simp [headP, dropP, jn1]
  | cons x a =>
    cases b with
    | nil =>
      simp only [List.map_nil, List.map_cons, hdK, Option.some.injEq] at hp
      subst hp
      rw [jn_x]
      simp [headP, dropP, jn1]
    | cons y b =>
      simp only [List.map_cons, hdK] at hp
      cases h1 : befP (atC x) (atC y) with
      | true =>
        rw [bef_asym h1] at hp
        simp only [Bool.false_eq_true, if_false, Option.some.injEq] at hp
        subst hp
        have hne : ¬ atC y = atC x := fun e => bef_ne h1 e.symm
        rw [jn_lt h1]
        simp [headP, dropP, jn1, hne]
      | false =>
        cases h2 : befP (atC y) (atC x) with
        | true =>
          rw [h2] at hp
          simp only [if_true, Option.some.injEq] at hp
          subst hp
          have hne : ¬ atC x = atC y := fun e => bef_ne h2 e.symm
          rw [jn_gt h1 h2]
          simp [headP, dropP, jn1, hne]
        | false =>
          rw [h2] at hp
          simp only [Bool.false_eq_true, if_false, Option.some.injEq] at hp
          subst hp
          have he : atC y = atC x := bef_total h2 h1
          by_cases hq : (plC x).n = (plC y).o
          · rw [jn_eq h1 h2 hq]
            simp [headP, dropP, jn1, he, hq]
          · rw [jn_no h1 h2 hq]
            simp [headP, dropP, jn1, he, hq]
theorem chgL_len (o n : Ro) : (chgL o n).length ≤ 1 := by
  unfold chgL
  split
  · simp
  · split
    · simp
    · split <;> simp
theorem jn_len : ∀ (a b : List Ch) (l : List Ch), jn a b = some l → l.length ≤ a.length + b.length
  | [], [], l, h => by rw [jn_nil] at h; cases h; simp
  | x :: a, [], l, h => by
    rw [jn_x] at h
    obtain ⟨m, hm, rfl⟩ := Option.map_eq_some_iff.1 h
    have := jn_len a [] m hm
    simp at this ⊢; omega
  | [], y :: b, l, h => by
    rw [jn_y] at h
    obtain ⟨m, hm, rfl⟩ := Option.map_eq_some_iff.1 h
    have := jn_len [] b m hm
    simp at this ⊢; omega
  | x :: a, y :: b, l, h => by
    cases h1 : befP (atC x) (atC y) with
    | true =>
      rw [jn_lt h1] at h
      obtain ⟨m, hm, rfl⟩ := Option.map_eq_some_iff.1 h
      have := jn_len a (y :: b) m hm
      simp at this ⊢; omega
    | false =>
      cases h2 : befP (atC y) (atC x) with
      | true =>
        rw [jn_gt h1 h2] at h
        obtain ⟨m, hm, rfl⟩ := Option.map_eq_some_iff.1 h
        have := jn_len (x :: a) b m hm
        simp at this ⊢; omega
      | false =>
        by_cases hq : (plC x).n = (plC y).o
        · rw [jn_eq h1 h2 hq] at h
          obtain ⟨m, hm, rfl⟩ := Option.map_eq_some_iff.1 h
          have := jn_len a b m hm
          have := chgL_len (plC x).o (plC y).n
          simp at *; omega
        · rw [jn_no h1 h2 hq] at h; cases h
termination_by a b => a.length + b.length
end Go.Proofs.Ytpnhkniegjfncaa
