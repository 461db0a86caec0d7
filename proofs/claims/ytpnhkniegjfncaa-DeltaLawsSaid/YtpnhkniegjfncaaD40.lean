/- Applying changes to a table, in plain Lean: the cut, one change, all changes; the reference's way is the same; no program. -/
import Derived.Test.YtpnhkniegjfncaaD37
import Derived.Test.YtpnhkniegjfncaaD28
namespace Go.Proofs.Ytpnhkniegjfncaa
set_option linter.unusedVariables false

def cutK : List Ro → Pf → Nat
  | [], _ => 0
  | r :: xs, p => if befP r.p p then cutK xs p + 1 else 0
theorem srt_tail {r : Ro} {xs : List Ro} (h : Srt ((r :: xs).map Ro.p)) : Srt (xs.map Ro.p) := by
  unfold Srt at *
  rw [List.map_cons, List.pairwise_cons] at h
  exact h.2
theorem srt_head {r : Ro} {xs : List Ro} (h : Srt ((r :: xs).map Ro.p)) : ∀ s ∈ xs, befP r.p s.p = true := by
  unfold Srt at h
  rw [List.map_cons, List.pairwise_cons] at h
  exact fun s hs => h.1 _ (List.mem_map_of_mem hs)
theorem cut_ex : ∀ {xs : List Ro} {p : Pf}, Srt (xs.map Ro.p) → Cut xs p (cutK xs p)
  | [], p, _ => ⟨Nat.le_refl _, fun i r h => by simp at h, fun i r h => by simp at h⟩
  | r :: xs, p, hs => by
    unfold cutK
    cases hb : befP r.p p with
    | true =>
      obtain ⟨h1, h2, h3⟩ := cut_ex (p := p) (srt_tail hs)
      refine ⟨by simp; exact h1, fun i s hi hlt => ?_, fun i s hi hlt => ?_⟩
      · cases i with
        | zero => simp at hi; subst hi; exact hb
        | succ i => exact h2 i s (by simpa using hi) (by simp at hlt; omega)
      · cases i with
        | zero => simp at hlt
        | succ i => exact h3 i s (by simpa using hi) (by simp at hlt; omega)
    | false =>
      refine ⟨Nat.zero_le _, fun i s hi hlt => by simp at hlt, fun i s hi _ => ?_⟩
      exact bef_from hs (m := 0) (r := r) rfl hb i s hi (Nat.zero_le _)
theorem cut_one {xs : List Ro} {p : Pf} {k k' : Nat} (h : Cut xs p k) (h' : Cut xs p k') : k = k' := by
  rcases Nat.lt_trichotomy k k' with h1 | h1 | h1
  · have hl := Nat.lt_of_lt_of_le h1 h'.1
    have a := h'.2.1 k _ (List.getElem?_eq_getElem hl) h1
    rw [h.2.2 k _ (List.getElem?_eq_getElem hl) (Nat.le_refl _)] at a
    cases a
  · exact h1
  · have hl := Nat.lt_of_lt_of_le h1 h.1
    have a := h.2.1 k' _ (List.getElem?_eq_getElem hl) h1
    rw [h'.2.2 k' _ (List.getElem?_eq_getElem hl) (Nat.le_refl _)] at a
    cases a

/-- one change: the table behind it, or the error -/
def stepA (t : List Ro) (c : Ch) : Except Int (List Ro) :=
  if c.k = 1 then (if hitP t (atC c) (cutK t (atC c)) then .error 5 else .ok (t.take (cutK t (atC c)) ++ c.n :: t.drop (cutK t (atC c))))
  else if !(hitP t (atC c) (cutK t (atC c)) && decide (t[cutK t (atC c)]? = some c.o)) then .error 8
  else if c.k = 2 then .ok (t.eraseIdx (cutK t (atC c)))
  else .ok (t.set (cutK t (atC c)) c.n)
/-- the first i changes -/
def runA (xs : List Ch) (t0 : List Ro) : Nat → Except (Nat × Int) (List Ro)
  | 0 => .ok t0
  | i + 1 => match runA xs t0 i with
    | .error e => .error e
    | .ok t => match xs[i]? with
      | none => .ok t
      | some c => if okC xs i then (match stepA t c with
        | .ok t' => .ok t'
        | .error e => .error (i, e)) else .error (i, 2)
def applyV (t0 : List Ro) (xs : List Ch) : List Ro × Nat × Int :=
  if sndT t0 then (match runA xs t0 xs.length with
    | .ok t => (t, 0, 0)
    | .error (i, e) => ([], i, e)) else ([], 0, 1)
theorem runA_err {xs : List Ch} {t0 : List Ro} {i : Nat} {e : Nat × Int} (h : runA xs t0 i = .error e) : ∀ d, runA xs t0 (i + d) = .error e
  | 0 => h
  | d + 1 => by
    show runA xs t0 (i + d + 1) = _
    unfold runA
    rw [runA_err h d]
theorem runA_bad {xs : List Ch} {t0 t : List Ro} {i : Nat} (h : runA xs t0 i = .ok t) (hi : i < xs.length) (ho : okC xs i = false) (hs : sndT t0 = true) : applyV t0 xs = ([], i, 2) := by
  have h1 : runA xs t0 (i + 1) = .error (i, 2) := by
    unfold runA
    rw [h]
    simp [List.getElem?_eq_getElem hi, ho]
  have h2 := runA_err h1 (xs.length - (i + 1))
  rw [show i + 1 + (xs.length - (i + 1)) = xs.length by omega] at h2
  unfold applyV
  rw [if_pos hs, h2]
theorem runA_no {xs : List Ch} {t0 t : List Ro} {i : Nat} {c : Ch} {e : Int} (h : runA xs t0 i = .ok t) (hx : xs[i]? = some c) (ho : okC xs i = true) (he : stepA t c = .error e) (hs : sndT t0 = true) : applyV t0 xs = ([], i, e) := by
  have hi := (List.getElem?_eq_some_iff.1 hx).1
  have h1 : runA xs t0 (i + 1) = .error (i, e) := by
    unfold runA
    rw [h]
    simp [hx, ho, he]
  have h2 := runA_err h1 (xs.length - (i + 1))
  rw [show i + 1 + (xs.length - (i + 1)) = xs.length by omega] at h2
  unfold applyV
  rw [if_pos hs, h2]
theorem runA_go {xs : List Ch} {t0 t t' : List Ro} {i : Nat} {c : Ch} (h : runA xs t0 i = .ok t) (hx : xs[i]? = some c) (ho : okC xs i = true) (he : stepA t c = .ok t') : runA xs t0 (i + 1) = .ok t' := by
  unfold runA
  rw [h]
  simp [hx, ho, he]
theorem runA_end {xs : List Ch} {t0 t : List Ro} (h : runA xs t0 xs.length = .ok t) (hs : sndT t0 = true) : applyV t0 xs = (t, 0, 0) := by
  unfold applyV
  rw [if_pos hs, h]

/-- a sound table whose addresses are uint32 -/
structure Tab (t : List Ro) : Prop where
  srt : Srt (t.map Ro.p)
  ok : ∀ r ∈ t, rouB r = true
  fit : ∀ r ∈ t, FitR r
theorem Tab.snd {t : List Ro} (h : Tab t) : sndT t = true := by
  refine sndT_true fun i hi => ?_
  unfold okI
  rw [List.getElem?_eq_getElem hi]
  have h1 := h.ok _ (List.getElem_mem hi)
  cases i with
  | zero => simpa using h1
  | succ j =>
    have h2 := srt_at h.srt (List.getElem?_eq_getElem (i := j) (by omega)) (List.getElem?_eq_getElem hi) (Nat.lt_succ_self j)
    simp only [List.getElem?_eq_getElem (show j < t.length by omega)]
    simp [h1, h2]
theorem Tab.len {t : List Ro} (h : Tab t) : t.length ≤ 141733920768 := sndT_len h.snd fun i r hr => h.fit r (List.mem_of_getElem? hr)
theorem Tab.of {t : List Ro} (h : sndT t = true) (hf : ∀ (i : Nat) r, t[i]? = some r → FitR r) : Tab t := by
  refine ⟨sndT_srt h, fun r hr => ?_, fun r hr => ?_⟩
  · obtain ⟨i, hi⟩ := List.mem_iff_getElem?.1 hr
    exact (sndT_at h hi).1
  · obtain ⟨i, hi⟩ := List.mem_iff_getElem?.1 hr
    exact hf i r hi
theorem hit_eq {t : List Ro} {p : Pf} (hs : Srt (t.map Ro.p)) (h : hitP t p (cutK t p) = true) : ∃ r, t[cutK t p]? = some r ∧ r.p = p := by
  cases hx : t[cutK t p]? with
  | none => unfold hitP at h; rw [hx] at h; cases h
  | some r =>
    refine ⟨r, rfl, ?_⟩
    rw [hit_at hx ((cut_ex hs).2.2 _ r hx (Nat.le_refl _))] at h
    exact of_decide_eq_true h
theorem goodC_n {c : Ch} (h : goodC c = true) (hk : c.k ≠ 2) : rouB c.n = true := by
  unfold goodC at h
  split at h
  · exact h
  · try rw [if_neg hk] at h
    split at h
    · simp only [Bool.and_eq_true] at h; exact h.1.1.2
    · cases h
theorem goodC_o {c : Ch} (h : goodC c = true) (hk : c.k ≠ 1) : rouB c.o = true := by
  unfold goodC at h
  rw [if_neg hk] at h
  split at h
  · exact h
  · split at h
    · simp only [Bool.and_eq_true] at h; exact h.1.1.1
    · cases h
theorem goodC_p {c : Ch} (h : goodC c = true) (h1 : c.k ≠ 1) (h2 : c.k ≠ 2) : c.o.p = c.n.p := by
  unfold goodC at h
  rw [if_neg h1, if_neg h2] at h
  split at h
  · simp only [Bool.and_eq_true, decide_eq_true_eq] at h; exact h.1.2
  · cases h
theorem stepA_tab {t t' : List Ro} {c : Ch} (h : Tab t) (hg : goodC c = true) (hf : FitC c) (he : stepA t c = .ok t') : Tab t' := by
  unfold stepA at he
  by_cases h1 : c.k = 1
  · rw [if_pos h1] at he
    cases hh : hitP t (atC c) (cutK t (atC c)) with
    | true => rw [hh] at he; simp at he
    | false =>
      rw [hh] at he
      simp only [Bool.false_eq_true, if_false, Except.ok.injEq] at he
      subst he
      have hp : atC c = c.n.p := by unfold atC; rw [if_pos h1]
      rw [hp] at hh ⊢
      refine ⟨srt_ins h.srt (cut_ex h.srt) hh, fun r hr => ?_, fun r hr => ?_⟩
      · rcases List.mem_append.1 hr with hr | hr
        · exact h.ok r (List.mem_of_mem_take hr)
        · rcases List.mem_cons.1 hr with rfl | hr
          · exact goodC_n hg (by omega)
          · exact h.ok r (List.mem_of_mem_drop hr)
      · rcases List.mem_append.1 hr with hr | hr
        · exact h.fit r (List.mem_of_mem_take hr)
        · rcases List.mem_cons.1 hr with rfl | hr
          · exact hf.2
          · exact h.fit r (List.mem_of_mem_drop hr)
  · rw [if_neg h1] at he
    cases hh : (hitP t (atC c) (cutK t (atC c)) && decide (t[cutK t (atC c)]? = some c.o)) with
    | false => rw [hh] at he; simp at he
    | true =>
      rw [hh] at he
      simp only [Bool.not_true, Bool.false_eq_true, if_false] at he
      simp only [Bool.and_eq_true, decide_eq_true_eq] at hh
      by_cases h2 : c.k = 2
      · rw [if_pos h2] at he
        cases he
        exact ⟨srt_del h.srt, fun r hr => h.ok r (List.mem_of_mem_eraseIdx hr), fun r hr => h.fit r (List.mem_of_mem_eraseIdx hr)⟩
      · rw [if_neg h2] at he
        cases he
        refine ⟨srt_set h.srt hh.2 (goodC_p hg h1 h2), fun r hr => ?_, fun r hr => ?_⟩
        · rcases List.mem_or_eq_of_mem_set hr with hr | rfl
          · exact h.ok r hr
          · exact goodC_n hg h2
        · rcases List.mem_or_eq_of_mem_set hr with hr | rfl
          · exact h.fit r hr
          · exact hf.2

/-- the reference's put, from a place on -/
def putL (r : Ro) (p : Pf) : Bool → List Ro → List Ro
  | d, [] => if d then [] else [r]
  | d, s :: t => (if !d && befP p s.p then [r] else []) ++ ((if s.p = p then [] else [s]) ++ putL r p (d || befP p s.p) t)
theorem putL_true {r : Ro} {p : Pf} : ∀ t : List Ro, putL r p true t = t.filter (fun s => !decide (s.p = p))
  | [] => rfl
  | s :: t => by
    unfold putL
    simp only [Bool.not_true, Bool.false_and, Bool.false_eq_true, if_false, List.nil_append, Bool.true_or, putL_true t]
    by_cases h : s.p = p <;> simp [h]
theorem putL_above {r : Ro} {p : Pf} : ∀ t : List Ro, (∀ s ∈ t, befP p s.p = true) → putL r p false t = r :: t
  | [], _ => rfl
  | s :: t, h => by
    have h1 := h s (by simp)
    have h2 : s.p ≠ p := fun e => by rw [e, bef_irr] at h1; cases h1
    unfold putL
    simp only [Bool.not_false, Bool.true_and, h1, if_true, h2, if_false, Bool.false_or, putL_true]
    rw [List.filter_eq_self.2 (fun u hu => by
      have := h u (by simp [hu])
      have h3 : u.p ≠ p := fun e => by rw [e, bef_irr] at this; cases this
      simp [h3])]
    rfl
theorem putL_came {r : Ro} {p : Pf} : ∀ t : List Ro, Srt (t.map Ro.p) → hitP t p (cutK t p) = false → putL r p false t = t.take (cutK t p) ++ r :: t.drop (cutK t p)
  | [], _, _ => rfl
  | s :: t, hs, hh => by
    cases hb : befP s.p p with
    | true =>
      have hc : cutK (s :: t) p = cutK t p + 1 := by rw [cutK, if_pos hb]
      have h3 : hitP t p (cutK t p) = false := by rw [hc] at hh; exact hh
      have h2 : s.p ≠ p := bef_ne hb
      rw [hc]
      unfold putL
      simp only [bef_asym hb, Bool.and_false, Bool.false_eq_true, if_false, h2, Bool.or_false, List.nil_append, List.take_succ_cons, List.drop_succ_cons, List.cons_append]
      rw [putL_came t (srt_tail hs) h3]
    | false =>
      have hc : cutK (s :: t) p = 0 := by rw [cutK, if_neg (by rw [hb]; simp)]
      rw [hc]
      rw [hc] at hh
      have h1 : befP p s.p = true := cut_after hs (hc ▸ cut_ex hs) hh (j := 0) rfl (Nat.le_refl _)
      exact putL_above (s :: t) (fun u hu => by
        rcases List.mem_cons.1 hu with rfl | hu
        · exact h1
        · exact bef_trans h1 (srt_head hs u hu))
theorem putL_turn {r : Ro} {p : Pf} : ∀ t : List Ro, Srt (t.map Ro.p) → hitP t p (cutK t p) = true → putL r p false t = t.set (cutK t p) r
  | [], _, hh => by simp [hitP] at hh
  | s :: t, hs, hh => by
    cases hb : befP s.p p with
    | true =>
      have hc : cutK (s :: t) p = cutK t p + 1 := by rw [cutK, if_pos hb]
      have h3 : hitP t p (cutK t p) = true := by rw [hc] at hh; exact hh
      have h2 : s.p ≠ p := bef_ne hb
      rw [hc]
      unfold putL
      simp only [bef_asym hb, Bool.and_false, Bool.false_eq_true, if_false, h2, Bool.or_false, List.nil_append, List.set_cons_succ, List.cons_append]
      rw [putL_turn t (srt_tail hs) h3]
    | false =>
      have hc : cutK (s :: t) p = 0 := by rw [cutK, if_neg (by rw [hb]; simp)]
      obtain ⟨u, hu, hp⟩ := hit_eq hs hh
      rw [hc] at hu
      simp at hu
      subst hu
      rw [hc]
      unfold putL
      rw [hp]
      simp only [bef_irr, Bool.and_false, Bool.false_eq_true, if_false, if_true, Bool.or_false, List.nil_append, List.set_cons_zero]
      exact putL_above t (fun u hu => by rw [← hp]; exact srt_head hs u hu)
theorem putL_went {r : Ro} {p : Pf} : ∀ t : List Ro, Srt (t.map Ro.p) → hitP t p (cutK t p) = true → putL r p true t = t.eraseIdx (cutK t p)
  | [], _, hh => by simp [hitP] at hh
  | s :: t, hs, hh => by
    cases hb : befP s.p p with
    | true =>
      have hc : cutK (s :: t) p = cutK t p + 1 := by rw [cutK, if_pos hb]
      have h3 : hitP t p (cutK t p) = true := by rw [hc] at hh; exact hh
      have h2 : s.p ≠ p := bef_ne hb
      rw [hc]
      unfold putL
      simp only [Bool.not_true, Bool.false_and, Bool.false_eq_true, if_false, h2, Bool.true_or, List.nil_append, List.eraseIdx_cons_succ, List.cons_append]
      rw [putL_went t (srt_tail hs) h3]
    | false =>
      have hc : cutK (s :: t) p = 0 := by rw [cutK, if_neg (by rw [hb]; simp)]
      obtain ⟨u, hu, hp⟩ := hit_eq hs hh
      rw [hc] at hu
      simp at hu
      subst hu
      rw [hc, putL_true]
      simp only [hp, decide_true, Bool.not_true, List.filter_cons, Bool.false_eq_true, if_false, List.eraseIdx_cons_zero]
      rw [List.filter_eq_self.2 (fun u hu => by
        have := srt_head hs u hu
        rw [hp] at this
        have h3 : u.p ≠ p := fun e => by rw [e, bef_irr] at this; cases this
        simp [h3])]
theorem fnd_cut {t : List Ro} {p : Pf} (hs : Srt (t.map Ro.p)) : (hitP t p (cutK t p) = true → t[cutK t p]? = some (fnd t p)) ∧ (hitP t p (cutK t p) = false → fnd t p = zR) := by
  have hc := cut_ex (p := p) hs
  constructor
  · intro h
    obtain ⟨r, hx, hp⟩ := hit_eq hs h
    rw [hx, fnd_hit (k := cutK t p) (r := r) (fun j hj s hs' => by
      have := hc.2.1 j s hs' hj
      exact decide_eq_false (bef_ne this)) hx (decide_eq_true hp)]
  · intro h
    refine fnd_miss fun j hj s hs' => ?_
    rcases Nat.lt_or_ge j (cutK t p) with h1 | h1
    · exact decide_eq_false (bef_ne (hc.2.1 j s hs' h1))
    · have := cut_after hs hc h hs' h1
      exact decide_eq_false fun e => by rw [e, bef_irr] at this; cases this

/-- the reference's step -/
def stepR (t : List Ro) (c : Ch) : Except Int (List Ro) :=
  if (decide (c.k = 1) && !decide (fnd t (atC c) = (plC c).o)) then .error 5
  else if !decide (fnd t (atC c) = (plC c).o) then .error 8
  else .ok (putL (plC c).n (atC c) (decide ((plC c).n = zR)) t)
theorem stepR_eq {t : List Ro} {c : Ch} (h : Tab t) (hg : goodC c = true) : stepR t c = stepA t c := by
  obtain ⟨f1, f2⟩ := fnd_cut (p := atC c) h.srt
  have hne : ∀ r, rouB r = true → r ≠ zR := fun r hr => rouB_ne hr
  unfold stepR stepA
  by_cases h1 : c.k = 1
  · have ho : (plC c).o = zR := by unfold plC; rw [if_pos h1]
    have hn : (plC c).n = c.n := by unfold plC; rw [if_pos h1]
    have hp : atC c = c.n.p := by unfold atC; rw [if_pos h1]
    rw [if_pos h1, ho, hn, decide_eq_false (hne _ (goodC_n hg (by omega)))]
    cases hh : hitP t (atC c) (cutK t (atC c)) with
    | true =>
      have : fnd t (atC c) ≠ zR := hne _ (h.ok _ (List.mem_of_getElem? (f1 hh)))
      simp [h1, this]
    | false =>
      rw [f2 hh]
      simp only [h1, decide_true, Bool.not_true, Bool.and_false, Bool.false_eq_true, if_false]
      rw [putL_came t h.srt hh]
  · have ho : (plC c).o = c.o := by unfold plC; rw [if_neg h1]; split <;> rfl
    rw [if_neg h1, ho]
    simp only [h1, decide_false, Bool.false_and, Bool.false_eq_true, if_false]
    cases hh : hitP t (atC c) (cutK t (atC c)) with
    | false =>
      have : ¬ (zR = c.o) := fun e => hne _ (goodC_o hg h1) e.symm
      rw [f2 hh]
      simp [this]
    | true =>
      rw [f1 hh]
      by_cases he : fnd t (atC c) = c.o
      · simp only [he, decide_true, Bool.not_true, Bool.and_true, Bool.false_eq_true, if_false]
        by_cases h2 : c.k = 2
        · have hn : (plC c).n = zR := by unfold plC; rw [if_neg h1, if_pos h2]
          rw [if_pos h2, hn, decide_eq_true rfl, putL_went t h.srt hh]
        · have hn : (plC c).n = c.n := by unfold plC; rw [if_neg h1, if_neg h2]
          rw [if_neg h2, hn, decide_eq_false (hne _ (goodC_n hg h2)), putL_turn t h.srt hh]
      · simp [he]
end Go.Proofs.Ytpnhkniegjfncaa
