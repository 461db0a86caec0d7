/- Plain laws of changes between sound tables: applied they make the next table, turned about the one before, joined those over two steps; no program. -/
import Derived.Test.YtpnhkniegjfncaaD41
import Derived.Test.YtpnhkniegjfncaaD31
import Derived.Test.YtpnhkniegjfncaaD7
namespace Go.Proofs.Ytpnhkniegjfncaa
set_option linter.unusedVariables false
set_option linter.unusedSimpArgs false

theorem mrg_ind {P : List Ro → List Ro → Prop} (nil : P [] []) (hx : ∀ x a, P a [] → P (x :: a) []) (hy : ∀ y b, P [] b → P [] (y :: b))
    (lt : ∀ x a y b, befP x.p y.p = true → P a (y :: b) → P (x :: a) (y :: b)) (gt : ∀ x a y b, befP x.p y.p = false → befP y.p x.p = true → P (x :: a) b → P (x :: a) (y :: b))
    (eq : ∀ x a y b, befP x.p y.p = false → befP y.p x.p = false → P a b → P (x :: a) (y :: b)) : ∀ a b, P a b
  | [], [] => nil
  | x :: a, [] => hx x a (mrg_ind nil hx hy lt gt eq a [])
  | [], y :: b => hy y b (mrg_ind nil hx hy lt gt eq [] b)
  | x :: a, y :: b => by
    cases h1 : befP x.p y.p with
    | true => exact lt x a y b h1 (mrg_ind nil hx hy lt gt eq a (y :: b))
    | false =>
      cases h2 : befP y.p x.p with
      | true => exact gt x a y b h1 h2 (mrg_ind nil hx hy lt gt eq (x :: a) b)
      | false => exact eq x a y b h1 h2 (mrg_ind nil hx hy lt gt eq a b)
termination_by a b => a.length + b.length
theorem mk_x {x : Ro} {a : List Ro} (hx : x ≠ zR) : mrgK (x :: a) [] = ⟨2, x, zR⟩ :: mrgK a [] := by
  unfold mrgK; rw [mrg, List.filter_cons, if_pos (by simp [keepC, hx])]
theorem mk_y {y : Ro} {b : List Ro} (hy : y ≠ zR) : mrgK [] (y :: b) = ⟨1, zR, y⟩ :: mrgK [] b := by
  have hy' : ¬ zR = y := fun e => hy e.symm
  unfold mrgK; rw [mrg, List.filter_cons, if_pos (by simp [keepC, hy'])]
theorem mk_lt {x y : Ro} {a b : List Ro} (h : befP x.p y.p = true) (hx : x ≠ zR) : mrgK (x :: a) (y :: b) = ⟨2, x, zR⟩ :: mrgK a (y :: b) := by
  unfold mrgK; rw [mrg, if_pos h, List.filter_cons, if_pos (by simp [keepC, hx])]
theorem mk_gt {x y : Ro} {a b : List Ro} (h : befP y.p x.p = true) (hy : y ≠ zR) : mrgK (x :: a) (y :: b) = ⟨1, zR, y⟩ :: mrgK (x :: a) b := by
  have hy' : ¬ zR = y := fun e => hy e.symm
  unfold mrgK; rw [mrg, if_neg (by rw [bef_asym h]; simp), if_pos h, List.filter_cons, if_pos (by simp [keepC, hy'])]
theorem mk_same {x y : Ro} {a b : List Ro} (h1 : befP x.p y.p = false) (h2 : befP y.p x.p = false) (e : x = y) : mrgK (x :: a) (y :: b) = mrgK a b := by
  subst e
  unfold mrgK; rw [mrg, if_neg (by rw [h1]; simp), if_neg (by rw [h2]; simp), List.filter_cons, if_neg (by simp [keepC])]
theorem mk_turn {x y : Ro} {a b : List Ro} (h1 : befP x.p y.p = false) (h2 : befP y.p x.p = false) (e : ¬ x = y) : mrgK (x :: a) (y :: b) = ⟨3, x, y⟩ :: mrgK a b := by
  unfold mrgK; rw [mrg, if_neg (by rw [h1]; simp), if_neg (by rw [h2]; simp), List.filter_cons, if_pos (by simp [keepC, e])]

theorem mrgK_back : ∀ a b : List Ro, (∀ r ∈ a, r ≠ zR) → (∀ r ∈ b, r ≠ zR) → (mrgK a b).map bk = mrgK b a := by
  refine mrg_ind ?_ ?_ ?_ ?_ ?_ ?_
  · intro _ _; simp [mrgK, mrg]
  · intro x a ih ha hb
    rw [mk_x (ha x (by simp)), mk_y (ha x (by simp)), List.map_cons, ih (fun r hr => ha r (by simp [hr])) hb]
    rfl
  · intro y b ih ha hb
    rw [mk_x (hb y (by simp)), mk_y (hb y (by simp)), List.map_cons, ih ha (fun r hr => hb r (by simp [hr]))]
    rfl
  · intro x a y b h ih ha hb
    rw [mk_lt h (ha x (by simp)), mk_gt h (ha x (by simp)), List.map_cons, ih (fun r hr => ha r (by simp [hr])) hb]
    rfl
  · intro x a y b h1 h2 ih ha hb
    rw [mk_lt h2 (hb y (by simp)), mk_gt h2 (hb y (by simp)), List.map_cons, ih ha (fun r hr => hb r (by simp [hr]))]
    rfl
  · intro x a y b h1 h2 ih ha hb
    have ih' := ih (fun r hr => ha r (by simp [hr])) (fun r hr => hb r (by simp [hr]))
    by_cases e : x = y
    · rw [mk_same h1 h2 e, mk_same h2 h1 e.symm, ih']
    · rw [mk_turn h1 h2 e, mk_turn h2 h1 (fun e' => e e'.symm), List.map_cons, ih']
      rfl
theorem mrgK_self : ∀ a : List Ro, mrgK a a = []
  | [] => mrgK_nil
  | x :: a => by rw [mk_same (bef_irr _) (bef_irr _) rfl, mrgK_self a]

theorem Tab.tail {x : Ro} {a : List Ro} (h : Tab (x :: a)) : Tab a := ⟨srt_tail h.srt, fun r hr => h.ok r (by simp [hr]), fun r hr => h.fit r (by simp [hr])⟩
theorem Tab.ne {a : List Ro} (h : Tab a) : ∀ r ∈ a, r ≠ zR := fun r hr => rouB_ne (h.ok r hr)
theorem fit_zR : FitR zR := by unfold FitR FitP zR; simp
theorem srt_cons {p : Pf} {l : List Pf} (h : ∀ q ∈ l, befP p q = true) (hs : Srt l) : Srt (p :: l) := List.pairwise_cons.2 ⟨h, hs⟩
/-- the changes are sorted, sound, and at the tables' prefixes -/
theorem mrgK_snd : ∀ a b : List Ro, Tab a → Tab b → Srt ((mrgK a b).map atC) ∧ (∀ c ∈ mrgK a b, goodC c = true ∧ FitC c) ∧ (∀ q ∈ (mrgK a b).map atC, q ∈ a.map Ro.p ∨ q ∈ b.map Ro.p) := by
  refine mrg_ind ?_ ?_ ?_ ?_ ?_ ?_
  · intro _ _
    rw [mrgK_nil]
    exact ⟨List.Pairwise.nil, fun c hc => by simp at hc, fun q hq => by simp at hq⟩
  · intro x a ih ha hb
    obtain ⟨h1, h2, h3⟩ := ih ha.tail hb
    rw [mk_x (ha.ne x (by simp))]
    refine ⟨srt_cons (fun q hq => ?_) h1, fun c hc => ?_, fun q hq => ?_⟩
    · rcases h3 q hq with h | h
      · obtain ⟨s, hs, rfl⟩ := List.mem_map.1 h
        exact srt_head ha.srt s hs
      · simp at h
    · rcases List.mem_cons.1 hc with rfl | hc
      · exact ⟨ha.ok x (by simp), ha.fit x (by simp), fit_zR⟩
      · exact h2 c hc
    · rcases List.mem_cons.1 hq with rfl | hq
      · exact .inl (by simp [atC])
      · exact (h3 q hq).imp (fun h => List.mem_cons_of_mem _ h) id
  · intro y b ih ha hb
    obtain ⟨h1, h2, h3⟩ := ih ha hb.tail
    rw [mk_y (hb.ne y (by simp))]
    refine ⟨srt_cons (fun q hq => ?_) h1, fun c hc => ?_, fun q hq => ?_⟩
    · rcases h3 q hq with h | h
      · simp at h
      · obtain ⟨s, hs, rfl⟩ := List.mem_map.1 h
        exact srt_head hb.srt s hs
    · rcases List.mem_cons.1 hc with rfl | hc
      · exact ⟨hb.ok y (by simp), fit_zR, hb.fit y (by simp)⟩
      · exact h2 c hc
    · rcases List.mem_cons.1 hq with rfl | hq
      · exact .inr (by simp [atC])
      · exact (h3 q hq).imp id (fun h => List.mem_cons_of_mem _ h)
  · intro x a y b h ih ha hb
    obtain ⟨h1, h2, h3⟩ := ih ha.tail hb
    rw [mk_lt h (ha.ne x (by simp))]
    refine ⟨srt_cons (fun q hq => ?_) h1, fun c hc => ?_, fun q hq => ?_⟩
    · rcases h3 q hq with h' | h'
      · obtain ⟨s, hs, rfl⟩ := List.mem_map.1 h'
        exact srt_head ha.srt s hs
      · rw [List.map_cons] at h'
        rcases List.mem_cons.1 h' with rfl | h'
        · exact h
        · obtain ⟨s, hs, rfl⟩ := List.mem_map.1 h'
          exact bef_trans h (srt_head hb.srt s hs)
    · rcases List.mem_cons.1 hc with rfl | hc
      · exact ⟨ha.ok x (by simp), ha.fit x (by simp), fit_zR⟩
      · exact h2 c hc
    · rcases List.mem_cons.1 hq with rfl | hq
      · exact .inl (by simp [atC])
      · exact (h3 q hq).imp (fun h => List.mem_cons_of_mem _ h) id
  · intro x a y b hh h ih ha hb
    obtain ⟨h1, h2, h3⟩ := ih ha hb.tail
    rw [mk_gt h (hb.ne y (by simp))]
    refine ⟨srt_cons (fun q hq => ?_) h1, fun c hc => ?_, fun q hq => ?_⟩
    · rcases h3 q hq with h' | h'
      · rw [List.map_cons] at h'
        rcases List.mem_cons.1 h' with rfl | h'
        · exact h
        · obtain ⟨s, hs, rfl⟩ := List.mem_map.1 h'
          exact bef_trans h (srt_head ha.srt s hs)
      · obtain ⟨s, hs, rfl⟩ := List.mem_map.1 h'
        exact srt_head hb.srt s hs
    · rcases List.mem_cons.1 hc with rfl | hc
      · exact ⟨hb.ok y (by simp), fit_zR, hb.fit y (by simp)⟩
      · exact h2 c hc
    · rcases List.mem_cons.1 hq with rfl | hq
      · exact .inr (by simp [atC])
      · exact (h3 q hq).imp id (fun h => List.mem_cons_of_mem _ h)
  · intro x a y b hh h ih ha hb
    obtain ⟨h1, h2, h3⟩ := ih ha.tail hb.tail
    have hp : x.p = y.p := bef_total hh h
    by_cases e : x = y
    · rw [mk_same hh h e]
      exact ⟨h1, h2, fun q hq => (h3 q hq).imp (fun h => List.mem_cons_of_mem _ h) (fun h => List.mem_cons_of_mem _ h)⟩
    · rw [mk_turn hh h e]
      refine ⟨srt_cons (fun q hq => ?_) h1, fun c hc => ?_, fun q hq => ?_⟩
      · rcases h3 q hq with h' | h'
        · obtain ⟨s, hs, rfl⟩ := List.mem_map.1 h'
          exact srt_head ha.srt s hs
        · obtain ⟨s, hs, rfl⟩ := List.mem_map.1 h'
          have := srt_head hb.srt s hs
          rw [← hp] at this
          exact this
      · rcases List.mem_cons.1 hc with rfl | hc
        · refine ⟨?_, ha.fit x (by simp), hb.fit y (by simp)⟩
          have q1 := ha.ok x (by simp)
          have q2 := hb.ok y (by simp)
          unfold goodC
          simp [q1, q2, hp, e]
        · exact h2 c hc
      · rcases List.mem_cons.1 hq with rfl | hq
        · exact .inl (by simp [atC])
        · exact (h3 q hq).imp (fun h => List.mem_cons_of_mem _ h) (fun h => List.mem_cons_of_mem _ h)
theorem sndC_of {t : List Ch} (hs : Srt (t.map atC)) (hg : ∀ c ∈ t, goodC c = true) : sndC t = true := by
  refine sndC_true fun i hi => ?_
  have h1 := hg _ (List.getElem_mem hi)
  cases i with
  | zero => rw [okC_0 (List.getElem?_eq_getElem hi)]; exact h1
  | succ j =>
    have hj : j < t.length := by omega
    have h2 := List.pairwise_iff_getElem.1 hs j (j + 1) (by simpa using hj) (by simpa using hi) (Nat.lt_succ_self j)
    rw [okC_s (List.getElem?_eq_getElem hi) (List.getElem?_eq_getElem hj)]
    simp only [List.getElem_map] at h2
    simp [h1, h2]
theorem mrgK_sound {a b : List Ro} (ha : Tab a) (hb : Tab b) : sndC (mrgK a b) = true := by
  obtain ⟨h1, h2, _⟩ := mrgK_snd a b ha hb
  exact sndC_of h1 fun c hc => (h2 c hc).1

/-- changes applied one by one, whatever their soundness -/
def foldA : List Ro → List Ch → Except Int (List Ro)
  | t, [] => .ok t
  | t, c :: L => match stepA t c with
    | .ok t' => foldA t' L
    | .error e => .error e
theorem runA_fold {L : List Ch} {t0 : List Ro} (hs : sndC L = true) : ∀ (S pre : List Ch) (t1 t : List Ro), L = pre ++ S → runA L t0 pre.length = .ok t1 → foldA t1 S = .ok t → runA L t0 L.length = .ok t
  | [], pre, t1, t, hL, h1, h2 => by
    cases h2
    rw [hL, List.append_nil] at h1 ⊢
    exact h1
  | c :: S, pre, t1, t, hL, h1, h2 => by
    have hx : L[pre.length]? = some c := by rw [hL, List.getElem?_append_right (Nat.le_refl _), Nat.sub_self]; rfl
    have hok : okC L pre.length = true := List.all_eq_true.1 hs _ (List.mem_range.2 (List.getElem?_eq_some_iff.1 hx).1)
    unfold foldA at h2
    cases hst : stepA t1 c with
    | error e => rw [hst] at h2; cases h2
    | ok t2 =>
      rw [hst] at h2
      have h3 := runA_go h1 hx hok hst
      refine runA_fold hs S (pre ++ [c]) t2 t (by rw [hL]; simp) ?_ h2
      rw [List.length_append]
      exact h3
theorem cutK_app {p : Pf} : ∀ (pre s : List Ro), (∀ r ∈ pre, befP r.p p = true) → (∀ r t, s = r :: t → befP r.p p = false) → cutK (pre ++ s) p = pre.length
  | [], [], _, _ => rfl
  | [], r :: t, _, h => by
    show cutK (r :: t) p = 0
    rw [cutK, if_neg (by rw [h r t rfl]; simp)]
  | x :: pre, s, h1, h2 => by
    show cutK (x :: (pre ++ s)) p = _
    rw [cutK, if_pos (h1 x (by simp)), cutK_app pre s (fun r hr => h1 r (by simp [hr])) h2]
    rfl
theorem hit_app {p : Pf} (pre s : List Ro) : hitP (pre ++ s) p pre.length = hitP s p 0 := by
  unfold hitP
  rw [List.getElem?_append_right (Nat.le_refl _), Nat.sub_self]
theorem hit_head (x : Ro) (a : List Ro) : hitP (x :: a) x.p 0 = true := by
  show (cmpA x.p x.p == 0) = true
  simp [cmpA, bef_irr]
theorem step_went {pre a : List Ro} {x : Ro} (h : ∀ r ∈ pre, befP r.p x.p = true) : stepA (pre ++ x :: a) ⟨2, x, zR⟩ = .ok (pre ++ a) := by
  have hc : cutK (pre ++ x :: a) x.p = pre.length := cutK_app pre _ h (fun r t e => by cases e; exact bef_irr _)
  have := stepA_2 (t := pre ++ x :: a) (x := ⟨2, x, zR⟩) (k := pre.length) (by show ¬ (2 : Int) = 1; decide) rfl hc.symm (by show hitP (pre ++ x :: a) x.p pre.length = true; rw [hit_app]; exact hit_head x a) (by rw [List.getElem?_append_right (Nat.le_refl _), Nat.sub_self]; rfl)
  rw [this, List.eraseIdx_eq_take_drop_succ]
  simp
theorem step_came {pre s : List Ro} {y : Ro} (h : ∀ r ∈ pre, befP r.p y.p = true) (h2 : ∀ r t, s = r :: t → befP y.p r.p = true) : stepA (pre ++ s) ⟨1, zR, y⟩ = .ok (pre ++ y :: s) := by
  have hc : cutK (pre ++ s) y.p = pre.length := cutK_app pre _ h (fun r t e => bef_asym (h2 r t e))
  have hh : hitP (pre ++ s) y.p pre.length = false := by
    rw [hit_app]
    cases s with
    | nil => rfl
    | cons r t =>
      have := h2 r t rfl
      show (cmpA r.p y.p == 0) = false
      simp [cmpA, bef_asym this, this]
  rw [stepA_1 (t := pre ++ s) (x := ⟨1, zR, y⟩) (k := pre.length) rfl hc.symm hh]
  simp
theorem step_turn {pre a : List Ro} {x y : Ro} (h : ∀ r ∈ pre, befP r.p x.p = true) : stepA (pre ++ x :: a) ⟨3, x, y⟩ = .ok (pre ++ y :: a) := by
  have hc : cutK (pre ++ x :: a) x.p = pre.length := cutK_app pre _ h (fun r t e => by cases e; exact bef_irr _)
  have := stepA_3 (t := pre ++ x :: a) (x := ⟨3, x, y⟩) (k := pre.length) (by show ¬ (3 : Int) = 1; decide) (by show ¬ (3 : Int) = 2; decide) hc.symm (by show hitP (pre ++ x :: a) x.p pre.length = true; rw [hit_app]; exact hit_head x a) (by rw [List.getElem?_append_right (Nat.le_refl _), Nat.sub_self]; rfl)
  rw [this]
  simp
theorem fold_mrgK : ∀ a b : List Ro, Tab a → Tab b → ∀ pre : List Ro, (∀ r ∈ pre, ∀ s ∈ a, befP r.p s.p = true) → (∀ r ∈ pre, ∀ s ∈ b, befP r.p s.p = true) → foldA (pre ++ a) (mrgK a b) = .ok (pre ++ b) := by
  refine mrg_ind ?_ ?_ ?_ ?_ ?_ ?_
  · intro _ _ pre _ _
    rw [mrgK_nil]
    rfl
  · intro x a ih ha hb pre h1 h2
    rw [mk_x (ha.ne x (by simp)), foldA, step_went (fun r hr => h1 r hr x (by simp))]
    exact ih ha.tail hb pre (fun r hr s hs => h1 r hr s (by simp [hs])) h2
  · intro y b ih ha hb pre h1 h2
    rw [mk_y (hb.ne y (by simp)), foldA, step_came (fun r hr => h2 r hr y (by simp)) (fun r t e => by cases e)]
    have := ih ha hb.tail (pre ++ [y]) (fun r hr s hs => by simp at hs) (fun r hr s hs => by
      rcases List.mem_append.1 hr with hr | hr
      · exact h2 r hr s (by simp [hs])
      · rw [List.mem_singleton.1 hr]; exact srt_head hb.srt s hs)
    simpa using this
  · intro x a y b h ih ha hb pre h1 h2
    rw [mk_lt h (ha.ne x (by simp)), foldA, step_went (fun r hr => h1 r hr x (by simp))]
    exact ih ha.tail hb pre (fun r hr s hs => h1 r hr s (by simp [hs])) h2
  · intro x a y b hh h ih ha hb pre h1 h2
    rw [mk_gt h (hb.ne y (by simp)), foldA, step_came (fun r hr => h2 r hr y (by simp)) (fun r t e => by cases e; exact h)]
    have := ih ha hb.tail (pre ++ [y]) (fun r hr s hs => by
      rcases List.mem_append.1 hr with hr | hr
      · exact h1 r hr s hs
      · rw [List.mem_singleton.1 hr]
        rcases List.mem_cons.1 hs with rfl | hs
        · exact h
        · exact bef_trans h (srt_head ha.srt s hs)) (fun r hr s hs => by
      rcases List.mem_append.1 hr with hr | hr
      · exact h2 r hr s (by simp [hs])
      · rw [List.mem_singleton.1 hr]; exact srt_head hb.srt s hs)
    simpa using this
  · intro x a y b hh h ih ha hb pre h1 h2
    have hp : x.p = y.p := bef_total hh h
    have key := ih ha.tail hb.tail (pre ++ [y]) (fun r hr s hs => by
      rcases List.mem_append.1 hr with hr | hr
      · exact h1 r hr s (by simp [hs])
      · rw [List.mem_singleton.1 hr, ← hp]; exact srt_head ha.srt s hs) (fun r hr s hs => by
      rcases List.mem_append.1 hr with hr | hr
      · exact h2 r hr s (by simp [hs])
      · rw [List.mem_singleton.1 hr]; exact srt_head hb.srt s hs)
    by_cases e : x = y
    · rw [mk_same hh h e, e]
      simpa using key
    · rw [mk_turn hh h e, foldA, step_turn (fun r hr => h1 r hr x (by simp))]
      simpa using key
theorem apply_mrgK {a b : List Ro} (ha : Tab a) (hb : Tab b) : applyV a (mrgK a b) = (b, 0, 0) :=
  runA_end (runA_fold (mrgK_sound ha hb) (mrgK a b) [] a b rfl rfl (fold_mrgK a b ha hb [] (fun r hr => by simp at hr) (fun r hr => by simp at hr))) ha.snd
theorem apply_back {a b : List Ro} (ha : Tab a) (hb : Tab b) : applyV b ((mrgK a b).map bk) = (a, 0, 0) := by
  rw [mrgK_back a b ha.ne hb.ne]
  exact apply_mrgK hb ha

/-- one prefix taken off two tables -/
theorem mrgK_at {a b : List Ro} {p : Pf} (ha : Tab a) (hb : Tab b) (h1 : ∀ q ∈ a.map Ro.p, befP q p = false) (h2 : ∀ q ∈ b.map Ro.p, befP q p = false) :
    mrgK a b = chgL ((headP Ro.p p a).getD zR) ((headP Ro.p p b).getD zR) ++ mrgK (dropP Ro.p p a) (dropP Ro.p p b) := by
  by_cases hp : hdK (a.map Ro.p) (b.map Ro.p) = some p
  · exact mrgK_step hp ha.ne hb.ne
  · have ea : headP Ro.p p a = none ∧ dropP Ro.p p a = a := by
      cases a with
      | nil => exact ⟨rfl, rfl⟩
      | cons x a =>
        have hne : ¬ x.p = p := fun e => hp (by
          cases b with
          | nil => simp [hdK, e]
          | cons y b =>
            have := h2 y.p (by simp)
            simp [hdK, e, this])
        exact ⟨by simp [headP, hne], by simp [dropP, hne]⟩
    have eb : headP Ro.p p b = none ∧ dropP Ro.p p b = b := by
      cases b with
      | nil => exact ⟨rfl, rfl⟩
      | cons y b =>
        have hne : ¬ y.p = p := fun e => hp (by
          cases a with
          | nil => simp [hdK, e]
          | cons x a =>
            have q1 := h1 x.p (by simp)
            cases q2 : befP p x.p with
            | true => simp [hdK, e, q2]
            | false =>
              have := bef_total q1 q2
              simp [hdK, e, this, bef_irr])
        exact ⟨by simp [headP, hne], by simp [dropP, hne]⟩
    rw [ea.1, ea.2, eb.1, eb.2]
    simp [chgL]
theorem chgL_one {o n : Ro} {p : Pf} (hne : ¬ o = n) (ho : o = zR ∨ o.p = p) (hn : n = zR ∨ n.p = p) : ∃ x, chgL o n = [x] ∧ atC x = p ∧ plC x = x ∧ x.o = o ∧ x.n = n := by
  by_cases h1 : o = zR
  · have h2 : n.p = p := hn.resolve_left (fun e => hne (h1.trans e.symm))
    have h3 : ¬ zR = n := fun e => hne (h1.trans e)
    exact ⟨⟨1, zR, n⟩, by simp [chgL, h1, h3], by simp [atC, h2], by simp [plC], h1.symm, rfl⟩
  · have h3 : o.p = p := ho.resolve_left h1
    by_cases h2 : n = zR
    · exact ⟨⟨2, o, zR⟩, by simp [chgL, hne, h1, h2], by simp [atC, h3], by simp [plC], rfl, h2.symm⟩
    · exact ⟨⟨3, o, n⟩, by simp [chgL, hne, h1, h2], by simp [atC, h3], by simp [plC], rfl, rfl⟩
theorem jn_left {x : Ch} {U V R : List Ch} (hV : ∀ q ∈ V.map atC, befP (atC x) q = true) (h : jn U V = some R) : jn (x :: U) V = some (plC x :: R) := by
  cases V with
  | nil => rw [jn_x, h]; rfl
  | cons y V => rw [jn_lt (hV _ (by simp)), h]; rfl
theorem jn_right {y : Ch} {U V R : List Ch} (hU : ∀ q ∈ U.map atC, befP (atC y) q = true) (h : jn U V = some R) : jn U (y :: V) = some (plC y :: R) := by
  cases U with
  | nil => rw [jn_y, h]; rfl
  | cons x U =>
    have := hU _ (List.mem_cons_self ..)
    rw [jn_gt (bef_asym this) this, h]
    rfl
theorem jn_join {p : Pf} {fa fb fc : Ro} {U V R : List Ch} (ha : fa = zR ∨ fa.p = p) (hb : fb = zR ∨ fb.p = p) (hc : fc = zR ∨ fc.p = p) (hU : ∀ q ∈ U.map atC, befP p q = true) (hV : ∀ q ∈ V.map atC, befP p q = true) (h : jn U V = some R) :
    jn (chgL fa fb ++ U) (chgL fb fc ++ V) = some (chgL fa fc ++ R) := by
  by_cases e1 : fa = fb
  · subst e1
    have hz : chgL fa fa = [] := by simp [chgL]
    rw [hz, List.nil_append]
    by_cases e2 : fa = fc
    · subst e2
      rw [hz]
      simpa using h
    · obtain ⟨y, hy, hyp, hpl, _, _⟩ := chgL_one e2 ha hc
      rw [hy]
      have := jn_right (y := y) (by rw [hyp]; exact hU) h
      rw [hpl] at this
      exact this
  · obtain ⟨x, hx, hxp, hxl, hxo, hxn⟩ := chgL_one e1 ha hb
    rw [hx]
    by_cases e2 : fb = fc
    · subst e2
      have hz : chgL fb fb = [] := by simp [chgL]
      rw [hz, hx, List.nil_append]
      have := jn_left (x := x) (by rw [hxp]; exact hV) h
      rw [hxl] at this
      exact this
    · obtain ⟨y, hy, hyp, hyl, hyo, hyn⟩ := chgL_one e2 hb hc
      rw [hy]
      show jn (x :: U) (y :: V) = _
      rw [jn_eq (by rw [hxp, hyp]; exact bef_irr p) (by rw [hxp, hyp]; exact bef_irr p) (by rw [hxl, hyl, hxn, hyo]), h, hxl, hyl, hxo, hyn]
      rfl
theorem least_ex : ∀ l : List Pf, l ≠ [] → ∃ p ∈ l, ∀ q ∈ l, befP q p = false
  | [], h => absurd rfl h
  | [x], _ => ⟨x, by simp, fun q hq => by rw [List.mem_singleton.1 hq]; exact bef_irr x⟩
  | x :: y :: l, _ => by
    obtain ⟨p, hp, h⟩ := least_ex (y :: l) (by simp)
    cases hb : befP x p with
    | true =>
      refine ⟨x, by simp, fun q hq => ?_⟩
      rcases List.mem_cons.1 hq with rfl | hq
      · exact bef_irr _
      · cases hq2 : befP q x with
        | false => rfl
        | true => have := h q hq; rw [bef_trans hq2 hb] at this; cases this
    | false =>
      refine ⟨p, List.mem_cons_of_mem _ hp, fun q hq => ?_⟩
      rcases List.mem_cons.1 hq with rfl | hq
      · exact hb
      · exact h q hq
theorem Tab.drop {a : List Ro} {p : Pf} (h : Tab a) : Tab (dropP Ro.p p a) := by
  cases a with
  | nil => exact h
  | cons x a =>
    simp only [dropP]
    split
    · exact h.tail
    · exact h
theorem head_key {a : List Ro} {p : Pf} : (headP Ro.p p a).getD zR = zR ∨ ((headP Ro.p p a).getD zR).p = p := by
  cases a with
  | nil => exact .inl rfl
  | cons x a =>
    simp only [headP]
    split
    · exact .inr (by simpa using (by assumption : x.p = p))
    · exact .inl rfl
theorem drop_leR {a : List Ro} {p : Pf} : (dropP Ro.p p a).length ≤ a.length := by
  cases a with
  | nil => exact Nat.le_refl _
  | cons x a => simp only [dropP]; split <;> simp
theorem drop_ltR {a : List Ro} {p : Pf} (ha : Tab a) (hm : p ∈ a.map Ro.p) (hl : ∀ q ∈ a.map Ro.p, befP q p = false) : (dropP Ro.p p a).length < a.length := by
  cases a with
  | nil => simp at hm
  | cons x a =>
    have hx : x.p = p := by
      rw [List.map_cons] at hm
      rcases List.mem_cons.1 hm with h | h
      · exact h.symm
      · obtain ⟨s, hs, rfl⟩ := List.mem_map.1 h
        have h1 := srt_head ha.srt s hs
        rw [hl x.p (by simp)] at h1
        cases h1
    simp [dropP, hx]
theorem jn_mrgK : ∀ (n : Nat) (a b c : List Ro), a.length + b.length + c.length ≤ n → Tab a → Tab b → Tab c → jn (mrgK a b) (mrgK b c) = some (mrgK a c)
  | n, a, b, c, hn, ha, hb, hc => by
    by_cases h0 : a.map Ro.p ++ (b.map Ro.p ++ c.map Ro.p) = []
    · simp only [List.append_eq_nil_iff, List.map_eq_nil_iff] at h0
      obtain ⟨rfl, rfl, rfl⟩ := h0
      rw [mrgK_nil, jn_nil]
    · obtain ⟨p, hp, hl⟩ := least_ex _ h0
      have la : ∀ q ∈ a.map Ro.p, befP q p = false := fun q hq => hl q (by simp only [List.mem_append]; exact .inl hq)
      have lb : ∀ q ∈ b.map Ro.p, befP q p = false := fun q hq => hl q (by simp only [List.mem_append]; exact .inr (.inl hq))
      have lc : ∀ q ∈ c.map Ro.p, befP q p = false := fun q hq => hl q (by simp only [List.mem_append]; exact .inr (.inr hq))
      have d1 := drop_leR (a := a) (p := p)
      have d2 := drop_leR (a := b) (p := p)
      have d3 := drop_leR (a := c) (p := p)
      have hlt : (dropP Ro.p p a).length + (dropP Ro.p p b).length + (dropP Ro.p p c).length < a.length + b.length + c.length := by
        simp only [List.mem_append] at hp
        rcases hp with h | h | h
        · have := drop_ltR ha h la; omega
        · have := drop_ltR hb h lb; omega
        · have := drop_ltR hc h lc; omega
      have above : ∀ (a b : List Ro), Tab a → Tab b → (∀ q ∈ a.map Ro.p, befP q p = false) → (∀ q ∈ b.map Ro.p, befP q p = false) → ∀ q ∈ (mrgK (dropP Ro.p p a) (dropP Ro.p p b)).map atC, befP p q = true := by
        intro a b ta tb h1 h2 q hq
        rcases (mrgK_snd _ _ ta.drop tb.drop).2.2 q hq with h | h
        · exact drop_above ta.srt h1 q h
        · exact drop_above tb.srt h2 q h
      rw [mrgK_at ha hb la lb, mrgK_at hb hc lb lc, mrgK_at ha hc la lc]
      cases n with
      | zero => omega
      | succ n => exact jn_join head_key head_key head_key (above a b ha hb la lb) (above b c hb hc lb lc) (jn_mrgK n _ _ _ (by omega) ha.drop hb.drop hc.drop)
theorem join_mrgK {a b c : List Ro} (ha : Tab a) (hb : Tab b) (hc : Tab c) : joinV (mrgK a b) (mrgK b c) = (mrgK a c, 0) := by
  unfold joinV
  rw [mrgK_sound ha hb, mrgK_sound hb hc, jn_mrgK _ a b c (Nat.le_refl _) ha hb hc]
  rfl
theorem join_back {a b : List Ro} (ha : Tab a) (hb : Tab b) : joinV (mrgK a b) ((mrgK a b).map bk) = ([], 0) := by
  rw [mrgK_back a b ha.ne hb.ne, join_mrgK ha hb ha, mrgK_self]
theorem back_fit {a b : List Ro} (ha : Tab a) (hb : Tab b) : ∀ (i : Nat) r, ((mrgK a b).map bk)[i]? = some r → FitC r := by
  rw [mrgK_back a b ha.ne hb.ne]
  exact fun i r hr => ((mrgK_snd b a hb ha).2.1 r (List.mem_of_getElem? hr)).2
end Go.Proofs.Ytpnhkniegjfncaa
