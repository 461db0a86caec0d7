/- Plain lists with keys: two sorted lists are gone through by the least key that is left; no condition. -/
import Derived.Test.YtpnhkniegjfncaaD0
namespace Go.Proofs.Ytpnhkniegjfncaa
set_option linter.unusedVariables false

theorem bef_irr (p : Pf) : befP p p = false := by simp [befP]
theorem bef_trans {p q r : Pf} (h : befP p q = true) (k : befP q r = true) : befP p r = true := by
  simp only [befP, Bool.or_eq_true, Bool.and_eq_true, decide_eq_true_eq] at *
  omega
theorem bef_asym {p q : Pf} (h : befP p q = true) : befP q p = false := by
  cases hq : befP q p with
  | false => rfl
  | true => have := bef_trans h hq; rw [bef_irr] at this; cases this
theorem bef_ne {p q : Pf} (h : befP p q = true) : p ≠ q := by
  rintro rfl; rw [bef_irr] at h; cases h
theorem bef_total {p q : Pf} (h : befP p q = false) (k : befP q p = false) : p = q := by
  cases p; cases q
  simp only [befP, Bool.or_eq_false_iff, Bool.and_eq_false_iff, decide_eq_false_iff_not] at *
  simp only [Pf.mk.injEq]
  omega
theorem bef_lt_of {p q r : Pf} (h : befP p q = true) (k : befP r q = false) : befP p r = true := by
  simp only [befP, Bool.or_eq_true, Bool.and_eq_true, decide_eq_true_eq, Bool.or_eq_false_iff, Bool.and_eq_false_iff, decide_eq_false_iff_not] at *
  omega

/-- one look of 'next' -/
def nxt1 (first : Bool) (p : Pf) (best : Option Pf) (q : Pf) : Option Pf :=
  if (first || befP p q) && (match best with | none => true | some b => befP q b) then some q else best
def nxtP (ps : List Pf) (p : Pf) (first : Bool) : Option Pf := ps.foldl (nxt1 first p) none

/-- what 'next' has found is the least of those that it may take -/
def Least (first : Bool) (p : Pf) (seen : List Pf) : Option Pf → Prop
  | none => ∀ q ∈ seen, (first || befP p q) = false
  | some b => b ∈ seen ∧ (first || befP p b) = true ∧ ∀ q ∈ seen, (first || befP p q) = true → befP q b = false
theorem least_step {first : Bool} {p : Pf} {seen : List Pf} {best : Option Pf} {q : Pf} (h : Least first p seen best) : Least first p (seen ++ [q]) (nxt1 first p best q) := by
  unfold nxt1
  cases hq : (first || befP p q) with
  | false =>
    rw [Bool.false_and, if_neg (by simp)]
    cases best with
    | none =>
      intro r hr
      rcases List.mem_append.1 hr with hr | hr
      · exact h r hr
      · simp only [List.mem_singleton] at hr; subst hr; exact hq
    | some b =>
      obtain ⟨h1, h2, h3⟩ := h
      refine ⟨List.mem_append_left _ h1, h2, fun r hr k => ?_⟩
      rcases List.mem_append.1 hr with hr | hr
      · exact h3 r hr k
      · simp only [List.mem_singleton] at hr; subst hr; rw [hq] at k; cases k
  | true =>
    rw [Bool.true_and]
    cases best with
    | none =>
      rw [if_pos rfl]
      refine ⟨by simp, hq, fun r hr k => ?_⟩
      rcases List.mem_append.1 hr with hr | hr
      · have := h r hr; rw [this] at k; cases k
      · simp only [List.mem_singleton] at hr; subst hr; exact bef_irr _
    | some b =>
      obtain ⟨h1, h2, h3⟩ := h
      show Least first p (seen ++ [q]) (if befP q b = true then some q else some b)
      cases hb : befP q b with
      | true =>
        rw [if_pos rfl]
        refine ⟨by simp, hq, fun r hr k => ?_⟩
        rcases List.mem_append.1 hr with hr | hr
        · cases hc : befP r q with
          | false => rfl
          | true => have := h3 r hr k; rw [bef_trans hc hb] at this; cases this
        · simp only [List.mem_singleton] at hr; subst hr; exact bef_irr _
      | false =>
        rw [if_neg (by simp)]
        refine ⟨List.mem_append_left _ h1, h2, fun r hr k => ?_⟩
        rcases List.mem_append.1 hr with hr | hr
        · exact h3 r hr k
        · simp only [List.mem_singleton] at hr; subst hr; exact hb
theorem least_fold {first : Bool} {p : Pf} : ∀ (ps seen : List Pf) (best : Option Pf), Least first p seen best → Least first p (seen ++ ps) (ps.foldl (nxt1 first p) best)
  | [], seen, best, h => by simpa using h
  | q :: ps, seen, best, h => by
    have := least_fold ps (seen ++ [q]) _ (least_step (q := q) h)
    simpa using this
theorem nxtP_least (ps : List Pf) (p : Pf) (first : Bool) : Least first p ps (nxtP ps p first) := by
  have := least_fold (first := first) (p := p) ps [] none (fun q hq => by simp at hq)
  simpa [nxtP] using this

/-- the least key of two sorted lists -/
def hdK : List Pf → List Pf → Option Pf
  | [], [] => none
  | p :: _, [] => some p
  | [], q :: _ => some q
  | p :: _, q :: _ => if befP q p then some q else some p
def Srt (A : List Pf) : Prop := A.Pairwise fun p q => befP p q = true
theorem hdK_mem {A B : List Pf} {p : Pf} (h : hdK A B = some p) : p ∈ A ∨ p ∈ B := by
  cases A <;> cases B <;> simp only [hdK] at h
  · cases h
  · cases h; simp
  · cases h; simp
  · split at h <;> cases h <;> simp
theorem hdK_none {A B : List Pf} (h : hdK A B = none) : A = [] ∧ B = [] := by
  cases A <;> cases B <;> simp only [hdK] at h
  · exact ⟨rfl, rfl⟩
  · cases h
  · cases h
  · split at h <;> cases h
theorem hdK_le {A B : List Pf} {p : Pf} (h : hdK A B = some p) (sA : Srt A) (sB : Srt B) : (∀ q ∈ A, befP q p = false) ∧ (∀ q ∈ B, befP q p = false) := by
  have ha : ∀ {a : Pf} {A : List Pf}, Srt (a :: A) → ∀ q ∈ a :: A, befP q a = false := by
    intro a A s q hq
    rcases List.mem_cons.1 hq with rfl | hq
    · exact bef_irr _
    · exact bef_asym ((List.pairwise_cons.1 s).1 q hq)
  cases A with
  | nil =>
    cases B with
    | nil => cases h
    | cons b B =>
      simp only [hdK] at h; cases h
      exact ⟨fun q hq => by simp at hq, ha sB⟩
  | cons a A =>
    cases B with
    | nil =>
      simp only [hdK] at h; cases h
      exact ⟨ha sA, fun q hq => by simp at hq⟩
    | cons b B =>
      simp only [hdK] at h
      split at h
      · rename_i hab
        cases h
        refine ⟨fun q hq => ?_, ha sB⟩
        cases hc : befP q p with
        | false => rfl
        | true => have := ha sA q hq; rw [bef_trans hc hab] at this; cases this
      · rename_i hab
        simp only [Bool.not_eq_true] at hab
        cases h
        refine ⟨ha sA, fun q hq => ?_⟩
        cases hc : befP q p with
        | false => rfl
        | true => have := bef_lt_of hc hab; have k := ha sB q hq; rw [this] at k; cases k
/-- 'next' over keys of which just those of A and B may be taken -/
theorem nxt_hd {ps A B : List Pf} {p : Pf} {first : Bool} (sA : Srt A) (sB : Srt B) (h1 : ∀ q ∈ ps, (first || befP p q) = true → q ∈ A ∨ q ∈ B) (h2 : ∀ q, q ∈ A ∨ q ∈ B → q ∈ ps ∧ (first || befP p q) = true) : nxtP ps p first = hdK A B := by
  have hl := nxtP_least ps p first
  cases hh : hdK A B with
  | none =>
    obtain ⟨rfl, rfl⟩ := hdK_none hh
    cases hn : nxtP ps p first with
    | none => rfl
    | some b =>
      rw [hn] at hl
      have := h1 b hl.1 hl.2.1
      simp at this
  | some m =>
    have hm := h2 m (hdK_mem hh)
    have hle := hdK_le hh sA sB
    cases hn : nxtP ps p first with
    | none =>
      rw [hn] at hl
      have := hl m hm.1
      rw [hm.2] at this; cases this
    | some b =>
      rw [hn] at hl
      congr 1
      refine bef_total ?_ (hl.2.2 m hm.1 hm.2)
      rcases h1 b hl.1 hl.2.1 with hb | hb
      · exact hle.1 b hb
      · exact hle.2 b hb

section
variable {α : Type} (k : α → Pf)
/-- the first, if its key is p -/
def headP (p : Pf) : List α → Option α
  | [] => none
  | x :: _ => if k x = p then some x else none
def dropP (p : Pf) : List α → List α
  | [] => []
  | x :: t => if k x = p then t else x :: t
variable {k}
theorem dropP_map {p : Pf} : ∀ a : List α, (dropP k p a).map k = dropP id p (a.map k)
  | [] => rfl
  | x :: t => by
    simp only [dropP, List.map_cons, id]
    split <;> simp
theorem srt_drop {p : Pf} {a : List α} (s : Srt (a.map k)) : Srt ((dropP k p a).map k) := by
  cases a with
  | nil => exact s
  | cons x t =>
    simp only [dropP]
    split
    · exact (List.pairwise_cons.1 s).2
    · exact s
/-- what is left behind the least key lies above it -/
theorem drop_above {p : Pf} {a : List α} (s : Srt (a.map k)) (h : ∀ q ∈ a.map k, befP q p = false) : ∀ q ∈ (dropP k p a).map k, befP p q = true := by
  cases a with
  | nil => intro q hq; simp [dropP] at hq
  | cons x t =>
    simp only [dropP]
    split
    · rename_i hx
      subst hx
      exact (List.pairwise_cons.1 s).1
    · rename_i hx
      have hpx : befP p (k x) = true := by
        cases hc : befP p (k x) with
        | true => rfl
        | false => exact absurd (bef_total (h (k x) (by simp)) hc) hx
      intro q hq
      rw [List.map_cons, List.mem_cons] at hq
      rcases hq with rfl | hq
      · exact hpx
      · exact bef_trans hpx ((List.pairwise_cons.1 s).1 q hq)
theorem drop_mem {p : Pf} {a : List α} : ∀ q ∈ (dropP k p a).map k, q ∈ a.map k := by
  cases a with
  | nil => intro q hq; exact hq
  | cons x t =>
    simp only [dropP]
    split
    · intro q hq; exact List.mem_cons_of_mem _ hq
    · intro q hq; exact hq
theorem mem_drop {p : Pf} {a : List α} : ∀ q ∈ a.map k, q = p ∨ q ∈ (dropP k p a).map k := by
  cases a with
  | nil => intro q hq; simp at hq
  | cons x t =>
    simp only [dropP]
    intro q hq
    rw [List.map_cons, List.mem_cons] at hq
    split
    · rename_i hx
      rcases hq with rfl | hq
      · exact .inl hx
      · exact .inr hq
    · exact .inr (by rw [List.map_cons, List.mem_cons]; exact hq)
/-- a search by key -/
theorem find_head {p : Pf} {l a : List α} (s : Srt (a.map k)) (hl : ∀ x ∈ l, befP (k x) p = true) (h : ∀ q ∈ a.map k, befP q p = false) : (l ++ a).find? (fun x => decide (k x = p)) = headP k p a := by
  rw [List.find?_append]
  have h1 : l.find? (fun x => decide (k x = p)) = none := by
    rw [List.find?_eq_none]
    intro x hx
    simpa using bef_ne (hl x hx)
  rw [h1, Option.none_or]
  cases a with
  | nil => rfl
  | cons x t =>
    simp only [headP]
    split
    · rename_i hx; rw [List.find?_cons_of_pos (by simpa using hx)]
    · rename_i hx
      rw [List.find?_eq_none]
      intro y hy
      have := drop_above (k := k) (p := p) s h (k y)
      simp only [dropP, if_neg hx] at this
      simpa using (bef_ne (this (List.mem_map_of_mem hy))).symm
end

/-- where a joint walk through two lists with keys stands -/
structure Stand {α β : Type} (ka : α → Pf) (kb : β → Pf) (xs : List α) (ys : List β) (a : List α) (b : List β) : Prop where
  sa : Srt (a.map ka)
  sb : Srt (b.map kb)
  left : ∃ l r, xs = l ++ a ∧ ys = r ++ b ∧ ∀ p, hdK (a.map ka) (b.map kb) = some p → (∀ x ∈ l, befP (ka x) p = true) ∧ (∀ y ∈ r, befP (kb y) p = true)
section
variable {α β : Type} {ka : α → Pf} {kb : β → Pf} {xs a : List α} {ys b : List β} {p : Pf}
theorem Stand.start (sx : Srt (xs.map ka)) (sy : Srt (ys.map kb)) : Stand ka kb xs ys xs ys := ⟨sx, sy, [], [], rfl, rfl, fun _ _ => ⟨fun _ h => by simp at h, fun _ h => by simp at h⟩⟩
theorem first_hd (sx : Srt (xs.map ka)) (sy : Srt (ys.map kb)) : nxtP (xs.map ka ++ ys.map kb) p true = hdK (xs.map ka) (ys.map kb) :=
  nxt_hd sx sy (fun q hq _ => List.mem_append.1 hq) (fun q hq => ⟨List.mem_append.2 hq, rfl⟩)
theorem Stand.finda (h : Stand ka kb xs ys a b) (hp : hdK (a.map ka) (b.map kb) = some p) : xs.find? (fun x => decide (ka x = p)) = headP ka p a := by
  obtain ⟨l, r, rfl, rfl, hlr⟩ := h.left
  exact find_head h.sa (hlr p hp).1 (hdK_le hp h.sa h.sb).1
theorem Stand.findb (h : Stand ka kb xs ys a b) (hp : hdK (a.map ka) (b.map kb) = some p) : ys.find? (fun x => decide (kb x = p)) = headP kb p b := by
  obtain ⟨l, r, rfl, rfl, hlr⟩ := h.left
  exact find_head h.sb (hlr p hp).2 (hdK_le hp h.sa h.sb).2
theorem take_drop : ∃ l, a = l ++ dropP ka p a ∧ ∀ x ∈ l, ka x = p := by
  cases a with
  | nil => exact ⟨[], rfl, fun x hx => by simp at hx⟩
  | cons x t =>
    simp only [dropP]
    split
    · rename_i hx; exact ⟨[x], rfl, fun y hy => by simp at hy; rw [hy]; exact hx⟩
    · exact ⟨[], rfl, fun y hy => by simp at hy⟩
theorem Stand.step (h : Stand ka kb xs ys a b) (hp : hdK (a.map ka) (b.map kb) = some p) : Stand ka kb xs ys (dropP ka p a) (dropP kb p b) := by
  have hle := hdK_le hp h.sa h.sb
  have ua := drop_above h.sa hle.1
  have ub := drop_above h.sb hle.2
  refine ⟨srt_drop h.sa, srt_drop h.sb, ?_⟩
  obtain ⟨l, r, rfl, rfl, hlr⟩ := h.left
  obtain ⟨l2, e2, h2⟩ := take_drop (ka := ka) (p := p) (a := a)
  obtain ⟨r2, f2, k2⟩ := take_drop (ka := kb) (p := p) (a := b)
  refine ⟨l ++ l2, r ++ r2, by rw [List.append_assoc, ← e2], by rw [List.append_assoc, ← f2], fun q hq => ?_⟩
  have hpq : befP p q = true := by
    rcases hdK_mem hq with hm | hm
    · exact ua q hm
    · exact ub q hm
  refine ⟨fun x hx => ?_, fun y hy => ?_⟩
  · rcases List.mem_append.1 hx with hx | hx
    · exact bef_trans ((hlr p hp).1 x hx) hpq
    · rw [h2 x hx]; exact hpq
  · rcases List.mem_append.1 hy with hy | hy
    · exact bef_trans ((hlr p hp).2 y hy) hpq
    · rw [k2 y hy]; exact hpq
theorem Stand.next (h : Stand ka kb xs ys a b) (hp : hdK (a.map ka) (b.map kb) = some p) : nxtP (xs.map ka ++ ys.map kb) p false = hdK ((dropP ka p a).map ka) ((dropP kb p b).map kb) := by
  have hle := hdK_le hp h.sa h.sb
  have ua := drop_above h.sa hle.1
  have ub := drop_above h.sb hle.2
  obtain ⟨l, r, rfl, rfl, hlr⟩ := h.left
  refine nxt_hd (srt_drop h.sa) (srt_drop h.sb) (fun q hq hb => ?_) (fun q hq => ?_)
  · rw [Bool.false_or] at hb
    have nb : ∀ q', befP q' p = true → q = q' → False := fun q' h1 h2 => by subst h2; rw [bef_asym h1] at hb; cases hb
    simp only [List.map_append, List.mem_append] at hq
    rcases hq with (hq | hq) | (hq | hq)
    · obtain ⟨x, hx, rfl⟩ := List.mem_map.1 hq; exact (nb _ ((hlr p hp).1 x hx) rfl).elim
    · rcases mem_drop (k := ka) (p := p) q hq with rfl | hq
      · rw [bef_irr] at hb; cases hb
      · exact .inl hq
    · obtain ⟨x, hx, rfl⟩ := List.mem_map.1 hq; exact (nb _ ((hlr p hp).2 x hx) rfl).elim
    · rcases mem_drop (k := kb) (p := p) q hq with rfl | hq
      · rw [bef_irr] at hb; cases hb
      · exact .inr hq
  · rcases hq with hq | hq
    · exact ⟨by simp only [List.map_append, List.mem_append]; exact .inl (.inr (drop_mem q hq)), ua q hq⟩
    · exact ⟨by simp only [List.map_append, List.mem_append]; exact .inr (.inr (drop_mem q hq)), ub q hq⟩
theorem drop_lt (hp : hdK (a.map ka) (b.map kb) = some p) : (dropP ka p a).length + (dropP kb p b).length < a.length + b.length := by
  have la : (dropP ka p a).length ≤ a.length := by cases a with
    | nil => exact Nat.le_refl _
    | cons x t => simp only [dropP]; split <;> simp
  have lb : (dropP kb p b).length ≤ b.length := by cases b with
    | nil => exact Nat.le_refl _
    | cons x t => simp only [dropP]; split <;> simp
  rcases List.mem_append.1 (show p ∈ (a.map ka).take 1 ++ (b.map kb).take 1 from by
    cases a <;> cases b <;> simp only [List.map_nil, List.map_cons, hdK] at hp <;> simp
    · cases hp
    · cases hp; rfl
    · cases hp; rfl
    · split at hp <;> cases hp <;> simp) with h | h
  · cases a with
    | nil => simp at h
    | cons x t =>
      simp at h
      have : (dropP ka p (x :: t)).length < (x :: t).length := by simp [dropP, h]
      omega
  · cases b with
    | nil => simp at h
    | cons x t =>
      simp at h
      have : (dropP kb p (x :: t)).length < (x :: t).length := by simp [dropP, h]
      omega
end

end Go.Proofs.Ytpnhkniegjfncaa
