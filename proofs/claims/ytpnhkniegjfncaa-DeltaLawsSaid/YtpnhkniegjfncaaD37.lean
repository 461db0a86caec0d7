/- What Apply's table stays: sorted behind an insertion at the cut, a deletion, an exchange of one route; plain laws, no condition. -/
import Derived.Test.YtpnhkniegjfncaaD36
namespace Go.Proofs.Ytpnhkniegjfncaa
set_option linter.unusedVariables false

theorem hit_at {xs : List Ro} {p : Pf} {k : Nat} {r : Ro} (hx : xs[k]? = some r) (hb : befP r.p p = false) : hitP xs p k = decide (r.p = p) := by
  unfold hitP
  rw [hx]
  show (cmpA r.p p == 0) = _
  unfold cmpA
  rw [hb]
  cases h2 : befP p r.p with
  | true =>
    have : r.p ≠ p := fun e => by rw [e, bef_irr] at h2; cases h2
    simp [this]
  | false =>
    have := bef_total hb h2
    simp [this]
theorem cut_after {xs : List Ro} {p : Pf} {k : Nat} (hs : Srt (xs.map Ro.p)) (hc : Cut xs p k) (hh : hitP xs p k = false) {j : Nat} {r : Ro} (hx : xs[j]? = some r) (hj : k ≤ j) : befP p r.p = true := by
  cases h2 : befP p r.p with
  | true => rfl
  | false =>
    exfalso
    have h1 := hc.2.2 j r hx hj
    have he := bef_total h1 h2
    rcases Nat.lt_or_ge k j with h3 | h3
    · have hk : k < xs.length := Nat.lt_trans h3 (List.getElem?_eq_some_iff.1 hx).1
      have h4 := srt_at hs (List.getElem?_eq_getElem hk) hx h3
      rw [he, hc.2.2 k _ (List.getElem?_eq_getElem hk) (Nat.le_refl _)] at h4
      cases h4
    · obtain rfl : j = k := by omega
      rw [hit_at hx h1] at hh
      simp [he] at hh
theorem srt_ins {xs : List Ro} {n : Ro} {k : Nat} (hs : Srt (xs.map Ro.p)) (hc : Cut xs n.p k) (hh : hitP xs n.p k = false) : Srt ((xs.take k ++ n :: xs.drop k).map Ro.p) := by
  unfold Srt at *
  rw [List.map_append, List.map_cons, List.pairwise_append, List.pairwise_cons]
  have hA : ∀ a ∈ (xs.take k).map Ro.p, befP a n.p = true := by
    intro a ha
    obtain ⟨r, hr, rfl⟩ := List.mem_map.1 ha
    obtain ⟨i, hi⟩ := List.mem_iff_getElem?.1 hr
    rw [List.getElem?_take] at hi
    split at hi
    · exact hc.2.1 i r hi (by assumption)
    · cases hi
  have hB : ∀ b ∈ (xs.drop k).map Ro.p, befP n.p b = true := by
    intro b hb
    obtain ⟨r, hr, rfl⟩ := List.mem_map.1 hb
    obtain ⟨i, hi⟩ := List.mem_iff_getElem?.1 hr
    rw [List.getElem?_drop] at hi
    exact cut_after (by exact hs) hc hh hi (by omega)
  refine ⟨hs.sublist ((List.take_sublist k xs).map _), ⟨hB, hs.sublist ((List.drop_sublist k xs).map _)⟩, fun a ha b hb => ?_⟩
  rcases List.mem_cons.1 hb with rfl | hb
  · exact hA a ha
  · exact bef_trans (hA a ha) (hB b hb)
theorem srt_del {xs : List Ro} {k : Nat} (hs : Srt (xs.map Ro.p)) : Srt ((xs.eraseIdx k).map Ro.p) := by
  unfold Srt at *
  exact hs.sublist ((List.eraseIdx_sublist xs k).map _)
theorem srt_set {xs : List Ro} {k : Nat} {r n : Ro} (hs : Srt (xs.map Ro.p)) (hx : xs[k]? = some r) (he : r.p = n.p) : Srt ((xs.set k n).map Ro.p) := by
  have : (xs.set k n).map Ro.p = xs.map Ro.p := by
    rw [List.map_set, ← he]
    refine List.ext_getElem? fun i => ?_
    rw [List.getElem?_set]
    split
    · next h => subst h; rw [List.getElem?_map, hx]; have := (List.getElem?_eq_some_iff.1 hx).1; simp [this]
    · rfl
  rw [this]
  exact hs
end Go.Proofs.Ytpnhkniegjfncaa
