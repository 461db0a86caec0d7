/- The walk along all ways as a function on plain data; what stays as it is in it; no condition. -/
import Derived.Test.YtpklcefiabjplaaR18
namespace Go.Proofs.Ytpklcefiabjplaa
open Go.ChangeShapes Go.WideShapes Go.ChangeAt Go.RowKit
set_option linter.unusedVariables false
set_option linter.unusedSimpArgs false
attribute [local go_sem] Og.Opt Og.OpY

attribute [local go_sem] Og.Opt Og.OpY
/-- blocks of these kinds stay as they are -/
def Sm (P : TypeId → Prop) (w w2 : World) : Prop := w.heap.size ≤ w2.heap.size ∧ ∀ (k : Nat) (cur : Array Value) (t : TypeId), w.heap[k]? = some (.cells cur t (0, 0)) → P t → w2.heap[k]? = some (.cells cur t (0, 0))
theorem Sm.own {P : TypeId → Prop} {w w2 : World} {base e sz n : Nat} {v : Value} {xs : List Value} (s : Sm P w w2) (h : w.ownsRow base e sz v n xs) (hp : P e) : w2.ownsRow base e sz v n xs := by
  refine ⟨h.1, ?_⟩
  rcases h.2 with h0 | ⟨g, cap, cur, rfl, hb, hg, r⟩
  · exact .inl h0
  · exact .inr ⟨g, cap, cur, rfl, hb, s.2 g cur e hg hp, r⟩
theorem Sm.trans {P : TypeId → Prop} {w w1 w2 : World} (a : Sm P w w1) (b : Sm P w1 w2) : Sm P w w2 := ⟨Nat.le_trans a.1 b.1, fun k cur t h hp => b.2 k cur t (a.2 k cur t h hp) hp⟩
theorem Vw.sm {V : Nat} {w w2 : World} {vs : List Value} {xss : List (List Lk)} (H : Vw V w vs xss) (s : Sm (fun t => t = 70 ∨ t = 43) w w2) : Vw V w2 vs xss := ⟨s.2 _ _ _ H.blk (.inl rfl), H.nv, H.nx, fun j v xs h1 h2 => s.own (H.own j v xs h1 h2) (.inr rfl), H.sep⟩
theorem Fx.sm {F E : Nat} {w w2 : World} {vs : List Value} {fr : List (List (Nat × Nat))} {er : Int} (H : Fx F E w vs fr er) (s : Sm (fun t => t = 88 ∨ t = 26 ∨ t = 39) w w2) : Fx F E w2 vs fr er := ⟨H.fe, s.2 _ _ _ H.blk (.inl rfl), s.2 _ _ _ H.ek (.inr (.inl rfl)), H.nv, H.nx, fun j v f h1 h2 => s.own (H.own j v f h1 h2) (.inr (.inr rfl)), H.sep⟩
theorem Wy.sm {b : Nat} {w w2 : World} {v : Value} {xs : List La} (H : Wy b w v xs) (s : Sm (fun t => t = 131 ∨ t = 91) w w2) : Wy b w2 v xs := ⟨s.2 _ _ _ H.blk (.inl rfl), s.own H.own (.inr rfl)⟩
theorem Sm.of {P : TypeId → Prop} {w w2 : World} (hb : Below w.heap.size w w2) : Sm P w w2 := ⟨hb.size, fun k cur t h _ => heap_keep hb h⟩
/-- what put and take leave -/
theorem Wy.leave {b : Nat} {w w2 : World} {v : Value} {xs : List La} {P : TypeId → Prop} (H : Wy b w v xs) (f : Fr b v w w2) (h1 : ¬ P 131) (h2 : ¬ P 91) : Sm P w w2 := by
  refine ⟨f.bel.size, fun k cur t h hp => f.keep h (fun e => ?_) (fun e => ?_)⟩
  · subst e
    rw [H.blk] at h
    cases h
    exact h1 hp
  · exact own_at H.own h (fun e2 => h2 (by rw [e2]; exact hp)) e
/-- what keep leaves -/
theorem Kf.leave {F E : Nat} {w w2 : World} {vs : List Value} {fr : List (List (Nat × Nat))} {er : Int} {P : TypeId → Prop} (H : Fx F E w vs fr er) (k : Kf F E w w2) (h1 : ¬ P 39) (h2 : ¬ P 88) (h3 : ¬ P 26) : Sm P w w2 := by
  refine ⟨k.bel.size, fun j cur t h hp => k.oth j cur t h (fun e => h1 (by rw [← e]; exact hp)) (fun e => ?_) (fun e => ?_)⟩
  · subst e
    rw [H.blk] at h
    cases h
    exact h2 hp
  · subst e
    rw [H.ek] at h
    cases h
    exact h3 hp
def lkLa (l : La) (k : Lk) : La := ⟨l.r + k.c.toNat, l.i + k.d.toNat, k.t⟩
def putAll : List La → La → List Lk → Option (List La)
  | xs, _, [] => some xs
  | xs, l, k :: ks => if 0 ≤ k.c ∧ 0 ≤ k.d ∧ l.r + k.c.toNat ≤ big ∧ l.i + k.d.toNat ≤ big ∧ oks k.t = true ∧ xs.length ≤ 100000 then (putP xs (lkLa l k)).bind fun ys => putAll ys l ks else none
def walkP (out : List (List Lk)) : Nat → List La → List (List (Nat × Nat)) → Int → Option (List (List (Nat × Nat)) × Int)
  | 0, _, _, _ => none
  | f + 1, xs, fr, er => match xs.getLast? with
    | none => some (fr, er)
    | some l => if xs.length ≤ 100000 then
      match fr[l.n.toNat]? with
      | some fl => if (keepP fr er l fl).2.2.2 = true then some ((keepP fr er l fl).1, (keepP fr er l fl).2.1)
          else if (keepP fr er l fl).2.2.1 = true then
            match out[l.n.toNat]? with
            | some ks => (putAll xs.dropLast l ks).bind fun ys => walkP out f ys (keepP fr er l fl).1 (keepP fr er l fl).2.1
            | none => none
          else walkP out f xs.dropLast (keepP fr er l fl).1 (keepP fr er l fl).2.1
      | none => none
      else none
/-- fronts that hold no more than 64 pairs of small numbers -/
def FS (fr : List (List (Nat × Nat))) : Prop := ∀ (j : Nat) (f : List (Nat × Nat)), fr[j]? = some f → f.length ≤ 64 ∧ ∀ p ∈ f, p.1 ≤ big ∧ p.2 ≤ big
theorem keepP_FS {fr : List (List (Nat × Nat))} {er : Int} {l : La} {f : List (Nat × Nat)} (h : FS fr) (hl : LaS l) (hf : fr[l.n.toNat]? = some f) : FS (keepP fr er l f).1 := by
  have key : ∀ c : Bool, FS (if c = true then (fr, er, false, false) else if 64 ≤ f.length then (fr, (7 : Int), false, true) else (fr.set l.n.toNat (f ++ [(l.r, l.i)]), er, true, false)).1 := by
    intro c
    by_cases hc : c = true
    · rw [if_pos hc]; exact h
    · rw [if_neg hc]
      by_cases h64 : 64 ≤ f.length
      · rw [if_pos h64]; exact h
      · rw [if_neg h64]
        intro j g hg
        change (fr.set l.n.toNat (f ++ [(l.r, l.i)]))[j]? = some g at hg
        rw [List.getElem?_set] at hg
        split at hg
        · split at hg
          · cases hg
            refine ⟨by rw [List.length_append]; simp; omega, fun p hp => ?_⟩
            rcases List.mem_append.1 hp with h1 | h1
            · exact (h _ f hf).2 p h1
            · simp only [List.mem_cons, List.not_mem_nil, or_false] at h1
              subst h1
              exact ⟨hl.1.1, hl.1.2⟩
          · cases hg
        · exact h j g hg
  exact key _
theorem putP_LaS {xs ys : List La} {l : La} (hs : ∀ x ∈ xs, LaS x) (hl : LaS l) (h : putP xs l = some ys) : (∀ x ∈ ys, LaS x) ∧ ys.length = xs.length + 1 := by
  unfold putP at h
  rw [Option.map_eq_some_iff] at h
  obtain ⟨k, hk, rfl⟩ := h
  have hkn := bsP_le 64 0 xs.length (Nat.zero_le _) hk
  refine ⟨fun x hx => ?_, by rw [List.length_append, List.length_cons, List.length_take, List.length_drop]; omega⟩
  rcases List.mem_append.1 hx with h1 | h1
  · exact hs x (List.mem_of_mem_take h1)
  · rcases List.mem_cons.1 h1 with rfl | h2
    · exact hl
    · exact hs x (List.mem_of_mem_drop h2)
theorem putAll_some {xs ys : List La} {l : La} {k : Lk} {ks : List Lk} (h : putAll xs l (k :: ks) = some ys) : 0 ≤ k.c ∧ 0 ≤ k.d ∧ l.r + k.c.toNat ≤ big ∧ l.i + k.d.toNat ≤ big ∧ oks k.t = true ∧ xs.length ≤ 100000 ∧ ∃ zs, putP xs (lkLa l k) = some zs ∧ putAll zs l ks = some ys := by
  rw [putAll] at h
  split at h
  · rename_i hc
    rw [Option.bind_eq_some_iff] at h
    obtain ⟨h1, h2, h3, h4, h5, h6⟩ := hc
    exact ⟨h1, h2, h3, h4, h5, h6, h⟩
  · cases h
/-- the sum of two pairs -/
theorem pair_add {a b c d : Nat} (h1 : a + c ≤ big) (h2 : b + d ≤ big) : cSumBits .add .f64 (fb a) (fb b) (fb c) (fb d) = some (fb (a + c), fb (b + d)) := by
  have e1 := fb_add (a := a) (b := c) (by omega) (by omega) h1
  have e2 := fb_add (a := b) (b := d) (by omega) (by omega) h2
  unfold cSumBits floatBits
  simp only [e1, e2]
  rfl

end Go.Proofs.Ytpklcefiabjplaa
