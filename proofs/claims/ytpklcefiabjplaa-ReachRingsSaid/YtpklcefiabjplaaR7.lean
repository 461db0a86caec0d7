/- The view of a graph: the links of each node, out and in; conditions as stated. -/
import Derived.Test.YtpklcefiabjplaaR6
namespace Go.Proofs.Ytpklcefiabjplaa
open Go.ChangeShapes Go.WideShapes Go.ChangeAt Go.RowKit
set_option linter.unusedVariables false
set_option linter.unusedSimpArgs false
attribute [local go_sem] Og.Opt Og.OpY

attribute [local go_sem] Og.Opt Og.OpY
def oB : List Value := List.replicate 128 (Value.bool false)
theorem oB_len : oB.length = 128 := List.length_replicate
theorem oB_get {j : Nat} (hj : j < 128) : oB[j]? = some (Value.bool false) := List.getElem?_replicate_of_lt hj
/-- the view at V: no node is overloaded; slot j < 128 holds the links out of node j, slot 128 + j those into it -/
structure Vw (V : Nat) (w : World) (vs : List Value) (xss : List (List Lk)) : Prop where
  blk : w.heap[V]? = some (.cells (oB ++ vs).toArray 70 (0, 0))
  nv : vs.length = 256
  nx : xss.length = 256
  own : ∀ (j : Nat) (v : Value) (xs : List Lk), vs[j]? = some v → xss[j]? = some xs → w.ownsRow (V + 1) 43 4 v xs.length (xs.flatMap cLk)
  sep : ∀ (i j : Nat) (v u : Value), i ≠ j → vs[i]? = some v → vs[j]? = some u → v.ownBlock = none ∨ v.ownBlock ≠ u.ownBlock
section
variable {V : Nat} {w w2 : World} {vs : List Value} {xss : List (List Lk)}
theorem Vw.lt (H : Vw V w vs xss) : V < w.heap.size := (Array.getElem?_eq_some_iff.1 H.blk).1
theorem Vw.below (H : Vw V w vs xss) (hb : Below w.heap.size w w2) : Vw V w2 vs xss := ⟨heap_keep hb H.blk, H.nv, H.nx, fun j v xs h1 h2 => own_below (H.own j v xs h1 h2) hb, H.sep⟩
theorem Vw.slot (H : Vw V w vs xss) {j : Nat} {v : Value} (hv : vs[j]? = some v) : w.cell? ⟨V, 128 + j, none⟩ = some v := by
  rw [cell_of_row w V (128 + j) _ _ _ H.blk, List.getElem?_toArray, List.getElem?_append_right (by rw [oB_len]; omega), oB_len, Nat.add_sub_cancel_left]
  exact hv
theorem Vw.over (H : Vw V w vs xss) {j : Nat} (hj : j < 128) : w.cell? ⟨V, j, none⟩ = some (.bool false) := by
  rw [cell_of_row w V j _ _ _ H.blk, List.getElem?_toArray, List.getElem?_append_left (by rw [oB_len]; omega)]
  exact oB_get hj
theorem Vw.fz (H : Vw V w vs xss) (k : Nat) : w.frozen? ⟨V, k, none⟩ = false := by simp [World.frozen?, H.blk]
theorem Vw.at_ (H : Vw V w vs xss) {j : Nat} {xs : List Lk} (hx : xss[j]? = some xs) : ∃ v, vs[j]? = some v ∧ w.ownsRow (V + 1) 43 4 v xs.length (xs.flatMap cLk) := by
  have hj := (List.getElem?_eq_some_iff.1 hx).1
  obtain ⟨v, hv⟩ : ∃ v, vs[j]? = some v := ⟨_, List.getElem?_eq_getElem (by rw [H.nv, ← H.nx]; exact hj)⟩
  exact ⟨v, hv, H.own j v xs hv hx⟩
theorem Vw.app (H : Vw V w vs xss) {j : Nat} {v v' : Value} {xs ys : List Lk} (hv : vs[j]? = some v) (hx : xss[j]? = some xs) (hg : w.grownBy w2 v.ownBlock) (ho : w2.ownsRow (V + 1) 43 4 v' ys.length (ys.flatMap cLk)) (ha : v'.ownBlock = v.ownBlock ∨ ∃ g, v'.ownBlock = some g ∧ w.heap.size ≤ g) :
    Vw V (w2.setCell ⟨V, 128 + j, none⟩ v') (vs.set j v') (xss.set j ys) := by
  have hj := (List.getElem?_eq_some_iff.1 hv).1
  have hh := heap_grown hg H.blk (fun e => own_at (H.own j v xs hv hx) H.blk (by decide) e.symm)
  have key : ∀ {n : Nat} {u : Value} {zs : List Value}, w2.ownsRow (V + 1) 43 4 u n zs → (w2.setCell ⟨V, 128 + j, none⟩ v').ownsRow (V + 1) 43 4 u n zs := fun o => ownsRow_setCell_other o (own_at o hh (by decide)) _
  have sp : ∀ i u, i ≠ j → vs[i]? = some u → u.ownBlock = none ∨ u.ownBlock ≠ v'.ownBlock := by
    intro i u hi hu
    rcases ha with e | ⟨g, e, hgg⟩
    · rw [e]; exact H.sep i j u v hi hu hv
    · cases hb : u.ownBlock with
      | none => exact .inl rfl
      | some b =>
        refine .inr fun e2 => ?_
        rw [e] at e2
        cases e2
        obtain ⟨zs, hz⟩ : ∃ zs, xss[i]? = some zs := ⟨_, List.getElem?_eq_getElem (by have := (List.getElem?_eq_some_iff.1 hu).1; rw [H.nx, ← H.nv]; exact this)⟩
        have := ((H.own i u zs hu hz).lt _ hb).2
        omega
  refine ⟨?_, by simp [H.nv], by simp [H.nx], ?_, ?_⟩
  · rw [setCell_cells hh]
    have : (oB ++ vs).toArray.setIfInBounds (128 + j) v' = (oB ++ vs.set j v').toArray := by
      rw [List.setIfInBounds_toArray, List.set_append_right _ _ (by rw [oB_len]; omega), oB_len, Nat.add_sub_cancel_left]
    rw [this]
  · intro i u zs hu hz
    by_cases hi : i = j
    · subst hi
      rw [List.getElem?_set_self hj] at hu
      rw [List.getElem?_set_self (by rw [H.nx, ← H.nv]; exact hj)] at hz
      cases hu; cases hz
      exact key ho
    · rw [List.getElem?_set_ne (fun e => hi e.symm)] at hu hz
      exact key ((H.own i u zs hu hz).kept hg (H.sep i j u v hi hu hv))
  · intro i k u x hik hu hx'
    by_cases hi : i = j
    · subst hi
      rw [List.getElem?_set_self hj] at hu
      cases hu
      rw [List.getElem?_set_ne hik] at hx'
      rcases sp k x (fun e => hik e.symm) hx' with e | e
      · rw [e]
        cases hb : v'.ownBlock with
        | none => exact .inl rfl
        | some b => exact .inr (by simp)
      · exact .inr (fun e2 => e e2.symm)
    · rw [List.getElem?_set_ne (fun e => hi e.symm)] at hu
      by_cases hk : k = j
      · subst hk
        rw [List.getElem?_set_self hj] at hx'
        cases hx'
        exact sp i u hi hu
      · rw [List.getElem?_set_ne (fun e => hk e.symm)] at hx'
        exact H.sep i k u x hik hu hx'
end
/-- one more link in the view -/
def addL (xss : List (List Lk)) (l : Lk) : List (List Lk) :=
  let ys := xss.set l.f.toNat ((xss.getD l.f.toNat []) ++ [l])
  ys.set (128 + l.t.toNat) ((ys.getD (128 + l.t.toNat) []) ++ [l])
def viewL (ls : List Lk) : List (List Lk) := ls.foldl addL (List.replicate 256 [])
/-- the class of a region with one append (k2) and the new element's block ahead of it (k1) -/
def CA (W : World) (vo : Option Nat) (k1 k2 : Nat) (L : Array Value) (FIN : Value → World → Prop) : Og.Joint2.Cls := fun p vs w => W.grownBy w vo ∧ (p k2 = true → p k1 = true) ∧ (p k2 = false → Below W.heap.size W w) ∧
  (p k1 = true → ∃ g1, vs k1 = .slice (some ⟨g1, 0, none⟩) 1 1 ∧ W.heap.size ≤ g1 ∧ (p k2 = false → w.heap[g1]? = some (.cells L 43 (0, 0)))) ∧ (p k2 = true → FIN (vs k2) w)
section
variable {W w : World} {vo : Option Nat} {k1 k2 : Nat} {L : Array Value} {FIN : Value → World → Prop} {p : Nat → Bool} {vs : Nat → Value}
theorem CA.ini (h : Below W.heap.size W w) : CA W vo k1 k2 L FIN (fun _ => false) vs w := ⟨⟨h.os, h.tape, h.output, h.size, fun k hk _ => h.block k hk⟩, fun e => (by cases e), fun _ => h, fun e => (by cases e), fun e => (by cases e)⟩
theorem CA.other {i : Nat} {v : Value} (h1 : i ≠ k1) (h2 : i ≠ k2) (c : CA W vo k1 k2 L FIN p vs w) : CA W vo k1 k2 L FIN (Og.Joint2.pSet p i) (Og.Joint2.vSet vs i v) w := by
  have e : ∀ j, i ≠ j → Og.Joint2.pSet p i j = p j := fun j h => by simp [Og.Joint2.pSet, Ne.symm h]
  have f : ∀ j, i ≠ j → Og.Joint2.vSet vs i v j = vs j := fun j h => by simp [Og.Joint2.vSet, Ne.symm h]
  unfold CA
  rw [e _ h1, e _ h2, f _ h1, f _ h2]
  exact c
theorem CA.new (hp : p k1 = false) (hk : k1 ≠ k2) (c : CA W vo k1 k2 L FIN p vs w) : CA W vo k1 k2 L FIN (Og.Joint2.pSet p k1) (Og.Joint2.vSet vs k1 (.slice (some ⟨w.heap.size, 0, none⟩) 1 1)) (w.alloc (.cells L 43)) := by
  obtain ⟨c1, c2, c3, c4, c5⟩ := c
  have hp2 : p k2 = false := by
    cases h : p k2 with
    | false => rfl
    | true => have := c2 h; rw [hp] at this; cases this
  have b := c3 hp2
  have b2 := bthen b ((Below.refl _ _).alloc (Nat.le_refl _) (.cells L 43))
  have e2 : Og.Joint2.pSet p k1 k2 = p k2 := by simp [Og.Joint2.pSet, Ne.symm hk]
  refine ⟨⟨b2.os, b2.tape, b2.output, b2.size, fun k hk _ => b2.block k hk⟩, fun h => by simp [Og.Joint2.pSet], fun _ => b2, fun _ => ⟨w.heap.size, by simp [Og.Joint2.vSet], b.size, fun _ => heap_at rfl⟩, fun h => by rw [e2, hp2] at h; cases h⟩
theorem CA.done {v : Value} {w2 : World} (hk : k1 ≠ k2) (h1 : p k1 = true) (hp : p k2 = false) (c : CA W vo k1 k2 L FIN p vs w) (hg : w.grownBy w2 vo) (hf : FIN v w2) : CA W vo k1 k2 L FIN (Og.Joint2.pSet p k2) (Og.Joint2.vSet vs k2 v) w2 := by
  obtain ⟨c1, c2, c3, c4, c5⟩ := c
  have e1 : Og.Joint2.pSet p k2 k1 = p k1 := by simp [Og.Joint2.pSet, hk]
  have e2 : Og.Joint2.pSet p k2 k2 = true := by simp [Og.Joint2.pSet]
  have f1 : Og.Joint2.vSet vs k2 v k1 = vs k1 := by simp [Og.Joint2.vSet, hk]
  have f2 : Og.Joint2.vSet vs k2 v k2 = v := by simp [Og.Joint2.vSet]
  refine ⟨⟨hg.os.trans c1.os, hg.tape.trans c1.tape, hg.output.trans c1.output, Nat.le_trans c1.size hg.size, fun k hk hne => (hg.block k (Nat.lt_of_lt_of_le hk c1.size) hne).trans (c1.block k hk hne)⟩, fun _ => (by rw [e1]; exact h1), fun h => (by rw [e2] at h; cases h), fun _ => ?_, fun _ => (by rw [f2]; exact hf)⟩
  obtain ⟨g1, a, b, _⟩ := c4 h1
  exact ⟨g1, (by rw [f1]; exact a), b, fun h => (by rw [e2] at h; cases h)⟩
end
theorem optB_appR {ops : Array Oper} {o : Oper} {a : Act} {w w' : World} {R : Value → World → Prop} {s x : Operand} {t : TypeId} {v u v' : Value} (hw : Region.wanted o (yielded ops a.tmps) = true) (ho : o.op = .call { callee := .builtin .append, args := #[s, x], argTypes := #[t, t] }) (hs : a.eval s = v) (hx : a.eval x = u)
    (hr : (Builtin.append_ #[t, t] o.type #[v, u]).run Try.prog w = .ok v' w') (hR : R v' w') : Og.OptB Try.prog ops o a w R := by
  refine ⟨opt_of_wanted hw ?_⟩
  unfold Og.OpY execOp
  simp only [ho, resolve, invoke, builtin, Sem.run_bind, Sem.run_pure, Result.andThen_ok, List.map_toArray, List.map_cons, List.map_nil, hs, hx, hr]
  exact hR
theorem run_appLk {w : World} (base g : Nat) (ty : TypeId) (v : Value) (pre : List Lk) (r : Lk) (hown : w.ownsRow base 43 4 v pre.length (pre.flatMap cLk)) (hg : w.heap[g]? = some (.cells (cLk r).toArray 43 (0, 0))) (hl : pre.length ≤ 1172812402926) (hbase : base ≤ w.heap.size) :
    ∃ v' w', (Builtin.append_ #[30, 30] ty #[v, .slice (some ⟨g, 0, none⟩) 1 1]).run Try.prog w = .ok v' w' ∧ w'.ownsRow base 43 4 v' (pre ++ [r]).length ((pre ++ [r]).flatMap cLk) ∧ w.grownBy w' v.ownBlock ∧ (v'.ownBlock = v.ownBlock ∨ v'.ownBlock = some w.heap.size) := by
  obtain ⟨i, hi, hz, hsz, hby⟩ := info_parts info43
  obtain ⟨v', w', h1, h2, h3, _, h5⟩ := run_append_own_at (P := Try.prog) (w := w) base 30 ty 43 i _ 4 32 Try.underlying30 hi hz hsz hby rfl (by omega) v pre.length (pre.flatMap cLk) hown ⟨g, 0, none⟩ 1 1 (cLk r) (by rw [cLk_len]) (news_heap hg) (cLk_one r) (by have := maxLen_ge; omega) (by omega) hbase
  exact ⟨v', w', h1, snocLk h2, h3, h5⟩

end Go.Proofs.Ytpklcefiabjplaa
