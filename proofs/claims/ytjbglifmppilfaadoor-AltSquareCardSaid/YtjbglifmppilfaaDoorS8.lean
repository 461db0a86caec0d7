/- The view of a graph: the links of each node, out and in; conditions as stated. full.Of makes the view of a graph; conditions as stated. The tree of nearest ways as a function on plain data; what its walk keeps; no condition. -/
import Derived.Test.YtjbglifmppilfaaDoorS7
namespace Go.Proofs.YtjbglifmppilfaaDoor
open Go.ChangeShapes Go.WideShapes Go.ChangeAt Go.RowKit
set_option linter.unusedVariables false
set_option linter.unusedSimpArgs false
attribute [local go_sem] Og.Opt Og.OpY

attribute [local go_sem] Og.Opt Og.OpY
def oB : List Value := List.replicate 128 (Value.bool false)
theorem oB_len : oB.length = 128 := List.length_replicate
theorem oB_get {j : Nat} (hj : j < 128) : oB[j]? = some (Value.bool false) := List.getElem?_replicate_of_lt hj
/-- the view at V: no node is overloaded; slot j < 128 holds the links out of node j, slot 128 + j those into it -/
structure Vw (V : Nat) (w : World) (vs : List Value) (xss : List (List Lk)) : Prop where
  blk : w.heap[V]? = some (.cells (oB ++ vs).toArray 98 (0, 0))
  nv : vs.length = 256
  nx : xss.length = 256
  own : ∀ (j : Nat) (v : Value) (xs : List Lk), vs[j]? = some v → xss[j]? = some xs → w.ownsRow (V + 1) 45 4 v xs.length (xs.flatMap cLk)
  sep : ∀ (i j : Nat) (v u : Value), i ≠ j → vs[i]? = some v → vs[j]? = some u → v.ownBlock = none ∨ v.ownBlock ≠ u.ownBlock
section
variable {V : Nat} {w w2 : World} {vs : List Value} {xss : List (List Lk)}
theorem Vw.lt (H : Vw V w vs xss) : V < w.heap.size := (Array.getElem?_eq_some_iff.1 H.blk).1
theorem Vw.below (H : Vw V w vs xss) (hb : Below w.heap.size w w2) : Vw V w2 vs xss := ⟨heap_keep hb H.blk, H.nv, H.nx, fun j v xs h1 h2 => own_below (H.own j v xs h1 h2) hb, H.sep⟩
theorem Vw.slot (H : Vw V w vs xss) {j : Nat} {v : Value} (hv : vs[j]? = some v) : w.cell? ⟨V, 128 + j, none⟩ = some v := by
  rw [cell_of_row w V (128 + j) _ _ _ H.blk, List.getElem?_toArray, List.getElem?_append_right (by rw [oB_len]; omega), oB_len, Nat.add_sub_cancel_left]
  exact hv
theorem Vw.over (H : Vw V w vs xss) {j : Nat} (hj : j < 128) : w.cell? ⟨V, j, none⟩ = some (.bool false) := by
  rw [cell_of_row w V j _ _ _ H.blk, List.getElem?_toArray, List.getElem?_append_left (by rw [oB_len]; omega)]
  exact oB_get hj
theorem Vw.fz (H : Vw V w vs xss) (k : Nat) : w.frozen? ⟨V, k, none⟩ = false := by simp [World.frozen?, H.blk]
theorem Vw.at_ (H : Vw V w vs xss) {j : Nat} {xs : List Lk} (hx : xss[j]? = some xs) : ∃ v, vs[j]? = some v ∧ w.ownsRow (V + 1) 45 4 v xs.length (xs.flatMap cLk) := by
  have hj := (List.getElem?_eq_some_iff.1 hx).1
  obtain ⟨v, hv⟩ : ∃ v, vs[j]? = some v := ⟨_, List.getElem?_eq_getElem (by rw [H.nv, ← H.nx]; exact hj)⟩
  exact ⟨v, hv, H.own j v xs hv hx⟩
theorem Vw.app (H : Vw V w vs xss) {j : Nat} {v v' : Value} {xs ys : List Lk} (hv : vs[j]? = some v) (hx : xss[j]? = some xs) (hg : w.grownBy w2 v.ownBlock) (ho : w2.ownsRow (V + 1) 45 4 v' ys.length (ys.flatMap cLk)) (ha : v'.ownBlock = v.ownBlock ∨ ∃ g, v'.ownBlock = some g ∧ w.heap.size ≤ g) :
    Vw V (w2.setCell ⟨V, 128 + j, none⟩ v') (vs.set j v') (xss.set j ys) := by
  have hj := (List.getElem?_eq_some_iff.1 hv).1
  have hh := heap_grown hg H.blk (fun e => own_at (H.own j v xs hv hx) H.blk (by decide) e.symm)
  have key : ∀ {n : Nat} {u : Value} {zs : List Value}, w2.ownsRow (V + 1) 45 4 u n zs → (w2.setCell ⟨V, 128 + j, none⟩ v').ownsRow (V + 1) 45 4 u n zs := fun o => ownsRow_setCell_other o (own_at o hh (by decide)) _
  have sp : ∀ i u, i ≠ j → vs[i]? = some u → u.ownBlock = none ∨ u.ownBlock ≠ v'.ownBlock := by
    intro i u hi hu
    rcases ha with e | ⟨g, e, hgg⟩
    · rw [e]; exact H.sep i j u v hi hu hv
    · cases hb : u.ownBlock with
      | none => exact .inl rfl
      | some b =>
        refine .inr fun e2 => ?_
        rw [e] at e2
        cases e2
        obtain ⟨zs, hz⟩ : ∃ zs, xss[i]? = some zs := ⟨_, List.getElem?_eq_getElem (by have := (List.getElem?_eq_some_iff.1 hu).1; rw [H.nx, ← H.nv]; exact this)⟩
        have := ((H.own i u zs hu hz).lt _ hb).2
        omega
  refine ⟨?_, by simp [H.nv], by simp [H.nx], ?_, ?_⟩
  · rw [setCell_cells hh]
    have : (oB ++ vs).toArray.setIfInBounds (128 + j) v' = (oB ++ vs.set j v').toArray := by
      rw [List.setIfInBounds_toArray, List.set_append_right _ _ (by rw [oB_len]; omega), oB_len, Nat.add_sub_cancel_left]
    rw [this]
  · intro i u zs hu hz
    by_cases hi : i = j
    · subst hi
      rw [List.getElem?_set_self hj] at hu
      rw [List.getElem?_set_self (by rw [H.nx, ← H.nv]; exact hj)] at hz
      cases hu; cases hz
      exact key ho
    · rw [List.getElem?_set_ne (fun e => hi e.symm)] at hu hz
      exact key ((H.own i u zs hu hz).kept hg (H.sep i j u v hi hu hv))
  · intro i k u x hik hu hx'
    by_cases hi : i = j
    · subst hi
      rw [List.getElem?_set_self hj] at hu
      cases hu
      rw [List.getElem?_set_ne hik] at hx'
      rcases sp k x (fun e => hik e.symm) hx' with e | e
      · rw [e]
        cases hb : v'.ownBlock with
        | none => exact .inl rfl
        | some b => exact .inr (by simp)
      · exact .inr (fun e2 => e e2.symm)
    · rw [List.getElem?_set_ne (fun e => hi e.symm)] at hu
      by_cases hk : k = j
      · subst hk
        rw [List.getElem?_set_self hj] at hx'
        cases hx'
        exact sp i u hi hu
      · rw [List.getElem?_set_ne (fun e => hk e.symm)] at hx'
        exact H.sep i k u x hik hu hx'
end
/-- one more link in the view -/
def addL (xss : List (List Lk)) (l : Lk) : List (List Lk) :=
  let ys := xss.set l.f.toNat ((xss.getD l.f.toNat []) ++ [l])
  ys.set (128 + l.t.toNat) ((ys.getD (128 + l.t.toNat) []) ++ [l])
def viewL (ls : List Lk) : List (List Lk) := ls.foldl addL (List.replicate 256 [])
/-- the class of a region with one append (k2) and the new element's block ahead of it (k1) -/
def CA (W : World) (vo : Option Nat) (k1 k2 : Nat) (L : Array Value) (FIN : Value → World → Prop) : Og.Joint2.Cls := fun p vs w => W.grownBy w vo ∧ (p k2 = true → p k1 = true) ∧ (p k2 = false → Below W.heap.size W w) ∧
  (p k1 = true → ∃ g1, vs k1 = .slice (some ⟨g1, 0, none⟩) 1 1 ∧ W.heap.size ≤ g1 ∧ (p k2 = false → w.heap[g1]? = some (.cells L 45 (0, 0)))) ∧ (p k2 = true → FIN (vs k2) w)
section
variable {W w : World} {vo : Option Nat} {k1 k2 : Nat} {L : Array Value} {FIN : Value → World → Prop} {p : Nat → Bool} {vs : Nat → Value}
theorem CA.ini (h : Below W.heap.size W w) : CA W vo k1 k2 L FIN (fun _ => false) vs w := ⟨⟨h.os, h.tape, h.output, h.size, fun k hk _ => h.block k hk⟩, fun e => (by cases e), fun _ => h, fun e => (by cases e), fun e => (by cases e)⟩
theorem CA.other {i : Nat} {v : Value} (h1 : i ≠ k1) (h2 : i ≠ k2) (c : CA W vo k1 k2 L FIN p vs w) : CA W vo k1 k2 L FIN (Og.Joint2.pSet p i) (Og.Joint2.vSet vs i v) w := by
  have e : ∀ j, i ≠ j → Og.Joint2.pSet p i j = p j := fun j h => by simp [Og.Joint2.pSet, Ne.symm h]
  have f : ∀ j, i ≠ j → Og.Joint2.vSet vs i v j = vs j := fun j h => by simp [Og.Joint2.vSet, Ne.symm h]
  unfold CA
  rw [e _ h1, e _ h2, f _ h1, f _ h2]
  exact c
theorem CA.new (hp : p k1 = false) (hk : k1 ≠ k2) (c : CA W vo k1 k2 L FIN p vs w) : CA W vo k1 k2 L FIN (Og.Joint2.pSet p k1) (Og.Joint2.vSet vs k1 (.slice (some ⟨w.heap.size, 0, none⟩) 1 1)) (w.alloc (.cells L 45)) := by
  obtain ⟨c1, c2, c3, c4, c5⟩ := c
  have hp2 : p k2 = false := by
    cases h : p k2 with
    | false => rfl
    | true => have := c2 h; rw [hp] at this; cases this
  have b := c3 hp2
  have b2 := bthen b ((Below.refl _ _).alloc (Nat.le_refl _) (.cells L 45))
  have e2 : Og.Joint2.pSet p k1 k2 = p k2 := by simp [Og.Joint2.pSet, Ne.symm hk]
  refine ⟨⟨b2.os, b2.tape, b2.output, b2.size, fun k hk _ => b2.block k hk⟩, fun h => by simp [Og.Joint2.pSet], fun _ => b2, fun _ => ⟨w.heap.size, by simp [Og.Joint2.vSet], b.size, fun _ => heap_at rfl⟩, fun h => by rw [e2, hp2] at h; cases h⟩
theorem CA.done {v : Value} {w2 : World} (hk : k1 ≠ k2) (h1 : p k1 = true) (hp : p k2 = false) (c : CA W vo k1 k2 L FIN p vs w) (hg : w.grownBy w2 vo) (hf : FIN v w2) : CA W vo k1 k2 L FIN (Og.Joint2.pSet p k2) (Og.Joint2.vSet vs k2 v) w2 := by
  obtain ⟨c1, c2, c3, c4, c5⟩ := c
  have e1 : Og.Joint2.pSet p k2 k1 = p k1 := by simp [Og.Joint2.pSet, hk]
  have e2 : Og.Joint2.pSet p k2 k2 = true := by simp [Og.Joint2.pSet]
  have f1 : Og.Joint2.vSet vs k2 v k1 = vs k1 := by simp [Og.Joint2.vSet, hk]
  have f2 : Og.Joint2.vSet vs k2 v k2 = v := by simp [Og.Joint2.vSet]
  refine ⟨⟨hg.os.trans c1.os, hg.tape.trans c1.tape, hg.output.trans c1.output, Nat.le_trans c1.size hg.size, fun k hk hne => (hg.block k (Nat.lt_of_lt_of_le hk c1.size) hne).trans (c1.block k hk hne)⟩, fun _ => (by rw [e1]; exact h1), fun h => (by rw [e2] at h; cases h), fun _ => ?_, fun _ => (by rw [f2]; exact hf)⟩
  obtain ⟨g1, a, b, _⟩ := c4 h1
  exact ⟨g1, (by rw [f1]; exact a), b, fun h => (by rw [e2] at h; cases h)⟩
end
theorem optB_appR {ops : Array Oper} {o : Oper} {a : Act} {w w' : World} {R : Value → World → Prop} {s x : Operand} {t : TypeId} {v u v' : Value} (hw : Region.wanted o (yielded ops a.tmps) = true) (ho : o.op = .call { callee := .builtin .append, args := #[s, x], argTypes := #[t, t] }) (hs : a.eval s = v) (hx : a.eval x = u)
    (hr : (Builtin.append_ #[t, t] o.type #[v, u]).run Tryd.prog w = .ok v' w') (hR : R v' w') : Og.OptB Tryd.prog ops o a w R := by
  refine ⟨opt_of_wanted hw ?_⟩
  unfold Og.OpY execOp
  simp only [ho, resolve, invoke, builtin, Sem.run_bind, Sem.run_pure, Result.andThen_ok, List.map_toArray, List.map_cons, List.map_nil, hs, hx, hr]
  exact hR
theorem run_appLk {w : World} (base g : Nat) (ty : TypeId) (v : Value) (pre : List Lk) (r : Lk) (hown : w.ownsRow base 45 4 v pre.length (pre.flatMap cLk)) (hg : w.heap[g]? = some (.cells (cLk r).toArray 45 (0, 0))) (hl : pre.length ≤ 1172812402926) (hbase : base ≤ w.heap.size) :
    ∃ v' w', (Builtin.append_ #[39, 39] ty #[v, .slice (some ⟨g, 0, none⟩) 1 1]).run Tryd.prog w = .ok v' w' ∧ w'.ownsRow base 45 4 v' (pre ++ [r]).length ((pre ++ [r]).flatMap cLk) ∧ w.grownBy w' v.ownBlock ∧ (v'.ownBlock = v.ownBlock ∨ v'.ownBlock = some w.heap.size) := by
  obtain ⟨i, hi, hz, hsz, hby⟩ := info_parts info43
  obtain ⟨v', w', h1, h2, h3, _, h5⟩ := run_append_own_at (P := Tryd.prog) (w := w) base 39 ty 45 i _ 4 32 Tryd.underlying39 hi hz hsz hby rfl (by omega) v pre.length (pre.flatMap cLk) hown ⟨g, 0, none⟩ 1 1 (cLk r) (by rw [cLk_len]) (news_heap hg) (cLk_one r) (by have := maxLen_ge; omega) (by omega) hbase
  exact ⟨v', w', h1, snocLk h2, h3, h5⟩

end Go.Proofs.YtjbglifmppilfaaDoor
namespace Go.Proofs.YtjbglifmppilfaaDoor
open Go.ChangeShapes Go.WideShapes Go.ChangeAt Go.RowKit
set_option linter.unusedVariables false
set_option linter.unusedSimpArgs false
attribute [local go_sem] Og.Opt Og.OpY

def vs0 : List Value := List.replicate 256 (.slice none 0 0)
def xs0 : List (List Lk) := List.replicate 256 []
theorem Vw.zero {w : World} {V : Nat} (h : w.heap[V]? = some (.cells Tryd.zeroCells98 98 (0, 0))) : Vw V w vs0 xs0 := by
  have e : Tryd.zeroCells98 = (oB ++ vs0).toArray := by kernel_rfl
  have hv : ∀ (j : Nat) (v : Value), vs0[j]? = some v → v = .slice none 0 0 := fun j v hj => by
    unfold vs0 at hj
    rw [List.getElem?_replicate] at hj
    split at hj <;> simp_all
  refine ⟨by rw [← e]; exact h, List.length_replicate, List.length_replicate, fun j v xs hj hx => ?_, fun i j v u _ hi _ => .inl (by rw [hv i v hi]; rfl)⟩
  rw [hv j v hj]
  have : xs = [] := by
    unfold xs0 at hx
    rw [List.getElem?_replicate] at hx
    split at hx <;> simp_all
  subst this
  exact World.ownsRow_nil _ _ _ _
theorem ldLk {w : World} {b : Nat} {l : Lk} (h : w.heap[b]? = some (.cells (cLk l).toArray 45 (0, 0))) : (loadVar 45 ⟨b, 0, none⟩).run Tryd.prog w = .ok (.agg (cLk l).toArray) w := run_loadL isAgg43 size43 (cLk_len l) (AtL_heap h)
/-- what an append leaves -/
def FinL (V : Nat) (vo : Option Nat) (z : Nat) (ys : List Lk) (v2 : Value) (w2 : World) : Prop := w2.ownsRow (V + 1) 45 4 v2 ys.length (ys.flatMap cLk) ∧ (v2.ownBlock = vo ∨ ∃ g, v2.ownBlock = some g ∧ z ≤ g)
theorem viewL_succ {ls : List Lk} {k : Nat} {l : Lk} (h : ls[k]? = some l) : viewL (ls.take (k + 1)) = addL (viewL (ls.take k)) l := by
  unfold viewL
  have hk := (List.getElem?_eq_some_iff.1 h)
  rw [List.take_add_one, h, List.foldl_append]
  rfl
theorem viewL_len : ∀ (ls : List Lk) (xss : List (List Lk)), xss.length = 256 → (ls.foldl addL xss).length = 256
  | [], xss, h => h
  | l :: ls, xss, h => by
    rw [List.foldl_cons]
    exact viewL_len ls _ (by simp [addL, h])
theorem viewL_small (ls : List Lk) (j : Nat) (xs : List Lk) (h : (viewL ls)[j]? = some xs) : xs.length ≤ 2 * ls.length := by
  have key : ∀ (ls : List Lk) (xss : List (List Lk)) (n : Nat), (∀ (j : Nat) (xs : List Lk), xss[j]? = some xs → xs.length ≤ n) → ∀ (j : Nat) (xs : List Lk), (ls.foldl addL xss)[j]? = some xs → xs.length ≤ n + 2 * ls.length := by
    intro ls
    induction ls with
    | nil => intro xss n h j xs hj; exact Nat.le_trans (h j xs hj) (by omega)
    | cons l ls ih =>
      intro xss n h j xs hj
      rw [List.foldl_cons] at hj
      have := ih (addL xss l) (n + 2) (fun j xs hj => by
        have hg : ∀ (yss : List (List Lk)) (m i : Nat), (∀ (j : Nat) (xs : List Lk), yss[j]? = some xs → xs.length ≤ m) → ∀ (j : Nat) (xs : List Lk), (yss.set i (yss.getD i [] ++ [l]))[j]? = some xs → xs.length ≤ m + 1 := by
          intro yss m i hy j xs hj
          rw [List.getElem?_set] at hj
          split at hj
          · split at hj
            · cases hj
              rw [List.length_append, List.getD_eq_getElem?_getD]
              cases hz : yss[i]? with
              | none => simp
              | some zs => have := hy i zs hz; simp; omega
            · cases hj
          · have := hy j xs hj; omega
        exact hg _ (n + 1) _ (hg xss n _ h) j xs hj) j xs hj
      rw [List.length_cons]
      omega
  have := key ls (List.replicate 256 []) 0 (fun j xs hj => by
    rw [List.getElem?_replicate] at hj
    split at hj
    · cases hj; exact Nat.le_refl _
    · cases hj) j xs h
  omega
set_option maxRecDepth 100000 in
set_option maxHeartbeats 8000000 in
theorem full_Of_ok (ns : List Nd) (ls : List Lk) (va vb vc : Value) (w : World) (sa : Sl cNd 3 0 w va ns) (sb : Sl cLk 4 0 w vb ls) (hl1 : ns.length ≤ 1000) (hl2 : ls.length ≤ 10000) (hn : ∀ x ∈ ns, oks x.i = true) (hl : ∀ l ∈ ls, oks l.f = true ∧ oks l.t = true) :
    Calls Tryd.prog 47 #[.agg #[va, vb, vc]] w fun e w' => (∃ V vs, e = .returned (.pointer (some ⟨V, 0, none⟩)) ∧ w.heap.size ≤ V ∧ Vw V w' vs (viewL ls)) ∧ Below w.heap.size w w' := by
  obtain ⟨A1, c1, rfl, hr1, -⟩ := sa
  obtain ⟨A2, c2, rfl, hr2, -⟩ := sb
  obtain ⟨n1, hn1⟩ : ∃ n, n = ns.length := ⟨_, rfl⟩
  obtain ⟨n2, hn2⟩ : ∃ n, n = ls.length := ⟨_, rfl⟩
  rw [← hn1] at hl1 ⊢
  rw [← hn2] at hl2 ⊢
  have N1 := Lib.hid hn1
  have N2 := Lib.hid hn2
  have R1 := Lib.hid hr1
  have R2 := Lib.hid hr2
  have HN := Lib.hid hn
  have HL := Lib.hid hl
  obtain ⟨V, hV⟩ : ∃ V, V = w.heap.size + 1 := ⟨_, rfl⟩
  have HV := Lib.hid hV
  clear hr1 hr2 hn1 hn2 hn hl
  go_enter Tryd.func47, Tryd.ntmps47
  go_wp2_with fail
  rw [← hV]
  have k0 : ((w.alloc (.cells #[.slice A1 n1 c1, .slice A2 n2 c2, vc] 42)).alloc (.cells Tryd.zeroCells98 98)).heap[w.heap.size]? = some (.cells #[.slice A1 n1 c1, .slice A2 n2 c2, vc] 42 (0, 0)) := heap_keep ((Below.refl _ _).alloc (Nat.le_refl _) _) (heap_at rfl)
  have k1 : ((w.alloc (.cells #[.slice A1 n1 c1, .slice A2 n2 c2, vc] 42)).alloc (.cells Tryd.zeroCells98 98)).heap[V]? = some (.cells Tryd.zeroCells98 98 (0, 0)) := heap_at (by rw [hV]; simp)
  have bb : Below w.heap.size w ((w.alloc (.cells #[.slice A1 n1 c1, .slice A2 n2 c2, vc] 42)).alloc (.cells Tryd.zeroCells98 98)) := ((Below.refl _ _).alloc (Nat.le_refl _) _).alloc (by simp) _
  have hv0 := Lib.hid (Vw.zero k1)
  have hk0 := Lib.hid k0
  have hbb := Lib.hid bb
  generalize ((w.alloc (.cells #[.slice A1 n1 c1, .slice A2 n2 c2, vc] 42)).alloc (.cells Tryd.zeroCells98 98)) = wa at *
  clear k0 k1 bb hV
  go_loopw [13] (fun i wr => ∃ k : Nat, k ≤ n1 ∧ i = .int .i64 k ∧ Hid (Below w.heap.size w wr) ∧ Hid (Vw V wr vs0 xs0) ∧ Hid (wr.heap[w.heap.size]? = some (.cells #[.slice A1 n1 c1, .slice A2 n2 c2, vc] 42 (0, 0)))) (fun i _ => n1 - (intOf i).toNat)
  case atStart => exact ⟨0, Nat.zero_le _, rfl, hbb, hv0, hk0⟩
  case round =>
    clear hv0 hk0 hbb
    obtain ⟨k, hk, rfl, hb, hv, hg⟩ := hrel
    by_cases hlt : k < n1
    · have hwk1 : IntKind.i64.wrap ((k : Int) + 1) = (k : Int) + 1 := by rw [IntKind.wrap_i64]; omega
      have hk0 : (0 : Int) ≤ (k : Int) := by omega
      have hkn : (k : Int) < (n1 : Int) := by omega
      obtain ⟨x, hx⟩ : ∃ r, ns[k]? = some r := ⟨_, List.getElem?_eq_getElem (by rw [← N1.out]; exact hlt)⟩
      obtain ⟨b0, o0, rfl, hat⟩ := R1.out k x hx
      have r1 := Lib.hid (run_loadL isAgg41 size41 (cNd_len x) (hat.below hb.out))
      have ho := HN.out x (List.mem_of_getElem? hx)
      obtain ⟨m, hm⟩ : ∃ m : Nat, x.i = (m : Int) := ⟨x.i.toNat, by simp only [oks, Bool.and_eq_true, decide_eq_true_eq] at ho; omega⟩
      have hm8 : m < 128 := by simp only [oks, Bool.and_eq_true, decide_eq_true_eq] at ho; omega
      have hm0 : (0 : Int) ≤ (m : Int) := by omega
      have hm1 : (m : Int) < 128 := by omega
      have M8 := Lib.hid hm8
      have XM := Lib.hid hm
      clear hx hat ho hm hm8
      go_wp2_with (first | (refine wpList_loadL rfl 53 (.tmp 15) rfl b0 (o0 + k * 3) (.agg (cNd x).toArray) rfl r1.out ?_) | (refine wpList_storeN rfl 53 (.tmp 5) (.tmp 16) rfl rfl wr.heap.size (cNd x).toArray rfl rfl 53 _ (heap_at rfl) info41s rfl (by simp [Value.oneCell', cNd]) ?_; intro w3 hz hbb hn9 hs3; have b3 := below_storeA hbb; have Z3 := Lib.hid hz; have B3 := Lib.hid (bthen hb.out b3); have V3 := Lib.hid (hv.out.below b3); have G3 := Lib.hid (heap_keep b3 hg.out); clear b3 hz hbb hn9 hs3))
      have c0 : w3.cell? ⟨wr.heap.size, 0, none⟩ = some (.int .i64 (m : Int)) := by rw [cell_of_row w3 _ 0 _ _ _ Z3.out, ← XM.out]; rfl
      have c1 : w3.cell? ⟨wr.heap.size, 1, none⟩ = some (.bool false) := by rw [cell_of_row w3 _ 1 _ _ _ Z3.out]; rfl
      have HC : ∀ w5, Below w3.heap.size w3 w5 → w5.cell? ⟨wr.heap.size, 0, none⟩ = some (.int .i64 (m : Int)) ∧ w5.cell? ⟨wr.heap.size, 1, none⟩ = some (.bool false) := fun w5 h5 => ⟨bcell h5 c0, bcell h5 c1⟩
      clear c0 c1 r1 hb hv hg XM Z3
      refine Og.Tail.walk_lit 7 [[],[],[1],[],[3],[0],[5,0],[6,2,0,1,3,4,5],[7,4,0,1,2,3,6,5]] (fun w2 => Below w3.heap.size w3 w2) (fun w1 w2 => Below w1.heap.size w1 w2) (by kernel_rfl) (by kernel_rfl) (by kernel_rfl) (bdrew) ?_
      simp only [List.take_succ_cons, List.take_zero, List.drop_succ_cons, List.drop_zero]
      repeat (first | (refine Og.step_pure (fun _ => Below.refl _ _) ?_; apply Exists.intro; refine And.intro ?_ ?_; focus (intro vs w2 hC hk; have hm := HC w2 hC; revert hk; simp only [Og.KS, Og.K0, Og.Is, List.getD_cons_zero, List.getD_cons_succ, List.getD_nil, List.contains_cons, List.contains_nil, Nat.reduceAdd, Nat.reduceBEq, Bool.or_false, Bool.false_or, Bool.or_true, Bool.true_or, Bool.false_eq_true, false_implies, true_implies, true_and, and_true, forall_const]; intros; go_simp; rfl)))
      intro vs w2 hC hk
      have hm := HC w2 hC
      simp only [Og.KS, Og.K0, Og.Is, List.getD_cons_zero, List.getD_cons_succ, List.getD_nil, List.contains_cons, List.contains_nil, Nat.reduceAdd, Nat.reduceBEq, Bool.or_false, Bool.false_or, Bool.or_true, Bool.true_or, Bool.false_eq_true, false_implies, true_implies, true_and, and_true, forall_const] at hk
      simp only [hk, Act.put, List.setIfInBounds_toArray, List.set_cons_zero, List.set_cons_succ]
      clear hk
      have V5 := Lib.hid (V3.out.below hC)
      have B5 := Lib.hid (bthen B3.out hC)
      have G5 := Lib.hid (heap_keep hC G3.out)
      have q3 := V5.out.over M8.out
      have hself : w2.setCell ⟨V, m, none⟩ (.bool false) = w2 := setCell_self V5.out.blk q3
      have fz := V5.out.fz m
      clear hC hm HC V3 B3 G3
      go_wp2_with fail
      go_roundw
      case rel => exact ⟨k + 1, by omega, by go_num, by first | exact ⟨B5, V5, G5⟩ | (rw [hself]; exact ⟨B5, V5, G5⟩)⟩
      case measure => simp [intOf]; omega
    · have hkn : k = n1 := by omega
      subst hkn
      clear hlt hk
      have q0 : wr.cell? ⟨w.heap.size, 1, none⟩ = some (.slice A2 n2 c2) := by rw [cell_of_row wr _ 1 _ _ _ hg.out]; rfl
      go_wp2_with fail
      have WB := Lib.hid (show Vw V wr vs0 (viewL (ls.take 0)) from hv.out)
      have bq := Lib.hid hb.out
      obtain ⟨wq, hwq⟩ : ∃ wq : World, wq = wr := ⟨_, rfl⟩
      clear q0 hv hb hg
      go_loopw [29] (fun i wr => ∃ (k : Nat) (vs : List Value), k ≤ n2 ∧ i = .int .i64 k ∧ Hid (Below w.heap.size w wr) ∧ Hid (Vw V wr vs (viewL (ls.take k)))) (fun i _ => n2 - (intOf i).toNat)
      case atStart => exact ⟨0, _, Nat.zero_le _, rfl, bq, WB⟩
      case round =>
        clear WB bq hwq
        obtain ⟨q, vs, hq, rfl, hb, hv⟩ := hrel
        by_cases hlt : q < n2
        · have hwk1 : IntKind.i64.wrap ((q : Int) + 1) = (q : Int) + 1 := by rw [IntKind.wrap_i64]; omega
          have hq0 : (0 : Int) ≤ (q : Int) := by omega
          have hqn : (q : Int) < (n2 : Int) := by omega
          obtain ⟨l, hl⟩ : ∃ l, ls[q]? = some l := ⟨_, List.getElem?_eq_getElem (by rw [← N2.out]; exact hlt)⟩
          obtain ⟨b0, o0, rfl, hat⟩ := R2.out q l hl
          have r1 := Lib.hid (run_loadL isAgg43 size43 (cLk_len l) (hat.below hb.out))
          obtain ⟨hof, hot⟩ := HL.out l (List.mem_of_getElem? hl)
          simp only [oks, Bool.and_eq_true, decide_eq_true_eq] at hof hot
          obtain ⟨mf, hmf⟩ : ∃ m : Nat, l.f = (m : Int) := ⟨l.f.toNat, by omega⟩
          obtain ⟨mt, hmt⟩ : ∃ m : Nat, l.t = (m : Int) := ⟨l.t.toNat, by omega⟩
          have M8 : Hid (mf < 128 ∧ mt < 128) := Lib.hid (by omega)
          have hf0 : (0 : Int) ≤ (mf : Int) := by omega
          have hf1 : (mf : Int) < 128 := by omega
          have ht0 : (0 : Int) ≤ (mt : Int) := by omega
          have ht1 : (mt : Int) < 128 := by omega
          have MF := Lib.hid hmf
          have MT := Lib.hid hmt
          have LQ := Lib.hid hl
          clear hl hat hof hot hmf hmt
          obtain ⟨bl, hbl⟩ : ∃ bl, bl = wr.heap.size := ⟨_, rfl⟩
          have BL := Lib.hid hbl
          go_wp2_with (first | (refine wpList_loadL rfl 45 (.tmp 31) rfl b0 (o0 + q * 4) (.agg (cLk l).toArray) rfl r1.out ?_) | (refine wpList_storeN rfl 45 (.tmp 7) (.tmp 32) rfl rfl wr.heap.size (cLk l).toArray rfl rfl 45 _ (heap_at rfl) info43s rfl (by simp [Value.oneCell', cLk]) ?_; intro w3 hz hbb hn9 hs3; have b3 := below_storeA hbb; have ZL := Lib.hid hz; have B3 := Lib.hid (bthen hb.out b3); have V3 := Lib.hid (hv.out.below b3); have hs3' : wr.heap.size ≤ w3.heap.size := b3.size; clear b3 hz hbb hn9 hs3))
          rw [← hbl] at ZL ⊢
          have WL : Hid (∀ (j : Nat) (xs : List Lk), (viewL (ls.take q))[j]? = some xs → xs.length ≤ 20000) := Lib.hid (fun j xs hx => Nat.le_trans (viewL_small (ls.take q) j xs hx) (by rw [List.length_take]; have := N2.out; omega))
          have NEW : Hid (∀ (j : Nat) (v : Value), vs[j]? = some v → v.ownBlock ≠ some bl) := Lib.hid (fun j v hj e => by
            obtain ⟨xs, hxs⟩ : ∃ xs, (viewL (ls.take q))[j]? = some xs := ⟨_, List.getElem?_eq_getElem (by rw [hv.out.nx, ← hv.out.nv]; exact (List.getElem?_eq_some_iff.1 hj).1)⟩
            have := ((hv.out.own j v xs hj hxs).lt _ e).2
            omega)
          clear hbl r1 hb hv
          obtain ⟨xs, hxs⟩ : ∃ xs, (viewL (ls.take q))[mf]? = some xs := ⟨_, List.getElem?_eq_getElem (by rw [V3.out.nx]; have := M8.out; omega)⟩
          obtain ⟨vj, hvj, own⟩ := V3.out.at_ hxs
          obtain ⟨A, cc, hvl, -⟩ := Sl_of_row cLk_len (by omega) own rfl
          obtain ⟨mm, hmm⟩ : ∃ mm, mm = xs.length := ⟨_, rfl⟩
          have XN := Lib.hid hmm
          have OWN := Lib.hid own
          rw [← hmm] at hvl
          subst hvl
          have XL : Hid (xs.length ≤ 1000000) := Lib.hid (by have := WL.out (mf) xs hxs; omega)
          have VLT := Lib.hid (V3.out.lt)
          have hvb : (Value.slice A mm cc).ownBlock ≠ some V := own_at own V3.out.blk (by decide)
          have hvr : (Value.slice A mm cc).ownBlock ≠ some bl := NEW.out (mf) _ hvj
          have HVR := Lib.hid hvr
          have HZ : ∀ w5, w3.grownBy w5 (Value.slice A mm cc).ownBlock → w5.heap[bl]? = some (.cells (cLk l).toArray 45 (0, 0)) := fun w5 h5 => heap_grown h5 ZL.out (fun e => hvr e.symm)
          have csl := V3.out.slot hvj
          have HC : ∀ w5, w3.grownBy w5 (Value.slice A mm cc).ownBlock → w5.cell? ⟨V, 128 + mf, none⟩ = some (.slice A mm cc) ∧ w5.cell? ⟨bl, 0, none⟩ = some (.int .i64 (mf : Int)) ∧ w5.cell? ⟨bl, 1, none⟩ = some (.int .i64 (mt : Int)) := fun w5 h5 => by
            have z := HZ w5 h5
            have z2 := heap_grown h5 V3.out.blk (fun e => hvb e.symm)
            refine ⟨?_, by rw [cell_of_row w5 _ 0 _ _ _ z, ← MF.out]; rfl, by rw [cell_of_row w5 _ 1 _ _ _ z, ← MT.out]; rfl⟩
            rw [cell_of_row w5 V _ _ _ _ z2, ← cell_of_row w3 V _ _ _ _ V3.out.blk]
            exact (by first | exact csl | (rw [show 128 + mf = 128 + (mf) by omega]; exact csl))
          have HVJ := Lib.hid hvj
          have HXS := Lib.hid hxs
          clear hxs hvj own hmm hvb hvr csl
          refine Og.Joint2.walk_lit 15 [[],[],[1],[],[],[4],[3],[6,3],[7,5,6,3,4],[8,7,5,6,3,4],[],[10],[9,11,8,7,5,6,3,4,10],[0],[13,0],[14,2,0,1,3,4,5,6,7,8,9,10,11,12,13],[15,12,0,1,2,3,4,5,6,7,8,9,10,11,14,13]] (CA w3 (Value.slice A mm cc).ownBlock 11 12 (cLk l).toArray (FinL V (Value.slice A mm cc).ownBlock w3.heap.size (xs ++ [l]))) (fun _ _ => True) (by kernel_rfl) (by kernel_rfl) (by kernel_rfl) (fun vs => CA.ini bdrew) ?_
          simp only [List.take_succ_cons, List.take_zero, List.drop_succ_cons, List.drop_zero]
          iterate 10 (refine Og.Joint2.step_pure (fun p vs v w h => h.other (by decide) (by decide)) (fun _ => trivial) ?_; apply Exists.intro; refine And.intro ?_ ?_; focus (intro p vs w2 hC hk; have hm := HC w2 hC.1; refine Og.OptB.mk ?_; revert hk; simp only [Og.KS, Og.K0, Og.Is, List.getD_cons_zero, List.getD_cons_succ, List.getD_nil, List.contains_cons, List.contains_nil, Nat.reduceAdd, Nat.reduceBEq, Bool.or_false, Bool.false_or, Bool.or_true, Bool.true_or, Bool.false_eq_true, false_implies, true_implies, true_and, and_true, forall_const]; intros; go_simp; rfl))
          refine Og.Joint2.step_pure (fun p vs v w h => h.other (by decide) (by decide)) (fun _ => trivial) ?_; apply Exists.intro; refine And.intro ?_ ?_; focus (intro p vs w2 hC hk; have hz := HZ w2 hC.1; revert hk; simp only [Og.KS, Og.K0, Og.Is, List.getD_cons_zero, List.getD_cons_succ, List.getD_nil, List.contains_cons, List.contains_nil, Nat.reduceAdd, Nat.reduceBEq, Bool.or_false, Bool.false_or, Bool.or_true, Bool.true_or, Bool.false_eq_true, false_implies, true_implies, true_and, and_true, forall_const]; intros; exact optB_loadL (by go_simp) rfl (by go_simp) (ldLk hz) ⟨rfl, rfl⟩)
          refine Og.Joint2.step_any (fun _ _ => True) (fun _ _ _ _ _ => trivial) ?_ ?_; focus (intro p vs w2 hp hC hk; refine Og.OptB.mk ?_; revert hk; simp only [Og.KS, Og.K0, Og.Is, List.getD_cons_zero, List.getD_cons_succ, List.getD_nil, List.contains_cons, List.contains_nil, Nat.reduceAdd, Nat.reduceBEq, Bool.or_false, Bool.false_or, Bool.or_true, Bool.true_or, Bool.false_eq_true, false_implies, true_implies, true_and, and_true, forall_const]; intros; go_simp; exact CA.new hp.1 (by decide) hC)
          refine Og.Joint2.step_any (fun _ _ => True) (fun _ _ _ _ _ => trivial) ?_ ?_; focus (intro p vs w2 hp hC hk; have h1 : p 11 = true := hp.2 11 (by decide); obtain ⟨g1, e1, hg1, hz⟩ := hC.2.2.2.1 h1; have bW := hC.2.2.1 hp.1; obtain ⟨v', w', hr, ho', hg', ha'⟩ := run_appLk (w := w2) (V + 1) g1 39 _ xs l (own_below OWN.out bW) (hz hp.1) (by have := XL.out; omega) (by have := VLT.out; have := bW.size; omega); revert hk; simp only [Og.KS, Og.K0, Og.Is, List.getD_cons_zero, List.getD_cons_succ, List.getD_nil, List.contains_cons, List.contains_nil, Nat.reduceAdd, Nat.reduceBEq, Bool.or_false, Bool.false_or, Bool.or_true, Bool.true_or, Bool.false_eq_true, false_implies, true_implies, true_and, and_true, forall_const]; intros; refine optB_appR (by go_simp) rfl (by go_simp) (by first | (go_simp; done) | (go_simp; exact e1)) hr ?_; exact CA.done (by decide) h1 hp.1 hC hg' ⟨ho', ha'.imp id fun e => ⟨_, e, bW.size⟩⟩)
          iterate 2 (refine Og.Joint2.step_pure (fun p vs v w h => h.other (by decide) (by decide)) (fun _ => trivial) ?_; apply Exists.intro; refine And.intro ?_ ?_; focus (intro p vs w2 hC hk; have hm := HC w2 hC.1; refine Og.OptB.mk ?_; revert hk; simp only [Og.KS, Og.K0, Og.Is, List.getD_cons_zero, List.getD_cons_succ, List.getD_nil, List.contains_cons, List.contains_nil, Nat.reduceAdd, Nat.reduceBEq, Bool.or_false, Bool.false_or, Bool.or_true, Bool.true_or, Bool.false_eq_true, false_implies, true_implies, true_and, and_true, forall_const]; intros; go_simp; rfl))
          intro p vS w2 hp hC hk
          obtain ⟨hg12, -, -, -, hfin⟩ := hC
          obtain ⟨ho12, ha12⟩ := hfin (hp 12 (by decide))
          simp only [Og.KS, Og.K0, Og.Is, List.getD_cons_zero, List.getD_cons_succ, List.getD_nil, List.contains_cons, List.contains_nil, Nat.reduceAdd, Nat.reduceBEq, Bool.or_false, Bool.false_or, Bool.or_true, Bool.true_or, Bool.false_eq_true, false_implies, true_implies, true_and, and_true, forall_const] at hk
          obtain ⟨gg, ccc, e12, -⟩ := own_some ho12 (fun e => by rw [e] at ho12; have := ho12.1; rcases ho12.2 with ⟨_, h0⟩ | ⟨_, _, _, h0, _⟩; simp at h0; cases h0)
          rw [e12] at ho12 ha12
          have VN := V3.out.app HVJ.out HXS.out hg12 ho12 ha12
          have zz := Lib.hid (HZ w2 hg12)
          have cold := (HC w2 hg12).1
          have fz : w2.frozen? ⟨V, 128 + mf, none⟩ = false := by simp [World.frozen?, heap_grown hg12 V3.out.blk (fun e => own_at OWN.out V3.out.blk (by decide) e.symm)]
          have eL : (xs ++ [l]).length = mm + 1 := by rw [XN.out]; simp
          rw [eL] at e12 VN ha12
          simp only [hk, e12, Act.put, List.setIfInBounds_toArray, List.set_cons_zero, List.set_cons_succ]
          clear hk hp HC HZ e12 ho12
          go_wp2_with fail
          have hgg : gg ≠ bl := by
            rcases ha12 with e | ⟨g, e, hg⟩
            · intro e2; subst e2; exact HVR.out e.symm
            · have e3 : gg = g := by simpa [Value.ownBlock] using e
              have := (Array.getElem?_eq_some_iff.1 ZL.out).1
              omega
          have b4 : Below w.heap.size w (w2.setCell ⟨V, 128 + mf, none⟩ (.slice (some ⟨gg, 0, none⟩) (mm + 1) ccc)) := by
            have h1 : Below w.heap.size w3 w2 := grown_below hg12 (by have := B3.out.size; omega) (fun g e => by have := (OWN.out.lt g e).1; have := HV.out; omega)
            have h2 : w2.heap[V]? = _ := heap_grown hg12 V3.out.blk (fun e => own_at OWN.out V3.out.blk (by decide) e.symm)
            rw [setCell_eq_setRow w2 V _ _ 98 (0, 0) _ h2]
            exact (B3.out.trans h1).trans ⟨rfl, rfl, rfl, by simp [World.setRow], fun j hj => setRow_other w2 V j _ (by have := HV.out; omega)⟩
          have z4 : (w2.setCell ⟨V, 128 + mf, none⟩ (.slice (some ⟨gg, 0, none⟩) (mm + 1) ccc)).heap[bl]? = some (.cells (cLk l).toArray 45 (0, 0)) := by
            have h2 : w2.heap[V]? = _ := heap_grown hg12 V3.out.blk (fun e => own_at OWN.out V3.out.blk (by decide) e.symm)
            rw [setCell_eq_setRow w2 V _ _ 98 (0, 0) _ h2, setRow_other w2 V bl _ (fun e => by
              have h3 := zz.out
              rw [e, h2] at h3
              simp at h3)]
            exact zz.out
          have e4 : bl < (w2.setCell ⟨V, 128 + mf, none⟩ (.slice (some ⟨gg, 0, none⟩) (mm + 1) ccc)).heap.size := (Array.getElem?_eq_some_iff.1 z4).1
          have V4' := VN
          generalize w2.setCell ⟨V, 128 + mf, none⟩ (.slice (some ⟨gg, 0, none⟩) (mm + 1) ccc) = w4 at *
          obtain ⟨yss, hyss⟩ : ∃ yss, yss = (viewL (ls.take q)).set mf (xs ++ [l]) := ⟨_, rfl⟩
          obtain ⟨vs2, hvs2⟩ : ∃ vs2, vs2 = vs.set mf (.slice (some ⟨gg, 0, none⟩) (mm + 1) ccc) := ⟨_, rfl⟩
          rw [← hyss, ← hvs2] at V4'
          have V4 := Lib.hid V4'
          have Z4 := Lib.hid z4
          have B4 := Lib.hid b4
          have E4 := Lib.hid e4
          have NEW2 : Hid (∀ (j : Nat) (v : Value), vs2[j]? = some v → v.ownBlock ≠ some bl) := Lib.hid (fun j v hj => by
            rw [hvs2, List.getElem?_set] at hj
            split at hj
            · split at hj
              · cases hj
                intro e
                have : gg = bl := by simpa [Value.ownBlock] using e
                exact hgg this
              · cases hj
            · exact NEW.out j v hj)
          have WL2 : Hid (∀ (j : Nat) (zs : List Lk), yss[j]? = some zs → zs.length ≤ 20001) := Lib.hid (fun j zs hj => by
            rw [hyss, List.getElem?_set] at hj
            split at hj
            · split at hj
              · cases hj
                have := WL.out mf xs HXS.out
                rw [List.length_append]
                simp only [List.length_cons, List.length_nil]
                omega
              · cases hj
            · have := WL.out j zs hj; omega)
          have YS := Lib.hid hyss
          have EQ1 : Hid (∀ zs, yss[128 + mt]? = some zs → addL (viewL (ls.take q)) l = yss.set (128 + mt) (zs ++ [l])) := Lib.hid (fun zs hz => by
            have a1 : l.f.toNat = mf := by rw [MF.out]; rfl
            have a2 : l.t.toNat = mt := by rw [MT.out]; rfl
            have a3 : (viewL (ls.take q)).getD mf [] = xs := by rw [List.getD_eq_getElem?_getD, HXS.out]; rfl
            unfold addL
            rw [a1, a2, a3, ← hyss]
            have a4 : yss.getD (128 + mt) [] = zs := by rw [List.getD_eq_getElem?_getD, hz]; rfl
            simp only [a4])
          clear hyss hvs2 V4' z4 b4 e4 hgg VN ha12 hg12 cold fz eL zz XN OWN XL VLT HVR HVJ HXS NEW WL ZL V3 B3 hs3'
          obtain ⟨xs, hxs⟩ : ∃ xs, (yss)[128 + mt]? = some xs := ⟨_, List.getElem?_eq_getElem (by rw [V4.out.nx]; have := M8.out; omega)⟩
          obtain ⟨vj, hvj, own⟩ := V4.out.at_ hxs
          obtain ⟨A, cc, hvl, -⟩ := Sl_of_row cLk_len (by omega) own rfl
          obtain ⟨mm, hmm⟩ : ∃ mm, mm = xs.length := ⟨_, rfl⟩
          have XN := Lib.hid hmm
          have OWN := Lib.hid own
          rw [← hmm] at hvl
          subst hvl
          have XL : Hid (xs.length ≤ 1000000) := Lib.hid (by have := WL2.out (128 + mt) xs hxs; omega)
          have VLT := Lib.hid (V4.out.lt)
          have hvb : (Value.slice A mm cc).ownBlock ≠ some V := own_at own V4.out.blk (by decide)
          have hvr : (Value.slice A mm cc).ownBlock ≠ some bl := NEW2.out (128 + mt) _ hvj
          have HVR := Lib.hid hvr
          have HZ : ∀ w5, w4.grownBy w5 (Value.slice A mm cc).ownBlock → w5.heap[bl]? = some (.cells (cLk l).toArray 45 (0, 0)) := fun w5 h5 => heap_grown h5 Z4.out (fun e => hvr e.symm)
          have csl := V4.out.slot hvj
          have HC : ∀ w5, w4.grownBy w5 (Value.slice A mm cc).ownBlock → w5.cell? ⟨V, 256 + mt, none⟩ = some (.slice A mm cc) ∧ w5.cell? ⟨bl, 0, none⟩ = some (.int .i64 (mf : Int)) ∧ w5.cell? ⟨bl, 1, none⟩ = some (.int .i64 (mt : Int)) := fun w5 h5 => by
            have z := HZ w5 h5
            have z2 := heap_grown h5 V4.out.blk (fun e => hvb e.symm)
            refine ⟨?_, by rw [cell_of_row w5 _ 0 _ _ _ z, ← MF.out]; rfl, by rw [cell_of_row w5 _ 1 _ _ _ z, ← MT.out]; rfl⟩
            rw [cell_of_row w5 V _ _ _ _ z2, ← cell_of_row w4 V _ _ _ _ V4.out.blk]
            exact (by first | exact csl | (rw [show 256 + mt = 128 + (128 + mt) by omega]; exact csl))
          have HVJ := Lib.hid hvj
          have HXS := Lib.hid hxs
          clear hxs hvj own hmm hvb hvr csl
          refine Og.Joint2.walk_lit 15 [[],[],[1],[],[],[4],[3],[6,3],[7,5,6,3,4],[8,7,5,6,3,4],[],[10],[9,11,8,7,5,6,3,4,10],[0],[13,0],[14,2,0,1,3,4,5,6,7,8,9,10,11,12,13],[15,12,0,1,2,3,4,5,6,7,8,9,10,11,14,13]] (CA w4 (Value.slice A mm cc).ownBlock 11 12 (cLk l).toArray (FinL V (Value.slice A mm cc).ownBlock w4.heap.size (xs ++ [l]))) (fun _ _ => True) (by kernel_rfl) (by kernel_rfl) (by kernel_rfl) (fun vs => CA.ini bdrew) ?_
          simp only [List.take_succ_cons, List.take_zero, List.drop_succ_cons, List.drop_zero]
          iterate 10 (refine Og.Joint2.step_pure (fun p vs v w h => h.other (by decide) (by decide)) (fun _ => trivial) ?_; apply Exists.intro; refine And.intro ?_ ?_; focus (intro p vs w2 hC hk; have hm := HC w2 hC.1; refine Og.OptB.mk ?_; revert hk; simp only [Og.KS, Og.K0, Og.Is, List.getD_cons_zero, List.getD_cons_succ, List.getD_nil, List.contains_cons, List.contains_nil, Nat.reduceAdd, Nat.reduceBEq, Bool.or_false, Bool.false_or, Bool.or_true, Bool.true_or, Bool.false_eq_true, false_implies, true_implies, true_and, and_true, forall_const]; intros; go_simp; rfl))
          refine Og.Joint2.step_pure (fun p vs v w h => h.other (by decide) (by decide)) (fun _ => trivial) ?_; apply Exists.intro; refine And.intro ?_ ?_; focus (intro p vs w2 hC hk; have hz := HZ w2 hC.1; revert hk; simp only [Og.KS, Og.K0, Og.Is, List.getD_cons_zero, List.getD_cons_succ, List.getD_nil, List.contains_cons, List.contains_nil, Nat.reduceAdd, Nat.reduceBEq, Bool.or_false, Bool.false_or, Bool.or_true, Bool.true_or, Bool.false_eq_true, false_implies, true_implies, true_and, and_true, forall_const]; intros; exact optB_loadL (by go_simp) rfl (by go_simp) (ldLk hz) ⟨rfl, rfl⟩)
          refine Og.Joint2.step_any (fun _ _ => True) (fun _ _ _ _ _ => trivial) ?_ ?_; focus (intro p vs w2 hp hC hk; refine Og.OptB.mk ?_; revert hk; simp only [Og.KS, Og.K0, Og.Is, List.getD_cons_zero, List.getD_cons_succ, List.getD_nil, List.contains_cons, List.contains_nil, Nat.reduceAdd, Nat.reduceBEq, Bool.or_false, Bool.false_or, Bool.or_true, Bool.true_or, Bool.false_eq_true, false_implies, true_implies, true_and, and_true, forall_const]; intros; go_simp; exact CA.new hp.1 (by decide) hC)
          refine Og.Joint2.step_any (fun _ _ => True) (fun _ _ _ _ _ => trivial) ?_ ?_; focus (intro p vs w2 hp hC hk; have h1 : p 11 = true := hp.2 11 (by decide); obtain ⟨g1, e1, hg1, hz⟩ := hC.2.2.2.1 h1; have bW := hC.2.2.1 hp.1; obtain ⟨v', w', hr, ho', hg', ha'⟩ := run_appLk (w := w2) (V + 1) g1 39 _ xs l (own_below OWN.out bW) (hz hp.1) (by have := XL.out; omega) (by have := VLT.out; have := bW.size; omega); revert hk; simp only [Og.KS, Og.K0, Og.Is, List.getD_cons_zero, List.getD_cons_succ, List.getD_nil, List.contains_cons, List.contains_nil, Nat.reduceAdd, Nat.reduceBEq, Bool.or_false, Bool.false_or, Bool.or_true, Bool.true_or, Bool.false_eq_true, false_implies, true_implies, true_and, and_true, forall_const]; intros; refine optB_appR (by go_simp) rfl (by go_simp) (by first | (go_simp; done) | (go_simp; exact e1)) hr ?_; exact CA.done (by decide) h1 hp.1 hC hg' ⟨ho', ha'.imp id fun e => ⟨_, e, bW.size⟩⟩)
          iterate 2 (refine Og.Joint2.step_pure (fun p vs v w h => h.other (by decide) (by decide)) (fun _ => trivial) ?_; apply Exists.intro; refine And.intro ?_ ?_; focus (intro p vs w2 hC hk; have hm := HC w2 hC.1; refine Og.OptB.mk ?_; revert hk; simp only [Og.KS, Og.K0, Og.Is, List.getD_cons_zero, List.getD_cons_succ, List.getD_nil, List.contains_cons, List.contains_nil, Nat.reduceAdd, Nat.reduceBEq, Bool.or_false, Bool.false_or, Bool.or_true, Bool.true_or, Bool.false_eq_true, false_implies, true_implies, true_and, and_true, forall_const]; intros; go_simp; rfl))
          intro p vS w2 hp hC hk
          obtain ⟨hg12, -, -, -, hfin⟩ := hC
          obtain ⟨ho12, ha12⟩ := hfin (hp 12 (by decide))
          simp only [Og.KS, Og.K0, Og.Is, List.getD_cons_zero, List.getD_cons_succ, List.getD_nil, List.contains_cons, List.contains_nil, Nat.reduceAdd, Nat.reduceBEq, Bool.or_false, Bool.false_or, Bool.or_true, Bool.true_or, Bool.false_eq_true, false_implies, true_implies, true_and, and_true, forall_const] at hk
          obtain ⟨gg, ccc, e12, -⟩ := own_some ho12 (fun e => by rw [e] at ho12; have := ho12.1; rcases ho12.2 with ⟨_, h0⟩ | ⟨_, _, _, h0, _⟩; simp at h0; cases h0)
          rw [e12] at ho12 ha12
          have VN := V4.out.app HVJ.out HXS.out hg12 ho12 ha12
          have zz := Lib.hid (HZ w2 hg12)
          have cold := (HC w2 hg12).1
          have fz : w2.frozen? ⟨V, 256 + mt, none⟩ = false := by simp [World.frozen?, heap_grown hg12 V4.out.blk (fun e => own_at OWN.out V4.out.blk (by decide) e.symm)]
          have eL : (xs ++ [l]).length = mm + 1 := by rw [XN.out]; simp
          rw [eL] at e12 VN ha12
          simp only [hk, e12, Act.put, List.setIfInBounds_toArray, List.set_cons_zero, List.set_cons_succ]
          clear hk hp HC HZ e12 ho12
          go_wp2_with fail
          have eqA : 128 + (128 + mt) = 256 + mt := by omega
          rw [eqA] at VN
          have b5 : Below w.heap.size w (w2.setCell ⟨V, 256 + mt, none⟩ (.slice (some ⟨gg, 0, none⟩) (mm + 1) ccc)) := by
            have h1 : Below w.heap.size w4 w2 := grown_below hg12 (by have := B4.out.size; omega) (fun g e => by have := (OWN.out.lt g e).1; have := HV.out; omega)
            have h2 : w2.heap[V]? = _ := heap_grown hg12 V4.out.blk (fun e => own_at OWN.out V4.out.blk (by decide) e.symm)
            rw [setCell_eq_setRow w2 V _ _ 98 (0, 0) _ h2]
            exact (B4.out.trans h1).trans ⟨rfl, rfl, rfl, by simp [World.setRow], fun j hj => setRow_other w2 V j _ (by have := HV.out; omega)⟩
          rw [← EQ1.out xs HXS.out, ← viewL_succ LQ.out] at VN
          have V5 := Lib.hid VN
          have B5 := Lib.hid b5
          clear VN b5 hg12 ha12 cold fz eL zz
          go_roundw
          case rel => exact ⟨q + 1, _, by omega, by go_num, B5, V5⟩
          case measure => simp [intOf]; omega
        · have hqn : q = n2 := by omega
          subst hqn
          have hV : Hid (Vw V wr vs (viewL ls)) := Lib.hid (by
            have := hv.out
            rw [List.take_of_length_le (by have := N2.out; omega)] at this
            exact this)
          have hge : Hid (w.heap.size ≤ V) := Lib.hid (by have := HV.out; omega)
          clear hv hlt hq
          go_wp2_with fail
          go_ret
          exact ⟨⟨V, vs, rfl, hge.out, hV.out⟩, hb.out⟩

end Go.Proofs.YtjbglifmppilfaaDoor
namespace Go.Proofs.YtjbglifmppilfaaDoor
open Go.ChangeShapes Go.WideShapes Go.ChangeAt Go.RowKit
set_option linter.unusedVariables false
set_option linter.unusedSimpArgs false
attribute [local go_sem] Og.Opt Og.OpY

attribute [local go_sem] Og.Opt Og.OpY
structure Ts where
  hs : Hs
  ds : List Int
  ps : List (Int × Int)
def infZ : Int := 1073741824
/-- one more parent -/
def addP (ps : List (Int × Int)) (t m : Nat) : List (Int × Int) :=
  match ps[t]? with
  | some z => ps.set t (withB z m)
  | none => ps
theorem addP_eq {ps : List (Int × Int)} {t m : Nat} {z : Int × Int} (h : ps[t]? = some z) : addP ps t m = ps.set t (withB z m) := by
  unfold addP
  rw [h]
def relaxP (s : Ts) (m : Nat) (d : Int) (l : Lk) : Option Ts :=
  if oks l.t = true then
    match s.ds[l.t.toNat]? with
    | some old =>
      if old = infZ then (pushP s.hs l.t (dsum d l.c)).map fun h => if dsum d l.c < old then ⟨h, s.ds.set l.t.toNat (dsum d l.c), addP (s.ps.set l.t.toNat (0, 0)) l.t.toNat m⟩ else ⟨h, s.ds, addP s.ps l.t.toNat m⟩
      else if dsum d l.c < old then (lowerP s.hs l.t (dsum d l.c)).map fun h => ⟨h, s.ds.set l.t.toNat (dsum d l.c), addP (s.ps.set l.t.toNat (0, 0)) l.t.toNat m⟩
      else if old < dsum d l.c then some s
      else some ⟨s.hs, s.ds, addP s.ps l.t.toNat m⟩
    | none => none
  else none
def relaxL : Ts → Nat → Int → List Lk → Option Ts
  | s, _, _, [] => some s
  | s, m, d, l :: ls => (relaxP s m d l).bind fun s' => relaxL s' m d ls
def treeLoop (xss : List (List Lk)) : Nat → Ts → Option (List Int × List (Int × Int))
  | 0, _ => none
  | f + 1, s => if s.hs.es.length = 0 then some (s.ds, s.ps) else
    (popP s.hs).bind fun r => if oks r.1.n = true then
      match xss[r.1.n.toNat]? with
      | some ls => (relaxL ⟨r.2, s.ds, s.ps⟩ r.1.n.toNat r.1.k ls).bind fun s' => treeLoop xss f s'
      | none => none
    else none
def zP : List (Int × Int) := List.replicate 128 ((0 : Int), (0 : Int))
def treeP (xss : List (List Lk)) (root : Int) : Option (List Int × List (Int × Int)) :=
  if oks root = true then (pushP h0s root 0).bind fun h => treeLoop xss 2000 ⟨h, (List.replicate 128 infZ).set root.toNat 0, zP⟩ else none
theorem exists_least {P : Nat → Prop} (h : ∃ n, P n) : ∃ n, P n ∧ ∀ m, P m → n ≤ m := by
  obtain ⟨n, hn⟩ := h
  induction n using Nat.strongRecOn with
  | _ n ih =>
    by_cases hx : ∃ m, m < n ∧ P m
    · obtain ⟨m, hm, hp⟩ := hx
      exact ih m hm hp
    · exact ⟨n, hn, fun m hm => Nat.le_of_not_lt fun hl => hx ⟨m, hl, hm⟩⟩
/-- the least n with P n; 0 where there is none -/
noncomputable def fuelOf (P : Nat → Prop) : Nat := by
  classical
  exact if h : ∃ f, P f then Classical.choose (exists_least h) else 0
theorem fuelOf_spec {P : Nat → Prop} (h : ∃ f, P f) : P (fuelOf P) := by
  classical
  unfold fuelOf
  rw [dif_pos h]
  exact (Classical.choose_spec (exists_least h)).1
theorem fuelOf_le {P : Nat → Prop} {n : Nat} (h : P n) : fuelOf P ≤ n := by
  classical
  unfold fuelOf
  rw [dif_pos ⟨n, h⟩]
  exact (Classical.choose_spec (exists_least ⟨n, h⟩)).2 n h
def dC (ds : List Int) : List Value := ds.map fun z => Value.int .i64 z
theorem dC_set (ds : List Int) (k : Nat) (z : Int) : (dC ds).set k (.int .i64 z) = dC (ds.set k z) := by simp [dC, List.map_set]
/-- a row of sets -/
def pC : List (Int × Int) → List Value
  | [] => []
  | p :: ps => .int .u64 p.1 :: .int .u64 p.2 :: pC ps
theorem pC_len : ∀ ps : List (Int × Int), (pC ps).length = ps.length * 2
  | [] => rfl
  | p :: ps => by rw [pC, List.length_cons, List.length_cons, pC_len ps, List.length_cons]; omega
theorem pC_set : ∀ (ps : List (Int × Int)) (k : Nat) (q : Int × Int), k < ps.length → (pC ps).take (k * 2) ++ [Value.int .u64 q.1, Value.int .u64 q.2] ++ (pC ps).drop (k * 2 + 2) = pC (ps.set k q)
  | [], k, q, h => by cases h
  | p :: ps, 0, q, _ => by simp [pC]
  | p :: ps, k + 1, q, h => by
    have := pC_set ps k q (by simpa using h)
    rw [show (k + 1) * 2 = k * 2 + 1 + 1 by omega, List.set_cons_succ, pC, pC, List.take_succ_cons, List.take_succ_cons, show k * 2 + 1 + 1 + 2 = k * 2 + 2 + 1 + 1 by omega, List.drop_succ_cons, List.drop_succ_cons, ← this]
    rfl
theorem pC_get : ∀ (ps : List (Int × Int)) (k : Nat) (z : Int × Int), ps[k]? = some z → (pC ps)[k * 2]? = some (.int .u64 z.1) ∧ (pC ps)[k * 2 + 1]? = some (.int .u64 z.2)
  | [], k, z, h => by cases h
  | p :: ps, 0, z, h => by cases h; exact ⟨rfl, rfl⟩
  | p :: ps, k + 1, z, h => by
    have := pC_get ps k z (by simpa using h)
    rw [show (k + 1) * 2 = k * 2 + 1 + 1 by omega, pC]
    simpa only [List.getElem?_cons_succ] using this
theorem run_storeB {w : World} {g k : Nat} {t : TypeId} {cur : List Value} (q : Int × Int) (hg : w.heap[g]? = some (.cells cur.toArray t (0, 0))) (hk : k * 2 + 2 ≤ cur.length) :
    ∃ w', (storeVar 35 ⟨g, k * 2, none⟩ (bV q)).run Tryd.prog w = .ok () w' ∧ w'.heap[g]? = some (.cells (cur.take (k * 2) ++ [Value.int .u64 q.1, Value.int .u64 q.2] ++ cur.drop (k * 2 + 2)).toArray t (0, 0)) ∧ w'.heap.size = w.heap.size ∧ (∀ j, j ≠ g → w'.heap[j]? = w.heap[j]?) ∧ (∀ B, B ≤ g → Below B w w') := by
  have hst := run_storeCells_at Tryd.prog g (k * 2) t [.int .u64 q.1, .int .u64 q.2] 0 cur.toArray w hg (by simp; omega) (by intro v hv; simp only [List.mem_cons, List.not_mem_nil, or_false] at hv; rcases hv with rfl | rfl <;> rfl)
  simp only [Nat.add_zero, List.length_cons, List.length_nil, Nat.zero_add, Nat.reduceAdd] at hst
  refine ⟨w.setRow g (cur.take (k * 2) ++ [Value.int .u64 q.1, Value.int .u64 q.2] ++ cur.drop (k * 2 + 2)).toArray, ?_, setRow_heap w g _ _ t (0, 0) hg, by simp [World.setRow], fun j hj => setRow_other w g j _ hj, fun B hB => ⟨rfl, rfl, rfl, by simp [World.setRow], fun j hj => setRow_other w g j _ (by omega)⟩⟩
  unfold storeVar
  have e1 : (bV q).cells.size = 2 := rfl
  have e2 : (bV q).cells.toList = [.int .u64 q.1, .int .u64 q.2] := rfl
  simp only [Sem.run_bind, size25, Result.andThen_ok, e1, ne_eq, not_true_eq_false, if_false, e2, hst, Sem.run_pure]
/-- what the walk of Tree keeps: low: nothing below w changes; the tree's block b5, its rows gD and gP, the heap at h -/
structure Tr (w : World) (h b5 gD gP : Nat) (root : Int) (vH : Value) (wr : World) (s : Ts) (v : Value) : Prop where
  low : Below w.heap.size w wr
  k4 : ∃ old : Array Value, wr.heap[w.heap.size]? = some (.cells old 25 (0, 0)) ∧ old.size = 4
  k5 : wr.heap[b5]? = some (.cells #[.int .i64 root, .slice (some ⟨gD, 0, none⟩) 128 128, .slice (some ⟨gP, 0, none⟩) 128 128, vH] 25 (0, 0))
  kD : wr.heap[gD]? = some (.cells (dC s.ds).toArray 3 (0, 0))
  kP : wr.heap[gP]? = some (.cells (pC s.ps).toArray 35 (0, 0))
  hp : Hp h wr v s.hs.es s.hs.tb
  len : s.ds.length = 128
  plen : s.ps.length = 128
structure Od (z h b5 gD gP : Nat) : Prop where
  o5 : z < b5
  oD : z < gD
  oP : z < gP
  h5 : b5 < h
  hD : gD < h
  hP : gP < h
  d5 : gD ≠ b5
  p5 : gP ≠ b5
  dp : gD ≠ gP
section
variable {w wr w2 : World} {h b5 gD gP : Nat} {root : Int} {vH v v' : Value} {s : Ts}
theorem Tr.below (T : Tr w h b5 gD gP root vH wr s v) (hb : Below wr.heap.size wr w2) : Tr w h b5 gD gP root vH w2 s v := by
  obtain ⟨old, h4, h4s⟩ := T.k4
  exact ⟨bthen T.low hb, ⟨old, heap_keep hb h4, h4s⟩, heap_keep hb T.k5, heap_keep hb T.kD, heap_keep hb T.kP, T.hp.below hb, T.len, T.plen⟩
theorem Tr.heap (T : Tr w h b5 gD gP root vH wr s v) (O : Od w.heap.size h b5 gD gP) (f : Fr h v wr w2) {hs : Hs} (H : Hp h w2 v' hs.es hs.tb) : Tr w h b5 gD gP root vH w2 ⟨hs, s.ds, s.ps⟩ v' := by
  obtain ⟨old, h4, h4s⟩ := T.k4
  have b := f.bel
  have z := T.low.size
  have hh := T.hp.lt
  have := O.o5; have := O.h5
  exact ⟨T.low.trans (b.mono (by omega)), ⟨old, (b.block _ (by omega)).trans h4, h4s⟩, (b.block _ O.h5).trans T.k5, (b.block _ O.hD).trans T.kD, (b.block _ O.hP).trans T.kP, H, T.len, T.plen⟩
/-- one distance stored -/
theorem Tr.dist (T : Tr w h b5 gD gP root vH wr s v) (O : Od w.heap.size h b5 gD gP) {k : Nat} {z : Int} (h1 : w2.heap[gD]? = some (.cells (dC (s.ds.set k z)).toArray 3 (0, 0))) (h2 : ∀ j, j ≠ gD → w2.heap[j]? = wr.heap[j]?) (h3 : ∀ B, B ≤ gD → Below B wr w2) : Tr w h b5 gD gP root vH w2 ⟨s.hs, s.ds.set k z, s.ps⟩ v := by
  obtain ⟨old, h4, h4s⟩ := T.k4
  have hsz := (h3 0 (Nat.zero_le _)).size
  have := O.oD; have := O.hD
  refine ⟨T.low.trans (h3 _ (by omega)), ⟨old, (h2 _ (by omega)).trans h4, h4s⟩, (h2 _ (Ne.symm O.d5)).trans T.k5, h1, (h2 _ (Ne.symm O.dp)).trans T.kP, ⟨(h2 h (by omega)).trans T.hp.blk, ownR_same T.hp.own (fun g hg => h2 g (fun e => ?_)) hsz, T.hp.len⟩, by simpa using T.len, T.plen⟩
  subst e
  have := (T.hp.own.lt _ hg).1
  omega
/-- one set stored -/
theorem Tr.par (T : Tr w h b5 gD gP root vH wr s v) (O : Od w.heap.size h b5 gD gP) {k : Nat} {q : Int × Int} (h1 : w2.heap[gP]? = some (.cells (pC (s.ps.set k q)).toArray 35 (0, 0))) (h2 : ∀ j, j < wr.heap.size → j ≠ gP → w2.heap[j]? = wr.heap[j]?) (h3 : Below gP wr w2) : Tr w h b5 gD gP root vH w2 ⟨s.hs, s.ds, s.ps.set k q⟩ v := by
  obtain ⟨old, h4, h4s⟩ := T.k4
  have hsz := h3.size
  have := O.oP; have := O.hP; have hhl := T.hp.lt; have := O.hD; have := O.h5; have := T.low.size
  refine ⟨T.low.trans (h3.mono (by omega)), ⟨old, (h2 _ (by omega) (by omega)).trans h4, h4s⟩, (h2 _ (by omega) (Ne.symm O.p5)).trans T.k5, (h2 _ (by omega) O.dp).trans T.kD, h1, ⟨(h2 h (by omega) (by omega)).trans T.hp.blk, ownR_same T.hp.own (fun g hg => ?_) hsz, T.hp.len⟩, T.len, by simpa using T.plen⟩
  have := T.hp.own.lt _ hg
  exact h2 g (by omega) (by omega)
end
theorem Tr.row {w wr : World} {h b5 gD gP : Nat} {root : Int} {vH v : Value} {s : Ts} (T : Tr w h b5 gD gP root vH wr s v) {mt : Nat} (hm : mt < 128) : ∃ qs zz, qs = s.ps ∧ qs[mt]? = some zz ∧ wr.heap[gP]? = some (.cells (pC qs).toArray 35 (0, 0)) ∧ qs.length = 128 :=
  ⟨s.ps, _, rfl, List.getElem?_eq_getElem (by rw [T.plen]; exact hm), T.kP, T.plen⟩
theorem Tr.parA {w wr w2 : World} {h b5 gD gP : Nat} {root : Int} {vH v : Value} {s : Ts} (T : Tr w h b5 gD gP root vH wr s v) (O : Od w.heap.size h b5 gD gP) {k m : Nat} {z : Int × Int} {qs : List (Int × Int)} (hq : qs = s.ps) (hz : qs[k]? = some z) (h1 : w2.heap[gP]? = some (.cells (pC (qs.set k (withB z m))).toArray 35 (0, 0))) (h2 : ∀ j, j < wr.heap.size → j ≠ gP → w2.heap[j]? = wr.heap[j]?) (h3 : Below gP wr w2) : Tr w h b5 gD gP root vH w2 ⟨s.hs, s.ds, addP s.ps k m⟩ v := by
  subst hq
  rw [addP_eq hz]
  exact T.par O h1 h2 h3
theorem relaxL_drop {s s2 : Ts} {m : Nat} {d : Int} {ls : List Lk} {k : Nat} {l : Lk} (h : relaxL s m d (ls.drop k) = some s2) (hl : ls[k]? = some l) : ∃ s', relaxP s m d l = some s' ∧ relaxL s' m d (ls.drop (k + 1)) = some s2 := by
  obtain ⟨hk, e⟩ := List.getElem?_eq_some_iff.1 hl
  rw [List.drop_eq_getElem_cons hk, e, relaxL, Option.bind_eq_some_iff] at h
  exact h
theorem relaxP_some {s s' : Ts} {m : Nat} {d : Int} {l : Lk} (h : relaxP s m d l = some s') : oks l.t = true ∧ ∃ old, s.ds[l.t.toNat]? = some old ∧
    ((old = infZ ∧ ∃ hs, pushP s.hs l.t (dsum d l.c) = some hs ∧ s' = if dsum d l.c < old then ⟨hs, s.ds.set l.t.toNat (dsum d l.c), addP (s.ps.set l.t.toNat (0, 0)) l.t.toNat m⟩ else ⟨hs, s.ds, addP s.ps l.t.toNat m⟩) ∨
     (old ≠ infZ ∧ dsum d l.c < old ∧ ∃ hs, lowerP s.hs l.t (dsum d l.c) = some hs ∧ s' = ⟨hs, s.ds.set l.t.toNat (dsum d l.c), addP (s.ps.set l.t.toNat (0, 0)) l.t.toNat m⟩) ∨
     (old ≠ infZ ∧ ¬ dsum d l.c < old ∧ s' = if old < dsum d l.c then s else ⟨s.hs, s.ds, addP s.ps l.t.toNat m⟩)) := by
  unfold relaxP at h
  split at h
  · rename_i ho
    refine ⟨ho, ?_⟩
    split at h
    · rename_i old hold
      refine ⟨old, hold, ?_⟩
      split at h
      · rename_i hi
        rw [Option.map_eq_some_iff] at h
        obtain ⟨hs, h1, h2⟩ := h
        exact .inl ⟨hi, hs, h1, h2.symm⟩
      · rename_i hi
        split at h
        · rename_i hc
          rw [Option.map_eq_some_iff] at h
          obtain ⟨hs, h1, h2⟩ := h
          exact .inr (.inl ⟨hi, hc, hs, h1, h2.symm⟩)
        · rename_i hc
          split at h
          · rename_i hg
            cases h
            exact .inr (.inr ⟨hi, hc, by rw [if_pos hg]⟩)
          · rename_i hg
            cases h
            exact .inr (.inr ⟨hi, hc, by rw [if_neg hg]⟩)
    · cases h
  · cases h

end Go.Proofs.YtjbglifmppilfaaDoor
