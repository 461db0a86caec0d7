/- What a walk keeps of a way: the fronts; conditions as stated. -/
import Derived.Test.YtpklcefiabjplaaR17
namespace Go.Proofs.Ytpklcefiabjplaa
open Go.ChangeShapes Go.WideShapes Go.ChangeAt Go.RowKit
set_option linter.unusedVariables false
set_option linter.unusedSimpArgs false
attribute [local go_sem] Og.Opt Og.OpY

attribute [local go_sem] Og.Opt Og.OpY
/-- the class of a region with one append (k2) and the new element's block ahead of it (k1) -/
def CC (W : World) (vo : Option Nat) (k1 k2 : Nat) (L : Array Value) (FIN : Value → World → Prop) : Og.Joint2.Cls := fun p vs w => W.grownBy w vo ∧ (p k2 = true → p k1 = true) ∧ (p k2 = false → Below W.heap.size W w) ∧
  (p k1 = true → ∃ g1, vs k1 = .slice (some ⟨g1, 0, none⟩) 1 1 ∧ W.heap.size ≤ g1 ∧ (p k2 = false → w.heap[g1]? = some (.cells L 39 (0, 0)))) ∧ (p k2 = true → FIN (vs k2) w)
section
variable {W w : World} {vo : Option Nat} {k1 k2 : Nat} {L : Array Value} {FIN : Value → World → Prop} {p : Nat → Bool} {vs : Nat → Value}
theorem CC.ini (h : Below W.heap.size W w) : CC W vo k1 k2 L FIN (fun _ => false) vs w := ⟨⟨h.os, h.tape, h.output, h.size, fun k hk _ => h.block k hk⟩, fun e => (by cases e), fun _ => h, fun e => (by cases e), fun e => (by cases e)⟩
theorem CC.other {i : Nat} {v : Value} (h1 : i ≠ k1) (h2 : i ≠ k2) (c : CC W vo k1 k2 L FIN p vs w) : CC W vo k1 k2 L FIN (Og.Joint2.pSet p i) (Og.Joint2.vSet vs i v) w := by
  have e : ∀ j, i ≠ j → Og.Joint2.pSet p i j = p j := fun j h => by simp [Og.Joint2.pSet, Ne.symm h]
  have f : ∀ j, i ≠ j → Og.Joint2.vSet vs i v j = vs j := fun j h => by simp [Og.Joint2.vSet, Ne.symm h]
  unfold CC
  rw [e _ h1, e _ h2, f _ h1, f _ h2]
  exact c
theorem CC.new (hp : p k1 = false) (hk : k1 ≠ k2) (c : CC W vo k1 k2 L FIN p vs w) : CC W vo k1 k2 L FIN (Og.Joint2.pSet p k1) (Og.Joint2.vSet vs k1 (.slice (some ⟨w.heap.size, 0, none⟩) 1 1)) (w.alloc (.cells L 39)) := by
  obtain ⟨c1, c2, c3, c4, c5⟩ := c
  have hp2 : p k2 = false := by
    cases h : p k2 with
    | false => rfl
    | true => have := c2 h; rw [hp] at this; cases this
  have b := c3 hp2
  have b2 := bthen b ((Below.refl _ _).alloc (Nat.le_refl _) (.cells L 39))
  have e2 : Og.Joint2.pSet p k1 k2 = p k2 := by simp [Og.Joint2.pSet, Ne.symm hk]
  refine ⟨⟨b2.os, b2.tape, b2.output, b2.size, fun k hk _ => b2.block k hk⟩, fun h => by simp [Og.Joint2.pSet], fun _ => b2, fun _ => ⟨w.heap.size, by simp [Og.Joint2.vSet], b.size, fun _ => heap_at rfl⟩, fun h => by rw [e2, hp2] at h; cases h⟩
theorem CC.done {v : Value} {w2 : World} (hk : k1 ≠ k2) (h1 : p k1 = true) (hp : p k2 = false) (c : CC W vo k1 k2 L FIN p vs w) (hg : w.grownBy w2 vo) (hf : FIN v w2) : CC W vo k1 k2 L FIN (Og.Joint2.pSet p k2) (Og.Joint2.vSet vs k2 v) w2 := by
  obtain ⟨c1, c2, c3, c4, c5⟩ := c
  have e1 : Og.Joint2.pSet p k2 k1 = p k1 := by simp [Og.Joint2.pSet, hk]
  have e2 : Og.Joint2.pSet p k2 k2 = true := by simp [Og.Joint2.pSet]
  have f1 : Og.Joint2.vSet vs k2 v k1 = vs k1 := by simp [Og.Joint2.vSet, hk]
  have f2 : Og.Joint2.vSet vs k2 v k2 = v := by simp [Og.Joint2.vSet]
  refine ⟨⟨hg.os.trans c1.os, hg.tape.trans c1.tape, hg.output.trans c1.output, Nat.le_trans c1.size hg.size, fun k hk hne => (hg.block k (Nat.lt_of_lt_of_le hk c1.size) hne).trans (c1.block k hk hne)⟩, fun _ => (by rw [e1]; exact h1), fun h => (by rw [e2] at h; cases h), fun _ => ?_, fun _ => (by rw [f2]; exact hf)⟩
  obtain ⟨g1, a, b, _⟩ := c4 h1
  exact ⟨g1, (by rw [f1]; exact a), b, fun h => (by rw [e2] at h; cases h)⟩
end

def cPr (p : Nat × Nat) : List Value := [.complex .f64 (fb p.1) (fb p.2)]
theorem cPr_len (p : Nat × Nat) : (cPr p).length = 1 := rfl
theorem cPr_one (p : Nat × Nat) : ∀ u ∈ cPr p, u.oneCell' = true := by
  intro u hu
  simp only [cPr, List.mem_cons, List.not_mem_nil, or_false] at hu
  rcases hu with rfl; rfl
theorem info39 : (Try.prog.info? 39).map (fun i => (i.zero, i.size, i.bytes)) = some (some (.complex .f64 0 0), 1, 16) := by kernel_rfl
/-- the fronts at F and the error at E; the rows lie behind E -/
structure Fx (F E : Nat) (w : World) (vs : List Value) (fr : List (List (Nat × Nat))) (er : Int) : Prop where
  fe : F < E
  blk : w.heap[F]? = some (.cells vs.toArray 88 (0, 0))
  ek : w.heap[E]? = some (.cells #[.int .i64 er] 26 (0, 0))
  nv : vs.length = 128
  nx : fr.length = 128
  own : ∀ (j : Nat) (v : Value) (f : List (Nat × Nat)), vs[j]? = some v → fr[j]? = some f → w.ownsRow (E + 1) 39 1 v f.length (f.flatMap cPr)
  sep : ∀ (i j : Nat) (v u : Value), i ≠ j → vs[i]? = some v → vs[j]? = some u → v.ownBlock = none ∨ v.ownBlock ≠ u.ownBlock
/-- all blocks of other kinds stay as they are -/
structure Kf (F E : Nat) (w w' : World) : Prop where
  bel : Below F w w'
  oth : ∀ (k : Nat) (cur : Array Value) (t : TypeId), w.heap[k]? = some (.cells cur t (0, 0)) → t ≠ 39 → k ≠ F → k ≠ E → w'.heap[k]? = some (.cells cur t (0, 0))
section
variable {F E : Nat} {w w2 : World} {vs : List Value} {fr : List (List (Nat × Nat))} {er : Int}
theorem Fx.lt (H : Fx F E w vs fr er) : E < w.heap.size := (Array.getElem?_eq_some_iff.1 H.ek).1
theorem Fx.below (H : Fx F E w vs fr er) (hb : Below w.heap.size w w2) : Fx F E w2 vs fr er := ⟨H.fe, heap_keep hb H.blk, heap_keep hb H.ek, H.nv, H.nx, fun j v f h1 h2 => own_below (H.own j v f h1 h2) hb, H.sep⟩
theorem Fx.slot (H : Fx F E w vs fr er) {j : Nat} {v : Value} (hv : vs[j]? = some v) : w.cell? ⟨F, j, none⟩ = some v := by
  rw [cell_of_row w F j _ _ _ H.blk, List.getElem?_toArray]; exact hv
theorem Kf.of (hh : F ≤ w.heap.size) (hb : Below w.heap.size w w2) : Kf F E w w2 := ⟨hb.mono hh, fun k cur t hk _ _ _ => heap_keep hb hk⟩
theorem Kf.trans {w3 : World} (a : Kf F E w w2) (b : Kf F E w2 w3) : Kf F E w w3 := ⟨a.bel.trans b.bel, fun k cur t hk h1 h2 h3 => b.oth k cur t (a.oth k cur t hk h1 h2 h3) h1 h2 h3⟩
theorem Fx.app {j : Nat} {v v' : Value} {f g : List (Nat × Nat)} (H : Fx F E w vs fr er) (hv : vs[j]? = some v) (hx : fr[j]? = some f) (hg : w.grownBy w2 v.ownBlock) (ho : w2.ownsRow (E + 1) 39 1 v' g.length (g.flatMap cPr)) (ha : v'.ownBlock = v.ownBlock ∨ ∃ b, v'.ownBlock = some b ∧ w.heap.size ≤ b) :
    Fx F E (w2.setCell ⟨F, j, none⟩ v') (vs.set j v') (fr.set j g) er ∧ Kf F E w (w2.setCell ⟨F, j, none⟩ v') ∧ w2.cell? ⟨F, j, none⟩ = some v ∧ w2.frozen? ⟨F, j, none⟩ = false := by
  have hj := (List.getElem?_eq_some_iff.1 hv).1
  have hh : w2.heap[F]? = _ := heap_grown hg H.blk (fun e => own_at (H.own j v f hv hx) H.blk (by decide) e.symm)
  have he : w2.heap[E]? = _ := heap_grown hg H.ek (fun e => own_at (H.own j v f hv hx) H.ek (by decide) e.symm)
  have key : ∀ {n : Nat} {u : Value} {zs : List Value}, w2.ownsRow (E + 1) 39 1 u n zs → (w2.setCell ⟨F, j, none⟩ v').ownsRow (E + 1) 39 1 u n zs := fun o => ownsRow_setCell_other o (own_at o hh (by decide)) _
  have es := setCell_eq_setRow w2 F j _ 88 (0, 0) v' hh
  have sp : ∀ i u, i ≠ j → vs[i]? = some u → u.ownBlock = none ∨ u.ownBlock ≠ v'.ownBlock := by
    intro i u hi hu
    rcases ha with e | ⟨g, e, hgg⟩
    · rw [e]; exact H.sep i j u v hi hu hv
    · cases hb : u.ownBlock with
      | none => exact .inl rfl
      | some b =>
        refine .inr fun e2 => ?_
        rw [e] at e2
        cases e2
        obtain ⟨zs, hz⟩ : ∃ zs, fr[i]? = some zs := ⟨_, List.getElem?_eq_getElem (by have := (List.getElem?_eq_some_iff.1 hu).1; rw [H.nx, ← H.nv]; exact this)⟩
        have := ((H.own i u zs hu hz).lt _ hb).2
        omega
  refine ⟨⟨H.fe, ?_, ?_, by simp [H.nv], by simp [H.nx], ?_, ?_⟩, ⟨?_, ?_⟩, ?_, by simp [World.frozen?, hh]⟩
  · rw [setCell_cells hh, List.setIfInBounds_toArray]
  · rw [es, setRow_other w2 F E _ (by have := H.fe; omega)]; exact he
  · intro i u zs hu hz
    by_cases hi : i = j
    · subst hi
      rw [List.getElem?_set_self hj] at hu
      rw [List.getElem?_set_self (by rw [H.nx, ← H.nv]; exact hj)] at hz
      cases hu; cases hz
      exact key ho
    · rw [List.getElem?_set_ne (fun e => hi e.symm)] at hu hz
      exact key ((H.own i u zs hu hz).kept hg (H.sep i j u v hi hu hv))
  · intro i k u x hik hu hx'
    by_cases hi : i = j
    · subst hi
      rw [List.getElem?_set_self hj] at hu
      cases hu
      rw [List.getElem?_set_ne hik] at hx'
      rcases sp k x (fun e => hik e.symm) hx' with e | e
      · rw [e]
        cases hb : v'.ownBlock with
        | none => exact .inl rfl
        | some b => exact .inr (by simp)
      · exact .inr (fun e2 => e e2.symm)
    · rw [List.getElem?_set_ne (fun e => hi e.symm)] at hu
      by_cases hk : k = j
      · subst hk
        rw [List.getElem?_set_self hj] at hx'
        cases hx'
        exact sp i u hi hu
      · rw [List.getElem?_set_ne (fun e => hk e.symm)] at hx'
        exact H.sep i k u x hik hu hx'
  · rw [es]
    have hF : F < w.heap.size := (Array.getElem?_eq_some_iff.1 H.blk).1
    exact (grown_below hg (Nat.le_of_lt hF) (fun b e => by have := ((H.own j v f hv hx).lt _ e).1; have := H.fe; omega)).trans ⟨rfl, rfl, rfl, by simp [World.setRow], fun i hi => setRow_other w2 F i _ (by omega)⟩
  · intro k cur t hk ht hkF hkE
    rw [es, setRow_other w2 F k _ hkF]
    exact heap_grown hg hk (fun e => own_at (H.own j v f hv hx) hk (fun e2 => ht e2.symm) e.symm)
  · rw [cell_of_row w2 F j _ _ _ hh, List.getElem?_toArray]; exact hv
theorem Fx.err (H : Fx F E w vs fr er) (z : Int) : Fx F E (w.setCell ⟨E, 0, none⟩ (.int .i64 z)) vs fr z ∧ Kf F E w (w.setCell ⟨E, 0, none⟩ (.int .i64 z)) := by
  have es := setCell_eq_setRow w E 0 _ 26 (0, 0) (.int .i64 z) H.ek
  refine ⟨⟨H.fe, ?_, by rw [setCell_cells H.ek]; rfl, H.nv, H.nx, fun j v f h1 h2 => ownsRow_setCell_other (H.own j v f h1 h2) (own_at (H.own j v f h1 h2) H.ek (by decide)) _, H.sep⟩, ⟨?_, ?_⟩⟩
  · rw [es, setRow_other w E F _ (by have := H.fe; omega)]; exact H.blk
  · rw [es]; exact ⟨rfl, rfl, rfl, by simp [World.setRow], fun i hi => setRow_other w E i _ (by have := H.fe; omega)⟩
  · intro k cur t hk _ _ hkE
    rw [es, setRow_other w E k _ hkE]; exact hk
end
theorem run_appPr {w : World} (base g : Nat) (ty : TypeId) (v : Value) (pre : List (Nat × Nat)) (r : Nat × Nat) (hown : w.ownsRow base 39 1 v pre.length (pre.flatMap cPr)) (hg : w.heap[g]? = some (.cells (cPr r).toArray 39 (0, 0))) (hl : pre.length ≤ 1172812402926) (hbase : base ≤ w.heap.size) :
    ∃ v' w', (Builtin.append_ #[57, 57] ty #[v, .slice (some ⟨g, 0, none⟩) 1 1]).run Try.prog w = .ok v' w' ∧ w'.ownsRow base 39 1 v' (pre ++ [r]).length ((pre ++ [r]).flatMap cPr) ∧ w.grownBy w' v.ownBlock ∧ (v'.ownBlock = v.ownBlock ∨ v'.ownBlock = some w.heap.size) := by
  obtain ⟨i, hi, hz, hsz, hby⟩ := info_parts info39
  obtain ⟨v', w', h1, h2, h3, _, h5⟩ := run_append_own_at (P := Try.prog) (w := w) base 57 ty 39 i _ 1 16 Try.underlying57 hi hz hsz hby rfl (by omega) v pre.length (pre.flatMap cPr) hown ⟨g, 0, none⟩ 1 1 (cPr r) (by rw [cPr_len]) (news_heap hg) (cPr_one r) (by have := maxLen_ge; omega) (by omega) hbase
  exact ⟨v', w', h1, by rw [List.length_append, List.flatMap_append, List.flatMap_cons, List.flatMap_nil, List.append_nil]; exact h2, h3, h5⟩
def FinC (E : Nat) (vo : Option Nat) (z : Nat) (ys : List (Nat × Nat)) (v2 : Value) (w2 : World) : Prop := w2.ownsRow (E + 1) 39 1 v2 ys.length (ys.flatMap cPr) ∧ (v2.ownBlock = vo ∨ ∃ g, v2.ownBlock = some g ∧ z ≤ g)
def keepP (fr : List (List (Nat × Nat))) (er : Int) (l : La) (f : List (Nat × Nat)) : List (List (Nat × Nat)) × Int × Bool × Bool :=
  if (match f.getLast? with | some p => decide (p.2 ≤ l.i) | none => false) = true then (fr, er, false, false)
  else if 64 ≤ f.length then (fr, 7, false, true)
  else (fr.set l.n.toNat (f ++ [(l.r, l.i)]), er, true, false)
set_option maxRecDepth 100000 in
set_option maxHeartbeats 8000000 in
theorem keep_ok (F E : Nat) (w : World) (vs : List Value) (fr : List (List (Nat × Nat))) (er : Int) (l : La) (f : List (Nat × Nat)) (H : Fx F E w vs fr er) (hl : LaS l) (hf : fr[l.n.toNat]? = some f) (hsm : ∀ p ∈ f, p.1 ≤ big ∧ p.2 ≤ big) (hfl : f.length ≤ 1000) :
    Calls Try.prog 44 #[.agg (cLa l).toArray, .pointer (some ⟨F, 0, none⟩), .pointer (some ⟨E, 0, none⟩)] w fun e w' => e = .returned (.tuple #[.bool (keepP fr er l f).2.2.1, .bool (keepP fr er l f).2.2.2]) ∧ Kf F E w w' ∧ ∃ vs', Fx F E w' vs' (keepP fr er l f).1 (keepP fr er l f).2.1 := by
  have ho := hl.2
  simp only [oks, Bool.and_eq_true, decide_eq_true_eq] at ho
  obtain ⟨m, hm⟩ : ∃ m : Nat, l.n = (m : Int) := ⟨l.n.toNat, by omega⟩
  rw [hm, Int.toNat_natCast] at hf
  have hm0 : (0 : Int) ≤ (m : Int) := by omega
  have hm1 : (m : Int) < 128 := by omega
  obtain ⟨vj, hvj⟩ : ∃ v, vs[m]? = some v := ⟨_, List.getElem?_eq_getElem (by rw [H.nv]; omega)⟩
  have own := H.own m vj f hvj hf
  have hF : F < w.heap.size := (Array.getElem?_eq_some_iff.1 H.blk).1
  have b1 : Below w.heap.size w (w.alloc (.cells (cLa l).toArray 91)) := (Below.refl _ _).alloc (Nat.le_refl _) _
  have k0 : (w.alloc (.cells (cLa l).toArray 91)).heap[w.heap.size]? = some (.cells (cLa l).toArray 91 (0, 0)) := heap_at rfl
  have EA : w.alloc (.cells (cLa l).toArray 91) = w.alloc (.cells #[.complex .f64 (fb l.r) (fb l.i), .int .i64 (m : Int)] 91) := by unfold cLa; rw [hm]
  have BA := Lib.hid b1
  have KA := Lib.hid k0
  have MN := Lib.hid hm
  have HJ := Lib.hid hvj
  have HF := Lib.hid hf
  have HA := Lib.hid (H.below b1)
  have OA := Lib.hid (own_below own b1)
  have OZ := Lib.hid (show vj.ownBlock ≠ some w.heap.size from fun e => by have := (own.lt _ e).2; omega)
  have KF1 := Lib.hid (Kf.of (E := E) (Nat.le_of_lt hF) b1)
  have HLS := Lib.hid hl
  have HSM := Lib.hid hsm
  have HFL := Lib.hid hfl
  obtain ⟨A, c, hv, hrd, -⟩ := Sl_of_row cPr_len (by omega) own rfl
  obtain ⟨n, hn⟩ : ∃ n, n = f.length := ⟨_, rfl⟩
  rw [← hn] at hv
  have HN := Lib.hid hn
  have RD := Lib.hid (hrd.below b1)
  rw [EA] at BA KA HA OA KF1 RD
  clear b1 k0 EA hvj hf own H hl hsm hfl hn ho hrd hF
  unfold cLa
  rw [hm]
  clear hm
  subst hv
  generalize hW : w.alloc (.cells #[.complex .f64 (fb l.r) (fb l.i), .int .i64 (m : Int)] 91) = wa at *
  have kc := KA.out
  have c0 : wa.cell? ⟨w.heap.size, 0, none⟩ = some (.complex .f64 (fb l.r) (fb l.i)) := by rw [cell_of_row wa _ 0 _ _ _ kc]; rfl
  have c1 : wa.cell? ⟨w.heap.size, 1, none⟩ = some (.int .i64 (m : Int)) := by rw [cell_of_row wa _ 1 _ _ _ kc, ← MN.out]; rfl
  have q0 := HA.out.slot HJ.out
  have HC0 : ∀ w5, Below wa.heap.size wa w5 → w5.cell? ⟨w.heap.size, 0, none⟩ = some (.complex .f64 (fb l.r) (fb l.i)) ∧ w5.cell? ⟨w.heap.size, 1, none⟩ = some (.int .i64 (m : Int)) := fun w5 h5 => ⟨bcell h5 c0, bcell h5 c1⟩
  have C01 := Lib.hid (And.intro c0 c1)
  clear kc
  rcases Nat.eq_zero_or_pos n with hn0 | hn0
  · subst hn0
    have hf0 : Hid (f = []) := Lib.hid (List.eq_nil_of_length_eq_zero HN.out.symm)
    have q00 := q0
    clear q00
    have KP : Hid (keepP fr er l f = if 64 ≤ f.length then (fr, 7, false, true) else (fr.set l.n.toNat (f ++ [(l.r, l.i)]), er, true, false)) := Lib.hid (by unfold keepP; rw [hf0.out]; rfl)
    go_enter Try.func44, Try.ntmps44
    go_wp2_with fail
    clear hW q0 c0 c1
    have HC := HC0
    refine Og.walk_lit [[],[0],[1,0],[2,1,0],[3,2,1,0],[3,2,1,0],[5,3,2,1,0],[6,3,5,2,1,0],[4,7,3,2,1,0,6,5],[8,3,4,7,2,1,0,6,5],[9,3,8,4,7,2,1,0,6,5],[3,2,1,0],[11,3,2,1,0],[12,3,11,2,1,0],[10,13,3,9,8,4,7,2,1,0,6,5,12,11],[3,14,2,1,0,10,13,9,8,4,7,6,5,12,11]] (fun w2 => Below wa.heap.size wa w2) (fun w1 w2 => Below w1.heap.size w1 w2) (by kernel_rfl) (by kernel_rfl) (bdrew) ?_
    refine Og.step_pure (fun _ => Below.refl _ _) ?_; apply Exists.intro; refine And.intro ?_ ?_; focus (intro vs w2 hC hk; have hm := HC w2 hC; revert hk; simp only [Og.KS, Og.K0, Og.Is, List.getD_cons_zero, List.getD_cons_succ, List.getD_nil, List.contains_cons, List.contains_nil, Nat.reduceAdd, Nat.reduceBEq, Bool.or_false, Bool.false_or, Bool.or_true, Bool.true_or, Bool.false_eq_true, false_implies, true_implies, true_and, and_true, forall_const]; intros; go_simp; exact rfl)
    refine Og.step_pure (fun _ => Below.refl _ _) ?_; apply Exists.intro; refine And.intro ?_ ?_; focus (intro vs w2 hC hk; have hm := HC w2 hC; revert hk; simp only [Og.KS, Og.K0, Og.Is, List.getD_cons_zero, List.getD_cons_succ, List.getD_nil, List.contains_cons, List.contains_nil, Nat.reduceAdd, Nat.reduceBEq, Bool.or_false, Bool.false_or, Bool.or_true, Bool.true_or, Bool.false_eq_true, false_implies, true_implies, true_and, and_true, forall_const]; intros; go_simp; exact rfl)
    refine Og.step_pure (fun _ => Below.refl _ _) ?_; apply Exists.intro; refine And.intro ?_ ?_; focus (intro vs w2 hC hk; have hm := HC w2 hC; revert hk; simp only [Og.KS, Og.K0, Og.Is, List.getD_cons_zero, List.getD_cons_succ, List.getD_nil, List.contains_cons, List.contains_nil, Nat.reduceAdd, Nat.reduceBEq, Bool.or_false, Bool.false_or, Bool.or_true, Bool.true_or, Bool.false_eq_true, false_implies, true_implies, true_and, and_true, forall_const]; intros; go_simp; exact rfl)
    refine Og.step_pure (fun _ => Below.refl _ _) ?_; apply Exists.intro; refine And.intro ?_ ?_; focus (intro vs w2 hC hk; have hm := HC w2 hC; revert hk; simp only [Og.KS, Og.K0, Og.Is, List.getD_cons_zero, List.getD_cons_succ, List.getD_nil, List.contains_cons, List.contains_nil, Nat.reduceAdd, Nat.reduceBEq, Bool.or_false, Bool.false_or, Bool.or_true, Bool.true_or, Bool.false_eq_true, false_implies, true_implies, true_and, and_true, forall_const]; intros; go_simp; exact rfl)
    refine Og.step_pure (fun _ => Below.refl _ _) ?_; apply Exists.intro; refine And.intro ?_ ?_; focus (intro vs w2 hC hk; have hm := HC w2 hC; revert hk; simp only [Og.KS, Og.K0, Og.Is, List.getD_cons_zero, List.getD_cons_succ, List.getD_nil, List.contains_cons, List.contains_nil, Nat.reduceAdd, Nat.reduceBEq, Bool.or_false, Bool.false_or, Bool.or_true, Bool.true_or, Bool.false_eq_true, false_implies, true_implies, true_and, and_true, forall_const]; intros; go_simp; exact rfl)
    refine Og.step_pure (fun _ => Below.refl _ _) ?_; apply Exists.intro; refine And.intro ?_ ?_; focus (intro vs w2 hC hk; have hm := HC w2 hC; revert hk; simp only [Og.KS, Og.K0, Og.Is, List.getD_cons_zero, List.getD_cons_succ, List.getD_nil, List.contains_cons, List.contains_nil, Nat.reduceAdd, Nat.reduceBEq, Bool.or_false, Bool.false_or, Bool.or_true, Bool.true_or, Bool.false_eq_true, false_implies, true_implies, true_and, and_true, forall_const]; intros; go_simp; exact rfl)
    refine Og.step_pure (fun _ => Below.refl _ _) ?_; apply Exists.intro; refine And.intro ?_ ?_; focus (intro vs w2 hC hk; have hm := HC w2 hC; revert hk; simp only [Og.KS, Og.K0, Og.Is, List.getD_cons_zero, List.getD_cons_succ, List.getD_nil, List.contains_cons, List.contains_nil, Nat.reduceAdd, Nat.reduceBEq, Bool.or_false, Bool.false_or, Bool.or_true, Bool.true_or, Bool.false_eq_true, false_implies, true_implies, true_and, and_true, forall_const]; intros; go_simp; exact rfl)
    refine Og.step_pure (fun _ => Below.refl _ _) ?_; apply Exists.intro; refine And.intro ?_ ?_; focus (intro vs w2 hC hk; have hm := HC w2 hC; revert hk; simp only [Og.KS, Og.K0, Og.Is, List.getD_cons_zero, List.getD_cons_succ, List.getD_nil, List.contains_cons, List.contains_nil, Nat.reduceAdd, Nat.reduceBEq, Bool.or_false, Bool.false_or, Bool.or_true, Bool.true_or, Bool.false_eq_true, false_implies, true_implies, true_and, and_true, forall_const]; intros; go_simp; exact rfl)
    refine Og.step_pure (fun _ => Below.refl _ _) ?_; apply Exists.intro; refine And.intro ?_ ?_; focus (intro vs w2 hC hk; have hm := HC w2 hC; revert hk; simp only [Og.KS, Og.K0, Og.Is, List.getD_cons_zero, List.getD_cons_succ, List.getD_nil, List.contains_cons, List.contains_nil, Nat.reduceAdd, Nat.reduceBEq, Bool.or_false, Bool.false_or, Bool.or_true, Bool.true_or, Bool.false_eq_true, false_implies, true_implies, true_and, and_true, forall_const]; intros; go_simp; exact rfl)
    refine Og.step_pure (fun _ => Below.refl _ _) ?_; apply Exists.intro; refine And.intro ?_ ?_; focus (intro vs w2 hC hk; have hm := HC w2 hC; revert hk; simp only [Og.KS, Og.K0, Og.Is, List.getD_cons_zero, List.getD_cons_succ, List.getD_nil, List.contains_cons, List.contains_nil, Nat.reduceAdd, Nat.reduceBEq, Bool.or_false, Bool.false_or, Bool.or_true, Bool.true_or, Bool.false_eq_true, false_implies, true_implies, true_and, and_true, forall_const]; intros; go_simp; exact rfl)
    refine Og.step_pure (fun _ => Below.refl _ _) ?_; apply Exists.intro; refine And.intro ?_ ?_; focus (intro vs w2 hC hk; have hm := HC w2 hC; revert hk; simp only [Og.KS, Og.K0, Og.Is, List.getD_cons_zero, List.getD_cons_succ, List.getD_nil, List.contains_cons, List.contains_nil, Nat.reduceAdd, Nat.reduceBEq, Bool.or_false, Bool.false_or, Bool.or_true, Bool.true_or, Bool.false_eq_true, false_implies, true_implies, true_and, and_true, forall_const]; intros; go_simp; exact rfl)
    refine Og.step_pure (fun _ => Below.refl _ _) ?_; apply Exists.intro; refine And.intro ?_ ?_; focus (intro vs w2 hC hk; have hm := HC w2 hC; revert hk; simp only [Og.KS, Og.K0, Og.Is, List.getD_cons_zero, List.getD_cons_succ, List.getD_nil, List.contains_cons, List.contains_nil, Nat.reduceAdd, Nat.reduceBEq, Bool.or_false, Bool.false_or, Bool.or_true, Bool.true_or, Bool.false_eq_true, false_implies, true_implies, true_and, and_true, forall_const]; intros; go_simp; exact rfl)
    refine Og.step_pure (fun _ => Below.refl _ _) ?_; apply Exists.intro; refine And.intro ?_ ?_; focus (intro vs w2 hC hk; have hm := HC w2 hC; revert hk; simp only [Og.KS, Og.K0, Og.Is, List.getD_cons_zero, List.getD_cons_succ, List.getD_nil, List.contains_cons, List.contains_nil, Nat.reduceAdd, Nat.reduceBEq, Bool.or_false, Bool.false_or, Bool.or_true, Bool.true_or, Bool.false_eq_true, false_implies, true_implies, true_and, and_true, forall_const]; intros; go_simp; exact rfl)
    refine Og.step_pure (fun _ => Below.refl _ _) ?_; apply Exists.intro; refine And.intro ?_ ?_; focus (intro vs w2 hC hk; have hm := HC w2 hC; revert hk; simp only [Og.KS, Og.K0, Og.Is, List.getD_cons_zero, List.getD_cons_succ, List.getD_nil, List.contains_cons, List.contains_nil, Nat.reduceAdd, Nat.reduceBEq, Bool.or_false, Bool.false_or, Bool.or_true, Bool.true_or, Bool.false_eq_true, false_implies, true_implies, true_and, and_true, forall_const]; intros; go_simp; exact rfl)
    refine Og.step_pure (fun _ => Below.refl _ _) ?_; apply Exists.intro; refine And.intro ?_ ?_; focus (intro vs w2 hC hk; have hm := HC w2 hC; revert hk; simp only [Og.KS, Og.K0, Og.Is, List.getD_cons_zero, List.getD_cons_succ, List.getD_nil, List.contains_cons, List.contains_nil, Nat.reduceAdd, Nat.reduceBEq, Bool.or_false, Bool.false_or, Bool.or_true, Bool.true_or, Bool.false_eq_true, false_implies, true_implies, true_and, and_true, forall_const]; intros; go_simp; exact rfl)
    refine Og.step_pure (fun _ => Below.refl _ _) ?_; apply Exists.intro; refine And.intro ?_ ?_; focus (intro vs w2 hC hk; have hm := HC w2 hC; revert hk; simp only [Og.KS, Og.K0, Og.Is, List.getD_cons_zero, List.getD_cons_succ, List.getD_nil, List.contains_cons, List.contains_nil, Nat.reduceAdd, Nat.reduceBEq, Bool.or_false, Bool.false_or, Bool.or_true, Bool.true_or, Bool.false_eq_true, false_implies, true_implies, true_and, and_true, forall_const]; intros; go_simp; exact rfl)
    intro vS wb hC hk
    simp only [Og.KS, Og.K0, Og.Is, List.getD_cons_zero, List.getD_cons_succ, List.getD_nil, List.contains_cons, List.contains_nil, Nat.reduceAdd, Nat.reduceBEq, Bool.or_false, Bool.false_or, Bool.or_true, Bool.true_or, Bool.false_eq_true, false_implies, true_implies, true_and, and_true, forall_const] at hk
    simp only [hk, Act.put, List.setIfInBounds_toArray, List.set_cons_zero, List.set_cons_succ]
    have HB := Lib.hid (HA.out.below hC)
    have OB := Lib.hid (own_below OA.out hC)
    have KB := Lib.hid (heap_keep hC KA.out)
    have KF2 := Lib.hid (KF1.out.trans (Kf.of (E := E) (by have := HA.out.lt; have := HA.out.fe; omega) hC))
    have BB := Lib.hid hC
    clear hk hC HC HC0
    have nlt : Hid (¬ 64 ≤ f.length) := Lib.hid (by rw [← HN.out]; decide)
    go_wp2_with fail
    have VLT := Lib.hid HB.out.lt
    have HC : ∀ w5, wb.grownBy w5 (Value.slice A 0 c).ownBlock → w5.cell? ⟨w.heap.size, 0, none⟩ = some (.complex .f64 (fb l.r) (fb l.i)) ∧ w5.cell? ⟨w.heap.size, 1, none⟩ = some (.int .i64 (m : Int)) := fun w5 h5 => by
      have z5 := heap_grown h5 KB.out (fun e => OZ.out e.symm)
      exact ⟨by rw [cell_of_row w5 _ 0 _ _ _ z5]; rfl, by rw [cell_of_row w5 _ 1 _ _ _ z5, ← MN.out]; rfl⟩
    refine Og.Joint2.walk_lit 7 [[],[0],[],[],[3],[4,3],[2,5,4,3],[1,0,2,3,4,5,6],[7,6,0,1,2,3,4,5]] (CC wb (Value.slice A 0 c).ownBlock 5 6 (cPr (l.r, l.i)).toArray (FinC E (Value.slice A 0 c).ownBlock wb.heap.size (f ++ [(l.r, l.i)]))) (fun _ _ => True) (by kernel_rfl) (by kernel_rfl) (by kernel_rfl) (fun vs => CC.ini bdrew) ?_
    simp only [List.take_succ_cons, List.take_zero, List.drop_succ_cons, List.drop_zero]
    refine Og.Joint2.step_pure (fun p vs v w h => h.other (by decide) (by decide)) (fun _ => trivial) ?_; apply Exists.intro; refine And.intro ?_ ?_; focus (intro p vs w2 hC hk; have hm := HC w2 hC.1; refine Og.OptB.mk ?_; revert hk; simp only [Og.KS, Og.K0, Og.Is, List.getD_cons_zero, List.getD_cons_succ, List.getD_nil, List.contains_cons, List.contains_nil, Nat.reduceAdd, Nat.reduceBEq, Bool.or_false, Bool.false_or, Bool.or_true, Bool.true_or, Bool.false_eq_true, false_implies, true_implies, true_and, and_true, forall_const]; intros; go_simp; exact rfl)
    refine Og.Joint2.step_pure (fun p vs v w h => h.other (by decide) (by decide)) (fun _ => trivial) ?_; apply Exists.intro; refine And.intro ?_ ?_; focus (intro p vs w2 hC hk; have hm := HC w2 hC.1; refine Og.OptB.mk ?_; revert hk; simp only [Og.KS, Og.K0, Og.Is, List.getD_cons_zero, List.getD_cons_succ, List.getD_nil, List.contains_cons, List.contains_nil, Nat.reduceAdd, Nat.reduceBEq, Bool.or_false, Bool.false_or, Bool.or_true, Bool.true_or, Bool.false_eq_true, false_implies, true_implies, true_and, and_true, forall_const]; intros; go_simp; exact rfl)
    refine Og.Joint2.step_pure (fun p vs v w h => h.other (by decide) (by decide)) (fun _ => trivial) ?_; apply Exists.intro; refine And.intro ?_ ?_; focus (intro p vs w2 hC hk; have hm := HC w2 hC.1; refine Og.OptB.mk ?_; revert hk; simp only [Og.KS, Og.K0, Og.Is, List.getD_cons_zero, List.getD_cons_succ, List.getD_nil, List.contains_cons, List.contains_nil, Nat.reduceAdd, Nat.reduceBEq, Bool.or_false, Bool.false_or, Bool.or_true, Bool.true_or, Bool.false_eq_true, false_implies, true_implies, true_and, and_true, forall_const]; intros; go_simp; exact rfl)
    refine Og.Joint2.step_pure (fun p vs v w h => h.other (by decide) (by decide)) (fun _ => trivial) ?_; apply Exists.intro; refine And.intro ?_ ?_; focus (intro p vs w2 hC hk; have hm := HC w2 hC.1; refine Og.OptB.mk ?_; revert hk; simp only [Og.KS, Og.K0, Og.Is, List.getD_cons_zero, List.getD_cons_succ, List.getD_nil, List.contains_cons, List.contains_nil, Nat.reduceAdd, Nat.reduceBEq, Bool.or_false, Bool.false_or, Bool.or_true, Bool.true_or, Bool.false_eq_true, false_implies, true_implies, true_and, and_true, forall_const]; intros; go_simp; exact rfl)
    refine Og.Joint2.step_pure (fun p vs v w h => h.other (by decide) (by decide)) (fun _ => trivial) ?_; apply Exists.intro; refine And.intro ?_ ?_; focus (intro p vs w2 hC hk; have hm := HC w2 hC.1; refine Og.OptB.mk ?_; revert hk; simp only [Og.KS, Og.K0, Og.Is, List.getD_cons_zero, List.getD_cons_succ, List.getD_nil, List.contains_cons, List.contains_nil, Nat.reduceAdd, Nat.reduceBEq, Bool.or_false, Bool.false_or, Bool.or_true, Bool.true_or, Bool.false_eq_true, false_implies, true_implies, true_and, and_true, forall_const]; intros; go_simp; exact rfl)
    refine Og.Joint2.step_any (fun _ _ => True) (fun _ _ _ _ _ => trivial) ?_ ?_; focus (intro p vs w2 hp hC hk; refine Og.OptB.mk ?_; revert hk; simp only [Og.KS, Og.K0, Og.Is, List.getD_cons_zero, List.getD_cons_succ, List.getD_nil, List.contains_cons, List.contains_nil, Nat.reduceAdd, Nat.reduceBEq, Bool.or_false, Bool.false_or, Bool.or_true, Bool.true_or, Bool.false_eq_true, false_implies, true_implies, true_and, and_true, forall_const]; intros; go_simp; exact CC.new hp.1 (by decide) hC)
    refine Og.Joint2.step_any (fun _ _ => True) (fun _ _ _ _ _ => trivial) ?_ ?_; focus (intro p vs w2 hp hC hk; have h1 : p 5 = true := hp.2 5 (by decide); obtain ⟨g1, e1, hg1, hz⟩ := hC.2.2.2.1 h1; have bW := hC.2.2.1 hp.1; obtain ⟨v3, w3, hr, ho3, hg3, ha3⟩ := run_appPr (w := w2) (E + 1) g1 57 _ f (l.r, l.i) (own_below OB.out bW) (hz hp.1) (by have := HFL.out; omega) (by have := VLT.out; have := bW.size; omega); revert hk; simp only [Og.KS, Og.K0, Og.Is, List.getD_cons_zero, List.getD_cons_succ, List.getD_nil, List.contains_cons, List.contains_nil, Nat.reduceAdd, Nat.reduceBEq, Bool.or_false, Bool.false_or, Bool.or_true, Bool.true_or, Bool.false_eq_true, false_implies, true_implies, true_and, and_true, forall_const]; intros; refine optB_appR (by go_simp) rfl (by go_simp) (by first | (go_simp; done) | (go_simp; exact e1)) hr ?_; exact CC.done (by decide) h1 hp.1 hC hg3 ⟨ho3, ha3.imp id fun e => ⟨_, e, bW.size⟩⟩)
    intro p vS w5 hp hC hk
    obtain ⟨hg6, -, -, -, hfin⟩ := hC
    obtain ⟨ho6, ha6⟩ := hfin (hp 6 (by decide))
    simp only [Og.KS, Og.K0, Og.Is, List.getD_cons_zero, List.getD_cons_succ, List.getD_nil, List.contains_cons, List.contains_nil, Nat.reduceAdd, Nat.reduceBEq, Bool.or_false, Bool.false_or, Bool.or_true, Bool.true_or, Bool.false_eq_true, false_implies, true_implies, true_and, and_true, forall_const] at hk
    simp only [hk, Act.put, List.setIfInBounds_toArray, List.set_cons_zero, List.set_cons_succ]
    obtain ⟨gg, cc, e6, -⟩ := own_some ho6 (fun e => by rw [e] at ho6; have := ho6.1; rcases ho6.2 with ⟨_, h0⟩ | ⟨_, _, _, h0, _⟩; simp at h0; cases h0)
    rw [e6] at ho6 ha6
    obtain ⟨X1, X2, q1, q2⟩ := HB.out.app HJ.out HF.out hg6 ho6 ha6
    have el : (f ++ [(l.r, l.i)]).length = f.length + 1 := by simp
    rw [el] at X1 X2
    rw [e6]
    have FX := Lib.hid X1
    have KX := Lib.hid (KF2.out.trans X2)
    clear hk hp hg6 hfin ho6 ha6 X1 X2 HC e6 el
    go_wp2_with fail
    go_ret2
    refine ⟨by rw [KP.out, if_neg nlt.out]; rfl, KX.out, _, by rw [KP.out, if_neg nlt.out]; simp only []; rw [MN.out, Int.toNat_natCast]; exact FX.out⟩
  · obtain ⟨ln, hln⟩ : ∃ ln, n = ln + 1 := ⟨n - 1, by omega⟩
    subst hln
    obtain ⟨p, hp⟩ : ∃ p, f[ln]? = some p := ⟨_, List.getElem?_eq_getElem (by rw [← HN.out]; omega)⟩
    obtain ⟨bk, o, rfl, hat⟩ := RD.out ln p hp
    have hpm := HSM.out p (List.mem_of_getElem? hp)
    have e1 := fbLe (a := p.2) (b := l.i) hpm.2 HLS.out.1.2
    have hlast : f.getLast? = some p := by rw [List.getLast?_eq_getElem?, ← HN.out]; exact hp
    have KP0 : Hid (keepP fr er l f = if decide (p.2 ≤ l.i) = true then (fr, er, false, false) else if 64 ≤ f.length then (fr, 7, false, true) else (fr.set l.n.toNat (f ++ [(l.r, l.i)]), er, true, false)) := Lib.hid (by unfold keepP; rw [hlast])
    have pc : wa.cell? ⟨bk, o + ln, none⟩ = some (.complex .f64 (fb p.1) (fb p.2)) := by have := hat 0 _ rfl; simpa using this
    have HC : ∀ w5, Below wa.heap.size wa w5 → w5.cell? ⟨w.heap.size, 0, none⟩ = some (.complex .f64 (fb l.r) (fb l.i)) ∧ w5.cell? ⟨w.heap.size, 1, none⟩ = some (.int .i64 (m : Int)) ∧ w5.cell? ⟨bk, o + ln, none⟩ = some (.complex .f64 (fb p.1) (fb p.2)) := fun w5 h5 => ⟨(HC0 w5 h5).1, (HC0 w5 h5).2, bcell h5 pc⟩
    have hl0 : (0 : Int) ≤ (ln : Int) := by omega
    have hl1 : (ln : Int) < (ln : Int) + 1 := by omega
    have hgt : (0 : Int) < (ln : Int) + 1 := by omega
    have hlnb : Hid (ln < 1000) := Lib.hid (by have := HFL.out; have := HN.out; omega)
    have gw : wrap64 (ln : Int) = ln := by have := hlnb.out; unfold wrap64; omega
    have gw2 : IntKind.i64.wrap (ln : Int) = ln := wrapk (by have := hlnb.out; omega)
    clear hp hat hpm hlast pc HC0 RD
    go_enter Try.func44, Try.ntmps44
    go_wp2_with fail
    clear hW q0 c0 c1
    cases hq : decide (p.2 ≤ l.i)
    · rw [hq] at e1
      have KP : Hid (keepP fr er l f = if 64 ≤ f.length then (fr, 7, false, true) else (fr.set l.n.toNat (f ++ [(l.r, l.i)]), er, true, false)) := Lib.hid (by have := KP0.out; rw [hq] at this; exact this)
      clear hq KP0
      refine Og.walk_lit [[],[0],[1,0],[2,1,0],[3,2,1,0],[3,2,1,0],[5,3,2,1,0],[6,3,5,2,1,0],[4,7,3,2,1,0,6,5],[8,3,4,7,2,1,0,6,5],[9,3,8,4,7,2,1,0,6,5],[3,2,1,0],[11,3,2,1,0],[12,3,11,2,1,0],[10,13,3,9,8,4,7,2,1,0,6,5,12,11],[3,14,2,1,0,10,13,9,8,4,7,6,5,12,11]] (fun w2 => Below wa.heap.size wa w2) (fun w1 w2 => Below w1.heap.size w1 w2) (by kernel_rfl) (by kernel_rfl) (bdrew) ?_
      refine Og.step_pure (fun _ => Below.refl _ _) ?_; apply Exists.intro; refine And.intro ?_ ?_; focus (intro vs w2 hC hk; have hm := HC w2 hC; revert hk; simp only [Og.KS, Og.K0, Og.Is, List.getD_cons_zero, List.getD_cons_succ, List.getD_nil, List.contains_cons, List.contains_nil, Nat.reduceAdd, Nat.reduceBEq, Bool.or_false, Bool.false_or, Bool.or_true, Bool.true_or, Bool.false_eq_true, false_implies, true_implies, true_and, and_true, forall_const]; intros; go_simp; exact rfl)
      refine Og.step_pure (fun _ => Below.refl _ _) ?_; apply Exists.intro; refine And.intro ?_ ?_; focus (intro vs w2 hC hk; have hm := HC w2 hC; revert hk; simp only [Og.KS, Og.K0, Og.Is, List.getD_cons_zero, List.getD_cons_succ, List.getD_nil, List.contains_cons, List.contains_nil, Nat.reduceAdd, Nat.reduceBEq, Bool.or_false, Bool.false_or, Bool.or_true, Bool.true_or, Bool.false_eq_true, false_implies, true_implies, true_and, and_true, forall_const]; intros; go_simp; exact rfl)
      refine Og.step_pure (fun _ => Below.refl _ _) ?_; apply Exists.intro; refine And.intro ?_ ?_; focus (intro vs w2 hC hk; have hm := HC w2 hC; revert hk; simp only [Og.KS, Og.K0, Og.Is, List.getD_cons_zero, List.getD_cons_succ, List.getD_nil, List.contains_cons, List.contains_nil, Nat.reduceAdd, Nat.reduceBEq, Bool.or_false, Bool.false_or, Bool.or_true, Bool.true_or, Bool.false_eq_true, false_implies, true_implies, true_and, and_true, forall_const]; intros; go_simp; exact rfl)
      refine Og.step_pure (fun _ => Below.refl _ _) ?_; apply Exists.intro; refine And.intro ?_ ?_; focus (intro vs w2 hC hk; have hm := HC w2 hC; revert hk; simp only [Og.KS, Og.K0, Og.Is, List.getD_cons_zero, List.getD_cons_succ, List.getD_nil, List.contains_cons, List.contains_nil, Nat.reduceAdd, Nat.reduceBEq, Bool.or_false, Bool.false_or, Bool.or_true, Bool.true_or, Bool.false_eq_true, false_implies, true_implies, true_and, and_true, forall_const]; intros; go_simp; exact rfl)
      refine Og.step_pure (fun _ => Below.refl _ _) ?_; apply Exists.intro; refine And.intro ?_ ?_; focus (intro vs w2 hC hk; have hm := HC w2 hC; revert hk; simp only [Og.KS, Og.K0, Og.Is, List.getD_cons_zero, List.getD_cons_succ, List.getD_nil, List.contains_cons, List.contains_nil, Nat.reduceAdd, Nat.reduceBEq, Bool.or_false, Bool.false_or, Bool.or_true, Bool.true_or, Bool.false_eq_true, false_implies, true_implies, true_and, and_true, forall_const]; intros; go_simp; exact rfl)
      refine Og.step_pure (fun _ => Below.refl _ _) ?_; apply Exists.intro; refine And.intro ?_ ?_; focus (intro vs w2 hC hk; have hm := HC w2 hC; revert hk; simp only [Og.KS, Og.K0, Og.Is, List.getD_cons_zero, List.getD_cons_succ, List.getD_nil, List.contains_cons, List.contains_nil, Nat.reduceAdd, Nat.reduceBEq, Bool.or_false, Bool.false_or, Bool.or_true, Bool.true_or, Bool.false_eq_true, false_implies, true_implies, true_and, and_true, forall_const]; intros; go_simp; exact rfl)
      refine Og.step_pure (fun _ => Below.refl _ _) ?_; apply Exists.intro; refine And.intro ?_ ?_; focus (intro vs w2 hC hk; have hm := HC w2 hC; revert hk; simp only [Og.KS, Og.K0, Og.Is, List.getD_cons_zero, List.getD_cons_succ, List.getD_nil, List.contains_cons, List.contains_nil, Nat.reduceAdd, Nat.reduceBEq, Bool.or_false, Bool.false_or, Bool.or_true, Bool.true_or, Bool.false_eq_true, false_implies, true_implies, true_and, and_true, forall_const]; intros; go_simp; exact rfl)
      refine Og.step_pure (fun _ => Below.refl _ _) ?_; apply Exists.intro; refine And.intro ?_ ?_; focus (intro vs w2 hC hk; have hm := HC w2 hC; revert hk; simp only [Og.KS, Og.K0, Og.Is, List.getD_cons_zero, List.getD_cons_succ, List.getD_nil, List.contains_cons, List.contains_nil, Nat.reduceAdd, Nat.reduceBEq, Bool.or_false, Bool.false_or, Bool.or_true, Bool.true_or, Bool.false_eq_true, false_implies, true_implies, true_and, and_true, forall_const]; intros; go_simp; exact rfl)
      refine Og.step_pure (fun _ => Below.refl _ _) ?_; apply Exists.intro; refine And.intro ?_ ?_; focus (intro vs w2 hC hk; have hm := HC w2 hC; revert hk; simp only [Og.KS, Og.K0, Og.Is, List.getD_cons_zero, List.getD_cons_succ, List.getD_nil, List.contains_cons, List.contains_nil, Nat.reduceAdd, Nat.reduceBEq, Bool.or_false, Bool.false_or, Bool.or_true, Bool.true_or, Bool.false_eq_true, false_implies, true_implies, true_and, and_true, forall_const]; intros; go_simp; exact rfl)
      refine Og.step_pure (fun _ => Below.refl _ _) ?_; apply Exists.intro; refine And.intro ?_ ?_; focus (intro vs w2 hC hk; have hm := HC w2 hC; revert hk; simp only [Og.KS, Og.K0, Og.Is, List.getD_cons_zero, List.getD_cons_succ, List.getD_nil, List.contains_cons, List.contains_nil, Nat.reduceAdd, Nat.reduceBEq, Bool.or_false, Bool.false_or, Bool.or_true, Bool.true_or, Bool.false_eq_true, false_implies, true_implies, true_and, and_true, forall_const]; intros; go_simp; exact rfl)
      refine Og.step_pure (fun _ => Below.refl _ _) ?_; apply Exists.intro; refine And.intro ?_ ?_; focus (intro vs w2 hC hk; have hm := HC w2 hC; revert hk; simp only [Og.KS, Og.K0, Og.Is, List.getD_cons_zero, List.getD_cons_succ, List.getD_nil, List.contains_cons, List.contains_nil, Nat.reduceAdd, Nat.reduceBEq, Bool.or_false, Bool.false_or, Bool.or_true, Bool.true_or, Bool.false_eq_true, false_implies, true_implies, true_and, and_true, forall_const]; intros; go_simp; exact rfl)
      refine Og.step_pure (fun _ => Below.refl _ _) ?_; apply Exists.intro; refine And.intro ?_ ?_; focus (intro vs w2 hC hk; have hm := HC w2 hC; revert hk; simp only [Og.KS, Og.K0, Og.Is, List.getD_cons_zero, List.getD_cons_succ, List.getD_nil, List.contains_cons, List.contains_nil, Nat.reduceAdd, Nat.reduceBEq, Bool.or_false, Bool.false_or, Bool.or_true, Bool.true_or, Bool.false_eq_true, false_implies, true_implies, true_and, and_true, forall_const]; intros; go_simp; exact rfl)
      refine Og.step_pure (fun _ => Below.refl _ _) ?_; apply Exists.intro; refine And.intro ?_ ?_; focus (intro vs w2 hC hk; have hm := HC w2 hC; revert hk; simp only [Og.KS, Og.K0, Og.Is, List.getD_cons_zero, List.getD_cons_succ, List.getD_nil, List.contains_cons, List.contains_nil, Nat.reduceAdd, Nat.reduceBEq, Bool.or_false, Bool.false_or, Bool.or_true, Bool.true_or, Bool.false_eq_true, false_implies, true_implies, true_and, and_true, forall_const]; intros; go_simp; exact rfl)
      refine Og.step_pure (fun _ => Below.refl _ _) ?_; apply Exists.intro; refine And.intro ?_ ?_; focus (intro vs w2 hC hk; have hm := HC w2 hC; revert hk; simp only [Og.KS, Og.K0, Og.Is, List.getD_cons_zero, List.getD_cons_succ, List.getD_nil, List.contains_cons, List.contains_nil, Nat.reduceAdd, Nat.reduceBEq, Bool.or_false, Bool.false_or, Bool.or_true, Bool.true_or, Bool.false_eq_true, false_implies, true_implies, true_and, and_true, forall_const]; intros; go_simp; exact rfl)
      refine Og.step_pure (fun _ => Below.refl _ _) ?_; apply Exists.intro; refine And.intro ?_ ?_; focus (intro vs w2 hC hk; have hm := HC w2 hC; revert hk; simp only [Og.KS, Og.K0, Og.Is, List.getD_cons_zero, List.getD_cons_succ, List.getD_nil, List.contains_cons, List.contains_nil, Nat.reduceAdd, Nat.reduceBEq, Bool.or_false, Bool.false_or, Bool.or_true, Bool.true_or, Bool.false_eq_true, false_implies, true_implies, true_and, and_true, forall_const]; intros; go_simp; exact rfl)
      refine Og.step_pure (fun _ => Below.refl _ _) ?_; apply Exists.intro; refine And.intro ?_ ?_; focus (intro vs w2 hC hk; have hm := HC w2 hC; revert hk; simp only [Og.KS, Og.K0, Og.Is, List.getD_cons_zero, List.getD_cons_succ, List.getD_nil, List.contains_cons, List.contains_nil, Nat.reduceAdd, Nat.reduceBEq, Bool.or_false, Bool.false_or, Bool.or_true, Bool.true_or, Bool.false_eq_true, false_implies, true_implies, true_and, and_true, forall_const]; intros; go_simp; exact rfl)
      intro vS wb hC hk
      simp only [Og.KS, Og.K0, Og.Is, List.getD_cons_zero, List.getD_cons_succ, List.getD_nil, List.contains_cons, List.contains_nil, Nat.reduceAdd, Nat.reduceBEq, Bool.or_false, Bool.false_or, Bool.or_true, Bool.true_or, Bool.false_eq_true, false_implies, true_implies, true_and, and_true, forall_const] at hk
      simp only [hk, Act.put, List.setIfInBounds_toArray, List.set_cons_zero, List.set_cons_succ]
      have HB := Lib.hid (HA.out.below hC)
      have OB := Lib.hid (own_below OA.out hC)
      have KB := Lib.hid (heap_keep hC KA.out)
      have KF2 := Lib.hid (KF1.out.trans (Kf.of (E := E) (by have := HA.out.lt; have := HA.out.fe; omega) hC))
      clear hk hC HC e1
      by_cases h64 : 64 ≤ ln + 1
      · have hge : (64 : Int) ≤ (ln : Int) + 1 := by omega
        have nge : Hid (64 ≤ f.length) := Lib.hid (by rw [← HN.out]; exact h64)
        have qe : wb.cell? ⟨E, 0, none⟩ = some (.int .i64 er) := by rw [cell_of_row wb _ 0 _ _ _ HB.out.ek]; rfl
        have fz : wb.frozen? ⟨E, 0, none⟩ = false := by simp [World.frozen?, HB.out.ek]
        obtain ⟨X1, X2⟩ := HB.out.err 7
        have FX := Lib.hid X1
        have KX := Lib.hid (KF2.out.trans X2)
        clear X1 X2 h64
        go_wp2_with fail
        go_ret2
        exact ⟨by rw [KP.out, if_pos nge.out]; rfl, KX.out, _, by rw [KP.out, if_pos nge.out]; exact FX.out⟩
      · have hge : ¬ (64 : Int) ≤ (ln : Int) + 1 := by omega
        have nlt : Hid (¬ 64 ≤ f.length) := Lib.hid (by rw [← HN.out]; exact h64)
        clear h64
        go_wp2_with fail
        have VLT := Lib.hid HB.out.lt
        have HC : ∀ w5, wb.grownBy w5 (Value.slice (some ⟨bk, o, none⟩) (ln + 1) c).ownBlock → w5.cell? ⟨w.heap.size, 0, none⟩ = some (.complex .f64 (fb l.r) (fb l.i)) ∧ w5.cell? ⟨w.heap.size, 1, none⟩ = some (.int .i64 (m : Int)) := fun w5 h5 => by
          have z5 := heap_grown h5 KB.out (fun e => OZ.out e.symm)
          exact ⟨by rw [cell_of_row w5 _ 0 _ _ _ z5]; rfl, by rw [cell_of_row w5 _ 1 _ _ _ z5, ← MN.out]; rfl⟩
        refine Og.Joint2.walk_lit 7 [[],[0],[],[],[3],[4,3],[2,5,4,3],[1,0,2,3,4,5,6],[7,6,0,1,2,3,4,5]] (CC wb (Value.slice (some ⟨bk, o, none⟩) (ln + 1) c).ownBlock 5 6 (cPr (l.r, l.i)).toArray (FinC E (Value.slice (some ⟨bk, o, none⟩) (ln + 1) c).ownBlock wb.heap.size (f ++ [(l.r, l.i)]))) (fun _ _ => True) (by kernel_rfl) (by kernel_rfl) (by kernel_rfl) (fun vs => CC.ini bdrew) ?_
        simp only [List.take_succ_cons, List.take_zero, List.drop_succ_cons, List.drop_zero]
        refine Og.Joint2.step_pure (fun p vs v w h => h.other (by decide) (by decide)) (fun _ => trivial) ?_; apply Exists.intro; refine And.intro ?_ ?_; focus (intro p vs w2 hC hk; have hm := HC w2 hC.1; refine Og.OptB.mk ?_; revert hk; simp only [Og.KS, Og.K0, Og.Is, List.getD_cons_zero, List.getD_cons_succ, List.getD_nil, List.contains_cons, List.contains_nil, Nat.reduceAdd, Nat.reduceBEq, Bool.or_false, Bool.false_or, Bool.or_true, Bool.true_or, Bool.false_eq_true, false_implies, true_implies, true_and, and_true, forall_const]; intros; go_simp; exact rfl)
        refine Og.Joint2.step_pure (fun p vs v w h => h.other (by decide) (by decide)) (fun _ => trivial) ?_; apply Exists.intro; refine And.intro ?_ ?_; focus (intro p vs w2 hC hk; have hm := HC w2 hC.1; refine Og.OptB.mk ?_; revert hk; simp only [Og.KS, Og.K0, Og.Is, List.getD_cons_zero, List.getD_cons_succ, List.getD_nil, List.contains_cons, List.contains_nil, Nat.reduceAdd, Nat.reduceBEq, Bool.or_false, Bool.false_or, Bool.or_true, Bool.true_or, Bool.false_eq_true, false_implies, true_implies, true_and, and_true, forall_const]; intros; go_simp; exact rfl)
        refine Og.Joint2.step_pure (fun p vs v w h => h.other (by decide) (by decide)) (fun _ => trivial) ?_; apply Exists.intro; refine And.intro ?_ ?_; focus (intro p vs w2 hC hk; have hm := HC w2 hC.1; refine Og.OptB.mk ?_; revert hk; simp only [Og.KS, Og.K0, Og.Is, List.getD_cons_zero, List.getD_cons_succ, List.getD_nil, List.contains_cons, List.contains_nil, Nat.reduceAdd, Nat.reduceBEq, Bool.or_false, Bool.false_or, Bool.or_true, Bool.true_or, Bool.false_eq_true, false_implies, true_implies, true_and, and_true, forall_const]; intros; go_simp; exact rfl)
        refine Og.Joint2.step_pure (fun p vs v w h => h.other (by decide) (by decide)) (fun _ => trivial) ?_; apply Exists.intro; refine And.intro ?_ ?_; focus (intro p vs w2 hC hk; have hm := HC w2 hC.1; refine Og.OptB.mk ?_; revert hk; simp only [Og.KS, Og.K0, Og.Is, List.getD_cons_zero, List.getD_cons_succ, List.getD_nil, List.contains_cons, List.contains_nil, Nat.reduceAdd, Nat.reduceBEq, Bool.or_false, Bool.false_or, Bool.or_true, Bool.true_or, Bool.false_eq_true, false_implies, true_implies, true_and, and_true, forall_const]; intros; go_simp; exact rfl)
        refine Og.Joint2.step_pure (fun p vs v w h => h.other (by decide) (by decide)) (fun _ => trivial) ?_; apply Exists.intro; refine And.intro ?_ ?_; focus (intro p vs w2 hC hk; have hm := HC w2 hC.1; refine Og.OptB.mk ?_; revert hk; simp only [Og.KS, Og.K0, Og.Is, List.getD_cons_zero, List.getD_cons_succ, List.getD_nil, List.contains_cons, List.contains_nil, Nat.reduceAdd, Nat.reduceBEq, Bool.or_false, Bool.false_or, Bool.or_true, Bool.true_or, Bool.false_eq_true, false_implies, true_implies, true_and, and_true, forall_const]; intros; go_simp; exact rfl)
        refine Og.Joint2.step_any (fun _ _ => True) (fun _ _ _ _ _ => trivial) ?_ ?_; focus (intro p vs w2 hp hC hk; refine Og.OptB.mk ?_; revert hk; simp only [Og.KS, Og.K0, Og.Is, List.getD_cons_zero, List.getD_cons_succ, List.getD_nil, List.contains_cons, List.contains_nil, Nat.reduceAdd, Nat.reduceBEq, Bool.or_false, Bool.false_or, Bool.or_true, Bool.true_or, Bool.false_eq_true, false_implies, true_implies, true_and, and_true, forall_const]; intros; go_simp; exact CC.new hp.1 (by decide) hC)
        refine Og.Joint2.step_any (fun _ _ => True) (fun _ _ _ _ _ => trivial) ?_ ?_; focus (intro p vs w2 hp hC hk; have h1 : p 5 = true := hp.2 5 (by decide); obtain ⟨g1, e1, hg1, hz⟩ := hC.2.2.2.1 h1; have bW := hC.2.2.1 hp.1; obtain ⟨v3, w3, hr, ho3, hg3, ha3⟩ := run_appPr (w := w2) (E + 1) g1 57 _ f (l.r, l.i) (own_below OB.out bW) (hz hp.1) (by have := HFL.out; omega) (by have := VLT.out; have := bW.size; omega); revert hk; simp only [Og.KS, Og.K0, Og.Is, List.getD_cons_zero, List.getD_cons_succ, List.getD_nil, List.contains_cons, List.contains_nil, Nat.reduceAdd, Nat.reduceBEq, Bool.or_false, Bool.false_or, Bool.or_true, Bool.true_or, Bool.false_eq_true, false_implies, true_implies, true_and, and_true, forall_const]; intros; refine optB_appR (by go_simp) rfl (by go_simp) (by first | (go_simp; done) | (go_simp; exact e1)) hr ?_; exact CC.done (by decide) h1 hp.1 hC hg3 ⟨ho3, ha3.imp id fun e => ⟨_, e, bW.size⟩⟩)
        intro p vS w5 hp hC hk
        obtain ⟨hg6, -, -, -, hfin⟩ := hC
        obtain ⟨ho6, ha6⟩ := hfin (hp 6 (by decide))
        simp only [Og.KS, Og.K0, Og.Is, List.getD_cons_zero, List.getD_cons_succ, List.getD_nil, List.contains_cons, List.contains_nil, Nat.reduceAdd, Nat.reduceBEq, Bool.or_false, Bool.false_or, Bool.or_true, Bool.true_or, Bool.false_eq_true, false_implies, true_implies, true_and, and_true, forall_const] at hk
        simp only [hk, Act.put, List.setIfInBounds_toArray, List.set_cons_zero, List.set_cons_succ]
        obtain ⟨gg, cc, e6, -⟩ := own_some ho6 (fun e => by rw [e] at ho6; have := ho6.1; rcases ho6.2 with ⟨_, h0⟩ | ⟨_, _, _, h0, _⟩; simp at h0; cases h0)
        rw [e6] at ho6 ha6
        obtain ⟨X1, X2, q1, q2⟩ := HB.out.app HJ.out HF.out hg6 ho6 ha6
        have el : (f ++ [(l.r, l.i)]).length = f.length + 1 := by simp
        rw [el] at X1 X2
        rw [e6]
        have FX := Lib.hid X1
        have KX := Lib.hid (KF2.out.trans X2)
        clear hk hp hg6 hfin ho6 ha6 X1 X2 HC e6 el
        go_wp2_with fail
        go_ret2
        refine ⟨by rw [KP.out, if_neg nlt.out]; rfl, KX.out, _, by rw [KP.out, if_neg nlt.out]; simp only []; rw [MN.out, Int.toNat_natCast]; exact FX.out⟩
    · rw [hq] at e1
      have KP : Hid (keepP fr er l f = (fr, er, false, false)) := Lib.hid (by have := KP0.out; rw [hq] at this; exact this)
      clear hq KP0
      refine Og.walk_lit [[],[0],[1,0],[2,1,0],[3,2,1,0],[3,2,1,0],[5,3,2,1,0],[6,3,5,2,1,0],[4,7,3,2,1,0,6,5],[8,3,4,7,2,1,0,6,5],[9,3,8,4,7,2,1,0,6,5],[3,2,1,0],[11,3,2,1,0],[12,3,11,2,1,0],[10,13,3,9,8,4,7,2,1,0,6,5,12,11],[3,14,2,1,0,10,13,9,8,4,7,6,5,12,11]] (fun w2 => Below wa.heap.size wa w2) (fun w1 w2 => Below w1.heap.size w1 w2) (by kernel_rfl) (by kernel_rfl) (bdrew) ?_
      refine Og.step_pure (fun _ => Below.refl _ _) ?_; apply Exists.intro; refine And.intro ?_ ?_; focus (intro vs w2 hC hk; have hm := HC w2 hC; revert hk; simp only [Og.KS, Og.K0, Og.Is, List.getD_cons_zero, List.getD_cons_succ, List.getD_nil, List.contains_cons, List.contains_nil, Nat.reduceAdd, Nat.reduceBEq, Bool.or_false, Bool.false_or, Bool.or_true, Bool.true_or, Bool.false_eq_true, false_implies, true_implies, true_and, and_true, forall_const]; intros; go_simp; exact rfl)
      refine Og.step_pure (fun _ => Below.refl _ _) ?_; apply Exists.intro; refine And.intro ?_ ?_; focus (intro vs w2 hC hk; have hm := HC w2 hC; revert hk; simp only [Og.KS, Og.K0, Og.Is, List.getD_cons_zero, List.getD_cons_succ, List.getD_nil, List.contains_cons, List.contains_nil, Nat.reduceAdd, Nat.reduceBEq, Bool.or_false, Bool.false_or, Bool.or_true, Bool.true_or, Bool.false_eq_true, false_implies, true_implies, true_and, and_true, forall_const]; intros; go_simp; exact rfl)
      refine Og.step_pure (fun _ => Below.refl _ _) ?_; apply Exists.intro; refine And.intro ?_ ?_; focus (intro vs w2 hC hk; have hm := HC w2 hC; revert hk; simp only [Og.KS, Og.K0, Og.Is, List.getD_cons_zero, List.getD_cons_succ, List.getD_nil, List.contains_cons, List.contains_nil, Nat.reduceAdd, Nat.reduceBEq, Bool.or_false, Bool.false_or, Bool.or_true, Bool.true_or, Bool.false_eq_true, false_implies, true_implies, true_and, and_true, forall_const]; intros; go_simp; exact rfl)
      refine Og.step_pure (fun _ => Below.refl _ _) ?_; apply Exists.intro; refine And.intro ?_ ?_; focus (intro vs w2 hC hk; have hm := HC w2 hC; revert hk; simp only [Og.KS, Og.K0, Og.Is, List.getD_cons_zero, List.getD_cons_succ, List.getD_nil, List.contains_cons, List.contains_nil, Nat.reduceAdd, Nat.reduceBEq, Bool.or_false, Bool.false_or, Bool.or_true, Bool.true_or, Bool.false_eq_true, false_implies, true_implies, true_and, and_true, forall_const]; intros; go_simp; exact rfl)
      refine Og.step_pure (fun _ => Below.refl _ _) ?_; apply Exists.intro; refine And.intro ?_ ?_; focus (intro vs w2 hC hk; have hm := HC w2 hC; revert hk; simp only [Og.KS, Og.K0, Og.Is, List.getD_cons_zero, List.getD_cons_succ, List.getD_nil, List.contains_cons, List.contains_nil, Nat.reduceAdd, Nat.reduceBEq, Bool.or_false, Bool.false_or, Bool.or_true, Bool.true_or, Bool.false_eq_true, false_implies, true_implies, true_and, and_true, forall_const]; intros; go_simp; exact rfl)
      refine Og.step_pure (fun _ => Below.refl _ _) ?_; apply Exists.intro; refine And.intro ?_ ?_; focus (intro vs w2 hC hk; have hm := HC w2 hC; revert hk; simp only [Og.KS, Og.K0, Og.Is, List.getD_cons_zero, List.getD_cons_succ, List.getD_nil, List.contains_cons, List.contains_nil, Nat.reduceAdd, Nat.reduceBEq, Bool.or_false, Bool.false_or, Bool.or_true, Bool.true_or, Bool.false_eq_true, false_implies, true_implies, true_and, and_true, forall_const]; intros; go_simp; exact rfl)
      refine Og.step_pure (fun _ => Below.refl _ _) ?_; apply Exists.intro; refine And.intro ?_ ?_; focus (intro vs w2 hC hk; have hm := HC w2 hC; revert hk; simp only [Og.KS, Og.K0, Og.Is, List.getD_cons_zero, List.getD_cons_succ, List.getD_nil, List.contains_cons, List.contains_nil, Nat.reduceAdd, Nat.reduceBEq, Bool.or_false, Bool.false_or, Bool.or_true, Bool.true_or, Bool.false_eq_true, false_implies, true_implies, true_and, and_true, forall_const]; intros; go_simp; exact rfl)
      refine Og.step_pure (fun _ => Below.refl _ _) ?_; apply Exists.intro; refine And.intro ?_ ?_; focus (intro vs w2 hC hk; have hm := HC w2 hC; revert hk; simp only [Og.KS, Og.K0, Og.Is, List.getD_cons_zero, List.getD_cons_succ, List.getD_nil, List.contains_cons, List.contains_nil, Nat.reduceAdd, Nat.reduceBEq, Bool.or_false, Bool.false_or, Bool.or_true, Bool.true_or, Bool.false_eq_true, false_implies, true_implies, true_and, and_true, forall_const]; intros; go_simp; exact rfl)
      refine Og.step_pure (fun _ => Below.refl _ _) ?_; apply Exists.intro; refine And.intro ?_ ?_; focus (intro vs w2 hC hk; have hm := HC w2 hC; revert hk; simp only [Og.KS, Og.K0, Og.Is, List.getD_cons_zero, List.getD_cons_succ, List.getD_nil, List.contains_cons, List.contains_nil, Nat.reduceAdd, Nat.reduceBEq, Bool.or_false, Bool.false_or, Bool.or_true, Bool.true_or, Bool.false_eq_true, false_implies, true_implies, true_and, and_true, forall_const]; intros; go_simp; exact rfl)
      refine Og.step_pure (fun _ => Below.refl _ _) ?_; apply Exists.intro; refine And.intro ?_ ?_; focus (intro vs w2 hC hk; have hm := HC w2 hC; revert hk; simp only [Og.KS, Og.K0, Og.Is, List.getD_cons_zero, List.getD_cons_succ, List.getD_nil, List.contains_cons, List.contains_nil, Nat.reduceAdd, Nat.reduceBEq, Bool.or_false, Bool.false_or, Bool.or_true, Bool.true_or, Bool.false_eq_true, false_implies, true_implies, true_and, and_true, forall_const]; intros; go_simp; exact rfl)
      refine Og.step_pure (fun _ => Below.refl _ _) ?_; apply Exists.intro; refine And.intro ?_ ?_; focus (intro vs w2 hC hk; have hm := HC w2 hC; revert hk; simp only [Og.KS, Og.K0, Og.Is, List.getD_cons_zero, List.getD_cons_succ, List.getD_nil, List.contains_cons, List.contains_nil, Nat.reduceAdd, Nat.reduceBEq, Bool.or_false, Bool.false_or, Bool.or_true, Bool.true_or, Bool.false_eq_true, false_implies, true_implies, true_and, and_true, forall_const]; intros; go_simp; exact rfl)
      refine Og.step_pure (fun _ => Below.refl _ _) ?_; apply Exists.intro; refine And.intro ?_ ?_; focus (intro vs w2 hC hk; have hm := HC w2 hC; revert hk; simp only [Og.KS, Og.K0, Og.Is, List.getD_cons_zero, List.getD_cons_succ, List.getD_nil, List.contains_cons, List.contains_nil, Nat.reduceAdd, Nat.reduceBEq, Bool.or_false, Bool.false_or, Bool.or_true, Bool.true_or, Bool.false_eq_true, false_implies, true_implies, true_and, and_true, forall_const]; intros; go_simp; exact rfl)
      refine Og.step_pure (fun _ => Below.refl _ _) ?_; apply Exists.intro; refine And.intro ?_ ?_; focus (intro vs w2 hC hk; have hm := HC w2 hC; revert hk; simp only [Og.KS, Og.K0, Og.Is, List.getD_cons_zero, List.getD_cons_succ, List.getD_nil, List.contains_cons, List.contains_nil, Nat.reduceAdd, Nat.reduceBEq, Bool.or_false, Bool.false_or, Bool.or_true, Bool.true_or, Bool.false_eq_true, false_implies, true_implies, true_and, and_true, forall_const]; intros; go_simp; exact rfl)
      refine Og.step_pure (fun _ => Below.refl _ _) ?_; apply Exists.intro; refine And.intro ?_ ?_; focus (intro vs w2 hC hk; have hm := HC w2 hC; revert hk; simp only [Og.KS, Og.K0, Og.Is, List.getD_cons_zero, List.getD_cons_succ, List.getD_nil, List.contains_cons, List.contains_nil, Nat.reduceAdd, Nat.reduceBEq, Bool.or_false, Bool.false_or, Bool.or_true, Bool.true_or, Bool.false_eq_true, false_implies, true_implies, true_and, and_true, forall_const]; intros; go_simp; exact rfl)
      refine Og.step_pure (fun _ => Below.refl _ _) ?_; apply Exists.intro; refine And.intro ?_ ?_; focus (intro vs w2 hC hk; have hm := HC w2 hC; revert hk; simp only [Og.KS, Og.K0, Og.Is, List.getD_cons_zero, List.getD_cons_succ, List.getD_nil, List.contains_cons, List.contains_nil, Nat.reduceAdd, Nat.reduceBEq, Bool.or_false, Bool.false_or, Bool.or_true, Bool.true_or, Bool.false_eq_true, false_implies, true_implies, true_and, and_true, forall_const]; intros; go_simp; exact rfl)
      refine Og.step_pure (fun _ => Below.refl _ _) ?_; apply Exists.intro; refine And.intro ?_ ?_; focus (intro vs w2 hC hk; have hm := HC w2 hC; revert hk; simp only [Og.KS, Og.K0, Og.Is, List.getD_cons_zero, List.getD_cons_succ, List.getD_nil, List.contains_cons, List.contains_nil, Nat.reduceAdd, Nat.reduceBEq, Bool.or_false, Bool.false_or, Bool.or_true, Bool.true_or, Bool.false_eq_true, false_implies, true_implies, true_and, and_true, forall_const]; intros; go_simp; exact rfl)
      intro vS wb hC hk
      simp only [Og.KS, Og.K0, Og.Is, List.getD_cons_zero, List.getD_cons_succ, List.getD_nil, List.contains_cons, List.contains_nil, Nat.reduceAdd, Nat.reduceBEq, Bool.or_false, Bool.false_or, Bool.or_true, Bool.true_or, Bool.false_eq_true, false_implies, true_implies, true_and, and_true, forall_const] at hk
      simp only [hk, Act.put, List.setIfInBounds_toArray, List.set_cons_zero, List.set_cons_succ]
      have HB := Lib.hid (HA.out.below hC)
      have KF2 := Lib.hid (KF1.out.trans (Kf.of (E := E) (by have := HA.out.lt; have := HA.out.fe; omega) hC))
      clear hk hC HC e1
      go_wp2_with fail
      go_ret2
      exact ⟨by rw [KP.out]; rfl, KF2.out, _, by rw [KP.out]; exact HB.out⟩

end Go.Proofs.Ytpklcefiabjplaa
