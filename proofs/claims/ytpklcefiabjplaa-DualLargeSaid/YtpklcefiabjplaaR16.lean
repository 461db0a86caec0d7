/- The ways that stand open: put and take; conditions as stated. -/
import Derived.Test.YtpklcefiabjplaaR15
namespace Go.Proofs.Ytpklcefiabjplaa
open Go.ChangeShapes Go.WideShapes Go.ChangeAt Go.RowKit
set_option linter.unusedVariables false
set_option linter.unusedSimpArgs false
attribute [local go_sem] Og.Opt Og.OpY

attribute [local go_sem] Og.Opt Og.OpY
/-- the class of a region with one append (k2) and the new element's block ahead of it (k1) -/
def CB (W : World) (vo : Option Nat) (k1 k2 : Nat) (L : Array Value) (FIN : Value → World → Prop) : Og.Joint2.Cls := fun p vs w => W.grownBy w vo ∧ (p k2 = true → p k1 = true) ∧ (p k2 = false → Below W.heap.size W w) ∧
  (p k1 = true → ∃ g1, vs k1 = .slice (some ⟨g1, 0, none⟩) 1 1 ∧ W.heap.size ≤ g1 ∧ (p k2 = false → w.heap[g1]? = some (.cells L 91 (0, 0)))) ∧ (p k2 = true → FIN (vs k2) w)
section
variable {W w : World} {vo : Option Nat} {k1 k2 : Nat} {L : Array Value} {FIN : Value → World → Prop} {p : Nat → Bool} {vs : Nat → Value}
theorem CB.ini (h : Below W.heap.size W w) : CB W vo k1 k2 L FIN (fun _ => false) vs w := ⟨⟨h.os, h.tape, h.output, h.size, fun k hk _ => h.block k hk⟩, fun e => (by cases e), fun _ => h, fun e => (by cases e), fun e => (by cases e)⟩
theorem CB.other {i : Nat} {v : Value} (h1 : i ≠ k1) (h2 : i ≠ k2) (c : CB W vo k1 k2 L FIN p vs w) : CB W vo k1 k2 L FIN (Og.Joint2.pSet p i) (Og.Joint2.vSet vs i v) w := by
  have e : ∀ j, i ≠ j → Og.Joint2.pSet p i j = p j := fun j h => by simp [Og.Joint2.pSet, Ne.symm h]
  have f : ∀ j, i ≠ j → Og.Joint2.vSet vs i v j = vs j := fun j h => by simp [Og.Joint2.vSet, Ne.symm h]
  unfold CB
  rw [e _ h1, e _ h2, f _ h1, f _ h2]
  exact c
theorem CB.new (hp : p k1 = false) (hk : k1 ≠ k2) (c : CB W vo k1 k2 L FIN p vs w) : CB W vo k1 k2 L FIN (Og.Joint2.pSet p k1) (Og.Joint2.vSet vs k1 (.slice (some ⟨w.heap.size, 0, none⟩) 1 1)) (w.alloc (.cells L 91)) := by
  obtain ⟨c1, c2, c3, c4, c5⟩ := c
  have hp2 : p k2 = false := by
    cases h : p k2 with
    | false => rfl
    | true => have := c2 h; rw [hp] at this; cases this
  have b := c3 hp2
  have b2 := bthen b ((Below.refl _ _).alloc (Nat.le_refl _) (.cells L 91))
  have e2 : Og.Joint2.pSet p k1 k2 = p k2 := by simp [Og.Joint2.pSet, Ne.symm hk]
  refine ⟨⟨b2.os, b2.tape, b2.output, b2.size, fun k hk _ => b2.block k hk⟩, fun h => by simp [Og.Joint2.pSet], fun _ => b2, fun _ => ⟨w.heap.size, by simp [Og.Joint2.vSet], b.size, fun _ => heap_at rfl⟩, fun h => by rw [e2, hp2] at h; cases h⟩
theorem CB.done {v : Value} {w2 : World} (hk : k1 ≠ k2) (h1 : p k1 = true) (hp : p k2 = false) (c : CB W vo k1 k2 L FIN p vs w) (hg : w.grownBy w2 vo) (hf : FIN v w2) : CB W vo k1 k2 L FIN (Og.Joint2.pSet p k2) (Og.Joint2.vSet vs k2 v) w2 := by
  obtain ⟨c1, c2, c3, c4, c5⟩ := c
  have e1 : Og.Joint2.pSet p k2 k1 = p k1 := by simp [Og.Joint2.pSet, hk]
  have e2 : Og.Joint2.pSet p k2 k2 = true := by simp [Og.Joint2.pSet]
  have f1 : Og.Joint2.vSet vs k2 v k1 = vs k1 := by simp [Og.Joint2.vSet, hk]
  have f2 : Og.Joint2.vSet vs k2 v k2 = v := by simp [Og.Joint2.vSet]
  refine ⟨⟨hg.os.trans c1.os, hg.tape.trans c1.tape, hg.output.trans c1.output, Nat.le_trans c1.size hg.size, fun k hk hne => (hg.block k (Nat.lt_of_lt_of_le hk c1.size) hne).trans (c1.block k hk hne)⟩, fun _ => (by rw [e1]; exact h1), fun h => (by rw [e2] at h; cases h), fun _ => ?_, fun _ => (by rw [f2]; exact hf)⟩
  obtain ⟨g1, a, b, _⟩ := c4 h1
  exact ⟨g1, (by rw [f1]; exact a), b, fun h => (by rw [e2] at h; cases h)⟩
end

structure Wy (b : Nat) (w : World) (v : Value) (xs : List La) : Prop where
  blk : w.heap[b]? = some (.cells #[v] 131 (0, 0))
  own : w.ownsRow (b + 1) 91 2 v xs.length (xs.flatMap cLa)
section
variable {b : Nat} {w w' : World} {v : Value} {xs : List La}
theorem Wy.lt (H : Wy b w v xs) : b < w.heap.size := (Array.getElem?_eq_some_iff.1 H.blk).1
theorem Wy.below (H : Wy b w v xs) (hb : Below w.heap.size w w') : Wy b w' v xs := ⟨heap_keep hb H.blk, own_below H.own hb⟩
theorem Wy.v0 (H : Wy b w v xs) : w.cell? ⟨b, 0, none⟩ = some v := by rw [cell_of_row w b 0 _ _ _ H.blk]; rfl
theorem Wy.sl (H : Wy b w v xs) : Sl cLa 2 0 w v xs := (Sl_of_row cLa_len (by omega) H.own rfl).mono (Nat.zero_le _)
theorem Wy.grown {w2 : World} (H : Wy b w v xs) (hg : w.grownBy w2 v.ownBlock) : Fr b v w w2 := ⟨grown_below hg (Nat.le_of_lt H.lt) (fun g e => Nat.le_of_lt (Nat.lt_of_succ_le (H.own.lt g e).1)), fun k hk _ h2 => hg.block k hk (fun e => h2 e.symm)⟩
theorem Wy.setRow {w2 : World} {v' : Value} {ys : List La} (H : Wy b w v xs) (hg : w.grownBy w2 v.ownBlock) (ho : w2.ownsRow (b + 1) 91 2 v' ys.length (ys.flatMap cLa)) : Wy b (w2.setCell ⟨b, 0, none⟩ v') v' ys ∧ Fr b v w (w2.setCell ⟨b, 0, none⟩ v') ∧ w2.cell? ⟨b, 0, none⟩ = some v ∧ w2.frozen? ⟨b, 0, none⟩ = false := by
  have hh : w2.heap[b]? = _ := heap_grown hg H.blk (fun e => own_at H.own H.blk (by decide) e.symm)
  refine ⟨⟨?_, ownsRow_setCell_other ho (own_at ho hh (by decide)) _⟩, (H.grown hg).trans (Fr.setCell 0 v' (Nat.le_refl _) (.inl rfl) ⟨_, _, hh⟩), ?_, by simp [World.frozen?, hh]⟩
  · rw [setCell_cells hh]; rfl
  · rw [cell_of_row w2 b 0 _ _ _ hh]; rfl
end
def putP (xs : List La) (l : La) : Option (List La) := (bsP xs l 64 0 xs.length).map fun k => xs.take k ++ l :: xs.drop k
theorem bsP_le {xs : List La} {l : La} {k : Nat} : ∀ (f i j : Nat), i ≤ j → bsP xs l f i j = some k → k ≤ j
  | 0, _, _, _, h => by cases h
  | f + 1, i, j, hij, h => by
    rw [bsP] at h
    split at h
    · split at h
      · split at h
        · exact bsP_le f _ _ (by omega) h
        · have := bsP_le f _ _ (by omega) h; omega
      · cases h
    · cases h; exact hij
def FinA (b : Nat) (vo : Option Nat) (z : Nat) (ys : List La) (v2 : Value) (w2 : World) : Prop := w2.ownsRow (b + 1) 91 2 v2 ys.length (ys.flatMap cLa) ∧ (v2.ownBlock = vo ∨ ∃ g, v2.ownBlock = some g ∧ z ≤ g)
set_option maxRecDepth 100000 in
set_option maxHeartbeats 8000000 in
theorem put_ok (xs ys : List La) (l : La) (b : Nat) (v : Value) (w : World) (H : Wy b w v xs) (hl : xs.length ≤ 1000000) (hs : ∀ x ∈ xs, LaS x) (hls : LaS l) (hp : putP xs l = some ys) :
    Calls Try.prog 78 #[.pointer (some ⟨b, 0, none⟩), .agg (cLa l).toArray] w fun e w' => e = .returned (.tuple #[]) ∧ Fr b v w w' ∧ ∃ v', Wy b w' v' ys ∧ (v'.ownBlock = v.ownBlock ∨ ∃ g, v'.ownBlock = some g ∧ w.heap.size ≤ g) := by
  unfold putP at hp
  rw [Option.map_eq_some_iff] at hp
  obtain ⟨k, hk, hys⟩ := hp
  have KN := Lib.hid (bsP_le 64 0 xs.length (Nat.zero_le _) hk)
  obtain ⟨A, c, hv, hrd, -⟩ := H.sl
  subst hv
  obtain ⟨n, hn⟩ : ∃ n, n = xs.length := ⟨_, rfl⟩
  have SR := Lib.hid (fun w2 (hr : Rd cLa 2 w2 A xs) => search_ok xs l A c k w2 hr hl hs hls hk)
  rw [← hn] at H SR KN ⊢
  have HN := Lib.hid hn
  have HH := Lib.hid H
  have RD := Lib.hid hrd
  have YS := Lib.hid hys
  have HL := Lib.hid hl
  obtain ⟨z, hz⟩ : ∃ z, z = w.heap.size := ⟨_, rfl⟩
  have HZ := Lib.hid hz
  have b1 : Below w.heap.size w (w.alloc (.cells (cLa l).toArray 91)) := (Below.refl _ _).alloc (Nat.le_refl _) _
  have k0 : (w.alloc (.cells (cLa l).toArray 91)).heap[z]? = some (.cells (cLa l).toArray 91 (0, 0)) := heap_at hz
  have BA := Lib.hid b1
  have KA := Lib.hid k0
  clear H hrd hys hn hs hls hk b1 k0 hl
  go_enter Try.func78, Try.ntmps78
  go_wp2_with fail
  rw [← hz]
  clear hz
  generalize w.alloc (.cells (cLa l).toArray 91) = wa at *
  have HA := Lib.hid (HH.out.below BA.out)
  have q0 := HA.out.v0
  have HC : ∀ w5, Below wa.heap.size wa w5 → w5.cell? ⟨b, 0, none⟩ = some (.slice A n c) := fun w5 h5 => bcell h5 q0
  have HLD : Hid (∀ w5, Below wa.heap.size wa w5 → (loadVar 91 ⟨z, 0, none⟩).run Try.prog w5 = .ok (.agg (cLa l).toArray) w5) := Lib.hid (fun w5 h5 => ldLa (heap_keep h5 KA.out))
  have SR2 : Hid (∀ w5, Below wa.heap.size wa w5 → Calls Try.prog 112 #[.slice A n c, .agg (cLa l).toArray, .func (.func 113) #[] #[]] w5 fun e w' => e = .returned (.tuple #[.int .i64 (k : Int), .bool (hitL xs l k)]) ∧ k ≤ n ∧ Below w5.heap.size w5 w') := Lib.hid (fun w5 h5 => SR.out w5 (RD.out.below (bthen BA.out h5)))
  clear q0
  refine Og.walk_lit [[],[0],[1,0],[2,1,0],[],[3,4,2,1,0],[5,3,4,2,1,0],[6,5,3,4,2,1,0],[6,5,3,4,2,1,0],[7,5,0,1,2,3,4,6],[8,9,0,1,2,3,4,5,6,7]] (fun w2 => Below wa.heap.size wa w2) (fun w1 w2 => Below w1.heap.size w1 w2) (by kernel_rfl) (by kernel_rfl) (bdrew) ?_
  refine Og.step_pure (fun _ => Below.refl _ _) ?_; apply Exists.intro; refine And.intro ?_ ?_; focus (intro vs w2 hC hk; have hm := HC w2 hC; revert hk; simp only [Og.KS, Og.K0, Og.Is, List.getD_cons_zero, List.getD_cons_succ, List.getD_nil, List.contains_cons, List.contains_nil, Nat.reduceAdd, Nat.reduceBEq, Bool.or_false, Bool.false_or, Bool.or_true, Bool.true_or, Bool.false_eq_true, false_implies, true_implies, true_and, and_true, forall_const]; intros; go_simp; exact rfl)
  refine Og.step_pure (fun _ => Below.refl _ _) ?_; apply Exists.intro; refine And.intro ?_ ?_; focus (intro vs w2 hC hk; have hm := HC w2 hC; revert hk; simp only [Og.KS, Og.K0, Og.Is, List.getD_cons_zero, List.getD_cons_succ, List.getD_nil, List.contains_cons, List.contains_nil, Nat.reduceAdd, Nat.reduceBEq, Bool.or_false, Bool.false_or, Bool.or_true, Bool.true_or, Bool.false_eq_true, false_implies, true_implies, true_and, and_true, forall_const]; intros; go_simp; exact rfl)
  refine Og.step_pure (fun _ => Below.refl _ _) ?_; apply Exists.intro; refine And.intro ?_ ?_; focus (intro vs w2 hC hk; have hm := HC w2 hC; revert hk; simp only [Og.KS, Og.K0, Og.Is, List.getD_cons_zero, List.getD_cons_succ, List.getD_nil, List.contains_cons, List.contains_nil, Nat.reduceAdd, Nat.reduceBEq, Bool.or_false, Bool.false_or, Bool.or_true, Bool.true_or, Bool.false_eq_true, false_implies, true_implies, true_and, and_true, forall_const]; intros; go_simp; exact rfl)
  refine Og.step_pure (fun _ => Below.refl _ _) ?_; apply Exists.intro; refine And.intro ?_ ?_; focus (intro vs w2 hC hk; have hm := HC w2 hC; revert hk; simp only [Og.KS, Og.K0, Og.Is, List.getD_cons_zero, List.getD_cons_succ, List.getD_nil, List.contains_cons, List.contains_nil, Nat.reduceAdd, Nat.reduceBEq, Bool.or_false, Bool.false_or, Bool.or_true, Bool.true_or, Bool.false_eq_true, false_implies, true_implies, true_and, and_true, forall_const]; intros; go_simp; exact rfl)
  refine Og.step_pure (fun _ => Below.refl _ _) ?_; apply Exists.intro; refine And.intro ?_ ?_; focus (intro vs w2 hC hk; have hl := HLD.out w2 hC; refine Og.OptB.out ?_; revert hk; simp only [Og.KS, Og.K0, Og.Is, List.getD_cons_zero, List.getD_cons_succ, List.getD_nil, List.contains_cons, List.contains_nil, Nat.reduceAdd, Nat.reduceBEq, Bool.or_false, Bool.false_or, Bool.or_true, Bool.true_or, Bool.false_eq_true, false_implies, true_implies, true_and, and_true, forall_const]; intros; exact optB_loadL (by go_simp) rfl (by go_simp) hl ⟨rfl, rfl⟩)
  refine Og.step_one ?_; apply Exists.intro; refine And.intro ?_ ?_; focus (intro vs w2 hC hk; have hcall := SR2.out w2 hC; revert hk; simp only [Og.KS, Og.K0, Og.Is, List.getD_cons_zero, List.getD_cons_succ, List.getD_nil, List.contains_cons, List.contains_nil, Nat.reduceAdd, Nat.reduceBEq, Bool.or_false, Bool.false_or, Bool.or_true, Bool.true_or, Bool.false_eq_true, false_implies, true_implies, true_and, and_true, forall_const]; intros; go_simp; with_reducible refine hcall.mono ?_; rintro e w3 ⟨rfl, hkn, hb⟩; exact Og.RetV.mk ⟨bthen hC hb, hb, rfl⟩)
  refine Og.step_pure (fun _ => Below.refl _ _) ?_; apply Exists.intro; refine And.intro ?_ ?_; focus (intro vs w2 hC hk; have hm := HC w2 hC; revert hk; simp only [Og.KS, Og.K0, Og.Is, List.getD_cons_zero, List.getD_cons_succ, List.getD_nil, List.contains_cons, List.contains_nil, Nat.reduceAdd, Nat.reduceBEq, Bool.or_false, Bool.false_or, Bool.or_true, Bool.true_or, Bool.false_eq_true, false_implies, true_implies, true_and, and_true, forall_const]; intros; go_simp; exact rfl)
  refine Og.step_pure (fun _ => Below.refl _ _) ?_; apply Exists.intro; refine And.intro ?_ ?_; focus (intro vs w2 hC hk; have hm := HC w2 hC; revert hk; simp only [Og.KS, Og.K0, Og.Is, List.getD_cons_zero, List.getD_cons_succ, List.getD_nil, List.contains_cons, List.contains_nil, Nat.reduceAdd, Nat.reduceBEq, Bool.or_false, Bool.false_or, Bool.or_true, Bool.true_or, Bool.false_eq_true, false_implies, true_implies, true_and, and_true, forall_const]; intros; go_simp; exact rfl)
  refine Og.step_pure (fun _ => Below.refl _ _) ?_; apply Exists.intro; refine And.intro ?_ ?_; focus (intro vs w2 hC hk; have hm := HC w2 hC; revert hk; simp only [Og.KS, Og.K0, Og.Is, List.getD_cons_zero, List.getD_cons_succ, List.getD_nil, List.contains_cons, List.contains_nil, Nat.reduceAdd, Nat.reduceBEq, Bool.or_false, Bool.false_or, Bool.or_true, Bool.true_or, Bool.false_eq_true, false_implies, true_implies, true_and, and_true, forall_const]; intros; go_simp; exact rfl)
  refine Og.step_pure (fun _ => Below.refl _ _) ?_; apply Exists.intro; refine And.intro ?_ ?_; focus (intro vs w2 hC hk; have hm := HC w2 hC; revert hk; simp only [Og.KS, Og.K0, Og.Is, List.getD_cons_zero, List.getD_cons_succ, List.getD_nil, List.contains_cons, List.contains_nil, Nat.reduceAdd, Nat.reduceBEq, Bool.or_false, Bool.false_or, Bool.or_true, Bool.true_or, Bool.false_eq_true, false_implies, true_implies, true_and, and_true, forall_const]; intros; go_simp; exact rfl)
  refine Og.step_pure (fun _ => Below.refl _ _) ?_; apply Exists.intro; refine And.intro ?_ ?_; focus (intro vs w2 hC hk; have hm := HC w2 hC; revert hk; simp only [Og.KS, Og.K0, Og.Is, List.getD_cons_zero, List.getD_cons_succ, List.getD_nil, List.contains_cons, List.contains_nil, Nat.reduceAdd, Nat.reduceBEq, Bool.or_false, Bool.false_or, Bool.or_true, Bool.true_or, Bool.false_eq_true, false_implies, true_implies, true_and, and_true, forall_const]; intros; go_simp; exact rfl)
  intro vs w2 hC hk
  simp only [Og.KS, Og.K0, Og.Is, List.getD_cons_zero, List.getD_cons_succ, List.getD_nil, List.contains_cons, List.contains_nil, Nat.reduceAdd, Nat.reduceBEq, Bool.or_false, Bool.false_or, Bool.or_true, Bool.true_or, Bool.false_eq_true, false_implies, true_implies, true_and, and_true, forall_const] at hk
  simp only [hk, Act.put, List.setIfInBounds_toArray, List.set_cons_zero, List.set_cons_succ]
  have B2 := Lib.hid (bthen BA.out hC)
  have H2 := Lib.hid (HA.out.below hC)
  have K2 := Lib.hid (heap_keep hC KA.out)
  clear hk hC HC HLD SR2 SR
  go_wp2_with fail
  have q0 := H2.out.v0
  have V2L := Lib.hid H2.out.lt
  have OW2 := Lib.hid H2.out.own
  have vob : (Value.slice A n c).ownBlock ≠ some b := own_at H2.out.own H2.out.blk (by decide)
  have voz : (Value.slice A n c).ownBlock ≠ some z := fun e => by have := (HH.out.own.lt _ e).2; have := HZ.out; omega
  have HC : ∀ w5, w2.grownBy w5 (Value.slice A n c).ownBlock → w5.cell? ⟨b, 0, none⟩ = some (.slice A n c) := fun w5 h5 => by
    rw [cell_of_row w5 b 0 _ _ _ (heap_grown h5 H2.out.blk (fun e => vob e.symm))]; rfl
  have HLD : Hid (∀ w5, w2.grownBy w5 (Value.slice A n c).ownBlock → (loadVar 91 ⟨z, 0, none⟩).run Try.prog w5 = .ok (.agg (cLa l).toArray) w5) := Lib.hid (fun w5 h5 => ldLa (heap_grown h5 K2.out (fun e => voz e.symm)))
  have INS : Hid (∀ (w5 : World) (g1 : Nat), Below w2.heap.size w2 w5 → w2.heap.size ≤ g1 → w5.heap[g1]? = some (.cells (cLa l).toArray 91 (0, 0)) → Calls Try.prog 115 #[.slice A n c, .int .i64 (k : Int), .slice (some ⟨g1, 0, none⟩) 1 1] w5 fun e w' => ∃ v', e = .returned v' ∧ FinA b (Value.slice A n c).ownBlock w2.heap.size ys v' w' ∧ w5.grownBy w' (Value.slice A n c).ownBlock) := Lib.hid (fun w5 g1 h5 hg1 hk1 => by
    have ow : w5.ownsRow (b + 1) 91 2 (.slice A n c) n (xs.flatMap cLa) := by have := own_below OW2.out h5; rwa [← HN.out] at this
    refine (Insert_okLa xs l (b + 1) n k g1 _ w5 ow HN.out.symm KN.out hk1 (fun e => by have := (OW2.out.lt _ e).2; omega) (by have := h5.size; have := V2L.out; omega) (by have := HL.out; have := HN.out; omega)).mono ?_
    rintro e w6 ⟨v', rfl, h1, h2, h3⟩
    have el : n + 1 = ys.length := by rw [← YS.out, List.length_append, List.length_cons, List.length_take, List.length_drop]; have := KN.out; have := HN.out; omega
    rw [YS.out, el] at h1
    exact ⟨v', rfl, ⟨h1, h3.imp id fun e => ⟨_, e, h5.size⟩⟩, h2⟩)
  clear q0 vob voz
  refine Og.Joint2.walk_lit 9 [[],[],[1],[2,1],[3,2,1],[],[],[6],[4,5,7,3,2,1,6],[0,1,2,3,4,5,6,7,8],[9,0,1,2,3,4,5,6,7,8],[10,8,0,1,2,3,4,5,6,7,9]] (CB w2 (Value.slice A n c).ownBlock 7 8 (cLa l).toArray (FinA b (Value.slice A n c).ownBlock w2.heap.size ys)) (fun _ _ => True) (by kernel_rfl) (by kernel_rfl) (by kernel_rfl) (fun vs => CB.ini bdrew) ?_
  simp only [List.take_succ_cons, List.take_zero, List.drop_succ_cons, List.drop_zero]
  refine Og.Joint2.step_pure (fun p vs v w h => h.other (by decide) (by decide)) (fun _ => trivial) ?_; apply Exists.intro; refine And.intro ?_ ?_; focus (intro p vs w2 hC hk; have hm := HC w2 hC.1; refine Og.OptB.mk ?_; revert hk; simp only [Og.KS, Og.K0, Og.Is, List.getD_cons_zero, List.getD_cons_succ, List.getD_nil, List.contains_cons, List.contains_nil, Nat.reduceAdd, Nat.reduceBEq, Bool.or_false, Bool.false_or, Bool.or_true, Bool.true_or, Bool.false_eq_true, false_implies, true_implies, true_and, and_true, forall_const]; intros; go_simp; exact rfl)
  refine Og.Joint2.step_pure (fun p vs v w h => h.other (by decide) (by decide)) (fun _ => trivial) ?_; apply Exists.intro; refine And.intro ?_ ?_; focus (intro p vs w2 hC hk; have hm := HC w2 hC.1; refine Og.OptB.mk ?_; revert hk; simp only [Og.KS, Og.K0, Og.Is, List.getD_cons_zero, List.getD_cons_succ, List.getD_nil, List.contains_cons, List.contains_nil, Nat.reduceAdd, Nat.reduceBEq, Bool.or_false, Bool.false_or, Bool.or_true, Bool.true_or, Bool.false_eq_true, false_implies, true_implies, true_and, and_true, forall_const]; intros; go_simp; exact rfl)
  refine Og.Joint2.step_pure (fun p vs v w h => h.other (by decide) (by decide)) (fun _ => trivial) ?_; apply Exists.intro; refine And.intro ?_ ?_; focus (intro p vs w2 hC hk; have hm := HC w2 hC.1; refine Og.OptB.mk ?_; revert hk; simp only [Og.KS, Og.K0, Og.Is, List.getD_cons_zero, List.getD_cons_succ, List.getD_nil, List.contains_cons, List.contains_nil, Nat.reduceAdd, Nat.reduceBEq, Bool.or_false, Bool.false_or, Bool.or_true, Bool.true_or, Bool.false_eq_true, false_implies, true_implies, true_and, and_true, forall_const]; intros; go_simp; exact rfl)
  refine Og.Joint2.step_pure (fun p vs v w h => h.other (by decide) (by decide)) (fun _ => trivial) ?_; apply Exists.intro; refine And.intro ?_ ?_; focus (intro p vs w2 hC hk; have hm := HC w2 hC.1; refine Og.OptB.mk ?_; revert hk; simp only [Og.KS, Og.K0, Og.Is, List.getD_cons_zero, List.getD_cons_succ, List.getD_nil, List.contains_cons, List.contains_nil, Nat.reduceAdd, Nat.reduceBEq, Bool.or_false, Bool.false_or, Bool.or_true, Bool.true_or, Bool.false_eq_true, false_implies, true_implies, true_and, and_true, forall_const]; intros; go_simp; exact rfl)
  refine Og.Joint2.step_pure (fun p vs v w h => h.other (by decide) (by decide)) (fun _ => trivial) ?_; apply Exists.intro; refine And.intro ?_ ?_; focus (intro p vs w2 hC hk; have hm := HC w2 hC.1; refine Og.OptB.mk ?_; revert hk; simp only [Og.KS, Og.K0, Og.Is, List.getD_cons_zero, List.getD_cons_succ, List.getD_nil, List.contains_cons, List.contains_nil, Nat.reduceAdd, Nat.reduceBEq, Bool.or_false, Bool.false_or, Bool.or_true, Bool.true_or, Bool.false_eq_true, false_implies, true_implies, true_and, and_true, forall_const]; intros; go_simp; exact rfl)
  refine Og.Joint2.step_pure (fun p vs v w h => h.other (by decide) (by decide)) (fun _ => trivial) ?_; apply Exists.intro; refine And.intro ?_ ?_; focus (intro p vs w2 hC hk; have hm := HC w2 hC.1; refine Og.OptB.mk ?_; revert hk; simp only [Og.KS, Og.K0, Og.Is, List.getD_cons_zero, List.getD_cons_succ, List.getD_nil, List.contains_cons, List.contains_nil, Nat.reduceAdd, Nat.reduceBEq, Bool.or_false, Bool.false_or, Bool.or_true, Bool.true_or, Bool.false_eq_true, false_implies, true_implies, true_and, and_true, forall_const]; intros; go_simp; exact rfl)
  refine Og.Joint2.step_pure (fun p vs v w h => h.other (by decide) (by decide)) (fun _ => trivial) ?_; apply Exists.intro; refine And.intro ?_ ?_; focus (intro p vs w2 hC hk; have hl := HLD.out w2 hC.1; revert hk; simp only [Og.KS, Og.K0, Og.Is, List.getD_cons_zero, List.getD_cons_succ, List.getD_nil, List.contains_cons, List.contains_nil, Nat.reduceAdd, Nat.reduceBEq, Bool.or_false, Bool.false_or, Bool.or_true, Bool.true_or, Bool.false_eq_true, false_implies, true_implies, true_and, and_true, forall_const]; intros; exact optB_loadL (by go_simp) rfl (by go_simp) hl ⟨rfl, rfl⟩)
  refine Og.Joint2.step_any (fun _ _ => True) (fun _ _ _ _ _ => trivial) ?_ ?_; focus (intro p vs w2 hp hC hk; refine Og.OptB.mk ?_; revert hk; simp only [Og.KS, Og.K0, Og.Is, List.getD_cons_zero, List.getD_cons_succ, List.getD_nil, List.contains_cons, List.contains_nil, Nat.reduceAdd, Nat.reduceBEq, Bool.or_false, Bool.false_or, Bool.or_true, Bool.true_or, Bool.false_eq_true, false_implies, true_implies, true_and, and_true, forall_const]; intros; go_simp; exact CB.new hp.1 (by decide) hC)
  refine Og.Joint2.step_any (fun _ _ => True) (fun _ _ _ _ _ => trivial) ?_ ?_; focus (intro p vs w2 hp hC hk; have h1 : p 7 = true := hp.2 7 (by decide); obtain ⟨g1, e1, hg1, hz1⟩ := hC.2.2.2.1 h1; have hcall := INS.out w2 g1 (hC.2.2.1 hp.1) hg1 (hz1 hp.1); refine Og.OptB.mk ?_; revert hk; simp only [Og.KS, Og.K0, Og.Is, List.getD_cons_zero, List.getD_cons_succ, List.getD_nil, List.contains_cons, List.contains_nil, Nat.reduceAdd, Nat.reduceBEq, Bool.or_false, Bool.false_or, Bool.or_true, Bool.true_or, Bool.false_eq_true, false_implies, true_implies, true_and, and_true, forall_const]; intros; go_simp; with_reducible refine hcall.mono ?_; rintro e w3 ⟨v3, rfl, hf, hgr⟩; exact Og.RetV.mk (CB.done (by decide) h1 hp.1 hC hgr hf))
  intro p vS w5 hp hC hk
  obtain ⟨hg8, -, -, -, hfin⟩ := hC
  obtain ⟨ho8, ha8⟩ := hfin (hp 8 (by decide))
  simp only [Og.KS, Og.K0, Og.Is, List.getD_cons_zero, List.getD_cons_succ, List.getD_nil, List.contains_cons, List.contains_nil, Nat.reduceAdd, Nat.reduceBEq, Bool.or_false, Bool.false_or, Bool.or_true, Bool.true_or, Bool.false_eq_true, false_implies, true_implies, true_and, and_true, forall_const] at hk
  simp only [hk, Act.put, List.setIfInBounds_toArray, List.set_cons_zero, List.set_cons_succ]
  obtain ⟨W1, W2, q1, q2⟩ := H2.out.setRow hg8 ho8
  have yl : ys.length = n + 1 := by rw [← YS.out, List.length_append, List.length_cons, List.length_take, List.length_drop]; have := KN.out; have := HN.out; omega
  obtain ⟨gg, cc, e8, -⟩ := own_some ho8 (fun e => by rw [e] at ho8; have := ho8.1; rcases ho8.2 with ⟨_, h0⟩ | ⟨_, _, _, h0, _⟩; omega; cases h0)
  rw [e8] at W1 W2 ha8
  rw [e8]
  have FW := Lib.hid W1
  have FF := Lib.hid (((Fr.of (v := .slice A n c) (Nat.le_of_lt HH.out.lt) B2.out)).trans W2)
  have FA : Hid ((Value.slice (some ⟨gg, 0, none⟩) ys.length cc).ownBlock = (Value.slice A n c).ownBlock ∨ ∃ g, (Value.slice (some ⟨gg, 0, none⟩) ys.length cc).ownBlock = some g ∧ w.heap.size ≤ g) := Lib.hid (ha8.imp id fun ⟨g, e, h⟩ => ⟨g, e, by have := B2.out.size; omega⟩)
  clear hk hp hg8 hfin ho8 ha8 W1 W2 e8 yl HC HLD INS
  go_wp2_with fail
  go_end0
  exact ⟨rfl, FF.out, _, FW.out, FA.out⟩

end Go.Proofs.Ytpklcefiabjplaa
