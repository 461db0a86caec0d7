/- A region that draws its order with a tail: from operation m on each has all ahead of it as ancestors: the first m in whatever order, the rest in the text's. Conditions: as in Og. Worlds, rows of cells, the data of the graph laws; no condition. -/
import Derived.Test.YtjbglifmppilfaaDoorS0
import Derived.Tactics
import Derived.Test.YtjbglifmppilfaaDoorRows
import Derived.Test.YtjbglifmppilfaaDoorProg
import Derived.WalkKit
import Derived.ProofKit
import Derived.OpenShut
import Derived.WalkLawsBesides
import Derived.Lib.Hide
import Derived.Laws.AppendOwn
import Derived.OwnWalk
import Derived.Lib.AppendZerosOnto
import Derived.Lib.Overlaps
import Derived.Shelf.Spec.SlicesInsert
import Derived.Laws.CopyRow
import Derived.Laws.Externs
namespace Go
namespace Og
namespace Tail
def tailB (ops : Array Oper) (A : List (List Nat)) (m : Nat) : Bool :=
  decide (m ≤ ops.size) && (List.range ops.size).all fun i => decide (i < m) || (List.range i).all fun j => (A.getD i []).contains j
section
variable {P : Program} {ops : Array Oper} {Q : Exit → Act → World → Prop} {m : Nat} {C : World → Prop} {Rel : World → World → Prop} {V : Nat → Value → World → Prop} {A : List (List Nat)} {a : Act}
theorem tailB_at (h : tailB ops A m = true) : m ≤ ops.size ∧ ∀ i, m ≤ i → i < ops.size → ∀ j, j < i → j ∈ A.getD i [] := by
  unfold tailB at h
  simp only [Bool.and_eq_true, decide_eq_true_eq] at h
  refine ⟨h.1, fun i hi hs j hj => ?_⟩
  have := List.all_eq_true.1 h.2 i (List.mem_range.2 hs)
  rw [decide_eq_false (show ¬ i < m by omega), Bool.false_or] at this
  exact List.contains_iff_mem.1 (List.all_eq_true.1 this j (List.mem_range.2 hj))
theorem filF_lt {vs : Nat → Value} {p : Nat → Bool} : ∀ n, m ≤ n → (∀ j, j < n → p j = decide (j < m)) → filF ops vs p a n = lexF ops vs a m := by
  intro n
  induction n with
  | zero => intro h _; rw [show m = 0 by omega]; rfl
  | succ n ih =>
    intro h hp
    by_cases hmn : m = n + 1
    · subst hmn
      unfold lexF
      exact filF_congr _ (fun j hj => by rw [hp j hj]; simpa using hj) (fun _ _ _ => rfl)
    · simp only [filF]
      rw [if_neg (by rw [hp n (by omega)]; simp; omega)]
      exact ih (by omega) (fun j hj => hp j (by omega))
theorem tail (h : okB ops A = true) (ht : tailB ops A m = true) : ∀ (d k : Nat), k + d = ops.size → m ≤ k → ∀ (fuel : Nat) (listed : Array Bool) (a : Act) (w : World), listed.size = ops.size → d ≤ fuel → (∀ j, j < ops.size → listed.getD j false = decide (j < k)) →
    wpList P ops Q (ops.toList.drop k) a w → wpAny P .any ops Q fuel listed a w := by
  intro d
  induction d with
  | zero =>
    intro k hk hm fuel listed a w hs hf hl hw
    have hr : Region.ready .any ops listed = [] := by
      refine List.eq_nil_iff_forall_not_mem.2 fun i hi => ?_
      obtain ⟨o, ho, hli, _⟩ := ready_spec hi
      have hlt := (Array.getElem?_eq_some_iff.1 ho).1
      have := hl i hlt
      rw [decide_eq_true (show i < k by omega)] at this
      simp only [Array.getD_eq_getD_getElem?] at hli this
      rw [Array.getElem?_eq_getElem (by omega)] at hli this
      simp at hli this
      rw [hli] at this; cases this
    have hd : ops.toList.drop k = [] := List.drop_eq_nil_of_le (by rw [Array.length_toList]; omega)
    rw [hd] at hw
    cases fuel with
    | zero => exact ⟨hr, hw⟩
    | succ f => exact ⟨fun _ => hw, fun i hi => by rw [hr] at hi; cases hi⟩
  | succ d ih =>
    intro k hk hm fuel listed a w hs hf hl hw
    cases fuel with
    | zero => omega
    | succ f =>
      have hks : k < ops.size := by omega
      have hok : ops[k]? = some ops[k] := Array.getElem?_eq_getElem hks
      have hc : Closed ops (fun j => listed.getD j false) := by
        intro j o ho hj i hi
        have hjs := (Array.getElem?_eq_some_iff.1 ho).1
        have := (okB_at h ho).1 i hi
        simp only [hl j hjs, decide_eq_true_eq] at hj
        simp only [hl i (by omega), decide_eq_true_eq]
        omega
      have hkr : k ∈ Region.ready .any ops listed := by
        refine ready_of hok ?_ (fun j hj => ?_)
        · have := hl k hks
          rw [decide_eq_false (Nat.lt_irrefl k)] at this
          simp only [Array.getD_eq_getD_getElem?] at this ⊢
          rw [Array.getElem?_eq_getElem (by omega)] at this ⊢
          simpa using this
        · have := (okB_at h hok).1 j hj
          rw [hl j (by omega)]
          simpa using this
      refine ⟨fun hr => (by rw [hr] at hkr; cases hkr), fun i hi => ?_⟩
      obtain ⟨o, ho, hli, hdirs⟩ := ready_spec hi
      have hlt := (Array.getElem?_eq_some_iff.1 ho).1
      have hik : k ≤ i := by
        by_cases hik : k ≤ i
        · exact hik
        · exfalso
          have := hl i hlt
          rw [decide_eq_true (show i < k by omega)] at this
          simp only [Array.getD_eq_getD_getElem?] at hli this
          rw [Array.getElem?_eq_getElem (by omega)] at hli this
          simp at hli this
          rw [hli] at this; cases this
      have hie : i = k := by
        by_cases hie : i = k
        · exact hie
        · exfalso
          obtain ⟨_, e, he, he'⟩ := (okB_at h ho).2.1 k ((tailB_at ht).2 i (by omega) hlt k (by omega))
          have h1 := hdirs e he
          have h2 := (okB_at h ho).1 e he
          rw [hl e (by omega)] at h1
          have h3 : e < k := by simpa using h1
          rcases he' with rfl | he'
          · omega
          · have := ((okB_at h (Array.getElem?_eq_getElem (show e < ops.size by omega))).2.1 k he').1
            omega
      subst hie
      have hdrop : ops.toList.drop i = ops[i] :: ops.toList.drop (i + 1) := by
        rw [List.drop_eq_getElem_cons (by rw [Array.length_toList]; exact hks)]
        simp
      rw [hdrop] at hw
      have next : ∀ a w, wpList P ops Q (ops.toList.drop (i + 1)) a w → wpAny P .any ops Q f (listed.setIfInBounds i true) a w := fun a' w' hw' =>
        ih (i + 1) (by omega) (by omega) f _ a' w' (by simp [hs]) (by omega) (fun j hj => by
          simp only [Array.getD_eq_getD_getElem?, Array.getElem?_setIfInBounds]
          by_cases hij : i = j
          · subst hij; simp [hs, hj]
          · rw [if_neg hij]
            have := hl j hj
            simp only [Array.getD_eq_getD_getElem?] at this
            rw [this]
            by_cases hji : j < i
            · simp [hji]; omega
            · simp [hji]; omega) hw'
      unfold wpOp
      unfold wpList at hw
      simp only [hok]
      split
      · rename_i hwt
        rw [if_pos hwt] at hw
        rcases hw with hw | hw
        · exact .inl (Oper.wp_mono next hw)
        · exact .inr hw
      · rename_i hwt
        rw [if_neg hwt] at hw
        exact next _ _ hw
theorem main (h : okB ops A = true) (ht : tailB ops A m = true) (stab : ∀ i v w w', Rel w w' → getV V i v w → getV V i v w')
    (hst : Steps P C Rel V A ops a (ops.toList.take m) 0)
    (fin : ∀ vs w, C w → Know V vs w (List.range m) → wpList P ops Q (ops.toList.drop m) (lexF ops vs a m) w) :
    ∀ (fuel : Nat) (listed : Array Bool) (vs : Nat → Value) (w : World), listed.size = ops.size → (List.range ops.size).countP (fun k => !listed.getD k false) ≤ fuel →
      Closed ops (fun k => listed.getD k false) → C w → (∀ j, j < ops.size → listed.getD j false = true → getV V j (vs j) w) → (∀ j, m ≤ j → j < ops.size → listed.getD j false = false) →
      wpAny P .any ops Q fuel listed (filF ops vs (fun k => listed.getD k false) a ops.size) w := by
  have hdone : ∀ (fuel : Nat) (listed : Array Bool) (vs : Nat → Value) (w : World), listed.size = ops.size → (List.range ops.size).countP (fun k => !listed.getD k false) ≤ fuel → C w → (∀ j, j < ops.size → listed.getD j false = true → getV V j (vs j) w) →
      (∀ j, j < ops.size → listed.getD j false = decide (j < m)) → wpAny P .any ops Q fuel listed (filF ops vs (fun k => listed.getD k false) a ops.size) w := by
    intro fuel listed vs w hs hcnt hC hV hl
    obtain ⟨hm, _⟩ := tailB_at ht
    have e : filF ops vs (fun k => listed.getD k false) a ops.size = lexF ops vs a m := filF_lt ops.size hm hl
    rw [e]
    refine tail h ht (ops.size - m) m (by omega) (Nat.le_refl _) fuel listed _ w hs (Nat.le_trans ?_ hcnt) hl (fin vs w hC fun j hj => hV j (by have := List.mem_range.1 hj; omega) (by rw [hl j (by have := List.mem_range.1 hj; omega)]; simpa using List.mem_range.1 hj))
    have : ∀ n, m ≤ n → n ≤ ops.size → n - m ≤ (List.range n).countP (fun k => !listed.getD k false) := by
      intro n
      induction n with
      | zero => intro _ _; omega
      | succ n ih =>
        intro h1 h2
        rw [List.range_succ, List.countP_append]
        by_cases hmn : m = n + 1
        · omega
        · have := ih (by omega) (by omega)
          have h3 := hl n (by omega)
          rw [decide_eq_false (show ¬ n < m by omega)] at h3
          simp only [List.countP_singleton, h3, Bool.not_false, if_true]
          omega
    exact this ops.size hm (Nat.le_refl _)
  intro fuel
  induction fuel with
  | zero =>
    intro listed vs w hs hcnt hc hC hV hlo
    have hz : (List.range ops.size).countP (fun k => !listed.getD k false) = 0 := by omega
    refine hdone 0 listed vs w hs hcnt hC hV (fun j hj => ?_)
    have := (List.countP_eq_zero.1 hz) j (List.mem_range.2 hj)
    have h1 : listed.getD j false = true := by simpa using this
    rw [h1]
    by_cases hjm : j < m
    · simp [hjm]
    · have := hlo j (by omega) hj; rw [this] at h1; cases h1
  | succ fuel ih =>
    intro listed vs w hs hcnt hc hC hV hlo
    by_cases hall : ∀ j, j < m → listed.getD j false = true
    · exact hdone (fuel + 1) listed vs w hs hcnt hC hV (fun j hj => by
        by_cases hjm : j < m
        · rw [hall j hjm]; simp [hjm]
        · rw [hlo j (by omega) hj]; simp [hjm])
    have hex : ∃ j, j < m ∧ listed.getD j false = false := Decidable.byContradiction fun hne => hall fun j hj => by
      cases hq : listed.getD j false with
      | true => rfl
      | false => exact absurd ⟨j, hj, hq⟩ hne
    obtain ⟨j0, hj0, hj0f⟩ := hex
    obtain ⟨hms, htl⟩ := tailB_at ht
    refine ⟨fun hr => (by have := all_listed h hs hr (j0 + 1) j0 (by omega) (by omega); rw [hj0f] at this; cases this), fun i hi => ?_⟩
    obtain ⟨o, ho, hl, hdirs⟩ := ready_spec hi
    have hlt := (Array.getElem?_eq_some_iff.1 ho).1
    have him : i < m := by
      by_cases him : i < m
      · exact him
      · exfalso
        obtain ⟨_, e, he, he'⟩ := (okB_at h ho).2.1 j0 (htl i (by omega) hlt j0 (by omega))
        have h1 := hdirs e he
        rcases he' with rfl | he'
        · rw [hj0f] at h1; cases h1
        · have hes : e < ops.size := by have := (okB_at h ho).1 e he; omega
          have := closed_anc h hc (e + 1) e (by omega) ops[e] (Array.getElem?_eq_getElem hes) h1 j0 he'
          rw [hj0f] at this; cases this
    have hp : listed.getD i false = false := by
      simp only [Array.getD_eq_getD_getElem?] at hl ⊢
      rw [Array.getElem?_eq_getElem (by omega)] at hl ⊢
      simpa using hl
    have hdst : dstOf ops i = o.dst := by simp [dstOf, ho]
    -- what follows, whatever op i yields
    have next : ∀ v w', C w' ∧ Rel w w' ∧ getV V i v w' →
        wpAny P .any ops Q fuel (listed.setIfInBounds i true) ((filF ops vs (fun k => listed.getD k false) a ops.size).put o.dst v) w' := by
      rintro v w' ⟨hC', hR, hv⟩
      have hpe : ∀ k, k < ops.size → (listed.setIfInBounds i true).getD k false = (listed.getD k false || k == i) := by
        intro k hk
        simp only [Array.getD_eq_getD_getElem?, Array.getElem?_setIfInBounds]
        by_cases hki : i = k
        · subst hki
          simp [hs, hk]
        · have : (k == i) = false := by simp; omega
          simp [hki, this]
      have hput : (filF ops vs (fun k => listed.getD k false) a ops.size).put o.dst v = filF ops (fun k => if k = i then v else vs k) (fun k => (listed.setIfInBounds i true).getD k false) a ops.size := by
        rw [← hdst, filF_put i v hlt hp (fun k hk hne d hd he => ?_)]
        · exact filF_congr _ (fun j hj => (hpe j hj).symm) (fun _ _ _ => rfl)
        · obtain ⟨_, _, _, hdist, _⟩ := okB_at h ho
          exact hdist d (by rw [← hdst]; exact hd) k hk hne he
      rw [hput]
      refine ih _ _ w' (by simp [hs]) ?_ ?_ hC' ?_ (fun j hj hjs => by rw [hpe j hjs, hlo j hj hjs]; simp; omega)
      · have e : (List.range ops.size).countP (fun k => !(listed.setIfInBounds i true).getD k false) = (List.range ops.size).countP (fun k => !(listed.getD k false || k == i)) :=
          List.countP_congr fun k hk => by rw [hpe k (List.mem_range.1 hk)]
        rw [e]
        have := countP_set ops.size i (fun k => listed.getD k false) hlt hp
        omega
      · intro j oj hoj hj k hk
        have hjn := (Array.getElem?_eq_some_iff.1 hoj).1
        have hkj := (okB_at h hoj).1 k hk
        simp only [hpe j hjn] at hj
        simp only [hpe k (by omega)]
        by_cases hji : j = i
        · subst hji
          rw [ho] at hoj
          cases hoj
          rw [hdirs k hk]; rfl
        · have e1 : (j == i) = false := by simp; omega
          rw [e1, Bool.or_false] at hj
          have := hc j oj hoj hj k hk
          simp only at this
          rw [this]; rfl
      · intro j hj hjl
        rw [hpe j hj] at hjl
        by_cases hji : j = i
        · subst hji
          simpa using hv
        · have e1 : (j == i) = false := by simp; omega
          rw [e1, Bool.or_false] at hjl
          simp only [if_neg hji]
          exact stab j _ w w' hR (hV j hj hjl)
    -- op i's own obligation
    have hkn : Know V vs w (A.getD i []) := by
      intro j hj
      obtain ⟨_, ha, _, _, _⟩ := okB_at h ho
      obtain ⟨hji, k, hk, hk'⟩ := ha j hj
      have hpk := hdirs k hk
      refine hV j (by omega) ?_
      rcases hk' with rfl | hk'
      · exact hpk
      · have hkn : k < ops.size := by have := (okB_at h ho).1 k hk; omega
        exact closed_anc h hc (k + 1) k (by omega) ops[k] (Array.getElem?_eq_getElem hkn) hpk j hk'
    have hob := steps_at (ops.toList.take m) 0 hst i o (by rw [List.getElem?_take_of_lt him]; simpa using ho) vs w hC (by rwa [Nat.zero_add])
    rw [Nat.zero_add] at hob
    obtain ⟨he, hw⟩ := eval_agree (a := a) (vs := vs) h hc ho hp hdirs
    unfold Opt at hob
    rw [← hw] at hob
    unfold wpOp
    simp only [ho]
    by_cases hwt : Region.wanted o (yielded ops (filF ops vs (fun k => listed.getD k false) a ops.size).tmps) = true
    · rw [if_pos hwt] at hob ⊢
      refine .inl ?_
      unfold OpY at hob
      rw [← he] at hob
      unfold Oper.wp
      generalize (execOp (filF ops vs (fun k => listed.getD k false) a ops.size).eval o).run P w = r at hob
      cases r with
      | ok nx w' =>
        cases nx with
        | value v => exact next v w' hob
        | skip => exact next undef w' hob
        | enter f args => exact Calls.mono hob (fun e w'' ⟨v, hv, hR⟩ => by subst hv; exact next v w'' hR)
        | _ => exact hob.elim
      | halt x w' => exact hob.elim
    · rw [if_neg hwt] at hob ⊢
      exact next undef w hob

/-- THE RULE -/
theorem wp_region_og {id : Nat} {w : World} (hm : P.follows .mixedOrders = true) (h : okB ops A = true) (ht : tailB ops A m = true) (hC : C w.drew)
    (stab : ∀ i v w w', Rel w w' → getV V i v w → getV V i v w')
    (hst : Steps P C Rel V A ops a (ops.toList.take m) 0)
    (fin : ∀ vs w, C w → Know V vs w (List.range m) → wpList P ops Q (ops.toList.drop m) (lexF ops vs a m) w) : (Code.region id ops true).wp P Q a w := by
  refine wp_region_any hm ?_
  have e : a = filF ops (fun _ => undef) (fun k => (Array.replicate ops.size false).getD k false) a ops.size := by
    have : ∀ n, filF ops (fun _ => undef) (fun k => (Array.replicate ops.size false).getD k false) a n = a := by
      intro n
      induction n with
      | zero => rfl
      | succ n ih =>
        simp only [filF]
        rw [if_neg (by simp [Array.getD_eq_getD_getElem?, Array.getElem?_replicate]; split <;> simp), ih]
    exact (this _).symm
  have hfalse : ∀ k, (Array.replicate ops.size false).getD k false = false := by
    intro k
    simp only [Array.getD_eq_getD_getElem?, Array.getElem?_replicate]
    split <;> rfl
  have := main (Q := Q) h ht stab hst fin ops.size (Array.replicate ops.size false) (fun _ => undef) w.drew (by simp) (Nat.le_trans List.countP_le_length (by simp))
    (fun j o _ hj => by simp only [hfalse] at hj; cases hj) hC (fun j _ hj => by rw [hfalse] at hj; cases hj) (fun j _ _ => hfalse j)
  rw [← e] at this
  exact this

theorem walk_sound {Q' : Act → World → Prop} : ∀ (l : List Oper) (i : Nat) (F : (Nat → Value) → Act) (K : (Nat → Bool) → (Nat → Value) → World → Prop) (V0 : Nat → Value → World → Prop),
    i ≤ m → m ≤ ops.size → (ops.toList.take m).drop i = l → (∀ vs, F vs = lexF ops vs a i) → (∀ V vs w (l : Nat → Bool), (∀ j, j < i → V j = V0 j) → (∀ j, j < i → l j = true → getV V j (vs j) w) → K l vs w) → (∀ j v w w', j < i → Rel w w' → V0 j v w → V0 j v w') →
    Walk P C Rel A ops Q' l i F K → ∃ V : Nat → Value → World → Prop, (∀ j, j < i → V j = V0 j) ∧ (∀ j v w w', Rel w w' → V j v w → V j v w') ∧ Steps P C Rel V A ops a l i ∧
      (∀ vs w, C w → Know V vs w (List.range m) → Q' (lexF ops vs a m) w) := by
  intro l
  induction l with
  | nil =>
    intro i F K V0 hle hms hl hF hK hst hw
    have hi : i = m := by
      have := congrArg List.length hl
      simp at this
      omega
    subst hi
    refine ⟨fun j => if j < i then V0 j else fun _ _ => True, fun j hj => if_pos hj, ?_, trivial, ?_⟩
    · intro j v w w' hR
      by_cases hj : j < i
      · simp only [if_pos hj]; exact hst j v w w' hj hR
      · simp only [if_neg hj]; exact fun h => h
    · intro vs w hC hk
      have h1 := hw vs w hC (hK _ vs w _ (fun j hj => if_pos hj) (fun j hj _ => hk j (List.mem_range.2 hj)))
      rw [hF] at h1; exact h1
  | cons o r ih =>
    intro i F K V0 hle hms hl hF hK hst hw
    obtain ⟨D, hD, hop, hrest⟩ := hw
    have him : i < m := by
      have := congrArg List.length hl
      simp at this
      omega
    have ho : ops[i]? = some o := by
      have h1 : ((ops.toList.take m).drop i)[0]? = some o := by rw [hl]; rfl
      rw [List.getElem?_drop, Nat.add_zero, List.getElem?_take_of_lt him] at h1
      simpa using h1
    have hdrop : (ops.toList.take m).drop (i + 1) = r := by
      have := congrArg List.tail hl
      simpa using this
    have hF' : ∀ vs, (F vs).put o.dst (vs i) = lexF ops vs a (i + 1) := by
      intro vs
      rw [hF]
      show _ = Act.put (lexF ops vs a i) (dstOf ops i) (vs i)
      simp [dstOf, ho]
    obtain ⟨V, hV, hVs, hs, hfin⟩ := ih (i + 1) _ _ (fun j => if j = i then D else V0 j) (by omega) hms hdrop hF' (by
      intro V vs w l hV hk
      refine ⟨fun hc => ?_, hK V vs w l (fun j hj => by rw [hV j (by omega), if_neg (by omega)]) (fun j hj hlj => hk j (by omega) hlj)⟩
      have := hk i (by omega) hc
      unfold getV at this
      rwa [hV i (by omega), if_pos rfl] at this) (by
      intro j v w w' hj hR
      by_cases hji : j = i
      · simp only [if_pos hji]; exact hD v w w' hR
      · simp only [if_neg hji]; exact hst j v w w' (by omega) hR) hrest
    refine ⟨V, fun j hj => by rw [hV j (by omega), if_neg (by omega)], hVs, ⟨fun vs w hC hk => ?_, hs⟩, hfin⟩
    have h1 := hop vs w hC (hK V vs w _ (fun j hj => by rw [hV j (by omega), if_neg (by omega)]) (fun j hj hlj => hk j (List.contains_iff_mem.1 hlj)))
    rw [hF] at h1
    have h2 : getV V i = D := by
      unfold getV
      rw [hV i (by omega), if_pos rfl]
    rw [h2]
    exact h1


theorem walk_lit {id : Nat} {w : World} {l : List Oper} (m : Nat) (A : List (List Nat)) (C : World → Prop) (Rel : World → World → Prop) (hm : P.follows .mixedOrders = true) (h : okB l.toArray A = true) (ht : tailB l.toArray A m = true) (hC : C w.drew)
    (hw : Walk P C Rel A l.toArray (wpList P l.toArray Q (l.drop m)) (l.take m) 0 (fun _ => a) K0) : (Code.region id l.toArray true).wp P Q a w := by
  obtain ⟨V, _, hV, hs, hfin⟩ := walk_sound (m := m) (a := a) (l.take m) 0 (fun _ => a) K0 (fun _ _ _ => True) (Nat.zero_le _) (tailB_at ht).1 rfl (fun _ => rfl) (fun _ _ _ _ _ _ => trivial) (fun _ _ _ _ _ _ h => h) hw
  exact wp_region_og hm h ht hC hV (by simpa using hs) (by simpa using hfin)
end
end Tail
end Og
end Go
namespace Go.Proofs.YtjbglifmppilfaaDoor
open Go.ChangeShapes Go.WideShapes Go.ChangeAt Go.RowKit
set_option linter.unusedVariables false
set_option linter.unusedSimpArgs false
attribute [local go_sem] Og.Opt Og.OpY
theorem bthen {W w2 w3 : World} (h : Below W.heap.size W w2) (k : Below w2.heap.size w2 w3) : Below W.heap.size W w3 :=
  h.trans ⟨k.os, k.tape, k.output, k.size, fun i hi => k.block i (Nat.lt_of_lt_of_le hi h.size)⟩
/-- the same from below another mark -/
theorem bthen' {w W w2 : World} {B : Nat} (h : Below B w W) (hB : B ≤ W.heap.size) (k : Below W.heap.size W w2) : Below B w w2 :=
  h.trans ⟨k.os, k.tape, k.output, k.size, fun i hi => k.block i (Nat.lt_of_lt_of_le hi hB)⟩
theorem bdrew {w : World} : Below w.heap.size w w.drew := ⟨rfl, rfl, rfl, Nat.le_refl _, fun _ _ => rfl⟩
theorem bdrew' {w : World} {B : Nat} : Below B w w.drew := ⟨rfl, rfl, rfl, Nat.le_refl _, fun _ _ => rfl⟩
theorem bcell {W w2 : World} (h : Below W.heap.size W w2) {a : Addr} {v : Value} (hc : W.cell? a = some v) : w2.cell? a = some v :=
  (h.cell (World.block_lt_of_cell? W a hc)).trans hc

theorem wrapk {k : Nat} (h : k ≤ 1125899906842624) : IntKind.i64.wrap (k : Int) = k := by rw [IntKind.wrap_i64]; omega
theorem heap_keep {w w2 : World} {k : Nat} {ob : Obj} (hb : Below w.heap.size w w2) (h : w.heap[k]? = some ob) : w2.heap[k]? = some ob := (hb.block _ (Array.getElem?_eq_some_iff.1 h).1).trans h
theorem heap_at {W : World} {ob : Obj} {g : Nat} (hg : g = W.heap.size) : (W.alloc ob).heap[g]? = some ob := by subst hg; exact heap_alloc_new W ob
theorem below_grown {w w' : World} (h : Below w.heap.size w w') : w.grownBy w' none := ⟨h.os, h.tape, h.output, h.size, fun k hk _ => h.block k hk⟩
theorem own_below {w w' : World} {base : Nat} {e : TypeId} {size : Nat} {v : Value} {n : Nat} {xs : List Value} (h : w.ownsRow base e size v n xs) (hb : Below w.heap.size w w') : w'.ownsRow base e size v n xs := h.kept (below_grown hb) (by cases v.ownBlock <;> simp)
theorem own_lower {w : World} {B B' n sz : Nat} {e : TypeId} {v : Value} {xs : List Value} (h : w.ownsRow B e sz v n xs) (hB : B' ≤ B) : w.ownsRow B' e sz v n xs := by
  refine ⟨h.1, ?_⟩
  rcases h.2 with h0 | ⟨g, cap, cur, hv, hb, r⟩
  · exact .inl h0
  · exact .inr ⟨g, cap, cur, hv, Nat.le_trans hB hb, r⟩
theorem own_some {w : World} {base e sz n : Nat} {v : Value} {xs : List Value} (h : w.ownsRow base e sz v n xs) (hv : v ≠ .slice none 0 0) : ∃ g cap, v = .slice (some ⟨g, 0, none⟩) n cap ∧ base ≤ g ∧ g < w.heap.size := by
  rcases h.2 with ⟨h0, _⟩ | ⟨g, cap, cur, hv', hb, hg, _⟩
  · exact absurd h0 hv
  · exact ⟨g, cap, hv', hb, (Array.getElem?_eq_some_iff.1 hg).1⟩
theorem row_new {w : World} {base n sz g : Nat} {e : TypeId} {v : Value} {xs : List Value} (h : w.ownsRow base e sz v n xs) (hg : w.heap.size ≤ g) : v.ownBlock ≠ some g := fun e => Nat.lt_irrefl g (Nat.lt_of_lt_of_le (h.lt g e).2 hg)
theorem fresh_row (w : World) (e : TypeId) (size base : Nat) (hb : base ≤ w.heap.size) : (w.alloc (.cells #[] e)).ownsRow base e size (.slice (some ⟨w.heap.size, 0, none⟩) 0 0) 0 [] :=
  World.ownsRow_made w #[] 0 hb (by simp [maxLen]) (by simp)
theorem below_storeA {w w3 : World} {ob : Obj} (hb : ∀ B, B ≤ w.heap.size → Below B (w.alloc ob) w3) : Below w.heap.size w w3 := ((Below.refl _ _).alloc (Nat.le_refl _) _).trans (hb _ (Nat.le_refl _))
theorem news_heap {w : World} {vb : Nat} {arr : Array Value} {t : TypeId} (h : w.heap[vb]? = some (.cells arr t (0, 0))) : ∀ j u, arr.toList[j]? = some u → w.cell? (Addr.add ⟨vb, 0, none⟩ j) = some u := by
  intro j u hu
  have hadd : (⟨vb, 0, none⟩ : Addr).add j = ⟨vb, j, none⟩ := by unfold Addr.add; split <;> simp_all
  rw [hadd, cell_of_row w vb j arr t (0, 0) h]
  simpa using hu
theorem maxLen_ge : 2513169434844 ≤ maxLen := by unfold maxLen; omega
theorem flat_get {α β : Type} (f : α → List β) (m : Nat) (hm : ∀ x, (f x).length = m) (h0 : 0 < m) : ∀ (xs : List α) (j : Nat), (xs.flatMap f)[j]? = (xs[j / m]?).bind fun x => (f x)[j % m]?
  | [], j => by simp
  | x :: xs, j => by
    rw [List.flatMap_cons, List.getElem?_append]
    by_cases hj : j < m
    · rw [if_pos (by rw [hm]; exact hj), Nat.div_eq_of_lt hj, Nat.mod_eq_of_lt hj]
      simp
    · rw [if_neg (by rw [hm]; exact hj), hm, flat_get f m hm h0 xs (j - m)]
      have e1 : j / m = (j - m) / m + 1 := by
        conv => lhs; rw [show j = (j - m) + m by omega]
        exact Nat.add_div_right _ h0
      have e2 : (j - m) % m = j % m := by
        conv => rhs; rw [show j = (j - m) + m by omega]
        exact (Nat.add_mod_right _ _).symm
      rw [e1, e2]
      simp
theorem flat_len {α β : Type} (f : α → List β) (m : Nat) (hm : ∀ x, (f x).length = m) (xs : List α) : (xs.flatMap f).length = xs.length * m := by
  induction xs with
  | nil => simp
  | cons x xs ih => rw [List.flatMap_cons, List.length_append, ih, hm, List.length_cons, Nat.succ_mul]; omega
theorem flat_one {α : Type} {f : α → List Value} (h : ∀ x, ∀ u ∈ f x, u.oneCell' = true) (xs : List α) : ∀ u ∈ xs.flatMap f, u.oneCell' = true := by
  intro u hu
  obtain ⟨x, _, hx⟩ := List.mem_flatMap.1 hu
  exact h x u hx

theorem flat_take {α β : Type} (f : α → List β) (m : Nat) (hm : ∀ x, (f x).length = m) : ∀ (xs : List α) (k : Nat), (xs.flatMap f).take (k * m) = (xs.take k).flatMap f
  | [], k => by simp
  | x :: xs, 0 => by simp
  | x :: xs, k + 1 => by
    rw [List.flatMap_cons, List.take_succ_cons, List.flatMap_cons, ← flat_take f m hm xs k, List.take_append, hm, List.take_of_length_le (by rw [hm, Nat.succ_mul]; omega)]
    rw [show (k + 1) * m - m = k * m by rw [Nat.succ_mul]; omega]
theorem flat_drop {α β : Type} (f : α → List β) (m : Nat) (hm : ∀ x, (f x).length = m) : ∀ (xs : List α) (k : Nat), (xs.flatMap f).drop (k * m) = (xs.drop k).flatMap f
  | [], k => by simp
  | x :: xs, 0 => by simp
  | x :: xs, k + 1 => by
    rw [List.flatMap_cons, List.drop_succ_cons, ← flat_drop f m hm xs k, List.drop_append, hm, List.drop_of_length_le (by rw [hm, Nat.succ_mul]; omega)]
    rw [show (k + 1) * m - m = k * m by rw [Nat.succ_mul]; omega, List.nil_append]

theorem run_copy_own {P : Program} (w : World) (dT sT ty elem : TypeId) (s g o dLen dCap : Nat) (a : Addr) (sLen sCap : Nat) (cur : Array Value) (t : TypeId) (cs : List Value)
    (hu : P.underlying dT = some (.slice elem)) (hs : (P.info? elem).map (·.size) = some s)
    (hg : w.heap[g]? = some (.cells cur t (0, 0))) (hn : cs.length = Nat.min sLen dLen * s)
    (hsrc : ∀ j v, cs[j]? = some v → w.cell? (a.add j) = some v) (hfit : o + cs.length ≤ cur.size) (h1 : ∀ v ∈ cs, v.oneCell' = true) :
    (Builtin.copy_ #[dT, sT] ty #[.slice (some ⟨g, o, none⟩) dLen dCap, .slice (some a) sLen sCap]).run P w =
      .ok (goInt (Nat.min sLen dLen)) (w.setRow g (cur.toList.take o ++ cs ++ cur.toList.drop (o + cs.length)).toArray) := by
  have hl := run_loadCells_list (P := P) w a cs hsrc
  have hst := run_storeCells_at P g o t cs 0 cur w hg (by simpa using hfit) h1
  cases hq : P.info? elem with
  | none => simp [hq] at hs
  | some i =>
    have hi : i.size = s := by simpa [hq] using hs
    simp [Builtin.copy_, run_underlying hu, Builtin.lenOf, Builtin.firstCells, sizeOf, typeInfo, hq, hi, ← hn, hl, hst]


/-- the cells from a place on hold these values -/
def AtL (w : World) (b o : Nat) (cs : List Value) : Prop := ∀ j v, cs[j]? = some v → w.cell? ⟨b, o + j, none⟩ = some v
theorem AtL.below {w w2 : World} {b o : Nat} {cs : List Value} (h : AtL w b o cs) (hb : Below w.heap.size w w2) : AtL w2 b o cs := fun j v hv => bcell hb (h j v hv)
theorem AtL.belowB {w w2 : World} {B b o : Nat} {cs : List Value} (h : AtL w b o cs) (hb : Below B w w2) (hlt : b < B) : AtL w2 b o cs := fun j v hv => (hb.cell hlt).trans (h j v hv)
theorem AtL_heap {w : World} {g : Nat} {t : TypeId} {cs : List Value} (h : w.heap[g]? = some (.cells cs.toArray t (0, 0))) : AtL w g 0 cs := fun j v hv => by
  rw [cell_of_row w g (0 + j) cs.toArray t (0, 0) h]
  simpa using hv
theorem AtL.sub {w : World} {g o n : Nat} {cs ds : List Value} (k : Nat) (h : AtL w g o cs) (hd : (cs.drop k).take n = ds) : AtL w g (o + k) ds := fun j v hv => by
  subst hd
  rw [List.getElem?_take] at hv
  split at hv
  · rw [List.getElem?_drop] at hv
    have := h (k + j) v hv
    rwa [← Nat.add_assoc] at this
  · cases hv
section
variable {P : Program}
theorem run_loadL {w : World} {b o n : Nat} {ty : TypeId} {cs : List Value} (hg : ∀ w, (isAgg ty).run P w = .ok true w) (hs : ∀ w, (sizeOf ty).run P w = .ok n w) (hn : cs.length = n) (h : AtL w b o cs) : (loadVar ty ⟨b, o, none⟩).run P w = .ok (.agg cs.toArray) w := by
  have hc := run_loadCells_list (P := P) w ⟨b, o, none⟩ cs (fun j v hv => by rw [Addr.add_lit]; exact h j v hv)
  rw [hn] at hc
  unfold loadVar
  simp only [Sem.run_bind, hg, Result.andThen_ok, if_true, hs, hc, Sem.run_pure]
/-- a load whose value is known -/
theorem wpList_loadL {ops : Array Oper} {rest : List Oper} {o : Oper} {a : Act} {w : World} {Q : Exit → Act → World → Prop} (hgd : o.guard = none) (ty : TypeId) (t : Operand) (ho : o.op = .load ty t) (b off : Nat) (v : Value) (ha : a.eval t = .pointer (some ⟨b, off, none⟩)) (hr : (loadVar ty ⟨b, off, none⟩).run P w = .ok v w)
    (k : wpList P ops Q rest (a.put o.dst v) w) : wpList P ops Q (o :: rest) a w := by
  refine wpList_plain hgd fun K hK => ?_
  unfold Oper.wp execOp
  simp only [ho, ha, Instr.loadAt, Instr.sureAddr, Sem.run_bind, Sem.run_pure, Result.andThen_ok, hr]
  exact hK _ _ k
theorem opt_of_wanted {ops : Array Oper} {o : Oper} {a : Act} {w : World} {R : Value → World → Prop} (h : Region.wanted o (yielded ops a.tmps) = true) (k : Og.OpY P a.eval o w R) : Og.Opt P ops o a w R := by
  unfold Og.Opt; rw [if_pos h]; exact k
theorem optB_loadL {ops : Array Oper} {o : Oper} {a : Act} {w : World} {R : Value → World → Prop} {b off : Nat} {ty : TypeId} {t : Operand} {v : Value} (hw : Region.wanted o (yielded ops a.tmps) = true) (ho : o.op = .load ty t) (ha : a.eval t = .pointer (some ⟨b, off, none⟩)) (hr : (loadVar ty ⟨b, off, none⟩).run P w = .ok v w) (hR : R v w) : Og.OptB P ops o a w R := by
  refine ⟨opt_of_wanted hw ?_⟩
  unfold Og.OpY execOp
  simp only [ho, ha, Instr.loadAt, Instr.sureAddr, Sem.run_bind, Sem.run_pure, Result.andThen_ok, hr]
  exact hR
/-- a whole struct is laid into a block of the call's own -/
theorem wpList_storeN {ops : Array Oper} {rest : List Oper} {o : Oper} {a : Act} {w : World} {Q : Exit → Act → World → Prop} (hgd : o.guard = none) (ty : TypeId) (x y : Operand) (ho : o.op = .store ty x y) (hd : o.dst = none)
    (g : Nat) (cells : Array Value) (hx : a.eval x = .pointer (some ⟨g, 0, none⟩)) (hy : a.eval y = .agg cells)
    (t : TypeId) (old : Array Value) (hg : w.heap[g]? = some (.cells old t (0, 0))) (hi : (P.info? ty).map (·.size) = some cells.size)
    (hold : old.size = cells.size) (h1 : cells.all (·.oneCell') = true)
    (h : ∀ w3, w3.heap[g]? = some (.cells cells t (0, 0)) → (∀ B, B ≤ g → Below B w w3) → (∀ k, k ≠ g → w3.heap[k]? = w.heap[k]?) → w3.heap.size = w.heap.size → wpList P ops Q rest a w3) : wpList P ops Q (o :: rest) a w := by
  refine wpList_plain hgd fun K hK => ?_
  unfold Oper.wp
  simp only [execOp, ho, hx, hy, Instr.storeAt, Instr.sureAddr, Sem.run_bind, Sem.run_pure, Result.andThen_ok, run_storeVar_row w g t ty old cells hg hi hold h1]
  have e : a.put o.dst undef = a := by rw [hd]; rfl
  refine hK _ _ ?_
  rw [e]
  exact h _ (setRow_heap w g old cells t (0, 0) hg) (fun B hB => ⟨rfl, rfl, rfl, by simp [World.setRow], fun k hk => setRow_other w g k _ (by omega)⟩) (fun k hk => setRow_other w g k _ hk) (by simp [World.setRow])
end

/-- a slice at A reads as xs -/
def Rd {α : Type} (f : α → List Value) (m : Nat) (w : World) (A : Option Addr) (xs : List α) : Prop := ∀ i x, xs[i]? = some x → ∃ b o, A = some ⟨b, o, none⟩ ∧ AtL w b (o + i * m) (f x)
section
variable {α : Type} {f : α → List Value} {m : Nat}
theorem Rd.below {w w2 : World} {A : Option Addr} {xs : List α} (h : Rd f m w A xs) (hb : Below w.heap.size w w2) : Rd f m w2 A xs := fun i x hi => by
  obtain ⟨b, o, hA, ha⟩ := h i x hi
  exact ⟨b, o, hA, ha.below hb⟩
theorem Rd.none {w : World} {xs : List α} (h : Rd f m w none xs) : xs = [] := by
  cases xs with
  | nil => rfl
  | cons r xs => obtain ⟨b, o, hA, _⟩ := h 0 r rfl; cases hA
/-- the slice v reads as xs; what it holds lies from block B on -/
def Sl (f : α → List Value) (m B : Nat) (w : World) (v : Value) (xs : List α) : Prop := ∃ A c, v = .slice A xs.length c ∧ Rd f m w A xs ∧ (A = Option.none → c = 0) ∧ (∀ a, A = some a → B ≤ a.block) ∧ xs.length ≤ c
theorem Sl.below {B : Nat} {w w' : World} {v : Value} {xs : List α} (h : Sl f m B w v xs) (hb : Below w.heap.size w w') : Sl f m B w' v xs := by
  obtain ⟨A, c, hv, hr, h1, h2, h3⟩ := h
  exact ⟨A, c, hv, hr.below hb, h1, h2, h3⟩
theorem Sl.mono {B B' : Nat} {w : World} {v : Value} {xs : List α} (h : Sl f m B w v xs) (hB : B' ≤ B) : Sl f m B' w v xs := by
  obtain ⟨A, c, hv, hr, h1, h2, h3⟩ := h
  exact ⟨A, c, hv, hr, h1, fun a ha => Nat.le_trans hB (h2 a ha), h3⟩
theorem Sl.nil {B : Nat} {w : World} : Sl f m B w (.slice none 0 0) [] := ⟨Option.none, 0, rfl, fun i r hr => by simp at hr, fun _ => rfl, fun a ha => (by cases ha), by simp⟩
theorem Sl_of_row {w : World} {base : Nat} {e : TypeId} {v : Value} {n : Nat} {xs : List α} (hm : ∀ x, (f x).length = m) (h0 : 0 < m) (h : w.ownsRow base e m v n (xs.flatMap f)) (hn : xs.length = n) : Sl f m base w v xs := by
  rcases h.2 with ⟨rfl, h0'⟩ | ⟨g, cap, cur, rfl, hb, hg, hnc, _⟩
  · subst h0'
    obtain rfl := List.eq_nil_of_length_eq_zero hn
    exact Sl.nil
  · refine ⟨some ⟨g, 0, none⟩, cap, by rw [hn], fun i r hr => ⟨g, 0, rfl, fun k u hu => ?_⟩, fun hA => (by cases hA), fun a ha => (by cases ha; exact hb), by omega⟩
    have hk : k < m := by have := (List.getElem?_eq_some_iff.1 hu).1; rwa [hm] at this
    have := h.cells (g := g) rfl (i * m + k) u (by
      rw [flat_get f m hm h0, Nat.mul_comm i m, Nat.mul_add_div h0, Nat.div_eq_of_lt hk, Nat.mul_add_mod, Nat.mod_eq_of_lt hk, Nat.add_zero, hr]
      exact hu)
    rw [Addr.add_lit] at this
    rwa [Nat.add_assoc]
theorem news_rd {w : World} {ad : Addr} {xs : List α} (hm : ∀ x, (f x).length = m) (h0 : 0 < m) (h : Rd f m w (some ad) xs) : ∀ j u, (xs.flatMap f)[j]? = some u → w.cell? (ad.add j) = some u := by
  intro j u hu
  rw [flat_get f m hm h0] at hu
  obtain ⟨r, hr, hu⟩ := Option.bind_eq_some_iff.1 hu
  obtain ⟨b, o, hA, ha⟩ := h _ r hr
  cases hA
  rw [Addr.add_lit]
  have := ha _ u hu
  rwa [Nat.add_assoc, Nat.div_add_mod'] at this
end

structure Pf where
  a : Int
  l : Int
deriving DecidableEq
structure Nd where
  i : Int
deriving DecidableEq
structure Lk where
  f : Int
  t : Int
  c : Int
  d : Int
deriving DecidableEq
structure Pn where
  p : Pf
  n : Int
  m : Int
deriving DecidableEq
structure Ed where
  k : Int
  a : Int
  b : Int
  c : Int
  d : Int
  p : Pf
deriving DecidableEq
def cNd (x : Nd) : List Value := [.int .i64 x.i, .bool false, .complex .f64 0 0]
def cLk (x : Lk) : List Value := [.int .i64 x.f, .int .i64 x.t, .int .i64 x.c, .int .i64 x.d]
def cPn (x : Pn) : List Value := [.int .u32 x.p.a, .int .i64 x.p.l, .int .i64 x.n, .int .i64 x.m]
def cEd (x : Ed) : List Value := [.int .i64 x.k, .int .i64 x.a, .int .i64 x.b, .int .i64 x.c, .int .i64 x.d, .complex .f64 0 0, .int .u32 x.p.a, .int .i64 x.p.l, .bool false]
theorem cNd_len (x : Nd) : (cNd x).length = 3 := rfl
theorem cLk_len (x : Lk) : (cLk x).length = 4 := rfl
theorem cPn_len (x : Pn) : (cPn x).length = 4 := rfl
theorem cEd_len (x : Ed) : (cEd x).length = 9 := rfl
theorem cNd_one (x : Nd) : ∀ u ∈ cNd x, u.oneCell' = true := by
  intro u hu
  simp only [cNd, List.mem_cons, List.not_mem_nil, or_false] at hu
  rcases hu with rfl | rfl | rfl <;> rfl
theorem cLk_one (x : Lk) : ∀ u ∈ cLk x, u.oneCell' = true := by
  intro u hu
  simp only [cLk, List.mem_cons, List.not_mem_nil, or_false] at hu
  rcases hu with rfl | rfl | rfl | rfl <;> rfl
theorem cPn_one (x : Pn) : ∀ u ∈ cPn x, u.oneCell' = true := by
  intro u hu
  simp only [cPn, List.mem_cons, List.not_mem_nil, or_false] at hu
  rcases hu with rfl | rfl | rfl | rfl <;> rfl
theorem info41 : (Tryd.prog.info? 53).map (fun i => (i.zero, i.size, i.bytes)) = some (some (.agg #[.int .i64 0, .bool false, .complex .f64 0 0]), 3, 32) := by kernel_rfl
theorem info41s : (Tryd.prog.info? 53).map (·.size) = some 3 := by kernel_rfl
theorem size41 (w : World) : (sizeOf 53).run Tryd.prog w = .ok 3 w := by kernel_rfl
theorem isAgg41 (w : World) : (isAgg 53).run Tryd.prog w = .ok true w := by kernel_rfl
theorem zero41 (w : World) : (zeroValue 53).run Tryd.prog w = .ok (.agg #[.int .i64 0, .bool false, .complex .f64 0 0]) w := by kernel_rfl
theorem info43 : (Tryd.prog.info? 45).map (fun i => (i.zero, i.size, i.bytes)) = some (some (.agg #[.int .i64 0, .int .i64 0, .int .i64 0, .int .i64 0]), 4, 32) := by kernel_rfl
theorem info43s : (Tryd.prog.info? 45).map (·.size) = some 4 := by kernel_rfl
theorem size43 (w : World) : (sizeOf 45).run Tryd.prog w = .ok 4 w := by kernel_rfl
theorem isAgg43 (w : World) : (isAgg 45).run Tryd.prog w = .ok true w := by kernel_rfl
theorem zero43 (w : World) : (zeroValue 45).run Tryd.prog w = .ok (.agg #[.int .i64 0, .int .i64 0, .int .i64 0, .int .i64 0]) w := by kernel_rfl
theorem info49 : (Tryd.prog.info? 124).map (fun i => (i.zero, i.size, i.bytes)) = some (some (.agg #[.int .u32 0, .int .i64 0, .int .i64 0, .int .i64 0]), 4, 32) := by kernel_rfl
theorem info49s : (Tryd.prog.info? 124).map (·.size) = some 4 := by kernel_rfl
theorem size49 (w : World) : (sizeOf 124).run Tryd.prog w = .ok 4 w := by kernel_rfl
theorem isAgg49 (w : World) : (isAgg 124).run Tryd.prog w = .ok true w := by kernel_rfl
theorem zero49 (w : World) : (zeroValue 124).run Tryd.prog w = .ok (.agg #[.int .u32 0, .int .i64 0, .int .i64 0, .int .i64 0]) w := by kernel_rfl
theorem info33s : (Tryd.prog.info? 42).map (·.size) = some 3 := by kernel_rfl
theorem size33 (w : World) : (sizeOf 42).run Tryd.prog w = .ok 3 w := by kernel_rfl
theorem isAgg33 (w : World) : (isAgg 42).run Tryd.prog w = .ok true w := by kernel_rfl
theorem info47s : (Tryd.prog.info? 122).map (·.size) = some 2 := by kernel_rfl
theorem size47 (w : World) : (sizeOf 122).run Tryd.prog w = .ok 2 w := by kernel_rfl
theorem isAgg47 (w : World) : (isAgg 122).run Tryd.prog w = .ok true w := by kernel_rfl

end Go.Proofs.YtjbglifmppilfaaDoor
