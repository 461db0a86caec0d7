/- A region that draws its order with a tail: from operation m on each has all ahead of it as ancestors: the first m in whatever order, the rest in the text's. Conditions: as in Og. -/
import Derived.Test.YtpklcefiabjplaaOgF
import Derived.Tactics
namespace Go
namespace Og
namespace Tail
def tailB (ops : Array Oper) (A : List (List Nat)) (m : Nat) : Bool :=
  decide (m ≤ ops.size) && (List.range ops.size).all fun i => decide (i < m) || (List.range i).all fun j => (A.getD i []).contains j
section
variable {P : Program} {ops : Array Oper} {Q : Exit → Act → World → Prop} {m : Nat} {C : World → Prop} {Rel : World → World → Prop} {V : Nat → Value → World → Prop} {A : List (List Nat)} {a : Act}
theorem tailB_at (h : tailB ops A m = true) : m ≤ ops.size ∧ ∀ i, m ≤ i → i < ops.size → ∀ j, j < i → j ∈ A.getD i [] := by
  unfold tailB at h
  simp only [Bool.and_eq_true, decide_eq_true_eq] at h
  refine ⟨h.1, fun i hi hs j hj => ?_⟩
  have := List.all_eq_true.1 h.2 i (List.mem_range.2 hs)
  rw [decide_eq_false (show ¬ i < m by omega), Bool.false_or] at this
  exact List.contains_iff_mem.1 (List.all_eq_true.1 this j (List.mem_range.2 hj))
theorem filF_lt {vs : Nat → Value} {p : Nat → Bool} : ∀ n, m ≤ n → (∀ j, j < n → p j = decide (j < m)) → filF ops vs p a n = lexF ops vs a m := by
  intro n
  induction n with
  | zero => intro h _; rw [show m = 0 by omega]; rfl
  | succ n ih =>
    intro h hp
    by_cases hmn : m = n + 1
    · subst hmn
      unfold lexF
      exact filF_congr _ (fun j hj => by rw [hp j hj]; simpa using hj) (fun _ _ _ => rfl)
    · simp only [filF]
      rw [if_neg (by rw [hp n (by omega)]; simp; omega)]
      exact ih (by omega) (fun j hj => hp j (by omega))
theorem tail (h : okB ops A = true) (ht : tailB ops A m = true) : ∀ (d k : Nat), k + d = ops.size → m ≤ k → ∀ (fuel : Nat) (listed : Array Bool) (a : Act) (w : World), listed.size = ops.size → d ≤ fuel → (∀ j, j < ops.size → listed.getD j false = decide (j < k)) →
    wpList P ops Q (ops.toList.drop k) a w → wpAny P .any ops Q fuel listed a w := by
  intro d
  induction d with
  | zero =>
    intro k hk hm fuel listed a w hs hf hl hw
    have hr : Region.ready .any ops listed = [] := by
      refine List.eq_nil_iff_forall_not_mem.2 fun i hi => ?_
      obtain ⟨o, ho, hli, _⟩ := ready_spec hi
      have hlt := (Array.getElem?_eq_some_iff.1 ho).1
      have := hl i hlt
      rw [decide_eq_true (show i < k by omega)] at this
      simp only [Array.getD_eq_getD_getElem?] at hli this
      rw [Array.getElem?_eq_getElem (by omega)] at hli this
      simp at hli this
      rw [hli] at this; cases this
    have hd : ops.toList.drop k = [] := List.drop_eq_nil_of_le (by rw [Array.length_toList]; omega)
    rw [hd] at hw
    cases fuel with
    | zero => exact ⟨hr, hw⟩
    | succ f => exact ⟨fun _ => hw, fun i hi => by rw [hr] at hi; cases hi⟩
  | succ d ih =>
    intro k hk hm fuel listed a w hs hf hl hw
    cases fuel with
    | zero => omega
    | succ f =>
      have hks : k < ops.size := by omega
      have hok : ops[k]? = some ops[k] := Array.getElem?_eq_getElem hks
      have hc : Closed ops (fun j => listed.getD j false) := by
        intro j o ho hj i hi
        have hjs := (Array.getElem?_eq_some_iff.1 ho).1
        have := (okB_at h ho).1 i hi
        simp only [hl j hjs, decide_eq_true_eq] at hj
        simp only [hl i (by omega), decide_eq_true_eq]
        omega
      have hkr : k ∈ Region.ready .any ops listed := by
        refine ready_of hok ?_ (fun j hj => ?_)
        · have := hl k hks
          rw [decide_eq_false (Nat.lt_irrefl k)] at this
          simp only [Array.getD_eq_getD_getElem?] at this ⊢
          rw [Array.getElem?_eq_getElem (by omega)] at this ⊢
          simpa using this
        · have := (okB_at h hok).1 j hj
          rw [hl j (by omega)]
          simpa using this
      refine ⟨fun hr => (by rw [hr] at hkr; cases hkr), fun i hi => ?_⟩
      obtain ⟨o, ho, hli, hdirs⟩ := ready_spec hi
      have hlt := (Array.getElem?_eq_some_iff.1 ho).1
      have hik : k ≤ i := by
        by_cases hik : k ≤ i
        · exact hik
        · exfalso
          have := hl i hlt
          rw [decide_eq_true (show i < k by omega)] at this
          simp only [Array.getD_eq_getD_getElem?] at hli this
          rw [Array.getElem?_eq_getElem (by omega)] at hli this
          simp at hli this
          rw [hli] at this; cases this
      have hie : i = k := by
        by_cases hie : i = k
        · exact hie
        · exfalso
          obtain ⟨_, e, he, he'⟩ := (okB_at h ho).2.1 k ((tailB_at ht).2 i (by omega) hlt k (by omega))
          have h1 := hdirs e he
          have h2 := (okB_at h ho).1 e he
          rw [hl e (by omega)] at h1
          have h3 : e < k := by simpa using h1
          rcases he' with rfl | he'
          · omega
          · have := ((okB_at h (Array.getElem?_eq_getElem (show e < ops.size by omega))).2.1 k he').1
            omega
      subst hie
      have hdrop : ops.toList.drop i = ops[i] :: ops.toList.drop (i + 1) := by
        rw [List.drop_eq_getElem_cons (by rw [Array.length_toList]; exact hks)]
        simp
      rw [hdrop] at hw
      have next : ∀ a w, wpList P ops Q (ops.toList.drop (i + 1)) a w → wpAny P .any ops Q f (listed.setIfInBounds i true) a w := fun a' w' hw' =>
        ih (i + 1) (by omega) (by omega) f _ a' w' (by simp [hs]) (by omega) (fun j hj => by
          simp only [Array.getD_eq_getD_getElem?, Array.getElem?_setIfInBounds]
          by_cases hij : i = j
          · subst hij; simp [hs, hj]
          · rw [if_neg hij]
            have := hl j hj
            simp only [Array.getD_eq_getD_getElem?] at this
            rw [this]
            by_cases hji : j < i
            · simp [hji]; omega
            · simp [hji]; omega) hw'
      unfold wpOp
      unfold wpList at hw
      simp only [hok]
      split
      · rename_i hwt
        rw [if_pos hwt] at hw
        rcases hw with hw | hw
        · exact .inl (Oper.wp_mono next hw)
        · exact .inr hw
      · rename_i hwt
        rw [if_neg hwt] at hw
        exact next _ _ hw
theorem main (h : okB ops A = true) (ht : tailB ops A m = true) (stab : ∀ i v w w', Rel w w' → getV V i v w → getV V i v w')
    (hst : Steps P C Rel V A ops a (ops.toList.take m) 0)
    (fin : ∀ vs w, C w → Know V vs w (List.range m) → wpList P ops Q (ops.toList.drop m) (lexF ops vs a m) w) :
    ∀ (fuel : Nat) (listed : Array Bool) (vs : Nat → Value) (w : World), listed.size = ops.size → (List.range ops.size).countP (fun k => !listed.getD k false) ≤ fuel →
      Closed ops (fun k => listed.getD k false) → C w → (∀ j, j < ops.size → listed.getD j false = true → getV V j (vs j) w) → (∀ j, m ≤ j → j < ops.size → listed.getD j false = false) →
      wpAny P .any ops Q fuel listed (filF ops vs (fun k => listed.getD k false) a ops.size) w := by
  have hdone : ∀ (fuel : Nat) (listed : Array Bool) (vs : Nat → Value) (w : World), listed.size = ops.size → (List.range ops.size).countP (fun k => !listed.getD k false) ≤ fuel → C w → (∀ j, j < ops.size → listed.getD j false = true → getV V j (vs j) w) →
      (∀ j, j < ops.size → listed.getD j false = decide (j < m)) → wpAny P .any ops Q fuel listed (filF ops vs (fun k => listed.getD k false) a ops.size) w := by
    intro fuel listed vs w hs hcnt hC hV hl
    obtain ⟨hm, _⟩ := tailB_at ht
    have e : filF ops vs (fun k => listed.getD k false) a ops.size = lexF ops vs a m := filF_lt ops.size hm hl
    rw [e]
    refine tail h ht (ops.size - m) m (by omega) (Nat.le_refl _) fuel listed _ w hs (Nat.le_trans ?_ hcnt) hl (fin vs w hC fun j hj => hV j (by have := List.mem_range.1 hj; omega) (by rw [hl j (by have := List.mem_range.1 hj; omega)]; simpa using List.mem_range.1 hj))
    have : ∀ n, m ≤ n → n ≤ ops.size → n - m ≤ (List.range n).countP (fun k => !listed.getD k false) := by
      intro n
      induction n with
      | zero => intro _ _; omega
      | succ n ih =>
        intro h1 h2
        rw [List.range_succ, List.countP_append]
        by_cases hmn : m = n + 1
        · omega
        · have := ih (by omega) (by omega)
          have h3 := hl n (by omega)
          rw [decide_eq_false (show ¬ n < m by omega)] at h3
          simp only [List.countP_singleton, h3, Bool.not_false, if_true]
          omega
    exact this ops.size hm (Nat.le_refl _)
  intro fuel
  induction fuel with
  | zero =>
    intro listed vs w hs hcnt hc hC hV hlo
    have hz : (List.range ops.size).countP (fun k => !listed.getD k false) = 0 := by omega
    refine hdone 0 listed vs w hs hcnt hC hV (fun j hj => ?_)
    have := (List.countP_eq_zero.1 hz) j (List.mem_range.2 hj)
    have h1 : listed.getD j false = true := by simpa using this
    rw [h1]
    by_cases hjm : j < m
    · simp [hjm]
    · have := hlo j (by omega) hj; rw [this] at h1; cases h1
  | succ fuel ih =>
    intro listed vs w hs hcnt hc hC hV hlo
    by_cases hall : ∀ j, j < m → listed.getD j false = true
    · exact hdone (fuel + 1) listed vs w hs hcnt hC hV (fun j hj => by
        by_cases hjm : j < m
        · rw [hall j hjm]; simp [hjm]
        · rw [hlo j (by omega) hj]; simp [hjm])
    have hex : ∃ j, j < m ∧ listed.getD j false = false := Decidable.byContradiction fun hne => hall fun j hj => by
      cases hq : listed.getD j false with
      | true => rfl
      | false => exact absurd ⟨j, hj, hq⟩ hne
    obtain ⟨j0, hj0, hj0f⟩ := hex
    obtain ⟨hms, htl⟩ := tailB_at ht
    refine ⟨fun hr => (by have := all_listed h hs hr (j0 + 1) j0 (by omega) (by omega); rw [hj0f] at this; cases this), fun i hi => ?_⟩
    obtain ⟨o, ho, hl, hdirs⟩ := ready_spec hi
    have hlt := (Array.getElem?_eq_some_iff.1 ho).1
    have him : i < m := by
      by_cases him : i < m
      · exact him
      · exfalso
        obtain ⟨_, e, he, he'⟩ := (okB_at h ho).2.1 j0 (htl i (by omega) hlt j0 (by omega))
        have h1 := hdirs e he
        rcases he' with rfl | he'
        · rw [hj0f] at h1; cases h1
        · have hes : e < ops.size := by have := (okB_at h ho).1 e he; omega
          have := closed_anc h hc (e + 1) e (by omega) ops[e] (Array.getElem?_eq_getElem hes) h1 j0 he'
          rw [hj0f] at this; cases this
    have hp : listed.getD i false = false := by
      simp only [Array.getD_eq_getD_getElem?] at hl ⊢
      rw [Array.getElem?_eq_getElem (by omega)] at hl ⊢
      simpa using hl
    have hdst : dstOf ops i = o.dst := by simp [dstOf, ho]
    -- what follows, whatever op i yields
    have next : ∀ v w', C w' ∧ Rel w w' ∧ getV V i v w' →
        wpAny P .any ops Q fuel (listed.setIfInBounds i true) ((filF ops vs (fun k => listed.getD k false) a ops.size).put o.dst v) w' := by
      rintro v w' ⟨hC', hR, hv⟩
      have hpe : ∀ k, k < ops.size → (listed.setIfInBounds i true).getD k false = (listed.getD k false || k == i) := by
        intro k hk
        simp only [Array.getD_eq_getD_getElem?, Array.getElem?_setIfInBounds]
        by_cases hki : i = k
        · subst hki
          simp [hs, hk]
        · have : (k == i) = false := by simp; omega
          simp [hki, this]
      have hput : (filF ops vs (fun k => listed.getD k false) a ops.size).put o.dst v = filF ops (fun k => if k = i then v else vs k) (fun k => (listed.setIfInBounds i true).getD k false) a ops.size := by
        rw [← hdst, filF_put i v hlt hp (fun k hk hne d hd he => ?_)]
        · exact filF_congr _ (fun j hj => (hpe j hj).symm) (fun _ _ _ => rfl)
        · obtain ⟨_, _, _, hdist, _⟩ := okB_at h ho
          exact hdist d (by rw [← hdst]; exact hd) k hk hne he
      rw [hput]
      refine ih _ _ w' (by simp [hs]) ?_ ?_ hC' ?_ (fun j hj hjs => by rw [hpe j hjs, hlo j hj hjs]; simp; omega)
      · have e : (List.range ops.size).countP (fun k => !(listed.setIfInBounds i true).getD k false) = (List.range ops.size).countP (fun k => !(listed.getD k false || k == i)) :=
          List.countP_congr fun k hk => by rw [hpe k (List.mem_range.1 hk)]
        rw [e]
        have := countP_set ops.size i (fun k => listed.getD k false) hlt hp
        omega
      · intro j oj hoj hj k hk
        have hjn := (Array.getElem?_eq_some_iff.1 hoj).1
        have hkj := (okB_at h hoj).1 k hk
        simp only [hpe j hjn] at hj
        simp only [hpe k (by omega)]
        by_cases hji : j = i
        · subst hji
          rw [ho] at hoj
          cases hoj
          rw [hdirs k hk]; rfl
        · have e1 : (j == i) = false := by simp; omega
          rw [e1, Bool.or_false] at hj
          have := hc j oj hoj hj k hk
          simp only at this
          rw [this]; rfl
      · intro j hj hjl
        rw [hpe j hj] at hjl
        by_cases hji : j = i
        · subst hji
          simpa using hv
        · have e1 : (j == i) = false := by simp; omega
          rw [e1, Bool.or_false] at hjl
          simp only [if_neg hji]
          exact stab j _ w w' hR (hV j hj hjl)
    -- op i's own obligation
    have hkn : Know V vs w (A.getD i []) := by
      intro j hj
      obtain ⟨_, ha, _, _, _⟩ := okB_at h ho
      obtain ⟨hji, k, hk, hk'⟩ := ha j hj
      have hpk := hdirs k hk
      refine hV j (by omega) ?_
      rcases hk' with rfl | hk'
      · exact hpk
      · have hkn : k < ops.size := by have := (okB_at h ho).1 k hk; omega
        exact closed_anc h hc (k + 1) k (by omega) ops[k] (Array.getElem?_eq_getElem hkn) hpk j hk'
    have hob := steps_at (ops.toList.take m) 0 hst i o (by rw [List.getElem?_take_of_lt him]; simpa using ho) vs w hC (by rwa [Nat.zero_add])
    rw [Nat.zero_add] at hob
    obtain ⟨he, hw⟩ := eval_agree (a := a) (vs := vs) h hc ho hp hdirs
    unfold Opt at hob
    rw [← hw] at hob
    unfold wpOp
    simp only [ho]
    by_cases hwt : Region.wanted o (yielded ops (filF ops vs (fun k => listed.getD k false) a ops.size).tmps) = true
    · rw [if_pos hwt] at hob ⊢
      refine .inl ?_
      unfold OpY at hob
      rw [← he] at hob
      unfold Oper.wp
      generalize (execOp (filF ops vs (fun k => listed.getD k false) a ops.size).eval o).run P w = r at hob
      cases r with
      | ok nx w' =>
        cases nx with
        | value v => exact next v w' hob
        | skip => exact next undef w' hob
        | enter f args => exact Calls.mono hob (fun e w'' ⟨v, hv, hR⟩ => by subst hv; exact next v w'' hR)
        | _ => exact hob.elim
      | halt x w' => exact hob.elim
    · rw [if_neg hwt] at hob ⊢
      exact next undef w hob

/-- THE RULE -/
theorem wp_region_og {id : Nat} {w : World} (hm : P.follows .mixedOrders = true) (h : okB ops A = true) (ht : tailB ops A m = true) (hC : C w.drew)
    (stab : ∀ i v w w', Rel w w' → getV V i v w → getV V i v w')
    (hst : Steps P C Rel V A ops a (ops.toList.take m) 0)
    (fin : ∀ vs w, C w → Know V vs w (List.range m) → wpList P ops Q (ops.toList.drop m) (lexF ops vs a m) w) : (Code.region id ops true).wp P Q a w := by
  refine wp_region_any hm ?_
  have e : a = filF ops (fun _ => undef) (fun k => (Array.replicate ops.size false).getD k false) a ops.size := by
    have : ∀ n, filF ops (fun _ => undef) (fun k => (Array.replicate ops.size false).getD k false) a n = a := by
      intro n
      induction n with
      | zero => rfl
      | succ n ih =>
        simp only [filF]
        rw [if_neg (by simp [Array.getD_eq_getD_getElem?, Array.getElem?_replicate]; split <;> simp), ih]
    exact (this _).symm
  have hfalse : ∀ k, (Array.replicate ops.size false).getD k false = false := by
    intro k
    simp only [Array.getD_eq_getD_getElem?, Array.getElem?_replicate]
    split <;> rfl
  have := main (Q := Q) h ht stab hst fin ops.size (Array.replicate ops.size false) (fun _ => undef) w.drew (by simp) (Nat.le_trans List.countP_le_length (by simp))
    (fun j o _ hj => by simp only [hfalse] at hj; cases hj) hC (fun j _ hj => by rw [hfalse] at hj; cases hj) (fun j _ _ => hfalse j)
  rw [← e] at this
  exact this

theorem walk_sound {Q' : Act → World → Prop} : ∀ (l : List Oper) (i : Nat) (F : (Nat → Value) → Act) (K : (Nat → Bool) → (Nat → Value) → World → Prop) (V0 : Nat → Value → World → Prop),
    i ≤ m → m ≤ ops.size → (ops.toList.take m).drop i = l → (∀ vs, F vs = lexF ops vs a i) → (∀ V vs w (l : Nat → Bool), (∀ j, j < i → V j = V0 j) → (∀ j, j < i → l j = true → getV V j (vs j) w) → K l vs w) → (∀ j v w w', j < i → Rel w w' → V0 j v w → V0 j v w') →
    Walk P C Rel A ops Q' l i F K → ∃ V : Nat → Value → World → Prop, (∀ j, j < i → V j = V0 j) ∧ (∀ j v w w', Rel w w' → V j v w → V j v w') ∧ Steps P C Rel V A ops a l i ∧
      (∀ vs w, C w → Know V vs w (List.range m) → Q' (lexF ops vs a m) w) := by
  intro l
  induction l with
  | nil =>
    intro i F K V0 hle hms hl hF hK hst hw
    have hi : i = m := by
      have := congrArg List.length hl
      simp at this
      omega
    subst hi
    refine ⟨fun j => if j < i then V0 j else fun _ _ => True, fun j hj => if_pos hj, ?_, trivial, ?_⟩
    · intro j v w w' hR
      by_cases hj : j < i
      · simp only [if_pos hj]; exact hst j v w w' hj hR
      · simp only [if_neg hj]; exact fun h => h
    · intro vs w hC hk
      have h1 := hw vs w hC (hK _ vs w _ (fun j hj => if_pos hj) (fun j hj _ => hk j (List.mem_range.2 hj)))
      rw [hF] at h1; exact h1
  | cons o r ih =>
    intro i F K V0 hle hms hl hF hK hst hw
    obtain ⟨D, hD, hop, hrest⟩ := hw
    have him : i < m := by
      have := congrArg List.length hl
      simp at this
      omega
    have ho : ops[i]? = some o := by
      have h1 : ((ops.toList.take m).drop i)[0]? = some o := by rw [hl]; rfl
      rw [List.getElem?_drop, Nat.add_zero, List.getElem?_take_of_lt him] at h1
      simpa using h1
    have hdrop : (ops.toList.take m).drop (i + 1) = r := by
      have := congrArg List.tail hl
      simpa using this
    have hF' : ∀ vs, (F vs).put o.dst (vs i) = lexF ops vs a (i + 1) := by
      intro vs
      rw [hF]
      show _ = Act.put (lexF ops vs a i) (dstOf ops i) (vs i)
      simp [dstOf, ho]
    obtain ⟨V, hV, hVs, hs, hfin⟩ := ih (i + 1) _ _ (fun j => if j = i then D else V0 j) (by omega) hms hdrop hF' (by
      intro V vs w l hV hk
      refine ⟨fun hc => ?_, hK V vs w l (fun j hj => by rw [hV j (by omega), if_neg (by omega)]) (fun j hj hlj => hk j (by omega) hlj)⟩
      have := hk i (by omega) hc
      unfold getV at this
      rwa [hV i (by omega), if_pos rfl] at this) (by
      intro j v w w' hj hR
      by_cases hji : j = i
      · simp only [if_pos hji]; exact hD v w w' hR
      · simp only [if_neg hji]; exact hst j v w w' (by omega) hR) hrest
    refine ⟨V, fun j hj => by rw [hV j (by omega), if_neg (by omega)], hVs, ⟨fun vs w hC hk => ?_, hs⟩, hfin⟩
    have h1 := hop vs w hC (hK V vs w _ (fun j hj => by rw [hV j (by omega), if_neg (by omega)]) (fun j hj hlj => hk j (List.contains_iff_mem.1 hlj)))
    rw [hF] at h1
    have h2 : getV V i = D := by
      unfold getV
      rw [hV i (by omega), if_pos rfl]
    rw [h2]
    exact h1


theorem walk_lit {id : Nat} {w : World} {l : List Oper} (m : Nat) (A : List (List Nat)) (C : World → Prop) (Rel : World → World → Prop) (hm : P.follows .mixedOrders = true) (h : okB l.toArray A = true) (ht : tailB l.toArray A m = true) (hC : C w.drew)
    (hw : Walk P C Rel A l.toArray (wpList P l.toArray Q (l.drop m)) (l.take m) 0 (fun _ => a) K0) : (Code.region id l.toArray true).wp P Q a w := by
  obtain ⟨V, _, hV, hs, hfin⟩ := walk_sound (m := m) (a := a) (l.take m) 0 (fun _ => a) K0 (fun _ _ _ => True) (Nat.zero_le _) (tailB_at ht).1 rfl (fun _ => rfl) (fun _ _ _ _ _ _ => trivial) (fun _ _ _ _ _ _ h => h) hw
  exact wp_region_og hm h ht hC hV (by simpa using hs) (by simpa using hfin)
end
end Tail
end Og
end Go
