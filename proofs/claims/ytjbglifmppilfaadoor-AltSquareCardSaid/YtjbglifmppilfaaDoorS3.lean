/- As Og4; each operation's obligation knows that those ahead of it are done. Conditions: as in Og. slices.BinarySearchFunc at nodes, links and pins; the places of a node, a link, a pin; conditions: the lists are sorted and fit the memory. -/
import Derived.Test.YtjbglifmppilfaaDoorS1
import Derived.Tactics
import Derived.Test.YtjbglifmppilfaaDoorS2
namespace Go
namespace Og
namespace Joint2
open Tail
def Cls := (Nat → Bool) → (Nat → Value) → World → Prop
def pSet (p : Nat → Bool) (i : Nat) : Nat → Bool := fun k => p k || k == i
def vSet (vs : Nat → Value) (i : Nat) (v : Value) : Nat → Value := fun k => if k = i then v else vs k
def Steps (P : Program) (C : Cls) (Rel : World → World → Prop) (V : Nat → Value → World → Prop) (A : List (List Nat)) (ops : Array Oper) (a : Act) : List Oper → Nat → Prop
  | [], _ => True
  | o :: r, i => (∀ p vs w, (p i = false ∧ ∀ j ∈ A.getD i [], p j = true) → C p vs w → Know V vs w (A.getD i []) → Opt P ops o (lexF ops vs a i) w (fun v w' => C (pSet p i) (vSet vs i v) w' ∧ Rel w w' ∧ getV V i v w')) ∧ Steps P C Rel V A ops a r (i + 1)
section
variable {P : Program} {ops : Array Oper} {Q : Exit → Act → World → Prop} {m : Nat} {C : Cls} {Rel : World → World → Prop} {V : Nat → Value → World → Prop} {A : List (List Nat)} {a : Act}
theorem steps_at : ∀ (l : List Oper) (k : Nat), Steps P C Rel V A ops a l k → ∀ (i : Nat) (o : Oper), l[i]? = some o → ∀ p vs w, (p (k + i) = false ∧ ∀ j ∈ A.getD (k + i) [], p j = true) → C p vs w → Know V vs w (A.getD (k + i) []) →
    Opt P ops o (lexF ops vs a (k + i)) w (fun v w' => C (pSet p (k + i)) (vSet vs (k + i) v) w' ∧ Rel w w' ∧ getV V (k + i) v w')
  | [], _, _, i, o, h => by simp at h
  | o :: r, k, hs, 0, o', h => by
    simp only [List.getElem?_cons_zero, Option.some.injEq] at h
    subst h
    exact hs.1
  | o :: r, k, hs, i + 1, o', h => by
    have := steps_at r (k + 1) hs.2 i o' (by simpa using h)
    rwa [show k + 1 + i = k + (i + 1) by omega] at this
theorem main (h : okB ops A = true) (ht : tailB ops A m = true) (stab : ∀ i v w w', Rel w w' → getV V i v w → getV V i v w')
    (hst : Steps P C Rel V A ops a (ops.toList.take m) 0)
    (fin : ∀ p vs w, (∀ j, j < m → p j = true) → C p vs w → Know V vs w (List.range m) → wpList P ops Q (ops.toList.drop m) (lexF ops vs a m) w) :
    ∀ (fuel : Nat) (listed : Array Bool) (vs : Nat → Value) (w : World), listed.size = ops.size → (List.range ops.size).countP (fun k => !listed.getD k false) ≤ fuel →
      Closed ops (fun k => listed.getD k false) → C (fun k => listed.getD k false) vs w → (∀ j, j < ops.size → listed.getD j false = true → getV V j (vs j) w) → (∀ j, m ≤ j → j < ops.size → listed.getD j false = false) →
      wpAny P .any ops Q fuel listed (filF ops vs (fun k => listed.getD k false) a ops.size) w := by
  have hdone : ∀ (fuel : Nat) (listed : Array Bool) (vs : Nat → Value) (w : World), listed.size = ops.size → (List.range ops.size).countP (fun k => !listed.getD k false) ≤ fuel → C (fun k => listed.getD k false) vs w → (∀ j, j < ops.size → listed.getD j false = true → getV V j (vs j) w) →
      (∀ j, j < ops.size → listed.getD j false = decide (j < m)) → wpAny P .any ops Q fuel listed (filF ops vs (fun k => listed.getD k false) a ops.size) w := by
    intro fuel listed vs w hs hcnt hC hV hl
    obtain ⟨hm, _⟩ := tailB_at ht
    have e : filF ops vs (fun k => listed.getD k false) a ops.size = lexF ops vs a m := filF_lt ops.size hm hl
    rw [e]
    refine tail h ht (ops.size - m) m (by omega) (Nat.le_refl _) fuel listed _ w hs (Nat.le_trans ?_ hcnt) hl (fin _ vs w (fun j hj => by have := hl j (by omega); simp only [this]; simpa using hj) hC fun j hj => hV j (by have := List.mem_range.1 hj; omega) (by rw [hl j (by have := List.mem_range.1 hj; omega)]; simpa using List.mem_range.1 hj))
    have : ∀ n, m ≤ n → n ≤ ops.size → n - m ≤ (List.range n).countP (fun k => !listed.getD k false) := by
      intro n
      induction n with
      | zero => intro _ _; omega
      | succ n ih =>
        intro h1 h2
        rw [List.range_succ, List.countP_append]
        by_cases hmn : m = n + 1
        · omega
        · have := ih (by omega) (by omega)
          have h3 := hl n (by omega)
          rw [decide_eq_false (show ¬ n < m by omega)] at h3
          simp only [List.countP_singleton, h3, Bool.not_false, if_true]
          omega
    exact this ops.size hm (Nat.le_refl _)
  intro fuel
  induction fuel with
  | zero =>
    intro listed vs w hs hcnt hc hC hV hlo
    have hz : (List.range ops.size).countP (fun k => !listed.getD k false) = 0 := by omega
    refine hdone 0 listed vs w hs hcnt hC hV (fun j hj => ?_)
    have := (List.countP_eq_zero.1 hz) j (List.mem_range.2 hj)
    have h1 : listed.getD j false = true := by simpa using this
    rw [h1]
    by_cases hjm : j < m
    · simp [hjm]
    · have := hlo j (by omega) hj; rw [this] at h1; cases h1
  | succ fuel ih =>
    intro listed vs w hs hcnt hc hC hV hlo
    by_cases hall : ∀ j, j < m → listed.getD j false = true
    · exact hdone (fuel + 1) listed vs w hs hcnt hC hV (fun j hj => by
        by_cases hjm : j < m
        · rw [hall j hjm]; simp [hjm]
        · rw [hlo j (by omega) hj]; simp [hjm])
    have hex : ∃ j, j < m ∧ listed.getD j false = false := Decidable.byContradiction fun hne => hall fun j hj => by
      cases hq : listed.getD j false with
      | true => rfl
      | false => exact absurd ⟨j, hj, hq⟩ hne
    obtain ⟨j0, hj0, hj0f⟩ := hex
    obtain ⟨hms, htl⟩ := tailB_at ht
    refine ⟨fun hr => (by have := all_listed h hs hr (j0 + 1) j0 (by omega) (by omega); rw [hj0f] at this; cases this), fun i hi => ?_⟩
    obtain ⟨o, ho, hl, hdirs⟩ := ready_spec hi
    have hlt := (Array.getElem?_eq_some_iff.1 ho).1
    have him : i < m := by
      by_cases him : i < m
      · exact him
      · exfalso
        obtain ⟨_, e, he, he'⟩ := (okB_at h ho).2.1 j0 (htl i (by omega) hlt j0 (by omega))
        have h1 := hdirs e he
        rcases he' with rfl | he'
        · rw [hj0f] at h1; cases h1
        · have hes : e < ops.size := by have := (okB_at h ho).1 e he; omega
          have := closed_anc h hc (e + 1) e (by omega) ops[e] (Array.getElem?_eq_getElem hes) h1 j0 he'
          rw [hj0f] at this; cases this
    have hp : listed.getD i false = false := by
      simp only [Array.getD_eq_getD_getElem?] at hl ⊢
      rw [Array.getElem?_eq_getElem (by omega)] at hl ⊢
      simpa using hl
    have hdst : dstOf ops i = o.dst := by simp [dstOf, ho]
    -- what follows, whatever op i yields
    have next : ∀ v w', C (pSet (fun k => listed.getD k false) i) (vSet vs i v) w' ∧ Rel w w' ∧ getV V i v w' →
        wpAny P .any ops Q fuel (listed.setIfInBounds i true) ((filF ops vs (fun k => listed.getD k false) a ops.size).put o.dst v) w' := by
      rintro v w' ⟨hC', hR, hv⟩
      have hpe : ∀ k, k < ops.size → (listed.setIfInBounds i true).getD k false = (listed.getD k false || k == i) := by
        intro k hk
        simp only [Array.getD_eq_getD_getElem?, Array.getElem?_setIfInBounds]
        by_cases hki : i = k
        · subst hki
          simp [hs, hk]
        · have : (k == i) = false := by simp; omega
          simp [hki, this]
      have hput : (filF ops vs (fun k => listed.getD k false) a ops.size).put o.dst v = filF ops (fun k => if k = i then v else vs k) (fun k => (listed.setIfInBounds i true).getD k false) a ops.size := by
        rw [← hdst, filF_put i v hlt hp (fun k hk hne d hd he => ?_)]
        · exact filF_congr _ (fun j hj => (hpe j hj).symm) (fun _ _ _ => rfl)
        · obtain ⟨_, _, _, hdist, _⟩ := okB_at h ho
          exact hdist d (by rw [← hdst]; exact hd) k hk hne he
      rw [hput]
      have hpf : (fun k => (listed.setIfInBounds i true).getD k false) = pSet (fun k => listed.getD k false) i := by
        funext k
        by_cases hk : k < ops.size
        · exact hpe k hk
        · have e1 : (k == i) = false := by simp; omega
          simp only [pSet, e1, Bool.or_false, Array.getD_eq_getD_getElem?, Array.getElem?_setIfInBounds]
          rw [if_neg (show ¬ i = k by omega)]
      refine ih _ _ w' (by simp [hs]) ?_ ?_ (by rw [hpf]; exact hC') ?_ (fun j hj hjs => by rw [hpe j hjs, hlo j hj hjs]; simp; omega)
      · have e : (List.range ops.size).countP (fun k => !(listed.setIfInBounds i true).getD k false) = (List.range ops.size).countP (fun k => !(listed.getD k false || k == i)) :=
          List.countP_congr fun k hk => by rw [hpe k (List.mem_range.1 hk)]
        rw [e]
        have := countP_set ops.size i (fun k => listed.getD k false) hlt hp
        omega
      · intro j oj hoj hj k hk
        have hjn := (Array.getElem?_eq_some_iff.1 hoj).1
        have hkj := (okB_at h hoj).1 k hk
        simp only [hpe j hjn] at hj
        simp only [hpe k (by omega)]
        by_cases hji : j = i
        · subst hji
          rw [ho] at hoj
          cases hoj
          rw [hdirs k hk]; rfl
        · have e1 : (j == i) = false := by simp; omega
          rw [e1, Bool.or_false] at hj
          have := hc j oj hoj hj k hk
          simp only at this
          rw [this]; rfl
      · intro j hj hjl
        rw [hpe j hj] at hjl
        by_cases hji : j = i
        · subst hji
          simpa using hv
        · have e1 : (j == i) = false := by simp; omega
          rw [e1, Bool.or_false] at hjl
          simp only [if_neg hji]
          exact stab j _ w w' hR (hV j hj hjl)
    -- op i's own obligation
    have hkn : Know V vs w (A.getD i []) := by
      intro j hj
      obtain ⟨_, ha, _, _, _⟩ := okB_at h ho
      obtain ⟨hji, k, hk, hk'⟩ := ha j hj
      have hpk := hdirs k hk
      refine hV j (by omega) ?_
      rcases hk' with rfl | hk'
      · exact hpk
      · have hkn : k < ops.size := by have := (okB_at h ho).1 k hk; omega
        exact closed_anc h hc (k + 1) k (by omega) ops[k] (Array.getElem?_eq_getElem hkn) hpk j hk'
    have hdn : ∀ j ∈ A.getD i [], listed.getD j false = true := by
      intro j hj
      obtain ⟨_, ha, _, _, _⟩ := okB_at h ho
      obtain ⟨hji, k, hk, hk'⟩ := ha j hj
      have hpk := hdirs k hk
      rcases hk' with rfl | hk'
      · exact hpk
      · have hkn : k < ops.size := by have := (okB_at h ho).1 k hk; omega
        exact closed_anc h hc (k + 1) k (by omega) ops[k] (Array.getElem?_eq_getElem hkn) hpk j hk'
    have hob := steps_at (ops.toList.take m) 0 hst i o (by rw [List.getElem?_take_of_lt him]; simpa using ho) _ vs w (by rw [Nat.zero_add]; exact ⟨hp, hdn⟩) hC (by rwa [Nat.zero_add])
    rw [Nat.zero_add] at hob
    obtain ⟨he, hw⟩ := eval_agree (a := a) (vs := vs) h hc ho hp hdirs
    unfold Opt at hob
    rw [← hw] at hob
    unfold wpOp
    simp only [ho]
    by_cases hwt : Region.wanted o (yielded ops (filF ops vs (fun k => listed.getD k false) a ops.size).tmps) = true
    · rw [if_pos hwt] at hob ⊢
      refine .inl ?_
      unfold OpY at hob
      rw [← he] at hob
      unfold Oper.wp
      generalize (execOp (filF ops vs (fun k => listed.getD k false) a ops.size).eval o).run P w = r at hob
      cases r with
      | ok nx w' =>
        cases nx with
        | value v => exact next v w' hob
        | skip => exact next undef w' hob
        | enter f args => exact Calls.mono hob (fun e w'' ⟨v, hv, hR⟩ => by subst hv; exact next v w'' hR)
        | _ => exact hob.elim
      | halt x w' => exact hob.elim
    · rw [if_neg hwt] at hob ⊢
      exact next undef w hob

/-- THE RULE -/
theorem wp_region_og {id : Nat} {w : World} (hm : P.follows .mixedOrders = true) (h : okB ops A = true) (ht : tailB ops A m = true) (hC : ∀ vs, C (fun _ => false) vs w.drew)
    (stab : ∀ i v w w', Rel w w' → getV V i v w → getV V i v w')
    (hst : Steps P C Rel V A ops a (ops.toList.take m) 0)
    (fin : ∀ p vs w, (∀ j, j < m → p j = true) → C p vs w → Know V vs w (List.range m) → wpList P ops Q (ops.toList.drop m) (lexF ops vs a m) w) : (Code.region id ops true).wp P Q a w := by
  refine wp_region_any hm ?_
  have e : a = filF ops (fun _ => undef) (fun k => (Array.replicate ops.size false).getD k false) a ops.size := by
    have : ∀ n, filF ops (fun _ => undef) (fun k => (Array.replicate ops.size false).getD k false) a n = a := by
      intro n
      induction n with
      | zero => rfl
      | succ n ih =>
        simp only [filF]
        rw [if_neg (by simp [Array.getD_eq_getD_getElem?, Array.getElem?_replicate]; split <;> simp), ih]
    exact (this _).symm
  have hfalse : ∀ k, (Array.replicate ops.size false).getD k false = false := by
    intro k
    simp only [Array.getD_eq_getD_getElem?, Array.getElem?_replicate]
    split <;> rfl
  have := main (Q := Q) h ht stab hst fin ops.size (Array.replicate ops.size false) (fun _ => undef) w.drew (by simp) (Nat.le_trans List.countP_le_length (by simp))
    (fun j o _ hj => by simp only [hfalse] at hj; cases hj) (by rw [show (fun k => (Array.replicate ops.size false).getD k false) = fun _ => false from funext hfalse]; exact hC _) (fun j _ hj => by rw [hfalse] at hj; cases hj) (fun j _ _ => hfalse j)
  rw [← e] at this
  exact this

/-- the walk in the text's order -/
def Walk (P : Program) (m : Nat) (C : Cls) (Rel : World → World → Prop) (A : List (List Nat)) (ops : Array Oper) (Q : Act → World → Prop) :
    List Oper → Nat → ((Nat → Value) → Act) → ((Nat → Bool) → (Nat → Value) → World → Prop) → Prop
  | [], _, F, K => ∀ p vs w, (∀ j, j < m → p j = true) → C p vs w → K (fun _ => true) vs w → Q (F vs) w
  | o :: r, i, F, K => ∃ D : Value → World → Prop, (∀ v w w', Rel w w' → D v w → D v w') ∧
      (∀ p vs w, (p i = false ∧ ∀ j ∈ A.getD i [], p j = true) → C p vs w → K (fun j => (A.getD i []).contains j) vs w → Opt P ops o (F vs) w (fun v w' => C (pSet p i) (vSet vs i v) w' ∧ Rel w w' ∧ D v w')) ∧
      Walk P m C Rel A ops Q r (i + 1) (fun vs => (F vs).put o.dst (vs i)) (KS i D K)

theorem walk_sound {Q' : Act → World → Prop} : ∀ (l : List Oper) (i : Nat) (F : (Nat → Value) → Act) (K : (Nat → Bool) → (Nat → Value) → World → Prop) (V0 : Nat → Value → World → Prop),
    i ≤ m → m ≤ ops.size → (ops.toList.take m).drop i = l → (∀ vs, F vs = lexF ops vs a i) → (∀ V vs w (l : Nat → Bool), (∀ j, j < i → V j = V0 j) → (∀ j, j < i → l j = true → getV V j (vs j) w) → K l vs w) → (∀ j v w w', j < i → Rel w w' → V0 j v w → V0 j v w') →
    Walk P m C Rel A ops Q' l i F K → ∃ V : Nat → Value → World → Prop, (∀ j, j < i → V j = V0 j) ∧ (∀ j v w w', Rel w w' → V j v w → V j v w') ∧ Steps P C Rel V A ops a l i ∧
      (∀ p vs w, (∀ j, j < m → p j = true) → C p vs w → Know V vs w (List.range m) → Q' (lexF ops vs a m) w) := by
  intro l
  induction l with
  | nil =>
    intro i F K V0 hle hms hl hF hK hst hw
    have hi : i = m := by
      have := congrArg List.length hl
      simp at this
      omega
    subst hi
    refine ⟨fun j => if j < i then V0 j else fun _ _ => True, fun j hj => if_pos hj, ?_, trivial, ?_⟩
    · intro j v w w' hR
      by_cases hj : j < i
      · simp only [if_pos hj]; exact hst j v w w' hj hR
      · simp only [if_neg hj]; exact fun h => h
    · intro p vs w hp hC hk
      have h1 := hw p vs w hp hC (hK _ vs w _ (fun j hj => if_pos hj) (fun j hj _ => hk j (List.mem_range.2 hj)))
      rw [hF] at h1; exact h1
  | cons o r ih =>
    intro i F K V0 hle hms hl hF hK hst hw
    obtain ⟨D, hD, hop, hrest⟩ := hw
    have him : i < m := by
      have := congrArg List.length hl
      simp at this
      omega
    have ho : ops[i]? = some o := by
      have h1 : ((ops.toList.take m).drop i)[0]? = some o := by rw [hl]; rfl
      rw [List.getElem?_drop, Nat.add_zero, List.getElem?_take_of_lt him] at h1
      simpa using h1
    have hdrop : (ops.toList.take m).drop (i + 1) = r := by
      have := congrArg List.tail hl
      simpa using this
    have hF' : ∀ vs, (F vs).put o.dst (vs i) = lexF ops vs a (i + 1) := by
      intro vs
      rw [hF]
      show _ = Act.put (lexF ops vs a i) (dstOf ops i) (vs i)
      simp [dstOf, ho]
    obtain ⟨V, hV, hVs, hs, hfin⟩ := ih (i + 1) _ _ (fun j => if j = i then D else V0 j) (by omega) hms hdrop hF' (by
      intro V vs w l hV hk
      refine ⟨fun hc => ?_, hK V vs w l (fun j hj => by rw [hV j (by omega), if_neg (by omega)]) (fun j hj hlj => hk j (by omega) hlj)⟩
      have := hk i (by omega) hc
      unfold getV at this
      rwa [hV i (by omega), if_pos rfl] at this) (by
      intro j v w w' hj hR
      by_cases hji : j = i
      · simp only [if_pos hji]; exact hD v w w' hR
      · simp only [if_neg hji]; exact hst j v w w' (by omega) hR) hrest
    refine ⟨V, fun j hj => by rw [hV j (by omega), if_neg (by omega)], hVs, ⟨fun p vs w hp hC hk => ?_, hs⟩, hfin⟩
    have h1 := hop p vs w hp hC (hK V vs w _ (fun j hj => by rw [hV j (by omega), if_neg (by omega)]) (fun j hj hlj => hk j (List.contains_iff_mem.1 hlj)))
    rw [hF] at h1
    have h2 : getV V i = D := by
      unfold getV
      rw [hV i (by omega), if_pos rfl]
    rw [h2]
    exact h1


theorem walk_lit {id : Nat} {w : World} {l : List Oper} (m : Nat) (A : List (List Nat)) (C : Cls) (Rel : World → World → Prop) (hm : P.follows .mixedOrders = true) (h : okB l.toArray A = true) (ht : tailB l.toArray A m = true) (hC : ∀ vs, C (fun _ => false) vs w.drew)
    (hw : Walk P m C Rel A l.toArray (wpList P l.toArray Q (l.drop m)) (l.take m) 0 (fun _ => a) K0) : (Code.region id l.toArray true).wp P Q a w := by
  obtain ⟨V, _, hV, hs, hfin⟩ := walk_sound (m := m) (a := a) (l.take m) 0 (fun _ => a) K0 (fun _ _ _ => True) (Nat.zero_le _) (tailB_at ht).1 rfl (fun _ => rfl) (fun _ _ _ _ _ _ => trivial) (fun _ _ _ _ _ _ h => h) hw
  exact wp_region_og hm h ht hC hV (by simpa using hs) (by simpa using hfin)
section
variable {Q : Act → World → Prop} {o : Oper} {r : List Oper} {i : Nat} {F : (Nat → Value) → Act} {K : (Nat → Bool) → (Nat → Value) → World → Prop}
/-- an operation that leaves the world alone and of which the class says nothing -/
theorem step_pure (hI : ∀ p vs v w, C p vs w → C (pSet p i) (vSet vs i v) w) (hr : ∀ w, Rel w w) (h : ∃ x, (∀ p vs w, C p vs w → K (fun j => (A.getD i []).contains j) vs w → OptB P ops o (F vs) w (fun v w' => w' = w ∧ v = x)) ∧ Walk P m C Rel A ops Q r (i + 1) (fun vs => (F vs).put o.dst (vs i)) (KS i (Is x) K)) :
    Walk P m C Rel A ops Q (o :: r) i F K := by
  obtain ⟨x, h1, h2⟩ := h
  refine ⟨Is x, fun _ _ _ _ h => h, fun p vs w _ hC hk => ?_, h2⟩
  have := (h1 p vs w hC hk).out
  unfold Opt at this ⊢
  split
  · rename_i hw
    rw [if_pos hw] at this
    unfold OpY at this ⊢
    generalize (execOp (F vs).eval o).run P w = res at this
    cases res with
    | ok nx w' =>
      cases nx with
      | value v => obtain ⟨rfl, rfl⟩ := this; exact ⟨hI _ _ _ _ hC, hr _, rfl⟩
      | skip => obtain ⟨rfl, hu⟩ := this; exact ⟨hI _ _ _ _ hC, hr _, hu⟩
      | enter f args => exact Calls.mono this (fun e w'' ⟨v, he, hw', hv⟩ => ⟨v, he, by rw [hw']; exact hI _ _ _ _ hC, by rw [hw']; exact hr _, hv⟩)
      | _ => exact this.elim
    | halt x w' => exact this.elim
  · rename_i hw
    rw [if_neg hw] at this
    obtain ⟨_, hu⟩ := this
    exact ⟨hI _ _ _ _ hC, hr _, hu⟩
/-- any operation -/
theorem step_any (D : Value → World → Prop) (hD : ∀ v w w', Rel w w' → D v w → D v w') (h1 : ∀ p vs w, (p i = false ∧ ∀ j ∈ A.getD i [], p j = true) → C p vs w → K (fun j => (A.getD i []).contains j) vs w → OptB P ops o (F vs) w (fun v w' => C (pSet p i) (vSet vs i v) w' ∧ Rel w w' ∧ D v w'))
    (h2 : Walk P m C Rel A ops Q r (i + 1) (fun vs => (F vs).put o.dst (vs i)) (KS i D K)) : Walk P m C Rel A ops Q (o :: r) i F K :=
  ⟨D, hD, fun p vs w hp hC hk => (h1 p vs w hp hC hk).out, h2⟩
end
end
end Joint2
end Og
end Go
namespace Go.Proofs.YtjbglifmppilfaaDoor
open Go.ChangeShapes Go.WideShapes Go.ChangeAt Go.RowKit
set_option linter.unusedVariables false
set_option linter.unusedSimpArgs false
attribute [local go_sem] Og.Opt Og.OpY

/-- below the target stands a beginning -/
def Mono {α : Type} (c : α → Int) (xs : List α) : Prop := ∀ (i j : Nat) x y, xs[i]? = some x → xs[j]? = some y → i < j → c y < 0 → c x < 0
def Cut {α : Type} (c : α → Int) (xs : List α) (k : Nat) : Prop := k ≤ xs.length ∧ (∀ (i : Nat) x, xs[i]? = some x → i < k → c x < 0) ∧ (∀ (i : Nat) x, xs[i]? = some x → k ≤ i → 0 ≤ c x)
def hitE {α : Type} (c : α → Int) (xs : List α) (k : Nat) : Bool := match xs[k]? with | some x => c x == 0 | none => false
theorem mono_upto {α : Type} {c : α → Int} {xs : List α} {m : Nat} {r : α} (hs : Mono c xs) (hx : xs[m]? = some r) (h : c r < 0) : ∀ (i : Nat) s, xs[i]? = some s → i < m + 1 → c s < 0 := by
  intro i s hi hlt
  rcases Nat.lt_or_ge i m with h1 | h1
  · exact hs i m s r hi hx h1 h
  · obtain rfl : i = m := by omega
    rw [hx] at hi; cases hi; exact h
theorem mono_from {α : Type} {c : α → Int} {xs : List α} {m : Nat} {r : α} (hs : Mono c xs) (hx : xs[m]? = some r) (h : ¬ c r < 0) : ∀ (i : Nat) s, xs[i]? = some s → m ≤ i → 0 ≤ c s := by
  intro i s hi hlt
  refine Int.not_lt.1 fun hc => ?_
  rcases Nat.lt_or_ge m i with h1 | h1
  · exact h (hs m i r s hx hi h1 hc)
  · obtain rfl : i = m := by omega
    rw [hx] at hi; cases hi; exact h hc

set_option maxRecDepth 100000 in
set_option maxHeartbeats 4000000 in
theorem searchD (xs : List Nd) (n0 : Int) (A : Option Addr) (c : Nat) (w : World) (hr : Rd cNd 3 w A xs) (hl : xs.length ≤ 1125899906842624) (hs : Mono (fun x => sg x.i n0) xs) :
    Calls Tryd.prog 58 #[.slice A xs.length c, .int .i64 n0, .func (.func 59) #[] #[]] w fun e w' => (∃ k : Nat, e = .returned (.tuple #[.int .i64 (k : Int), .bool (hitE (fun x => sg x.i n0) xs k)]) ∧ Cut (fun x => sg x.i n0) xs k) ∧ Below w.heap.size w w' := by
  obtain ⟨n, hn⟩ : ∃ n, n = xs.length := ⟨_, rfl⟩
  rw [← hn] at hl
  have HN := Lib.hid hn
  have HR := Lib.hid hr
  have HS := Lib.hid hs
  rw [← hn]
  clear hn hr hs
  go_enter Tryd.func58, Tryd.ntmps58
  go_wp2_with fail
  go_loopw [9, 10] (fun lo hi wr => ∃ a b : Nat, a ≤ b ∧ b ≤ n ∧ lo = .int .i64 (a : Int) ∧ hi = .int .i64 (b : Int) ∧ Hid (∀ (i : Nat) x, xs[i]? = some x → i < a → sg x.i n0 < 0) ∧ Hid (∀ (i : Nat) x, xs[i]? = some x → b ≤ i → 0 ≤ sg x.i n0) ∧ Hid (Below w.heap.size w wr)) (fun lo hi _ => (intOf hi).toNat - (intOf lo).toNat)
  case atStart => exact ⟨0, n, Nat.zero_le _, Nat.le_refl _, rfl, rfl, Lib.hid (fun i r _ h => by omega), Lib.hid (fun i r h hi => by have := (List.getElem?_eq_some_iff.1 h).1; have := HN.out; omega), Lib.hid (Below.refl _ _)⟩
  case round =>
    obtain ⟨a, b, hab, hbn, rfl, rfl, hlo, hhi, hbw⟩ := hrel
    by_cases hlt : a < b
    · have hwa : IntKind.i64.wrap (a : Int) = a := wrapk (by omega)
      have hwb : IntKind.i64.wrap (b : Int) = b := wrapk (by omega)
      have ha0 : (0 : Int) ≤ (a : Int) := by omega
      have hb0 : (b : Int) ≤ 1125899906842624 := by omega
      have habi : (a : Int) < (b : Int) := by omega
      obtain ⟨m, hm⟩ : ∃ m : Nat, m = (a + b) / 2 := ⟨_, rfl⟩
      have hmi : ((a : Int) + (b : Int)) / 2 = (m : Int) := by omega
      have ham : a ≤ m := by omega
      have hmb : m < b := by omega
      obtain ⟨r, hx⟩ : ∃ r, xs[m]? = some r := ⟨_, List.getElem?_eq_getElem (by rw [← HN.out]; omega)⟩
      obtain ⟨bk, o, rfl, hat⟩ := (HR.out.below hbw.out) m r hx
      have HX := Lib.hid hx
      have HAT := Lib.hid hat
      have hwm : IntKind.i64.wrap (m : Int) = m := wrapk (by omega)
      have hwm1 : IntKind.i64.wrap ((m : Int) + 1) = (m : Int) + 1 := by rw [IntKind.wrap_i64]; omega
      have hm0 : (0 : Int) ≤ (m : Int) := by omega
      have hmn : (m : Int) < (n : Int) := by omega
      clear hx hm hat
      obtain ⟨cv, hcv⟩ : ∃ z, z = (fun x : Nd => sg x.i n0) r := ⟨_, rfl⟩
      have H : Hid (∀ w, Calls Tryd.prog 59 #[.agg #[.int .i64 r.i, .bool false, .complex .f64 0 0], .int .i64 n0] w fun e w' => e = .returned (.int .i64 cv) ∧ Below w.heap.size w w') := Lib.hid (fun w => by rw [hcv]; exact cmpD_ok r n0 w)
      by_cases h1 : cv < 0
      · have UP := Lib.hid (mono_upto HS.out HX.out (by rw [hcv] at h1; exact h1))
        have tc : decide (cv < 0) = true := decide_eq_true h1
        clear hcv h1
        go_wp2_with (refine wpList_loadL rfl 53 (.tmp 27) rfl bk (o + m * 3) (.agg #[.int .i64 r.i, .bool false, .complex .f64 0 0]) rfl (run_loadL isAgg41 size41 rfl HAT.out) ?_)
        refine (H.out _).mono ?_
        rintro e w2 ⟨rfl, hb⟩
        have B2 := Lib.hid (bthen' hbw.out hbw.out.size hb)
        clear hb
        go_wp2_with fail
        go_roundw
        case rel => exact ⟨m + 1, b, by omega, by omega, by go_num, rfl, UP, hhi, B2⟩
        case measure => simp [intOf]; omega
      · have FR := Lib.hid (mono_from HS.out HX.out (by rw [hcv] at h1; exact h1))
        have tc : decide (cv < 0) = false := decide_eq_false h1
        clear hcv h1
        go_wp2_with (refine wpList_loadL rfl 53 (.tmp 27) rfl bk (o + m * 3) (.agg #[.int .i64 r.i, .bool false, .complex .f64 0 0]) rfl (run_loadL isAgg41 size41 rfl HAT.out) ?_)
        refine (H.out _).mono ?_
        rintro e w2 ⟨rfl, hb⟩
        have B2 := Lib.hid (bthen' hbw.out hbw.out.size hb)
        clear hb
        go_wp2_with fail
        go_roundw
        case rel => exact ⟨a, m, by omega, by omega, rfl, by go_num, hlo, FR, B2⟩
        case measure => simp [intOf]; omega
    · obtain rfl : b = a := by omega
      clear hab hlt
      have hwb : IntKind.i64.wrap (b : Int) = b := wrapk (by omega)
      have hb0 : (0 : Int) ≤ (b : Int) := by omega
      have HCUT : Hid (Cut (fun x => sg x.i n0) xs b) := Lib.hid ⟨by rw [← HN.out]; exact hbn, hlo.out, hhi.out⟩
      by_cases hbn2 : b < n
      · obtain ⟨r, hx⟩ : ∃ r, xs[b]? = some r := ⟨_, List.getElem?_eq_getElem (by rw [← HN.out]; omega)⟩
        have hbi : (b : Int) < (n : Int) := by omega
        have tn : decide ((b : Int) < (n : Int)) = true := decide_eq_true hbi
        obtain ⟨bk, o, rfl, hat⟩ := (HR.out.below hbw.out) b r hx
        have q0 : wr.cell? ⟨bk, o + b * 3, none⟩ = some (.int .i64 r.i) := hat 0 _ rfl
        have q1 : wr.cell? ⟨bk, o + b * 3 + 1, none⟩ = some (.bool false) := hat 1 _ rfl
        have q2 : wr.cell? ⟨bk, o + b * 3 + 2, none⟩ = some (.complex .f64 0 0) := hat 2 _ rfl
        have E := Lib.hid (show hitE (fun x => sg x.i n0) xs b = ((fun x : Nd => sg x.i n0) r == 0) by unfold hitE; rw [hx])
        clear hx hat
        obtain ⟨cv, hcv⟩ : ∃ z, z = (fun x : Nd => sg x.i n0) r := ⟨_, rfl⟩
        have H : Hid (∀ w, Calls Tryd.prog 59 #[.agg #[.int .i64 r.i, .bool false, .complex .f64 0 0], .int .i64 n0] w fun e w' => e = .returned (.int .i64 cv) ∧ Below w.heap.size w w') := Lib.hid (fun w => by rw [hcv]; exact cmpD_ok r n0 w)
        rw [← hcv] at E
        clear hcv
        go_wp2_with fail
        refine (H.out _).mono ?_
        rintro e w2 ⟨rfl, hb⟩
        have B2 := Lib.hid (bthen' hbw.out hbw.out.size hb)
        clear hb
        go_wp2_with fail
        go_ret2
        exact ⟨⟨b, by rw [E.out]; rfl, HCUT.out⟩, B2.out⟩
      · have tn : decide ((b : Int) < (n : Int)) = false := decide_eq_false (by omega)
        have hnb : ¬ (b : Int) < (n : Int) := by omega
        have E := Lib.hid (show hitE (fun x => sg x.i n0) xs b = false by unfold hitE; rw [List.getElem?_eq_none (by rw [← HN.out]; omega)])
        go_wp2_with fail
        go_ret2
        exact ⟨⟨b, by rw [E.out]; rfl, HCUT.out⟩, hbw.out⟩

set_option maxRecDepth 100000 in
set_option maxHeartbeats 2000000 in
theorem nodeAt_ok (xs : List Nd) (n0 : Int) (va vb vc : Value) (w : World) (hs : Sl cNd 3 0 w va xs) (hl : xs.length ≤ 1125899906842624) (hm : Mono (fun x => sg x.i n0) xs) :
    Calls Tryd.prog 45 #[.agg #[va, vb, vc], .int .i64 n0] w fun e w' => (∃ k : Nat, e = .returned (.tuple #[.int .i64 (k : Int), .bool (hitE (fun x => sg x.i n0) xs k)]) ∧ Cut (fun x => sg x.i n0) xs k) ∧ Below w.heap.size w w' := by
  obtain ⟨A, c, rfl, hr, _⟩ := hs
  have H := Lib.hid (fun (w2 : World) (hb : Below w.heap.size w w2) => searchD xs n0 A c w2 (hr.below hb) hl hm)
  obtain ⟨n, hn⟩ : ∃ n, n = xs.length := ⟨_, rfl⟩
  rw [← hn] at H ⊢
  clear hr hl hm hn
  go_enter Tryd.func45, Tryd.ntmps45
  go_wp2_with fail
  refine (H.out _ (by repeat (first | exact Below.refl _ _ | refine Below.alloc ?_ (by first | exact Nat.le_refl _ | (simp; done) | (simp; omega)) _))).mono ?_
  rintro e w2 ⟨⟨k, rfl, hc⟩, hb⟩
  have HC := Lib.hid hc
  have B := Lib.hid (bthen' (show Below w.heap.size w _ by repeat (first | exact Below.refl _ _ | refine Below.alloc ?_ (by first | exact Nat.le_refl _ | (simp; done) | (simp; omega)) _)) (by simp <;> omega) hb)
  clear hb hc
  go_wp2_with fail
  go_ret2
  exact ⟨⟨k, rfl, HC.out⟩, B.out⟩

end Go.Proofs.YtjbglifmppilfaaDoor
