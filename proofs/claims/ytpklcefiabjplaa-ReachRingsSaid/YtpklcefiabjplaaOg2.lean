/- A region that draws its order with one operation (m) behind all ahead of it and ahead of all behind it: the class of worlds may change there. Conditions: as in Og. -/
import Derived.Test.YtpklcefiabjplaaOg
namespace Go
namespace Og
namespace Two
def preC (m : Nat) (C0 C1 : World → Prop) (i : Nat) : World → Prop := if i ≤ m then C0 else C1
/-- behind m the world stays -/
def relC (m : Nat) (Rel : World → World → Prop) (i : Nat) (w w' : World) : Prop := if i ≤ m then Rel w w' else w' = w
def postC (m : Nat) (C0 C1 : World → Prop) (i : Nat) : World → Prop := if i < m then C0 else C1
/-- all ahead of m are its ancestors, and m is one of all behind it -/
def midB (ops : Array Oper) (A : List (List Nat)) (m : Nat) : Bool :=
  decide (m < ops.size) && (List.range ops.size).all fun i => if i < m then (A.getD m []).contains i else (i == m || (A.getD i []).contains m)

def Steps (P : Program) (m : Nat) (C0 C1 : World → Prop) (Rel : World → World → Prop) (V : Nat → Value → World → Prop) (A : List (List Nat)) (ops : Array Oper) (a : Act) : List Oper → Nat → Prop
  | [], _ => True
  | o :: r, i => (∀ vs w, preC m C0 C1 i w → Know V vs w (A.getD i []) → Opt P ops o (lexF ops vs a i) w (fun v w' => postC m C0 C1 i w' ∧ relC m Rel i w w' ∧ getV V i v w')) ∧ Steps P m C0 C1 Rel V A ops a r (i + 1)

section
variable {P : Program} {ops : Array Oper} {Q : Exit → Act → World → Prop} {m : Nat} {C0 C1 : World → Prop} {Rel : World → World → Prop} {V : Nat → Value → World → Prop} {A : List (List Nat)} {a : Act}

theorem steps_at : ∀ (l : List Oper) (k : Nat), Steps P m C0 C1 Rel V A ops a l k → ∀ (i : Nat) (o : Oper), l[i]? = some o → ∀ vs w, preC m C0 C1 (k + i) w → Know V vs w (A.getD (k + i) []) →
    Opt P ops o (lexF ops vs a (k + i)) w (fun v w' => postC m C0 C1 (k + i) w' ∧ relC m Rel (k + i) w w' ∧ getV V (k + i) v w')
  | [], _, _, i, o, h => by simp at h
  | o :: r, k, hs, 0, o', h => by
    simp only [List.getElem?_cons_zero, Option.some.injEq] at h
    subst h
    exact hs.1
  | o :: r, k, hs, i + 1, o', h => by
    have := steps_at r (k + 1) hs.2 i o' (by simpa using h)
    rwa [show k + 1 + i = k + (i + 1) by omega] at this

theorem midB_at (h : midB ops A m = true) : m < ops.size ∧ (∀ i, i < m → i ∈ A.getD m []) ∧ (∀ i, m < i → i < ops.size → m ∈ A.getD i []) := by
  unfold midB at h
  simp only [Bool.and_eq_true, decide_eq_true_eq] at h
  refine ⟨h.1, fun i hi => ?_, fun i hi hs => ?_⟩
  · have := List.all_eq_true.1 h.2 i (List.mem_range.2 (by omega))
    rw [if_pos hi] at this
    exact List.contains_iff_mem.1 this
  · have := List.all_eq_true.1 h.2 i (List.mem_range.2 hs)
    rw [if_neg (by omega)] at this
    have e : (i == m) = false := by simp; omega
    rw [e, Bool.false_or] at this
    exact List.contains_iff_mem.1 this
def curC (C0 C1 : World → Prop) (b : Bool) : World → Prop := if b then C1 else C0

theorem main (h : okB ops A = true) (hmid : midB ops A m = true) (stab : ∀ i v w w', i < m → Rel w w' → getV V i v w → getV V i v w')
    (hst : Steps P m C0 C1 Rel V A ops a ops.toList 0)
    (fin : ∀ vs w, C1 w → Know V vs w (List.range ops.size) → Q .normal (lexF ops vs a ops.size) w) :
    ∀ (fuel : Nat) (listed : Array Bool) (vs : Nat → Value) (w : World), listed.size = ops.size → (List.range ops.size).countP (fun k => !listed.getD k false) ≤ fuel →
      Closed ops (fun k => listed.getD k false) → curC C0 C1 (listed.getD m false) w → (∀ j, j < ops.size → listed.getD j false = true → getV V j (vs j) w) →
      wpAny P .any ops Q fuel listed (filF ops vs (fun k => listed.getD k false) a ops.size) w := by
  have hdone : ∀ (listed : Array Bool) (vs : Nat → Value) (w : World), listed.size = ops.size → curC C0 C1 (listed.getD m false) w → (∀ j, j < ops.size → listed.getD j false = true → getV V j (vs j) w) →
      Region.ready .any ops listed = [] → Q .normal (filF ops vs (fun k => listed.getD k false) a ops.size) w := by
    intro listed vs w hs hC hV hr
    have hall := fun k hk => all_listed h hs hr (k + 1) k (by omega) hk
    have : filF ops vs (fun k => listed.getD k false) a ops.size = lexF ops vs a ops.size := filF_congr _ (fun j hj => hall j hj) (fun _ _ _ => rfl)
    rw [this]
    rw [hall m (midB_at hmid).1] at hC
    exact fin vs w hC fun j hj => hV j (List.mem_range.1 hj) (hall j (List.mem_range.1 hj))
  intro fuel
  induction fuel with
  | zero =>
    intro listed vs w hs hcnt hc hC hV
    have hz : (List.range ops.size).countP (fun k => !listed.getD k false) = 0 := by omega
    have hr : Region.ready .any ops listed = [] := by
      refine List.eq_nil_iff_forall_not_mem.2 fun i hi => ?_
      obtain ⟨o, ho, hl, _⟩ := ready_spec hi
      have hlt := (Array.getElem?_eq_some_iff.1 ho).1
      have := (List.countP_eq_zero.1 hz) i (List.mem_range.2 hlt)
      simp only [Array.getD_eq_getD_getElem?] at hl this
      rw [Array.getElem?_eq_getElem (by omega)] at hl this
      simp at hl this
      rw [hl] at this; cases this
    exact ⟨hr, hdone listed vs w hs hC hV hr⟩
  | succ fuel ih =>
    intro listed vs w hs hcnt hc hC hV
    refine ⟨hdone listed vs w hs hC hV, fun i hi => ?_⟩
    obtain ⟨o, ho, hl, hdirs⟩ := ready_spec hi
    have hlt := (Array.getElem?_eq_some_iff.1 ho).1
    have hp : listed.getD i false = false := by
      simp only [Array.getD_eq_getD_getElem?] at hl ⊢
      rw [Array.getElem?_eq_getElem (by omega)] at hl ⊢
      simpa using hl
    have hdst : dstOf ops i = o.dst := by simp [dstOf, ho]
    have hpre : preC m C0 C1 i w := by
      obtain ⟨h1, h2, h3⟩ := midB_at hmid
      unfold preC
      by_cases him : i ≤ m
      · rw [if_pos him]
        have : listed.getD m false = false := by
          by_cases hie : i = m
          · rw [← hie]; exact hp
          · cases hq : listed.getD m false with
            | false => rfl
            | true =>
              have := closed_anc h hc (m + 1) m (by omega) ops[m] (Array.getElem?_eq_getElem h1) hq i (h2 i (by omega))
              rw [hp] at this; cases this
        rw [this] at hC
        exact hC
      · rw [if_neg him]
        have : listed.getD m false = true := by
          obtain ⟨_, k, hk, hk'⟩ := (okB_at h ho).2.1 m (h3 i (by omega) hlt)
          have hpk := hdirs k hk
          rcases hk' with rfl | hk'
          · exact hpk
          · have hkn : k < ops.size := by have := (okB_at h ho).1 k hk; omega
            exact closed_anc h hc (k + 1) k (by omega) ops[k] (Array.getElem?_eq_getElem hkn) hpk m hk'
        rw [this] at hC
        exact hC
    have hpost : ∀ w', postC m C0 C1 i w' → (listed.setIfInBounds i true).getD m false = (listed.getD m false || m == i) → curC C0 C1 ((listed.setIfInBounds i true).getD m false) w' := by
      intro w' hw e
      rw [e]
      unfold postC at hw
      by_cases him : i < m
      · rw [if_pos him] at hw
        have h1 : listed.getD m false = false := by
          cases hq : listed.getD m false with
          | false => rfl
          | true =>
            obtain ⟨h1, h2, h3⟩ := midB_at hmid
            have := closed_anc h hc (m + 1) m (by omega) ops[m] (Array.getElem?_eq_getElem h1) hq i (h2 i him)
            rw [hp] at this; cases this
        have h2 : (m == i) = false := by simp; omega
        rw [h1, h2]; exact hw
      · rw [if_neg him] at hw
        by_cases hie : i = m
        · subst hie; simpa [curC] using hw
        · have h1 : listed.getD m false = true := by
            obtain ⟨_, _, h3⟩ := midB_at hmid
            obtain ⟨_, k, hk, hk'⟩ := (okB_at h ho).2.1 m (h3 i (by omega) hlt)
            have hpk := hdirs k hk
            rcases hk' with rfl | hk'
            · exact hpk
            · have hkn : k < ops.size := by have := (okB_at h ho).1 k hk; omega
              exact closed_anc h hc (k + 1) k (by omega) ops[k] (Array.getElem?_eq_getElem hkn) hpk m hk'
          rw [h1]; exact hw
    -- what follows, whatever op i yields
    have next : ∀ v w', postC m C0 C1 i w' ∧ relC m Rel i w w' ∧ getV V i v w' →
        wpAny P .any ops Q fuel (listed.setIfInBounds i true) ((filF ops vs (fun k => listed.getD k false) a ops.size).put o.dst v) w' := by
      rintro v w' ⟨hC', hR, hv⟩
      have hpe : ∀ k, k < ops.size → (listed.setIfInBounds i true).getD k false = (listed.getD k false || k == i) := by
        intro k hk
        simp only [Array.getD_eq_getD_getElem?, Array.getElem?_setIfInBounds]
        by_cases hki : i = k
        · subst hki
          simp [hs, hk]
        · have : (k == i) = false := by simp; omega
          simp [hki, this]
      have hput : (filF ops vs (fun k => listed.getD k false) a ops.size).put o.dst v = filF ops (fun k => if k = i then v else vs k) (fun k => (listed.setIfInBounds i true).getD k false) a ops.size := by
        rw [← hdst, filF_put i v hlt hp (fun k hk hne d hd he => ?_)]
        · exact filF_congr _ (fun j hj => (hpe j hj).symm) (fun _ _ _ => rfl)
        · obtain ⟨_, _, _, hdist, _⟩ := okB_at h ho
          exact hdist d (by rw [← hdst]; exact hd) k hk hne he
      rw [hput]
      refine ih _ _ w' (by simp [hs]) ?_ ?_ (hpost w' hC' (hpe m (midB_at hmid).1)) ?_
      · have e : (List.range ops.size).countP (fun k => !(listed.setIfInBounds i true).getD k false) = (List.range ops.size).countP (fun k => !(listed.getD k false || k == i)) :=
          List.countP_congr fun k hk => by rw [hpe k (List.mem_range.1 hk)]
        rw [e]
        have := countP_set ops.size i (fun k => listed.getD k false) hlt hp
        omega
      · intro j oj hoj hj k hk
        have hjn := (Array.getElem?_eq_some_iff.1 hoj).1
        have hkj := (okB_at h hoj).1 k hk
        simp only [hpe j hjn] at hj
        simp only [hpe k (by omega)]
        by_cases hji : j = i
        · subst hji
          rw [ho] at hoj
          cases hoj
          rw [hdirs k hk]; rfl
        · have e1 : (j == i) = false := by simp; omega
          rw [e1, Bool.or_false] at hj
          have := hc j oj hoj hj k hk
          simp only at this
          rw [this]; rfl
      · intro j hj hjl
        rw [hpe j hj] at hjl
        by_cases hji : j = i
        · subst hji
          simpa using hv
        · have e1 : (j == i) = false := by simp; omega
          rw [e1, Bool.or_false] at hjl
          simp only [if_neg hji]
          by_cases him : i ≤ m
          · unfold relC at hR
            rw [if_pos him] at hR
            refine stab j _ w w' ?_ hR (hV j hj hjl)
            obtain ⟨g1, g2, g3⟩ := midB_at hmid
            have hml : listed.getD m false = false := by
              unfold preC at hpre
              by_cases hie : i = m
              · rw [← hie]; exact hp
              · cases hq : listed.getD m false with
                | false => rfl
                | true =>
                  have := closed_anc h hc (m + 1) m (by omega) ops[m] (Array.getElem?_eq_getElem g1) hq i (g2 i (by omega))
                  rw [hp] at this; cases this
            by_cases hjm : j < m
            · exact hjm
            · exfalso
              by_cases hje : j = m
              · rw [hje, hml] at hjl; cases hjl
              · have := closed_anc h hc (j + 1) j (by omega) ops[j] (Array.getElem?_eq_getElem hj) hjl m (g3 j (by omega) hj)
                rw [hml] at this; cases this
          · unfold relC at hR
            rw [if_neg him] at hR
            rw [hR]
            exact hV j hj hjl
    -- op i's own obligation
    have hkn : Know V vs w (A.getD i []) := by
      intro j hj
      obtain ⟨_, ha, _, _, _⟩ := okB_at h ho
      obtain ⟨hji, k, hk, hk'⟩ := ha j hj
      have hpk := hdirs k hk
      refine hV j (by omega) ?_
      rcases hk' with rfl | hk'
      · exact hpk
      · have hkn : k < ops.size := by have := (okB_at h ho).1 k hk; omega
        exact closed_anc h hc (k + 1) k (by omega) ops[k] (Array.getElem?_eq_getElem hkn) hpk j hk'
    have hob := steps_at ops.toList 0 hst i o (by simpa using ho) vs w (by rwa [Nat.zero_add]) (by rwa [Nat.zero_add])
    rw [Nat.zero_add] at hob
    obtain ⟨he, hw⟩ := eval_agree (a := a) (vs := vs) h hc ho hp hdirs
    unfold Opt at hob
    rw [← hw] at hob
    unfold wpOp
    simp only [ho]
    by_cases hwt : Region.wanted o (yielded ops (filF ops vs (fun k => listed.getD k false) a ops.size).tmps) = true
    · rw [if_pos hwt] at hob ⊢
      refine .inl ?_
      unfold OpY at hob
      rw [← he] at hob
      unfold Oper.wp
      generalize (execOp (filF ops vs (fun k => listed.getD k false) a ops.size).eval o).run P w = r at hob
      cases r with
      | ok nx w' =>
        cases nx with
        | value v => exact next v w' hob
        | skip => exact next undef w' hob
        | enter f args => exact Calls.mono hob (fun e w'' ⟨v, hv, hR⟩ => by subst hv; exact next v w'' hR)
        | _ => exact hob.elim
      | halt x w' => exact hob.elim
    · rw [if_neg hwt] at hob ⊢
      exact next undef w hob

/-- THE RULE -/
theorem wp_region_og {id : Nat} {w : World} (hm : P.follows .mixedOrders = true) (h : okB ops A = true) (hmid : midB ops A m = true) (hC : C0 w.drew)
    (stab : ∀ i v w w', i < m → Rel w w' → getV V i v w → getV V i v w')
    (hst : Steps P m C0 C1 Rel V A ops a ops.toList 0)
    (fin : ∀ vs w, C1 w → Know V vs w (List.range ops.size) → Q .normal (lexF ops vs a ops.size) w) : (Code.region id ops true).wp P Q a w := by
  refine wp_region_any hm ?_
  have e : a = filF ops (fun _ => undef) (fun k => (Array.replicate ops.size false).getD k false) a ops.size := by
    have : ∀ n, filF ops (fun _ => undef) (fun k => (Array.replicate ops.size false).getD k false) a n = a := by
      intro n
      induction n with
      | zero => rfl
      | succ n ih =>
        simp only [filF]
        rw [if_neg (by simp [Array.getD_eq_getD_getElem?, Array.getElem?_replicate]; split <;> simp), ih]
    exact (this _).symm
  have hfalse : ∀ k, (Array.replicate ops.size false).getD k false = false := by
    intro k
    simp only [Array.getD_eq_getD_getElem?, Array.getElem?_replicate]
    split <;> rfl
  have := main (Q := Q) h hmid stab hst fin ops.size (Array.replicate ops.size false) (fun _ => undef) w.drew (by simp) (Nat.le_trans List.countP_le_length (by simp))
    (fun j o _ hj => by simp only [hfalse] at hj; cases hj) (by rw [hfalse]; exact hC) (fun j _ hj => by rw [hfalse] at hj; cases hj)
  rw [← e] at this
  exact this

/-- the walk in the text's order -/
def Walk (P : Program) (m : Nat) (C0 C1 : World → Prop) (Rel : World → World → Prop) (A : List (List Nat)) (ops : Array Oper) (Q : Act → World → Prop) :
    List Oper → Nat → ((Nat → Value) → Act) → ((Nat → Bool) → (Nat → Value) → World → Prop) → Prop
  | [], _, F, K => ∀ vs w, C1 w → K (fun _ => true) vs w → Q (F vs) w
  | o :: r, i, F, K => ∃ D : Value → World → Prop, (i < m → ∀ v w w', Rel w w' → D v w → D v w') ∧
      (∀ vs w, preC m C0 C1 i w → K (fun j => (A.getD i []).contains j) vs w → Opt P ops o (F vs) w (fun v w' => postC m C0 C1 i w' ∧ relC m Rel i w w' ∧ D v w')) ∧
      Walk P m C0 C1 Rel A ops Q r (i + 1) (fun vs => (F vs).put o.dst (vs i)) (KS i D K)

theorem walk_sound {Q' : Act → World → Prop} : ∀ (l : List Oper) (i : Nat) (F : (Nat → Value) → Act) (K : (Nat → Bool) → (Nat → Value) → World → Prop) (V0 : Nat → Value → World → Prop),
    i ≤ ops.size → ops.toList.drop i = l → (∀ vs, F vs = lexF ops vs a i) → (∀ V vs w (l : Nat → Bool), (∀ j, j < i → V j = V0 j) → (∀ j, j < i → l j = true → getV V j (vs j) w) → K l vs w) → (∀ j v w w', j < i → j < m → Rel w w' → V0 j v w → V0 j v w') →
    Walk P m C0 C1 Rel A ops Q' l i F K → ∃ V : Nat → Value → World → Prop, (∀ j, j < i → V j = V0 j) ∧ (∀ j v w w', j < m → Rel w w' → V j v w → V j v w') ∧ Steps P m C0 C1 Rel V A ops a l i ∧
      (∀ vs w, C1 w → Know V vs w (List.range ops.size) → Q' (lexF ops vs a ops.size) w) := by
  intro l
  induction l with
  | nil =>
    intro i F K V0 hle hl hF hK hst hw
    have hi : ops.size ≤ i := by
      have := congrArg List.length hl
      simp at this
      omega
    refine ⟨fun j => if j < i then V0 j else fun _ _ => True, fun j hj => if_pos hj, ?_, trivial, ?_⟩
    · intro j v w w' hjm hR
      by_cases hj : j < i
      · simp only [if_pos hj]; exact hst j v w w' hj hjm hR
      · simp only [if_neg hj]; exact fun h => h
    · intro vs w hC hk
      have h1 := hw vs w hC (hK _ vs w _ (fun j hj => if_pos hj) (fun j hj _ => hk j (List.mem_range.2 (Nat.lt_of_lt_of_le hj (by omega)))))
      have h2 : F vs = lexF ops vs a ops.size := by
        rw [hF]
        have : ∀ n, ops.size ≤ n → lexF ops vs a n = lexF ops vs a ops.size := by
          intro n
          induction n with
          | zero => intro h; rw [show ops.size = 0 by omega]
          | succ n ih =>
            intro h
            by_cases he : ops.size = n + 1
            · rw [he]
            · rw [← ih (by omega)]
              show Act.put (lexF ops vs a n) (dstOf ops n) (vs n) = _
              have : dstOf ops n = none := by simp [dstOf, Array.getElem?_eq_none_iff.2 (show ops.size ≤ n by omega)]
              rw [this]; rfl
        exact this i hi
      rw [← h2]; exact h1
  | cons o r ih =>
    intro i F K V0 hle hl hF hK hst hw
    obtain ⟨D, hD, hop, hrest⟩ := hw
    have ho : ops[i]? = some o := by
      have h1 : (ops.toList.drop i)[0]? = some o := by rw [hl]; rfl
      simpa using h1
    have hdrop : ops.toList.drop (i + 1) = r := by
      have := congrArg List.tail hl
      simpa using this
    have hF' : ∀ vs, (F vs).put o.dst (vs i) = lexF ops vs a (i + 1) := by
      intro vs
      rw [hF]
      show _ = Act.put (lexF ops vs a i) (dstOf ops i) (vs i)
      simp [dstOf, ho]
    obtain ⟨V, hV, hVs, hs, hfin⟩ := ih (i + 1) _ _ (fun j => if j = i then D else V0 j) (by have := (Array.getElem?_eq_some_iff.1 ho).1; omega) hdrop hF' (by
      intro V vs w l hV hk
      refine ⟨fun hc => ?_, hK V vs w l (fun j hj => by rw [hV j (by omega), if_neg (by omega)]) (fun j hj hlj => hk j (by omega) hlj)⟩
      have := hk i (by omega) hc
      unfold getV at this
      rwa [hV i (by omega), if_pos rfl] at this) (by
      intro j v w w' hj hjm hR
      by_cases hji : j = i
      · simp only [if_pos hji]; exact hD (by omega) v w w' hR
      · simp only [if_neg hji]; exact hst j v w w' (by omega) hjm hR) hrest
    refine ⟨V, fun j hj => by rw [hV j (by omega), if_neg (by omega)], hVs, ⟨fun vs w hC hk => ?_, hs⟩, hfin⟩
    have h1 := hop vs w hC (hK V vs w _ (fun j hj => by rw [hV j (by omega), if_neg (by omega)]) (fun j hj hlj => hk j (List.contains_iff_mem.1 hlj)))
    rw [hF] at h1
    have h2 : getV V i = D := by
      unfold getV
      rw [hV i (by omega), if_pos rfl]
    rw [h2]
    exact h1


theorem walk_lit {id : Nat} {w : World} {l : List Oper} (m : Nat) (A : List (List Nat)) (C0 C1 : World → Prop) (Rel : World → World → Prop) (hm : P.follows .mixedOrders = true) (h : okB l.toArray A = true) (hmid : midB l.toArray A m = true) (hC : C0 w.drew)
    (hw : Walk P m C0 C1 Rel A l.toArray (Q .normal) l 0 (fun _ => a) K0) : (Code.region id l.toArray true).wp P Q a w := by
  obtain ⟨V, _, hV, hs, hfin⟩ := walk_sound (a := a) l 0 (fun _ => a) K0 (fun _ _ _ => True) (Nat.zero_le _) rfl (fun _ => rfl) (fun _ _ _ _ _ _ => trivial) (fun _ _ _ _ _ _ _ h => h) hw
  exact wp_region_og hm h hmid hC hV (by simpa using hs) hfin

section
variable {Q : Act → World → Prop} {o : Oper} {r : List Oper} {i : Nat} {F : (Nat → Value) → Act} {K : (Nat → Bool) → (Nat → Value) → World → Prop}
/-- an operation that leaves the world alone -/
theorem step_pure' {C : World → Prop} (hp : preC m C0 C1 i = C) (hq : postC m C0 C1 i = C) (hr : ∀ w, relC m Rel i w w) (h : ∃ x, (∀ vs w, C w → K (fun j => (A.getD i []).contains j) vs w → Opt P ops o (F vs) w (fun v w' => w' = w ∧ v = x)) ∧ Walk P m C0 C1 Rel A ops Q r (i + 1) (fun vs => (F vs).put o.dst (vs i)) (KS i (Is x) K)) :
    Walk P m C0 C1 Rel A ops Q (o :: r) i F K := by
  obtain ⟨x, h1, h2⟩ := h
  refine ⟨Is x, fun _ _ _ _ _ h => h, fun vs w hC hk => ?_, h2⟩
  rw [hp] at hC
  rw [hq]
  have := h1 vs w hC hk
  unfold Opt at this ⊢
  split
  · rename_i hw
    rw [if_pos hw] at this
    unfold OpY at this ⊢
    generalize (execOp (F vs).eval o).run P w = res at this
    cases res with
    | ok nx w' =>
      cases nx with
      | value v => obtain ⟨rfl, rfl⟩ := this; exact ⟨hC, hr _, rfl⟩
      | skip => obtain ⟨rfl, hu⟩ := this; exact ⟨hC, hr _, hu⟩
      | enter f args => exact Calls.mono this (fun e w'' ⟨v, he, hw', hv⟩ => ⟨v, he, by rw [hw']; exact hC, by rw [hw']; exact hr _, hv⟩)
      | _ => exact this.elim
    | halt x w' => exact this.elim
  · rename_i hw
    rw [if_neg hw] at this
    obtain ⟨_, hu⟩ := this
    exact ⟨hC, hr _, hu⟩
theorem step_pure (hi : decide (i < m) = true) (hr : ∀ w, Rel w w) (h : ∃ x, (∀ vs w, C0 w → K (fun j => (A.getD i []).contains j) vs w → Opt P ops o (F vs) w (fun v w' => w' = w ∧ v = x)) ∧ Walk P m C0 C1 Rel A ops Q r (i + 1) (fun vs => (F vs).put o.dst (vs i)) (KS i (Is x) K)) :
    Walk P m C0 C1 Rel A ops Q (o :: r) i F K :=
  step_pure' (C := C0) (by have := of_decide_eq_true hi; unfold preC; rw [if_pos (by omega)]) (by have := of_decide_eq_true hi; unfold postC; rw [if_pos this]) (fun w => by have := of_decide_eq_true hi; unfold relC; rw [if_pos (by omega)]; exact hr w) h
theorem step_pure_hi (hi : decide (m < i) = true) (h : ∃ x, (∀ vs w, C1 w → K (fun j => (A.getD i []).contains j) vs w → Opt P ops o (F vs) w (fun v w' => w' = w ∧ v = x)) ∧ Walk P m C0 C1 Rel A ops Q r (i + 1) (fun vs => (F vs).put o.dst (vs i)) (KS i (Is x) K)) :
    Walk P m C0 C1 Rel A ops Q (o :: r) i F K :=
  step_pure' (C := C1) (by have := of_decide_eq_true hi; unfold preC; rw [if_neg (by omega)]) (by have := of_decide_eq_true hi; unfold postC; rw [if_neg (by omega)]) (fun w => by have := of_decide_eq_true hi; unfold relC; rw [if_neg (by omega)]) h
theorem step_one (hi : decide (i < m) = true) (h : ∃ x, (∀ vs w, C0 w → K (fun j => (A.getD i []).contains j) vs w → Opt P ops o (F vs) w (fun v w' => C0 w' ∧ Rel w w' ∧ v = x)) ∧ Walk P m C0 C1 Rel A ops Q r (i + 1) (fun vs => (F vs).put o.dst (vs i)) (KS i (Is x) K)) :
    Walk P m C0 C1 Rel A ops Q (o :: r) i F K := by
  obtain ⟨x, h1, h2⟩ := h
  have hi := of_decide_eq_true hi
  refine ⟨Is x, fun _ _ _ _ _ h => h, ?_, h2⟩
  unfold preC postC relC
  simp only [if_pos (Nat.le_of_lt hi), if_pos hi]
  exact h1
theorem step_any (hi : decide (i < m) = true) (D : Value → World → Prop) (hD : ∀ v w w', Rel w w' → D v w → D v w') (h1 : ∀ vs w, C0 w → K (fun j => (A.getD i []).contains j) vs w → Opt P ops o (F vs) w (fun v w' => C0 w' ∧ Rel w w' ∧ D v w'))
    (h2 : Walk P m C0 C1 Rel A ops Q r (i + 1) (fun vs => (F vs).put o.dst (vs i)) (KS i D K)) : Walk P m C0 C1 Rel A ops Q (o :: r) i F K := by
  have hi := of_decide_eq_true hi
  refine ⟨D, fun _ => hD, ?_, h2⟩
  unfold preC postC relC
  simp only [if_pos (Nat.le_of_lt hi), if_pos hi]
  exact h1
theorem step_any_hi (hi : decide (m < i) = true) (D : Value → World → Prop) (h1 : ∀ vs w, C1 w → K (fun j => (A.getD i []).contains j) vs w → Opt P ops o (F vs) w (fun v w' => w' = w ∧ D v w))
    (h2 : Walk P m C0 C1 Rel A ops Q r (i + 1) (fun vs => (F vs).put o.dst (vs i)) (KS i D K)) : Walk P m C0 C1 Rel A ops Q (o :: r) i F K := by
  have hi := of_decide_eq_true hi
  refine ⟨D, fun hh => absurd hh (by omega), fun vs w hC hk => ?_, h2⟩
  unfold preC at hC
  rw [if_neg (by omega)] at hC
  unfold postC relC
  simp only [if_neg (show ¬ i ≤ m by omega), if_neg (show ¬ i < m by omega)]
  have := h1 vs w hC hk
  unfold Opt at this ⊢
  split
  · rename_i hw
    rw [if_pos hw] at this
    unfold OpY at this ⊢
    generalize (execOp (F vs).eval o).run P w = res at this
    cases res with
    | ok nx w' =>
      cases nx with
      | value v => obtain ⟨rfl, hu⟩ := this; exact ⟨hC, rfl, hu⟩
      | skip => obtain ⟨rfl, hu⟩ := this; exact ⟨hC, rfl, hu⟩
      | enter f args => exact Calls.mono this (fun e w'' ⟨v, he, hw', hv⟩ => ⟨v, he, by rw [hw']; exact ⟨hC, rfl, hv⟩⟩)
      | _ => exact this.elim
    | halt x w' => exact this.elim
  · rename_i hw
    rw [if_neg hw] at this
    obtain ⟨_, hu⟩ := this
    exact ⟨hC, rfl, hu⟩
/-- the operation in the middle -/
theorem step_mid (hi : i = m) (D : Value → World → Prop) (h1 : ∀ vs w, C0 w → K (fun j => (A.getD i []).contains j) vs w → Opt P ops o (F vs) w (fun v w' => C1 w' ∧ Rel w w' ∧ D v w'))
    (h2 : Walk P m C0 C1 Rel A ops Q r (i + 1) (fun vs => (F vs).put o.dst (vs i)) (KS i D K)) : Walk P m C0 C1 Rel A ops Q (o :: r) i F K := by
  subst hi
  refine ⟨D, fun hh => absurd hh (Nat.lt_irrefl _), ?_, h2⟩
  unfold preC postC relC
  simp only [if_pos (Nat.le_refl _), if_neg (Nat.lt_irrefl _)]
  exact h1
end
end
end Two
end Og
end Go
