/- A region that draws its order, inside a wide fence; conditions: as at Og, and no operation is a defer statement. -/
import Derived.Test.YtpnhkniegjfncaaOg
import Derived.OrdersIn
import Derived.TacticsIn
import Derived.RangeFuncCalls
namespace Go
namespace Og
def noDefer (l : List Oper) : Bool := l.all fun o => match o.op with | .defer _ => false | _ => true
theorem noDefer_at {l : List Oper} (h : noDefer l = true) {i : Nat} {o : Oper} (ho : l[i]? = some o) : ∀ c, o.op ≠ .defer c := by
  intro c hc
  have := List.all_eq_true.1 h o (List.mem_of_getElem? ho)
  simp only [hc] at this
  cases this
section
variable {P : Program} {F : Fence} {n : Nat} {ops : Array Oper} {Q : Exit → Act → World → Prop} {C : World → Prop} {Rel : World → World → Prop} {V : Nat → Value → World → Prop} {A : List (List Nat)} {a : Act}
theorem mainIn (hfn : ∀ f, F.fn f) (hdep : F.depth = none) (hcall : ∀ m f args w R, Calls P f args w R → CallsIn F m P f args w R) (hnd : noDefer ops.toList = true) (h : okB ops A = true) (stab : ∀ i v w w', Rel w w' → getV V i v w → getV V i v w')
    (hst : Steps P C Rel V A ops a ops.toList 0)
    (fin : ∀ vs w, C w → Know V vs w (List.range ops.size) → Q .normal (lexF ops vs a ops.size) w) :
    ∀ (fuel : Nat) (listed : Array Bool) (vs : Nat → Value) (w : World), listed.size = ops.size → (List.range ops.size).countP (fun k => !listed.getD k false) ≤ fuel →
      Closed ops (fun k => listed.getD k false) → C w → (∀ j, j < ops.size → listed.getD j false = true → getV V j (vs j) w) →
      wpAnyIn F n P .any ops Q fuel listed (filF ops vs (fun k => listed.getD k false) a ops.size) w := by
  have hdone : ∀ (listed : Array Bool) (vs : Nat → Value) (w : World), listed.size = ops.size → C w → (∀ j, j < ops.size → listed.getD j false = true → getV V j (vs j) w) →
      Region.ready .any ops listed = [] → Q .normal (filF ops vs (fun k => listed.getD k false) a ops.size) w := by
    intro listed vs w hs hC hV hr
    have hall := fun k hk => all_listed h hs hr (k + 1) k (by omega) hk
    have : filF ops vs (fun k => listed.getD k false) a ops.size = lexF ops vs a ops.size := filF_congr _ (fun j hj => hall j hj) (fun _ _ _ => rfl)
    rw [this]
    exact fin vs w hC fun j hj => hV j (List.mem_range.1 hj) (hall j (List.mem_range.1 hj))
  intro fuel
  induction fuel with
  | zero =>
    intro listed vs w hs hcnt hc hC hV
    have hz : (List.range ops.size).countP (fun k => !listed.getD k false) = 0 := by omega
    have hr : Region.ready .any ops listed = [] := by
      refine List.eq_nil_iff_forall_not_mem.2 fun i hi => ?_
      obtain ⟨o, ho, hl, _⟩ := ready_spec hi
      have hlt := (Array.getElem?_eq_some_iff.1 ho).1
      have := (List.countP_eq_zero.1 hz) i (List.mem_range.2 hlt)
      simp only [Array.getD_eq_getD_getElem?] at hl this
      rw [Array.getElem?_eq_getElem (by omega)] at hl this
      simp at hl this
      rw [hl] at this; cases this
    exact ⟨hr, hdone listed vs w hs hC hV hr⟩
  | succ fuel ih =>
    intro listed vs w hs hcnt hc hC hV
    refine ⟨hdone listed vs w hs hC hV, fun i hi => ?_⟩
    obtain ⟨o, ho, hl, hdirs⟩ := ready_spec hi
    have hlt := (Array.getElem?_eq_some_iff.1 ho).1
    have hp : listed.getD i false = false := by
      simp only [Array.getD_eq_getD_getElem?] at hl ⊢
      rw [Array.getElem?_eq_getElem (by omega)] at hl ⊢
      simpa using hl
    have hdst : dstOf ops i = o.dst := by simp [dstOf, ho]
    -- what follows, whatever op i yields
    have next : ∀ v w', C w' ∧ Rel w w' ∧ getV V i v w' →
        wpAnyIn F n P .any ops Q fuel (listed.setIfInBounds i true) ((filF ops vs (fun k => listed.getD k false) a ops.size).put o.dst v) w' := by
      rintro v w' ⟨hC', hR, hv⟩
      have hpe : ∀ k, k < ops.size → (listed.setIfInBounds i true).getD k false = (listed.getD k false || k == i) := by
        intro k hk
        simp only [Array.getD_eq_getD_getElem?, Array.getElem?_setIfInBounds]
        by_cases hki : i = k
        · subst hki
          simp [hs, hk]
        · have : (k == i) = false := by simp; omega
          simp [hki, this]
      have hput : (filF ops vs (fun k => listed.getD k false) a ops.size).put o.dst v = filF ops (fun k => if k = i then v else vs k) (fun k => (listed.setIfInBounds i true).getD k false) a ops.size := by
        rw [← hdst, filF_put i v hlt hp (fun k hk hne d hd he => ?_)]
        · exact filF_congr _ (fun j hj => (hpe j hj).symm) (fun _ _ _ => rfl)
        · obtain ⟨_, _, _, hdist, _⟩ := okB_at h ho
          exact hdist d (by rw [← hdst]; exact hd) k hk hne he
      rw [hput]
      refine ih _ _ w' (by simp [hs]) ?_ ?_ hC' ?_
      · have e : (List.range ops.size).countP (fun k => !(listed.setIfInBounds i true).getD k false) = (List.range ops.size).countP (fun k => !(listed.getD k false || k == i)) :=
          List.countP_congr fun k hk => by rw [hpe k (List.mem_range.1 hk)]
        rw [e]
        have := countP_set ops.size i (fun k => listed.getD k false) hlt hp
        omega
      · intro j oj hoj hj k hk
        have hjn := (Array.getElem?_eq_some_iff.1 hoj).1
        have hkj := (okB_at h hoj).1 k hk
        simp only [hpe j hjn] at hj
        simp only [hpe k (by omega)]
        by_cases hji : j = i
        · subst hji
          rw [ho] at hoj
          cases hoj
          rw [hdirs k hk]; rfl
        · have e1 : (j == i) = false := by simp; omega
          rw [e1, Bool.or_false] at hj
          have := hc j oj hoj hj k hk
          simp only at this
          rw [this]; rfl
      · intro j hj hjl
        rw [hpe j hj] at hjl
        by_cases hji : j = i
        · subst hji
          simpa using hv
        · have e1 : (j == i) = false := by simp; omega
          rw [e1, Bool.or_false] at hjl
          simp only [if_neg hji]
          exact stab j _ w w' hR (hV j hj hjl)
    -- op i's own obligation
    have hkn : Know V vs w (A.getD i []) := by
      intro j hj
      obtain ⟨_, ha, _, _, _⟩ := okB_at h ho
      obtain ⟨hji, k, hk, hk'⟩ := ha j hj
      have hpk := hdirs k hk
      refine hV j (by omega) ?_
      rcases hk' with rfl | hk'
      · exact hpk
      · have hkn : k < ops.size := by have := (okB_at h ho).1 k hk; omega
        exact closed_anc h hc (k + 1) k (by omega) ops[k] (Array.getElem?_eq_getElem hkn) hpk j hk'
    have hob := steps_at ops.toList 0 hst i o (by simpa using ho) vs w hC (by rwa [Nat.zero_add])
    rw [Nat.zero_add] at hob
    obtain ⟨he, hw⟩ := eval_agree (a := a) (vs := vs) h hc ho hp hdirs
    unfold Opt at hob
    rw [← hw] at hob
    have hsem : ∀ ρ : Operand → Value, o.semAt F.round ρ = execOp ρ o := by
      intro ρ
      cases hr : F.round with
      | none => rfl
      | some l => exact Oper.semAt_some l ρ o (noDefer_at hnd (by simpa using ho))
    unfold wpOpIn
    simp only [ho]
    by_cases hwt : Region.wanted o (yielded ops (filF ops vs (fun k => listed.getD k false) a ops.size).tmps) = true
    · rw [if_pos hwt] at hob ⊢
      refine ⟨fun f _ => hfn f, ?_⟩
      unfold OpY at hob
      rw [← he] at hob
      rw [hsem]
      generalize (execOp (filF ops vs (fun k => listed.getD k false) a ops.size).eval o).run P w = r at hob
      cases r with
      | ok nx w' =>
        cases nx with
        | value v => exact next v w' hob
        | skip => exact next undef w' hob
        | enter f args => exact ⟨fun hs => (by rw [hdep] at hs; cases hs), CallsIn.mono (hcall _ _ _ _ _ hob) (fun e w'' ⟨v, hv, hR⟩ => by subst hv; exact next v w'' hR)⟩
        | _ => exact hob.elim
      | halt x w' => exact hob.elim
    · rw [if_neg hwt] at hob ⊢
      exact ⟨fun f _ => hfn f, next undef w hob⟩

/-- THE RULE -/
theorem wpIn_region_og (hfn : ∀ f, F.fn f) (hdep : F.depth = none) (hcall : ∀ m f args w R, Calls P f args w R → CallsIn F m P f args w R) (hnd : noDefer ops.toList = true) {id : Nat} {w : World} (hm : P.follows .mixedOrders = true) (h : okB ops A = true) (hC : C w.drew)
    (stab : ∀ i v w w', Rel w w' → getV V i v w → getV V i v w')
    (hst : Steps P C Rel V A ops a ops.toList 0)
    (fin : ∀ vs w, C w → Know V vs w (List.range ops.size) → Q .normal (lexF ops vs a ops.size) w) : (Code.region id ops true).wpIn F n P Q a w := by
  refine wpIn_region_any hm ?_
  have e : a = filF ops (fun _ => undef) (fun k => (Array.replicate ops.size false).getD k false) a ops.size := by
    have : ∀ n, filF ops (fun _ => undef) (fun k => (Array.replicate ops.size false).getD k false) a n = a := by
      intro n
      induction n with
      | zero => rfl
      | succ n ih =>
        simp only [filF]
        rw [if_neg (by simp [Array.getD_eq_getD_getElem?, Array.getElem?_replicate]; split <;> simp), ih]
    exact (this _).symm
  have hfalse : ∀ k, (Array.replicate ops.size false).getD k false = false := by
    intro k
    simp only [Array.getD_eq_getD_getElem?, Array.getElem?_replicate]
    split <;> rfl
  have := mainIn (Q := Q) (F := F) (n := n) hfn hdep hcall hnd h stab hst fin ops.size (Array.replicate ops.size false) (fun _ => undef) w.drew (by simp) (Nat.le_trans List.countP_le_length (by simp))
    (fun j o _ hj => by simp only [hfalse] at hj; cases hj) hC (fun j _ hj => by rw [hfalse] at hj; cases hj)
  rw [← e] at this
  exact this


theorem walkIn_lit {F : Fence} (hfn : ∀ f, F.fn f) (hdep : F.depth = none) (hcall : ∀ m f args w R, Calls P f args w R → CallsIn F m P f args w R) {id : Nat} {w : World} {l : List Oper} (A : List (List Nat)) (C : World → Prop) (Rel : World → World → Prop) (hm : P.follows .mixedOrders = true) (h : okB l.toArray A = true) (hnd : noDefer l = true) (hC : C w.drew)
    (hw : Walk P C Rel A l.toArray (Q .normal) l 0 (fun _ => a) K0) : (Code.region id l.toArray true).wpIn F n P Q a w := by
  obtain ⟨V, _, hV, hs, hfin⟩ := walk_sound (a := a) l 0 (fun _ => a) K0 (fun _ _ _ => True) (Nat.zero_le _) rfl (fun _ => rfl) (fun _ _ _ _ _ _ => trivial) (fun _ _ _ _ _ _ h => h) hw
  exact wpIn_region_og hfn hdep hcall hnd hm h hC hV hs hfin
/-- the wide fence -/
theorem walkW_lit {id : Nat} {w : World} {l : List Oper} (A : List (List Nat)) (C : World → Prop) (Rel : World → World → Prop) (hm : P.follows .mixedOrders = true) (h : okB l.toArray A = true) (hnd : noDefer l = true) (hC : C w.drew)
    (hw : Walk P C Rel A l.toArray (Q .normal) l 0 (fun _ => a) K0) : (Code.region id l.toArray true).wpIn Fence.wide n P Q a w :=
  walkIn_lit (fun _ => trivial) rfl (fun _ _ _ _ _ h => callsIn_wide.2 h) A C Rel hm h hnd hC hw
/-- in a round of the wide fence -/
theorem walkR_lit {id r : Nat} {w : World} {l : List Oper} (A : List (List Nat)) (C : World → Prop) (Rel : World → World → Prop) (hm : P.follows .mixedOrders = true) (h : okB l.toArray A = true) (hnd : noDefer l = true) (hC : C w.drew)
    (hw : Walk P C Rel A l.toArray (Q .normal) l 0 (fun _ => a) K0) : (Code.region id l.toArray true).wpIn (Fence.wide.inRound r) n P Q a w :=
  walkIn_lit (F := Fence.wide.inRound r) (fun _ => trivial) rfl (fun _ _ _ _ _ h => CallsIn.inRound r (callsIn_wide.2 h)) A C Rel hm h hnd hC hw
end
end Og
end Go
