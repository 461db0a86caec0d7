/- A region that draws its order: one obligation an operation, each in the frame that the text's order gives, in any world of a class; whatever order the tape picks, what follows holds. Conditions: the class and the values' facts are kept by what the operations do. A region that draws its order with one operation (m) behind all ahead of it and ahead of all behind it: the class of worlds may change there. Conditions: as in Og. A region of a function by its number, so that its form is checked once; no condition. -/
import Derived.Orders
import Derived.KernelRfl
import Derived.Laws.Bits
namespace Go
namespace Og

/-- a call hands a value back -/
def RetV (R : Value → World → Prop) (e : Ending) (w : World) : Prop := ∃ v, e = .returned v ∧ R v w

theorem RetV.mk {R : Value → World → Prop} {v : Value} {w : World} (h : R v w) : RetV R (.returned v) w := ⟨v, rfl, h⟩

/-- what an operation yields -/
def OpY (P : Program) (ρ : Operand → Value) (o : Oper) (w : World) (R : Value → World → Prop) : Prop :=
  match (execOp ρ o).run P w with
  | .ok (.value v) w' => R v w'
  | .ok .skip w' => R undef w'
  | .ok (.enter f args) w' => Calls P f args w' (RetV R)
  | _ => False

/-- the same behind its guard -/
def Opt (P : Program) (ops : Array Oper) (o : Oper) (a : Act) (w : World) (R : Value → World → Prop) : Prop :=
  if Region.wanted o (yielded ops a.tmps) then OpY P a.eval o w R else R undef w

def dstOf (ops : Array Oper) (j : Nat) : Option Tmp := (ops[j]?).bind (·.dst)

/-- the frame behind those operations below n that p names -/
def filF (ops : Array Oper) (vs : Nat → Value) (p : Nat → Bool) (a : Act) : Nat → Act
  | 0 => a
  | n + 1 => if p n then (filF ops vs p a n).put (dstOf ops n) (vs n) else filF ops vs p a n

/-- the frame of the text's order ahead of operation n -/
def lexF (ops : Array Oper) (vs : Nat → Value) (a : Act) (n : Nat) : Act := filF ops vs (fun _ => true) a n

def dirs (o : Oper) : List Nat := (o.after.toList.filter (fun e => Region.binds .any e)).map (·.on)

/-- who must come ahead of each operation -/
def ancs : List Oper → List (List Nat) → List (List Nat)
  | [], acc => acc
  | o :: r, acc => ancs r (acc ++ [(dirs o ++ (dirs o).flatMap fun k => acc.getD k []).eraseDups])

def tmpsOf (o : Oper) : List Tmp := o.op.operands.toList.filterMap fun | .tmp t => some t | _ => none

/-- the check of a region's form, by the kernel: A is the table of ancestors -/
def okB (ops : Array Oper) (A : List (List Nat)) : Bool :=
  decide (A.length = ops.size) && Region.noSelect ops &&
  (List.range ops.size).all fun i => match ops[i]? with
    | none => false
    | some o =>
      (dirs o).all (fun k => decide (k < i)) &&
      (A.getD i []).all (fun j => decide (j < i) && (dirs o).any fun k => k == j || (A.getD k []).contains j) &&
      (match o.guard with | none => true | some (g, _) => (A.getD i []).contains g && ((ops[g]?).bind (·.dst)).isSome) &&
      (match o.dst with | some d => (List.range ops.size).all fun j => i == j || !(dstOf ops j == some d) | none => true) &&
      (o.looksAt ops).all fun t => (List.range ops.size).all fun j =>
        i == j || !(dstOf ops j == some t) || (if j < i then (A.getD i []).contains j else (A.getD j []).contains i)

section
variable {ops : Array Oper} {vs : Nat → Value} {p q : Nat → Bool} {a : Act} {n : Nat}

theorem filF_congr (vs' : Nat → Value) (h : ∀ j, j < n → p j = q j) (hv : ∀ j, j < n → p j = true → vs j = vs' j) : filF ops vs p a n = filF ops vs' q a n := by
  induction n with
  | zero => rfl
  | succ n ih =>
    have ih' := ih (fun j hj => h j (by omega)) (fun j hj => hv j (by omega))
    simp only [filF]
    rw [← h n (by omega), ih']
    by_cases hp : p n = true
    · rw [if_pos hp, if_pos hp, hv n (by omega) hp]
    · rw [if_neg hp, if_neg hp]

theorem put_getD (a : Act) (d : Option Tmp) (v : Value) (t : Tmp) (h : d ≠ some t) : (a.put d v).tmps.getD t undef = a.tmps.getD t undef := by
  cases d with
  | none => rfl
  | some d =>
    have hne : d ≠ t := fun e => h (by rw [e])
    simp only [Act.put, Array.getD_eq_getD_getElem?, Array.getElem?_setIfInBounds, if_neg hne]

theorem put_size (a : Act) (d : Option Tmp) (v : Value) : (a.put d v).tmps.size = a.tmps.size := by
  cases d <;> simp [Act.put]

theorem put_defers (a : Act) (d : Option Tmp) (v : Value) : (a.put d v).defers = a.defers := by
  cases d <;> rfl

theorem filF_getD_none (t : Tmp) (h : ∀ j, j < n → p j = true → dstOf ops j ≠ some t) : (filF ops vs p a n).tmps.getD t undef = a.tmps.getD t undef := by
  induction n with
  | zero => rfl
  | succ n ih =>
    have ih' := ih (fun j hj => h j (by omega))
    simp only [filF]
    by_cases hp : p n = true
    · rw [if_pos hp, put_getD _ _ _ _ (h n (by omega) hp), ih']
    · rw [if_neg hp, ih']

theorem filF_size : (filF ops vs p a n).tmps.size = a.tmps.size := by
  induction n with
  | zero => rfl
  | succ n ih =>
    simp only [filF]
    split
    · rw [put_size, ih]
    · exact ih

theorem filF_getD_hit (t : Tmp) (j : Nat) (hj : j < n) (hp : p j = true) (hd : dstOf ops j = some t) (hu : ∀ k, k < n → dstOf ops k = some t → k = j) :
    (filF ops vs p a n).tmps.getD t undef = if t < a.tmps.size then vs j else undef := by
  induction n with
  | zero => omega
  | succ n ih =>
    simp only [filF]
    by_cases hjn : j = n
    · subst hjn
      rw [if_pos hp, hd]
      have hsz : (filF ops vs p a j).tmps.size = a.tmps.size := filF_size
      simp only [Act.put, Array.getD_eq_getD_getElem?, Array.getElem?_setIfInBounds, hsz]
      by_cases ht : t < a.tmps.size
      · simp [ht]
      · have hnone : (filF ops vs p a j).tmps[t]? = none := by
          exact Array.getElem?_eq_none_iff.2 (by rw [hsz]; exact Nat.not_lt.1 ht)
        simp [ht]
    · have ih' := ih (by omega) (fun k hk => hu k (by omega))
      by_cases hpn : p n = true
      · rw [if_pos hpn, put_getD _ _ _ _ (fun e => hjn (hu n (by omega) e).symm), ih']
      · rw [if_neg hpn, ih']

theorem put_put_comm (a : Act) {x y : Option Tmp} (v u : Value) (h : ∀ d, x = some d → y ≠ some d) : (a.put x v).put y u = (a.put y u).put x v := by
  cases x with
  | none => rfl
  | some d =>
    cases y with
    | none => rfl
    | some e =>
      have hne : d ≠ e := fun h' => h d rfl (by rw [h'])
      simp only [Act.put]
      congr 1
      exact (Array.setIfInBounds_comm _ _ hne)

/-- one more operation -/
theorem filF_put (i : Nat) (v : Value) (hi : i < n) (hp : p i = false) (hu : ∀ k, k < n → k ≠ i → ∀ d, dstOf ops i = some d → dstOf ops k ≠ some d) :
    (filF ops vs p a n).put (dstOf ops i) v = filF ops (fun k => if k = i then v else vs k) (fun k => p k || k == i) a n := by
  induction n with
  | zero => omega
  | succ n ih =>
    by_cases hin : i = n
    · subst hin
      simp only [filF]
      rw [hp, if_neg (by simp), if_pos (by simp)]
      simp only [if_true]
      congr 1
      refine filF_congr _ (fun j hj => ?_) (fun j hj _ => ?_)
      · have : (j == i) = false := by simp; omega
        rw [this, Bool.or_false]
      · rw [if_neg (by omega)]
    · have ih' := ih (by omega) (fun k hk => hu k (by omega))
      have hne : (n == i) = false := by simp; omega
      have hni : ¬ n = i := fun e => hin e.symm
      show Act.put (if p n = true then (filF ops vs p a n).put (dstOf ops n) (vs n) else filF ops vs p a n) (dstOf ops i) v
        = (if (p n || n == i) = true then (filF ops (fun k => if k = i then v else vs k) (fun k => p k || k == i) a n).put (dstOf ops n) (if n = i then v else vs n) else filF ops (fun k => if k = i then v else vs k) (fun k => p k || k == i) a n)
      rw [hne, Bool.or_false, if_neg hni]
      by_cases hpn : p n = true
      · rw [if_pos hpn, if_pos hpn, ← ih']
        refine put_put_comm _ _ _ (fun d hd he => ?_)
        exact hu n (by omega) hni d he hd
      · rw [if_neg hpn, if_neg hpn, ← ih']
end

/-- the values' facts -/
def getV (V : Nat → Value → World → Prop) (i : Nat) : Value → World → Prop := V i

/-- facts of one value -/
def Is (x : Value) : Value → World → Prop := fun v _ => v = x

/-- what is known at operation i: of those that must come ahead of it -/
def Know (V : Nat → Value → World → Prop) (vs : Nat → Value) (w : World) (l : List Nat) : Prop := ∀ j ∈ l, getV V j (vs j) w

def Steps (P : Program) (C : World → Prop) (Rel : World → World → Prop) (V : Nat → Value → World → Prop) (A : List (List Nat)) (ops : Array Oper) (a : Act) : List Oper → Nat → Prop
  | [], _ => True
  | o :: r, i => (∀ vs w, C w → Know V vs w (A.getD i []) → Opt P ops o (lexF ops vs a i) w (fun v w' => C w' ∧ Rel w w' ∧ getV V i v w')) ∧ Steps P C Rel V A ops a r (i + 1)

section
variable {P : Program} {ops : Array Oper} {Q : Exit → Act → World → Prop} {C : World → Prop} {Rel : World → World → Prop} {V : Nat → Value → World → Prop} {A : List (List Nat)} {a : Act}

theorem steps_at : ∀ (l : List Oper) (k : Nat), Steps P C Rel V A ops a l k → ∀ (i : Nat) (o : Oper), l[i]? = some o → ∀ vs w, C w → Know V vs w (A.getD (k + i) []) →
    Opt P ops o (lexF ops vs a (k + i)) w (fun v w' => C w' ∧ Rel w w' ∧ getV V (k + i) v w')
  | [], _, _, i, o, h => by simp at h
  | o :: r, k, hs, 0, o', h => by
    simp only [List.getElem?_cons_zero, Option.some.injEq] at h
    subst h
    exact hs.1
  | o :: r, k, hs, i + 1, o', h => by
    have := steps_at r (k + 1) hs.2 i o' (by simpa using h)
    rwa [show k + 1 + i = k + (i + 1) by omega] at this

theorem okB_at {i : Nat} {o : Oper} (h : okB ops A = true) (ho : ops[i]? = some o) :
    (∀ k ∈ dirs o, k < i) ∧ (∀ j ∈ A.getD i [], j < i ∧ ∃ k ∈ dirs o, k = j ∨ j ∈ A.getD k []) ∧
    (∀ g b, o.guard = some (g, b) → g ∈ A.getD i []) ∧
    (∀ d, o.dst = some d → ∀ j, j < ops.size → j ≠ i → dstOf ops j ≠ some d) ∧
    (∀ t ∈ o.looksAt ops, ∀ j, j < ops.size → j ≠ i → dstOf ops j = some t → if j < i then j ∈ A.getD i [] else i ∈ A.getD j []) := by
  unfold okB at h
  simp only [Bool.and_eq_true] at h
  have hi : i < ops.size := (Array.getElem?_eq_some_iff.1 ho).1
  have h2 := List.all_eq_true.1 h.2 i (List.mem_range.2 hi)
  rw [ho] at h2
  simp only [Bool.and_eq_true] at h2
  obtain ⟨⟨⟨⟨h3, h4⟩, h5⟩, h7⟩, h6⟩ := h2
  refine ⟨fun k hk => of_decide_eq_true (List.all_eq_true.1 h3 k hk), fun j hj => ?_, fun g b hg => ?_, fun d hd j hj hne he => ?_, fun t ht j hj hne hd => ?_⟩
  · have := List.all_eq_true.1 h4 j hj
    simp only [Bool.and_eq_true, decide_eq_true_eq] at this
    obtain ⟨k, hk, hk'⟩ := List.any_eq_true.1 this.2
    simp only [Bool.or_eq_true, beq_iff_eq, List.contains_iff_mem] at hk'
    exact ⟨this.1, k, hk, hk'⟩
  · rw [hg] at h5
    simp only [Bool.and_eq_true, List.contains_iff_mem] at h5
    exact h5.1
  · rw [hd] at h7
    have := List.all_eq_true.1 h7 j (List.mem_range.2 hj)
    have e1 : (i == j) = false := by simp; omega
    have e2 : (dstOf ops j == some d) = true := by simp [he]
    rw [e1, e2] at this
    simp at this
  · have := List.all_eq_true.1 (List.all_eq_true.1 h6 t ht) j (List.mem_range.2 hj)
    have e1 : (i == j) = false := by simp; omega
    have e2 : (dstOf ops j == some t) = true := by simp [hd]
    rw [e1, e2] at this
    simp only [Bool.not_true, Bool.false_or, Bool.or_self] at this
    split at this
    · rename_i hlt; rw [if_pos hlt]; exact List.contains_iff_mem.1 this
    · rename_i hlt; rw [if_neg hlt]; exact List.contains_iff_mem.1 this

theorem dirs_of {o : Oper} {k : Nat} (h : k ∈ dirs o) : ∃ e ∈ o.after.toList, Region.binds .any e = true ∧ e.on = k := by
  unfold dirs at h
  obtain ⟨e, he, rfl⟩ := List.mem_map.1 h
  obtain ⟨h1, h2⟩ := List.mem_filter.1 he
  exact ⟨e, h1, h2, rfl⟩

/-- who is listed has all that must come ahead of it listed -/
def Closed (ops : Array Oper) (p : Nat → Bool) : Prop := ∀ (j : Nat) (o : Oper), ops[j]? = some o → p j = true → ∀ k ∈ dirs o, p k = true

theorem closed_anc {p : Nat → Bool} (h : okB ops A = true) (hc : Closed ops p) : ∀ (n j : Nat), j < n → ∀ (o : Oper), ops[j]? = some o → p j = true → ∀ i ∈ A.getD j [], p i = true := by
  intro n
  induction n with
  | zero => intro j hj; omega
  | succ n ih =>
    intro j hj o ho hp i hi
    obtain ⟨hd, ha, _, _, _⟩ := okB_at h ho
    obtain ⟨_, k, hk, hk'⟩ := ha i hi
    have hpk := hc j o ho hp k hk
    rcases hk' with rfl | hk'
    · exact hpk
    · have hkj := hd k hk
      have hks : k < ops.size := by have := (Array.getElem?_eq_some_iff.1 ho).1; omega
      exact ih k (by omega) ops[k] (Array.getElem?_eq_getElem hks) hpk i hk'

theorem ready_spec {listed : Array Bool} {i : Nat} (h : i ∈ Region.ready .any ops listed) :
    ∃ o, ops[i]? = some o ∧ listed.getD i true = false ∧ ∀ k ∈ dirs o, listed.getD k false = true := by
  unfold Region.ready at h
  obtain ⟨h1, h2⟩ := List.mem_filter.1 h
  have hi := List.mem_range.1 h1
  have ho : ops[i]? = some ops[i] := Array.getElem?_eq_getElem hi
  rw [ho] at h2
  simp only [Option.map_some, Option.getD_some, Bool.and_eq_true, Bool.not_eq_true'] at h2
  refine ⟨_, ho, h2.1, fun k hk => ?_⟩
  obtain ⟨e, he, hb, rfl⟩ := dirs_of hk
  have := (Array.all_eq_true_iff_forall_mem.1 h2.2) e (Array.mem_toList_iff.1 he)
  simpa [hb] using this

theorem ready_of {listed : Array Bool} {i : Nat} {o : Oper} (ho : ops[i]? = some o) (hl : listed.getD i true = false) (h : ∀ k ∈ dirs o, listed.getD k false = true) : i ∈ Region.ready .any ops listed := by
  unfold Region.ready
  refine List.mem_filter.2 ⟨List.mem_range.2 (Array.getElem?_eq_some_iff.1 ho).1, ?_⟩
  rw [ho]
  simp only [Option.map_some, Option.getD_some, Bool.and_eq_true, Bool.not_eq_true']
  refine ⟨hl, Array.all_eq_true_iff_forall_mem.2 fun e he => ?_⟩
  by_cases hb : Region.binds .any e = true
  · have := h e.on (List.mem_map.2 ⟨e, List.mem_filter.2 ⟨Array.mem_toList_iff.2 he, hb⟩, rfl⟩)
    simp [this]
  · simp only [Bool.not_eq_true] at hb
    simp [hb]


theorem frame_agree {p : Nat → Bool} {vs : Nat → Value} {i : Nat} {o : Oper} (h : okB ops A = true) (hc : Closed ops p) (ho : ops[i]? = some o) (hp : p i = false) (hdirs : ∀ k ∈ dirs o, p k = true) :
    ∀ t ∈ o.looksAt ops, (filF ops vs p a ops.size).tmps.getD t undef = (lexF ops vs a i).tmps.getD t undef := by
  intro t ht
  have hi : i < ops.size := (Array.getElem?_eq_some_iff.1 ho).1
  obtain ⟨_, ha, _, _, hl⟩ := okB_at h ho
  by_cases hex : ∃ j, j < ops.size ∧ j ≠ i ∧ dstOf ops j = some t
  · obtain ⟨j, hj, hne, hd⟩ := hex
    have hu : ∀ k, k < ops.size → dstOf ops k = some t → k = j := by
      intro k hk hkd
      by_cases hkj : k = j
      · exact hkj
      · have hoj : ops[j]? = some ops[j] := Array.getElem?_eq_getElem hj
        obtain ⟨_, _, _, hdist, _⟩ := okB_at h hoj
        have hdj : (ops[j]).dst = some t := by simpa [dstOf, hoj] using hd
        exact absurd hkd (hdist t hdj k hk hkj)
    have hord := hl t ht j hj hne hd
    by_cases hlt : j < i
    · rw [if_pos hlt] at hord
      have hpj : p j = true := by
        obtain ⟨_, k, hk, hk'⟩ := ha j hord
        have hpk := hdirs k hk
        rcases hk' with rfl | hk'
        · exact hpk
        · have hkn : k < ops.size := by
            by_cases hkn : k < ops.size
            · exact hkn
            · have := (okB_at h ho).1 k hk; omega
          exact closed_anc h hc (k + 1) k (by omega) ops[k] (Array.getElem?_eq_getElem hkn) hpk j hk'
      rw [filF_getD_hit t j hj hpj hd (fun k hk => hu k hk)]
      unfold lexF
      rw [filF_getD_hit t j hlt rfl hd (fun k hk => hu k (by omega))]
    · rw [if_neg hlt] at hord
      have hpj : p j = false := by
        cases hq : p j with
        | false => rfl
        | true =>
          have := closed_anc h hc (j + 1) j (by omega) ops[j] (Array.getElem?_eq_getElem hj) hq i hord
          rw [hp] at this; cases this
      rw [filF_getD_none t (fun k hk hpk hdk => by rw [hu k hk hdk, hpj] at hpk; cases hpk)]
      unfold lexF
      rw [filF_getD_none t (fun k hk _ hdk => by have := hu k (by omega) hdk; omega)]
  · have hno : ∀ k, k < ops.size → dstOf ops k = some t → k = i := fun k hk hd => Decidable.byContradiction fun hne => hex ⟨k, hk, hne, hd⟩
    rw [filF_getD_none t (fun k hk hpk hdk => by rw [hno k hk hdk, hp] at hpk; cases hpk)]
    unfold lexF
    rw [filF_getD_none t (fun k hk _ hdk => by have := hno k (by omega) hdk; omega)]

theorem eval_agree {p : Nat → Bool} {vs : Nat → Value} {i : Nat} {o : Oper} (h : okB ops A = true) (hc : Closed ops p) (ho : ops[i]? = some o) (hp : p i = false) (hdirs : ∀ k ∈ dirs o, p k = true) :
    execOp (filF ops vs p a ops.size).eval o = execOp (lexF ops vs a i).eval o ∧
    Region.wanted o (yielded ops (filF ops vs p a ops.size).tmps) = Region.wanted o (yielded ops (lexF ops vs a i).tmps) := by
  have hfa := frame_agree (a := a) (vs := vs) h hc ho hp hdirs
  refine ⟨execOp_congr o ?_ ?_, ?_⟩
  · intro cs b
    unfold okB at h
    simp only [Bool.and_eq_true] at h
    exact Region.noSelect_spec h.1.2 i o cs b ho
  · intro x hx
    cases x with
    | tmp t =>
      refine hfa t ?_
      unfold Oper.looksAt
      refine List.mem_append.2 (.inl (List.mem_filterMap.2 ⟨.tmp t, Array.mem_toList_iff.2 hx, rfl⟩))
    | _ => rfl
  · unfold Region.wanted
    cases hg : o.guard with
    | none => rfl
    | some gb =>
      obtain ⟨g, b⟩ := gb
      have hy : yielded ops (filF ops vs p a ops.size).tmps g = yielded ops (lexF ops vs a i).tmps g := by
        unfold yielded
        cases hd : (ops[g]?).bind (·.dst) with
        | none => rfl
        | some d =>
          have hm : d ∈ o.looksAt ops := by
            unfold Oper.looksAt
            refine List.mem_append.2 (.inr ?_)
            rw [hg]
            simp [hd]
          have h1 := hfa d hm
          have s1 : (filF ops vs p a ops.size).tmps.size = a.tmps.size := filF_size
          have s2 : (lexF ops vs a i).tmps.size = a.tmps.size := filF_size
          have e : (filF ops vs p a ops.size).tmps[d]? = (lexF ops vs a i).tmps[d]? := by
            by_cases hdl : d < a.tmps.size
            · simp only [Array.getD_eq_getD_getElem?] at h1
              rw [Array.getElem?_eq_getElem (by rw [s1]; exact hdl), Array.getElem?_eq_getElem (by rw [s2]; exact hdl)] at h1 ⊢
              simpa using h1
            · rw [Array.getElem?_eq_none_iff.2 (by rw [s1]; exact Nat.not_lt.1 hdl), Array.getElem?_eq_none_iff.2 (by rw [s2]; exact Nat.not_lt.1 hdl)]
          simp only [Option.bind_some, e]
      simp only [hy]

theorem countP_set (n i : Nat) (p : Nat → Bool) (hi : i < n) (hp : p i = false) :
    (List.range n).countP (fun k => !(p k || k == i)) + 1 = (List.range n).countP (fun k => !p k) := by
  induction n with
  | zero => omega
  | succ n ih =>
    rw [List.range_succ, List.countP_append, List.countP_append]
    by_cases hin : i = n
    · subst hin
      have e : (List.range i).countP (fun k => !(p k || k == i)) = (List.range i).countP (fun k => !p k) := by
        refine List.countP_congr fun k hk => ?_
        have := List.mem_range.1 hk
        have : (k == i) = false := by simp; omega
        rw [this, Bool.or_false]
      rw [e]
      simp [hp]
    · have := ih (by omega)
      have hne : (n == i) = false := by simp; omega
      simp only [List.countP_singleton, hne, Bool.or_false]
      omega

theorem all_listed {listed : Array Bool} (h : okB ops A = true) (hs : listed.size = ops.size) (hr : Region.ready .any ops listed = []) : ∀ n k, k < n → k < ops.size → listed.getD k false = true := by
  intro n
  induction n with
  | zero => intro k hk; omega
  | succ n ih =>
    intro k hk hks
    cases hq : listed.getD k false with
    | true => rfl
    | false =>
      have ho : ops[k]? = some ops[k] := Array.getElem?_eq_getElem hks
      obtain ⟨hd, _⟩ := okB_at h ho
      have hm : k ∈ Region.ready .any ops listed := by
        refine ready_of ho ?_ (fun j hj => ih j (by have := hd j hj; omega) (by have := hd j hj; omega))
        simp only [Array.getD_eq_getD_getElem?] at hq ⊢
        rw [Array.getElem?_eq_getElem (by omega)] at hq ⊢
        simpa using hq
      rw [hr] at hm
      cases hm

theorem main (h : okB ops A = true) (stab : ∀ i v w w', Rel w w' → getV V i v w → getV V i v w')
    (hst : Steps P C Rel V A ops a ops.toList 0)
    (fin : ∀ vs w, C w → Know V vs w (List.range ops.size) → Q .normal (lexF ops vs a ops.size) w) :
    ∀ (fuel : Nat) (listed : Array Bool) (vs : Nat → Value) (w : World), listed.size = ops.size → (List.range ops.size).countP (fun k => !listed.getD k false) ≤ fuel →
      Closed ops (fun k => listed.getD k false) → C w → (∀ j, j < ops.size → listed.getD j false = true → getV V j (vs j) w) →
      wpAny P .any ops Q fuel listed (filF ops vs (fun k => listed.getD k false) a ops.size) w := by
  have hdone : ∀ (listed : Array Bool) (vs : Nat → Value) (w : World), listed.size = ops.size → C w → (∀ j, j < ops.size → listed.getD j false = true → getV V j (vs j) w) →
      Region.ready .any ops listed = [] → Q .normal (filF ops vs (fun k => listed.getD k false) a ops.size) w := by
    intro listed vs w hs hC hV hr
    have hall := fun k hk => all_listed h hs hr (k + 1) k (by omega) hk
    have : filF ops vs (fun k => listed.getD k false) a ops.size = lexF ops vs a ops.size := filF_congr _ (fun j hj => hall j hj) (fun _ _ _ => rfl)
    rw [this]
    exact fin vs w hC fun j hj => hV j (List.mem_range.1 hj) (hall j (List.mem_range.1 hj))
  intro fuel
  induction fuel with
  | zero =>
    intro listed vs w hs hcnt hc hC hV
    have hz : (List.range ops.size).countP (fun k => !listed.getD k false) = 0 := by omega
    have hr : Region.ready .any ops listed = [] := by
      refine List.eq_nil_iff_forall_not_mem.2 fun i hi => ?_
      obtain ⟨o, ho, hl, _⟩ := ready_spec hi
      have hlt := (Array.getElem?_eq_some_iff.1 ho).1
      have := (List.countP_eq_zero.1 hz) i (List.mem_range.2 hlt)
      simp only [Array.getD_eq_getD_getElem?] at hl this
      rw [Array.getElem?_eq_getElem (by omega)] at hl this
      simp at hl this
      rw [hl] at this; cases this
    exact ⟨hr, hdone listed vs w hs hC hV hr⟩
  | succ fuel ih =>
    intro listed vs w hs hcnt hc hC hV
    refine ⟨hdone listed vs w hs hC hV, fun i hi => ?_⟩
    obtain ⟨o, ho, hl, hdirs⟩ := ready_spec hi
    have hlt := (Array.getElem?_eq_some_iff.1 ho).1
    have hp : listed.getD i false = false := by
      simp only [Array.getD_eq_getD_getElem?] at hl ⊢
      rw [Array.getElem?_eq_getElem (by omega)] at hl ⊢
      simpa using hl
    have hdst : dstOf ops i = o.dst := by simp [dstOf, ho]
    -- what follows, whatever op i yields
    have next : ∀ v w', C w' ∧ Rel w w' ∧ getV V i v w' →
        wpAny P .any ops Q fuel (listed.setIfInBounds i true) ((filF ops vs (fun k => listed.getD k false) a ops.size).put o.dst v) w' := by
      rintro v w' ⟨hC', hR, hv⟩
      have hpe : ∀ k, k < ops.size → (listed.setIfInBounds i true).getD k false = (listed.getD k false || k == i) := by
        intro k hk
        simp only [Array.getD_eq_getD_getElem?, Array.getElem?_setIfInBounds]
        by_cases hki : i = k
        · subst hki
          simp [hs, hk]
        · have : (k == i) = false := by simp; omega
          simp [hki, this]
      have hput : (filF ops vs (fun k => listed.getD k false) a ops.size).put o.dst v = filF ops (fun k => if k = i then v else vs k) (fun k => (listed.setIfInBounds i true).getD k false) a ops.size := by
        rw [← hdst, filF_put i v hlt hp (fun k hk hne d hd he => ?_)]
        · exact filF_congr _ (fun j hj => (hpe j hj).symm) (fun _ _ _ => rfl)
        · obtain ⟨_, _, _, hdist, _⟩ := okB_at h ho
          exact hdist d (by rw [← hdst]; exact hd) k hk hne he
      rw [hput]
      refine ih _ _ w' (by simp [hs]) ?_ ?_ hC' ?_
      · have e : (List.range ops.size).countP (fun k => !(listed.setIfInBounds i true).getD k false) = (List.range ops.size).countP (fun k => !(listed.getD k false || k == i)) :=
          List.countP_congr fun k hk => by rw [hpe k (List.mem_range.1 hk)]
        rw [e]
        have := countP_set ops.size i (fun k => listed.getD k false) hlt hp
        omega
      · intro j oj hoj hj k hk
        have hjn := (Array.getElem?_eq_some_iff.1 hoj).1
        have hkj := (okB_at h hoj).1 k hk
        simp only [hpe j hjn] at hj
        simp only [hpe k (by omega)]
        by_cases hji : j = i
        · subst hji
          rw [ho] at hoj
          cases hoj
          rw [hdirs k hk]; rfl
        · have e1 : (j == i) = false := by simp; omega
          rw [e1, Bool.or_false] at hj
          have := hc j oj hoj hj k hk
          simp only at this
          rw [this]; rfl
      · intro j hj hjl
        rw [hpe j hj] at hjl
        by_cases hji : j = i
        · subst hji
          simpa using hv
        · have e1 : (j == i) = false := by simp; omega
          rw [e1, Bool.or_false] at hjl
          simp only [if_neg hji]
          exact stab j _ w w' hR (hV j hj hjl)
    -- op i's own obligation
    have hkn : Know V vs w (A.getD i []) := by
      intro j hj
      obtain ⟨_, ha, _, _, _⟩ := okB_at h ho
      obtain ⟨hji, k, hk, hk'⟩ := ha j hj
      have hpk := hdirs k hk
      refine hV j (by omega) ?_
      rcases hk' with rfl | hk'
      · exact hpk
      · have hkn : k < ops.size := by have := (okB_at h ho).1 k hk; omega
        exact closed_anc h hc (k + 1) k (by omega) ops[k] (Array.getElem?_eq_getElem hkn) hpk j hk'
    have hob := steps_at ops.toList 0 hst i o (by simpa using ho) vs w hC (by rwa [Nat.zero_add])
    rw [Nat.zero_add] at hob
    obtain ⟨he, hw⟩ := eval_agree (a := a) (vs := vs) h hc ho hp hdirs
    unfold Opt at hob
    rw [← hw] at hob
    unfold wpOp
    simp only [ho]
    by_cases hwt : Region.wanted o (yielded ops (filF ops vs (fun k => listed.getD k false) a ops.size).tmps) = true
    · rw [if_pos hwt] at hob ⊢
      refine .inl ?_
      unfold OpY at hob
      rw [← he] at hob
      unfold Oper.wp
      generalize (execOp (filF ops vs (fun k => listed.getD k false) a ops.size).eval o).run P w = r at hob
      cases r with
      | ok nx w' =>
        cases nx with
        | value v => exact next v w' hob
        | skip => exact next undef w' hob
        | enter f args => exact Calls.mono hob (fun e w'' ⟨v, hv, hR⟩ => by subst hv; exact next v w'' hR)
        | _ => exact hob.elim
      | halt x w' => exact hob.elim
    · rw [if_neg hwt] at hob ⊢
      exact next undef w hob

/-- THE RULE -/
theorem wp_region_og {id : Nat} {w : World} (hm : P.follows .mixedOrders = true) (h : okB ops A = true) (hC : C w.drew)
    (stab : ∀ i v w w', Rel w w' → getV V i v w → getV V i v w')
    (hst : Steps P C Rel V A ops a ops.toList 0)
    (fin : ∀ vs w, C w → Know V vs w (List.range ops.size) → Q .normal (lexF ops vs a ops.size) w) : (Code.region id ops true).wp P Q a w := by
  refine wp_region_any hm ?_
  have e : a = filF ops (fun _ => undef) (fun k => (Array.replicate ops.size false).getD k false) a ops.size := by
    have : ∀ n, filF ops (fun _ => undef) (fun k => (Array.replicate ops.size false).getD k false) a n = a := by
      intro n
      induction n with
      | zero => rfl
      | succ n ih =>
        simp only [filF]
        rw [if_neg (by simp [Array.getD_eq_getD_getElem?, Array.getElem?_replicate]; split <;> simp), ih]
    exact (this _).symm
  have hfalse : ∀ k, (Array.replicate ops.size false).getD k false = false := by
    intro k
    simp only [Array.getD_eq_getD_getElem?, Array.getElem?_replicate]
    split <;> rfl
  have := main (Q := Q) h stab hst fin ops.size (Array.replicate ops.size false) (fun _ => undef) w.drew (by simp) (Nat.le_trans List.countP_le_length (by simp))
    (fun j o _ hj => by simp only [hfalse] at hj; cases hj) hC (fun j _ hj => by rw [hfalse] at hj; cases hj)
  rw [← e] at this
  exact this

/-- one fact more -/
def KS (i : Nat) (D : Value → World → Prop) (K : (Nat → Bool) → (Nat → Value) → World → Prop) : (Nat → Bool) → (Nat → Value) → World → Prop :=
  fun l vs w => (l i = true → D (vs i) w) ∧ K l vs w

def K0 : (Nat → Bool) → (Nat → Value) → World → Prop := fun _ _ _ => True

/-- the walk in the text's order: for each operation a fact of its value, proved out of the facts of those that must come ahead of it -/
def Walk (P : Program) (C : World → Prop) (Rel : World → World → Prop) (A : List (List Nat)) (ops : Array Oper) (Q : Act → World → Prop) :
    List Oper → Nat → ((Nat → Value) → Act) → ((Nat → Bool) → (Nat → Value) → World → Prop) → Prop
  | [], _, F, K => ∀ vs w, C w → K (fun _ => true) vs w → Q (F vs) w
  | o :: r, i, F, K => ∃ D : Value → World → Prop, (∀ v w w', Rel w w' → D v w → D v w') ∧
      (∀ vs w, C w → K (fun j => (A.getD i []).contains j) vs w → Opt P ops o (F vs) w (fun v w' => C w' ∧ Rel w w' ∧ D v w')) ∧
      Walk P C Rel A ops Q r (i + 1) (fun vs => (F vs).put o.dst (vs i)) (KS i D K)

theorem walk_sound {Q' : Act → World → Prop} : ∀ (l : List Oper) (i : Nat) (F : (Nat → Value) → Act) (K : (Nat → Bool) → (Nat → Value) → World → Prop) (V0 : Nat → Value → World → Prop),
    i ≤ ops.size → ops.toList.drop i = l → (∀ vs, F vs = lexF ops vs a i) → (∀ V vs w (l : Nat → Bool), (∀ j, j < i → V j = V0 j) → (∀ j, j < i → l j = true → getV V j (vs j) w) → K l vs w) → (∀ j v w w', j < i → Rel w w' → V0 j v w → V0 j v w') →
    Walk P C Rel A ops Q' l i F K → ∃ V : Nat → Value → World → Prop, (∀ j, j < i → V j = V0 j) ∧ (∀ j v w w', Rel w w' → V j v w → V j v w') ∧ Steps P C Rel V A ops a l i ∧
      (∀ vs w, C w → Know V vs w (List.range ops.size) → Q' (lexF ops vs a ops.size) w) := by
  intro l
  induction l with
  | nil =>
    intro i F K V0 hle hl hF hK hst hw
    have hi : ops.size ≤ i := by
      have := congrArg List.length hl
      simp at this
      omega
    refine ⟨fun j => if j < i then V0 j else fun _ _ => True, fun j hj => if_pos hj, ?_, trivial, ?_⟩
    · intro j v w w' hR
      by_cases hj : j < i
      · simp only [if_pos hj]; exact hst j v w w' hj hR
      · simp only [if_neg hj]; exact fun h => h
    · intro vs w hC hk
      have h1 := hw vs w hC (hK _ vs w _ (fun j hj => if_pos hj) (fun j hj _ => hk j (List.mem_range.2 (Nat.lt_of_lt_of_le hj (by omega)))))
      have h2 : F vs = lexF ops vs a ops.size := by
        rw [hF]
        have : ∀ n, ops.size ≤ n → lexF ops vs a n = lexF ops vs a ops.size := by
          intro n
          induction n with
          | zero => intro h; rw [show ops.size = 0 by omega]
          | succ n ih =>
            intro h
            by_cases he : ops.size = n + 1
            · rw [he]
            · rw [← ih (by omega)]
              show Act.put (lexF ops vs a n) (dstOf ops n) (vs n) = _
              have : dstOf ops n = none := by simp [dstOf, Array.getElem?_eq_none_iff.2 (show ops.size ≤ n by omega)]
              rw [this]; rfl
        exact this i hi
      rw [← h2]; exact h1
  | cons o r ih =>
    intro i F K V0 hle hl hF hK hst hw
    obtain ⟨D, hD, hop, hrest⟩ := hw
    have ho : ops[i]? = some o := by
      have h1 : (ops.toList.drop i)[0]? = some o := by rw [hl]; rfl
      simpa using h1
    have hdrop : ops.toList.drop (i + 1) = r := by
      have := congrArg List.tail hl
      simpa using this
    have hF' : ∀ vs, (F vs).put o.dst (vs i) = lexF ops vs a (i + 1) := by
      intro vs
      rw [hF]
      show _ = Act.put (lexF ops vs a i) (dstOf ops i) (vs i)
      simp [dstOf, ho]
    obtain ⟨V, hV, hVs, hs, hfin⟩ := ih (i + 1) _ _ (fun j => if j = i then D else V0 j) (by have := (Array.getElem?_eq_some_iff.1 ho).1; omega) hdrop hF' (by
      intro V vs w l hV hk
      refine ⟨fun hc => ?_, hK V vs w l (fun j hj => by rw [hV j (by omega), if_neg (by omega)]) (fun j hj hlj => hk j (by omega) hlj)⟩
      have := hk i (by omega) hc
      unfold getV at this
      rwa [hV i (by omega), if_pos rfl] at this) (by
      intro j v w w' hj hR
      by_cases hji : j = i
      · simp only [if_pos hji]; exact hD v w w' hR
      · simp only [if_neg hji]; exact hst j v w w' (by omega) hR) hrest
    refine ⟨V, fun j hj => by rw [hV j (by omega), if_neg (by omega)], hVs, ⟨fun vs w hC hk => ?_, hs⟩, hfin⟩
    have h1 := hop vs w hC (hK V vs w _ (fun j hj => by rw [hV j (by omega), if_neg (by omega)]) (fun j hj hlj => hk j (List.contains_iff_mem.1 hlj)))
    rw [hF] at h1
    have h2 : getV V i = D := by
      unfold getV
      rw [hV i (by omega), if_pos rfl]
    rw [h2]
    exact h1

/-- THE RULE, AS A WALK -/
theorem wp_region_walk {id : Nat} {w : World} (A : List (List Nat)) (C : World → Prop) (Rel : World → World → Prop) (hm : P.follows .mixedOrders = true) (h : okB ops A = true) (hC : C w.drew)
    (hw : Walk P C Rel A ops (Q .normal) ops.toList 0 (fun _ => a) K0) : (Code.region id ops true).wp P Q a w := by
  obtain ⟨V, _, hV, hs, hfin⟩ := walk_sound (a := a) ops.toList 0 (fun _ => a) K0 (fun _ _ _ => True) (Nat.zero_le _) rfl (fun _ => rfl) (fun _ _ _ _ _ _ => trivial) (fun _ _ _ _ _ _ h => h) hw
  exact wp_region_og hm h hC hV hs hfin

theorem walk_lit {id : Nat} {w : World} {l : List Oper} (A : List (List Nat)) (C : World → Prop) (Rel : World → World → Prop) (hm : P.follows .mixedOrders = true) (h : okB l.toArray A = true) (hC : C w.drew)
    (hw : Walk P C Rel A l.toArray (Q .normal) l 0 (fun _ => a) K0) : (Code.region id l.toArray true).wp P Q a w :=
  wp_region_walk A C Rel hm h hC (by simpa using hw)

section
variable {Q : Act → World → Prop} {o : Oper} {r : List Oper} {i : Nat} {F : (Nat → Value) → Act} {K : (Nat → Bool) → (Nat → Value) → World → Prop}

/-- an operation that leaves the world alone and yields one value in all worlds of the class -/
theorem step_pure (hr : ∀ w, Rel w w) (h : ∃ x, (∀ vs w, C w → K (fun j => (A.getD i []).contains j) vs w → Opt P ops o (F vs) w (fun v w' => w' = w ∧ v = x)) ∧ Walk P C Rel A ops Q r (i + 1) (fun vs => (F vs).put o.dst (vs i)) (KS i (Is x) K)) :
    Walk P C Rel A ops Q (o :: r) i F K := by
  obtain ⟨x, h1, h2⟩ := h
  refine ⟨Is x, fun _ _ _ _ h => h, fun vs w hC hk => ?_, h2⟩
  have := h1 vs w hC hk
  unfold Opt at this ⊢
  split
  · rename_i hw
    rw [if_pos hw] at this
    unfold OpY at this ⊢
    generalize (execOp (F vs).eval o).run P w = res at this
    cases res with
    | ok nx w' =>
      cases nx with
      | value v => obtain ⟨rfl, rfl⟩ := this; exact ⟨hC, hr _, rfl⟩
      | skip => obtain ⟨rfl, hu⟩ := this; exact ⟨hC, hr _, hu⟩
      | enter f args => exact Calls.mono this (fun e w'' ⟨v, he, hw', hv⟩ => ⟨v, he, by rw [hw']; exact hC, by rw [hw']; exact hr _, hv⟩)
      | _ => exact this.elim
    | halt x w' => exact this.elim
  · rename_i hw
    rw [if_neg hw] at this
    obtain ⟨_, hu⟩ := this
    exact ⟨hC, hr _, hu⟩

/-- an operation that moves the world on and yields one value in all worlds of the class -/
theorem step_one (h : ∃ x, (∀ vs w, C w → K (fun j => (A.getD i []).contains j) vs w → Opt P ops o (F vs) w (fun v w' => C w' ∧ Rel w w' ∧ v = x)) ∧ Walk P C Rel A ops Q r (i + 1) (fun vs => (F vs).put o.dst (vs i)) (KS i (Is x) K)) :
    Walk P C Rel A ops Q (o :: r) i F K := by
  obtain ⟨x, h1, h2⟩ := h
  exact ⟨Is x, fun _ _ _ _ h => h, h1, h2⟩

theorem step_any (D : Value → World → Prop) (hD : ∀ v w w', Rel w w' → D v w → D v w') (h1 : ∀ vs w, C w → K (fun j => (A.getD i []).contains j) vs w → Opt P ops o (F vs) w (fun v w' => C w' ∧ Rel w w' ∧ D v w'))
    (h2 : Walk P C Rel A ops Q r (i + 1) (fun vs => (F vs).put o.dst (vs i)) (KS i D K)) : Walk P C Rel A ops Q (o :: r) i F K := ⟨D, hD, h1, h2⟩
end
end
end Og
end Go
namespace Go
namespace Og
namespace Two
def preC (m : Nat) (C0 C1 : World → Prop) (i : Nat) : World → Prop := if i ≤ m then C0 else C1
/-- behind m the world stays -/
def relC (m : Nat) (Rel : World → World → Prop) (i : Nat) (w w' : World) : Prop := if i ≤ m then Rel w w' else w' = w
def postC (m : Nat) (C0 C1 : World → Prop) (i : Nat) : World → Prop := if i < m then C0 else C1
/-- all ahead of m are its ancestors, and m is one of all behind it -/
def midB (ops : Array Oper) (A : List (List Nat)) (m : Nat) : Bool :=
  decide (m < ops.size) && (List.range ops.size).all fun i => if i < m then (A.getD m []).contains i else (i == m || (A.getD i []).contains m)

def Steps (P : Program) (m : Nat) (C0 C1 : World → Prop) (Rel : World → World → Prop) (V : Nat → Value → World → Prop) (A : List (List Nat)) (ops : Array Oper) (a : Act) : List Oper → Nat → Prop
  | [], _ => True
  | o :: r, i => (∀ vs w, preC m C0 C1 i w → Know V vs w (A.getD i []) → Opt P ops o (lexF ops vs a i) w (fun v w' => postC m C0 C1 i w' ∧ relC m Rel i w w' ∧ getV V i v w')) ∧ Steps P m C0 C1 Rel V A ops a r (i + 1)

section
variable {P : Program} {ops : Array Oper} {Q : Exit → Act → World → Prop} {m : Nat} {C0 C1 : World → Prop} {Rel : World → World → Prop} {V : Nat → Value → World → Prop} {A : List (List Nat)} {a : Act}

theorem steps_at : ∀ (l : List Oper) (k : Nat), Steps P m C0 C1 Rel V A ops a l k → ∀ (i : Nat) (o : Oper), l[i]? = some o → ∀ vs w, preC m C0 C1 (k + i) w → Know V vs w (A.getD (k + i) []) →
    Opt P ops o (lexF ops vs a (k + i)) w (fun v w' => postC m C0 C1 (k + i) w' ∧ relC m Rel (k + i) w w' ∧ getV V (k + i) v w')
  | [], _, _, i, o, h => by simp at h
  | o :: r, k, hs, 0, o', h => by
    simp only [List.getElem?_cons_zero, Option.some.injEq] at h
    subst h
    exact hs.1
  | o :: r, k, hs, i + 1, o', h => by
    have := steps_at r (k + 1) hs.2 i o' (by simpa using h)
    rwa [show k + 1 + i = k + (i + 1) by omega] at this

theorem midB_at (h : midB ops A m = true) : m < ops.size ∧ (∀ i, i < m → i ∈ A.getD m []) ∧ (∀ i, m < i → i < ops.size → m ∈ A.getD i []) := by
  unfold midB at h
  simp only [Bool.and_eq_true, decide_eq_true_eq] at h
  refine ⟨h.1, fun i hi => ?_, fun i hi hs => ?_⟩
  · have := List.all_eq_true.1 h.2 i (List.mem_range.2 (by omega))
    rw [if_pos hi] at this
    exact List.contains_iff_mem.1 this
  · have := List.all_eq_true.1 h.2 i (List.mem_range.2 hs)
    rw [if_neg (by omega)] at this
    have e : (i == m) = false := by simp; omega
    rw [e, Bool.false_or] at this
    exact List.contains_iff_mem.1 this
def curC (C0 C1 : World → Prop) (b : Bool) : World → Prop := if b then C1 else C0

theorem main (h : okB ops A = true) (hmid : midB ops A m = true) (stab : ∀ i v w w', i < m → Rel w w' → getV V i v w → getV V i v w')
    (hst : Steps P m C0 C1 Rel V A ops a ops.toList 0)
    (fin : ∀ vs w, C1 w → Know V vs w (List.range ops.size) → Q .normal (lexF ops vs a ops.size) w) :
    ∀ (fuel : Nat) (listed : Array Bool) (vs : Nat → Value) (w : World), listed.size = ops.size → (List.range ops.size).countP (fun k => !listed.getD k false) ≤ fuel →
      Closed ops (fun k => listed.getD k false) → curC C0 C1 (listed.getD m false) w → (∀ j, j < ops.size → listed.getD j false = true → getV V j (vs j) w) →
      wpAny P .any ops Q fuel listed (filF ops vs (fun k => listed.getD k false) a ops.size) w := by
  have hdone : ∀ (listed : Array Bool) (vs : Nat → Value) (w : World), listed.size = ops.size → curC C0 C1 (listed.getD m false) w → (∀ j, j < ops.size → listed.getD j false = true → getV V j (vs j) w) →
      Region.ready .any ops listed = [] → Q .normal (filF ops vs (fun k => listed.getD k false) a ops.size) w := by
    intro listed vs w hs hC hV hr
    have hall := fun k hk => all_listed h hs hr (k + 1) k (by omega) hk
    have : filF ops vs (fun k => listed.getD k false) a ops.size = lexF ops vs a ops.size := filF_congr _ (fun j hj => hall j hj) (fun _ _ _ => rfl)
    rw [this]
    rw [hall m (midB_at hmid).1] at hC
    exact fin vs w hC fun j hj => hV j (List.mem_range.1 hj) (hall j (List.mem_range.1 hj))
  intro fuel
  induction fuel with
  | zero =>
    intro listed vs w hs hcnt hc hC hV
    have hz : (List.range ops.size).countP (fun k => !listed.getD k false) = 0 := by omega
    have hr : Region.ready .any ops listed = [] := by
      refine List.eq_nil_iff_forall_not_mem.2 fun i hi => ?_
      obtain ⟨o, ho, hl, _⟩ := ready_spec hi
      have hlt := (Array.getElem?_eq_some_iff.1 ho).1
      have := (List.countP_eq_zero.1 hz) i (List.mem_range.2 hlt)
      simp only [Array.getD_eq_getD_getElem?] at hl this
      rw [Array.getElem?_eq_getElem (by omega)] at hl this
      simp at hl this
      rw [hl] at this; cases this
    exact ⟨hr, hdone listed vs w hs hC hV hr⟩
  | succ fuel ih =>
    intro listed vs w hs hcnt hc hC hV
    refine ⟨hdone listed vs w hs hC hV, fun i hi => ?_⟩
    obtain ⟨o, ho, hl, hdirs⟩ := ready_spec hi
    have hlt := (Array.getElem?_eq_some_iff.1 ho).1
    have hp : listed.getD i false = false := by
      simp only [Array.getD_eq_getD_getElem?] at hl ⊢
      rw [Array.getElem?_eq_getElem (by omega)] at hl ⊢
      simpa using hl
    have hdst : dstOf ops i = o.dst := by simp [dstOf, ho]
    have hpre : preC m C0 C1 i w := by
      obtain ⟨h1, h2, h3⟩ := midB_at hmid
      unfold preC
      by_cases him : i ≤ m
      · rw [if_pos him]
        have : listed.getD m false = false := by
          by_cases hie : i = m
          · rw [← hie]; exact hp
          · cases hq : listed.getD m false with
            | false => rfl
            | true =>
              have := closed_anc h hc (m + 1) m (by omega) ops[m] (Array.getElem?_eq_getElem h1) hq i (h2 i (by omega))
              rw [hp] at this; cases this
        rw [this] at hC
        exact hC
      · rw [if_neg him]
        have : listed.getD m false = true := by
          obtain ⟨_, k, hk, hk'⟩ := (okB_at h ho).2.1 m (h3 i (by omega) hlt)
          have hpk := hdirs k hk
          rcases hk' with rfl | hk'
          · exact hpk
          · have hkn : k < ops.size := by have := (okB_at h ho).1 k hk; omega
            exact closed_anc h hc (k + 1) k (by omega) ops[k] (Array.getElem?_eq_getElem hkn) hpk m hk'
        rw [this] at hC
        exact hC
    have hpost : ∀ w', postC m C0 C1 i w' → (listed.setIfInBounds i true).getD m false = (listed.getD m false || m == i) → curC C0 C1 ((listed.setIfInBounds i true).getD m false) w' := by
      intro w' hw e
      rw [e]
      unfold postC at hw
      by_cases him : i < m
      · rw [if_pos him] at hw
        have h1 : listed.getD m false = false := by
          cases hq : listed.getD m false with
          | false => rfl
          | true =>
            obtain ⟨h1, h2, h3⟩ := midB_at hmid
            have := closed_anc h hc (m + 1) m (by omega) ops[m] (Array.getElem?_eq_getElem h1) hq i (h2 i him)
            rw [hp] at this; cases this
        have h2 : (m == i) = false := by simp; omega
        rw [h1, h2]; exact hw
      · rw [if_neg him] at hw
        by_cases hie : i = m
        · subst hie; simpa [curC] using hw
        · have h1 : listed.getD m false = true := by
            obtain ⟨_, _, h3⟩ := midB_at hmid
            obtain ⟨_, k, hk, hk'⟩ := (okB_at h ho).2.1 m (h3 i (by omega) hlt)
            have hpk := hdirs k hk
            rcases hk' with rfl | hk'
            · exact hpk
            · have hkn : k < ops.size := by have := (okB_at h ho).1 k hk; omega
              exact closed_anc h hc (k + 1) k (by omega) ops[k] (Array.getElem?_eq_getElem hkn) hpk m hk'
          rw [h1]; exact hw
    -- what follows, whatever op i yields
    have next : ∀ v w', postC m C0 C1 i w' ∧ relC m Rel i w w' ∧ getV V i v w' →
        wpAny P .any ops Q fuel (listed.setIfInBounds i true) ((filF ops vs (fun k => listed.getD k false) a ops.size).put o.dst v) w' := by
      rintro v w' ⟨hC', hR, hv⟩
      have hpe : ∀ k, k < ops.size → (listed.setIfInBounds i true).getD k false = (listed.getD k false || k == i) := by
        intro k hk
        simp only [Array.getD_eq_getD_getElem?, Array.getElem?_setIfInBounds]
        by_cases hki : i = k
        · subst hki
          simp [hs, hk]
        · have : (k == i) = false := by simp; omega
          simp [hki, this]
      have hput : (filF ops vs (fun k => listed.getD k false) a ops.size).put o.dst v = filF ops (fun k => if k = i then v else vs k) (fun k => (listed.setIfInBounds i true).getD k false) a ops.size := by
        rw [← hdst, filF_put i v hlt hp (fun k hk hne d hd he => ?_)]
        · exact filF_congr _ (fun j hj => (hpe j hj).symm) (fun _ _ _ => rfl)
        · obtain ⟨_, _, _, hdist, _⟩ := okB_at h ho
          exact hdist d (by rw [← hdst]; exact hd) k hk hne he
      rw [hput]
      refine ih _ _ w' (by simp [hs]) ?_ ?_ (hpost w' hC' (hpe m (midB_at hmid).1)) ?_
      · have e : (List.range ops.size).countP (fun k => !(listed.setIfInBounds i true).getD k false) = (List.range ops.size).countP (fun k => !(listed.getD k false || k == i)) :=
          List.countP_congr fun k hk => by rw [hpe k (List.mem_range.1 hk)]
        rw [e]
        have := countP_set ops.size i (fun k => listed.getD k false) hlt hp
        omega
      · intro j oj hoj hj k hk
        have hjn := (Array.getElem?_eq_some_iff.1 hoj).1
        have hkj := (okB_at h hoj).1 k hk
        simp only [hpe j hjn] at hj
        simp only [hpe k (by omega)]
        by_cases hji : j = i
        · subst hji
          rw [ho] at hoj
          cases hoj
          rw [hdirs k hk]; rfl
        · have e1 : (j == i) = false := by simp; omega
          rw [e1, Bool.or_false] at hj
          have := hc j oj hoj hj k hk
          simp only at this
          rw [this]; rfl
      · intro j hj hjl
        rw [hpe j hj] at hjl
        by_cases hji : j = i
        · subst hji
          simpa using hv
        · have e1 : (j == i) = false := by simp; omega
          rw [e1, Bool.or_false] at hjl
          simp only [if_neg hji]
          by_cases him : i ≤ m
          · unfold relC at hR
            rw [if_pos him] at hR
            refine stab j _ w w' ?_ hR (hV j hj hjl)
            obtain ⟨g1, g2, g3⟩ := midB_at hmid
            have hml : listed.getD m false = false := by
              unfold preC at hpre
              by_cases hie : i = m
              · rw [← hie]; exact hp
              · cases hq : listed.getD m false with
                | false => rfl
                | true =>
                  have := closed_anc h hc (m + 1) m (by omega) ops[m] (Array.getElem?_eq_getElem g1) hq i (g2 i (by omega))
                  rw [hp] at this; cases this
            by_cases hjm : j < m
            · exact hjm
            · exfalso
              by_cases hje : j = m
              · rw [hje, hml] at hjl; cases hjl
              · have := closed_anc h hc (j + 1) j (by omega) ops[j] (Array.getElem?_eq_getElem hj) hjl m (g3 j (by omega) hj)
                rw [hml] at this; cases this
          · unfold relC at hR
            rw [if_neg him] at hR
            rw [hR]
            exact hV j hj hjl
    -- op i's own obligation
    have hkn : Know V vs w (A.getD i []) := by
      intro j hj
      obtain ⟨_, ha, _, _, _⟩ := okB_at h ho
      obtain ⟨hji, k, hk, hk'⟩ := ha j hj
      have hpk := hdirs k hk
      refine hV j (by omega) ?_
      rcases hk' with rfl | hk'
      · exact hpk
      · have hkn : k < ops.size := by have := (okB_at h ho).1 k hk; omega
        exact closed_anc h hc (k + 1) k (by omega) ops[k] (Array.getElem?_eq_getElem hkn) hpk j hk'
    have hob := steps_at ops.toList 0 hst i o (by simpa using ho) vs w (by rwa [Nat.zero_add]) (by rwa [Nat.zero_add])
    rw [Nat.zero_add] at hob
    obtain ⟨he, hw⟩ := eval_agree (a := a) (vs := vs) h hc ho hp hdirs
    unfold Opt at hob
    rw [← hw] at hob
    unfold wpOp
    simp only [ho]
    by_cases hwt : Region.wanted o (yielded ops (filF ops vs (fun k => listed.getD k false) a ops.size).tmps) = true
    · rw [if_pos hwt] at hob ⊢
      refine .inl ?_
      unfold OpY at hob
      rw [← he] at hob
      unfold Oper.wp
      generalize (execOp (filF ops vs (fun k => listed.getD k false) a ops.size).eval o).run P w = r at hob
      cases r with
      | ok nx w' =>
        cases nx with
        | value v => exact next v w' hob
        | skip => exact next undef w' hob
        | enter f args => exact Calls.mono hob (fun e w'' ⟨v, hv, hR⟩ => by subst hv; exact next v w'' hR)
        | _ => exact hob.elim
      | halt x w' => exact hob.elim
    · rw [if_neg hwt] at hob ⊢
      exact next undef w hob

/-- THE RULE -/
theorem wp_region_og {id : Nat} {w : World} (hm : P.follows .mixedOrders = true) (h : okB ops A = true) (hmid : midB ops A m = true) (hC : C0 w.drew)
    (stab : ∀ i v w w', i < m → Rel w w' → getV V i v w → getV V i v w')
    (hst : Steps P m C0 C1 Rel V A ops a ops.toList 0)
    (fin : ∀ vs w, C1 w → Know V vs w (List.range ops.size) → Q .normal (lexF ops vs a ops.size) w) : (Code.region id ops true).wp P Q a w := by
  refine wp_region_any hm ?_
  have e : a = filF ops (fun _ => undef) (fun k => (Array.replicate ops.size false).getD k false) a ops.size := by
    have : ∀ n, filF ops (fun _ => undef) (fun k => (Array.replicate ops.size false).getD k false) a n = a := by
      intro n
      induction n with
      | zero => rfl
      | succ n ih =>
        simp only [filF]
        rw [if_neg (by simp [Array.getD_eq_getD_getElem?, Array.getElem?_replicate]; split <;> simp), ih]
    exact (this _).symm
  have hfalse : ∀ k, (Array.replicate ops.size false).getD k false = false := by
    intro k
    simp only [Array.getD_eq_getD_getElem?, Array.getElem?_replicate]
    split <;> rfl
  have := main (Q := Q) h hmid stab hst fin ops.size (Array.replicate ops.size false) (fun _ => undef) w.drew (by simp) (Nat.le_trans List.countP_le_length (by simp))
    (fun j o _ hj => by simp only [hfalse] at hj; cases hj) (by rw [hfalse]; exact hC) (fun j _ hj => by rw [hfalse] at hj; cases hj)
  rw [← e] at this
  exact this

/-- the walk in the text's order -/
def Walk (P : Program) (m : Nat) (C0 C1 : World → Prop) (Rel : World → World → Prop) (A : List (List Nat)) (ops : Array Oper) (Q : Act → World → Prop) :
    List Oper → Nat → ((Nat → Value) → Act) → ((Nat → Bool) → (Nat → Value) → World → Prop) → Prop
  | [], _, F, K => ∀ vs w, C1 w → K (fun _ => true) vs w → Q (F vs) w
  | o :: r, i, F, K => ∃ D : Value → World → Prop, (i < m → ∀ v w w', Rel w w' → D v w → D v w') ∧
      (∀ vs w, preC m C0 C1 i w → K (fun j => (A.getD i []).contains j) vs w → Opt P ops o (F vs) w (fun v w' => postC m C0 C1 i w' ∧ relC m Rel i w w' ∧ D v w')) ∧
      Walk P m C0 C1 Rel A ops Q r (i + 1) (fun vs => (F vs).put o.dst (vs i)) (KS i D K)

theorem walk_sound {Q' : Act → World → Prop} : ∀ (l : List Oper) (i : Nat) (F : (Nat → Value) → Act) (K : (Nat → Bool) → (Nat → Value) → World → Prop) (V0 : Nat → Value → World → Prop),
    i ≤ ops.size → ops.toList.drop i = l → (∀ vs, F vs = lexF ops vs a i) → (∀ V vs w (l : Nat → Bool), (∀ j, j < i → V j = V0 j) → (∀ j, j < i → l j = true → getV V j (vs j) w) → K l vs w) → (∀ j v w w', j < i → j < m → Rel w w' → V0 j v w → V0 j v w') →
    Walk P m C0 C1 Rel A ops Q' l i F K → ∃ V : Nat → Value → World → Prop, (∀ j, j < i → V j = V0 j) ∧ (∀ j v w w', j < m → Rel w w' → V j v w → V j v w') ∧ Steps P m C0 C1 Rel V A ops a l i ∧
      (∀ vs w, C1 w → Know V vs w (List.range ops.size) → Q' (lexF ops vs a ops.size) w) := by
  intro l
  induction l with
  | nil =>
    intro i F K V0 hle hl hF hK hst hw
    have hi : ops.size ≤ i := by
      have := congrArg List.length hl
      simp at this
      omega
    refine ⟨fun j => if j < i then V0 j else fun _ _ => True, fun j hj => if_pos hj, ?_, trivial, ?_⟩
    · intro j v w w' hjm hR
      by_cases hj : j < i
      · simp only [if_pos hj]; exact hst j v w w' hj hjm hR
      · simp only [if_neg hj]; exact fun h => h
    · intro vs w hC hk
      have h1 := hw vs w hC (hK _ vs w _ (fun j hj => if_pos hj) (fun j hj _ => hk j (List.mem_range.2 (Nat.lt_of_lt_of_le hj (by omega)))))
      have h2 : F vs = lexF ops vs a ops.size := by
        rw [hF]
        have : ∀ n, ops.size ≤ n → lexF ops vs a n = lexF ops vs a ops.size := by
          intro n
          induction n with
          | zero => intro h; rw [show ops.size = 0 by omega]
          | succ n ih =>
            intro h
            by_cases he : ops.size = n + 1
            · rw [he]
            · rw [← ih (by omega)]
              show Act.put (lexF ops vs a n) (dstOf ops n) (vs n) = _
              have : dstOf ops n = none := by simp [dstOf, Array.getElem?_eq_none_iff.2 (show ops.size ≤ n by omega)]
              rw [this]; rfl
        exact this i hi
      rw [← h2]; exact h1
  | cons o r ih =>
    intro i F K V0 hle hl hF hK hst hw
    obtain ⟨D, hD, hop, hrest⟩ := hw
    have ho : ops[i]? = some o := by
      have h1 : (ops.toList.drop i)[0]? = some o := by rw [hl]; rfl
      simpa using h1
    have hdrop : ops.toList.drop (i + 1) = r := by
      have := congrArg List.tail hl
      simpa using this
    have hF' : ∀ vs, (F vs).put o.dst (vs i) = lexF ops vs a (i + 1) := by
      intro vs
      rw [hF]
      show _ = Act.put (lexF ops vs a i) (dstOf ops i) (vs i)
      simp [dstOf, ho]
    obtain ⟨V, hV, hVs, hs, hfin⟩ := ih (i + 1) _ _ (fun j => if j = i then D else V0 j) (by have := (Array.getElem?_eq_some_iff.1 ho).1; omega) hdrop hF' (by
      intro V vs w l hV hk
      refine ⟨fun hc => ?_, hK V vs w l (fun j hj => by rw [hV j (by omega), if_neg (by omega)]) (fun j hj hlj => hk j (by omega) hlj)⟩
      have := hk i (by omega) hc
      unfold getV at this
      rwa [hV i (by omega), if_pos rfl] at this) (by
      intro j v w w' hj hjm hR
      by_cases hji : j = i
      · simp only [if_pos hji]; exact hD (by omega) v w w' hR
      · simp only [if_neg hji]; exact hst j v w w' (by omega) hjm hR) hrest
    refine ⟨V, fun j hj => by rw [hV j (by omega), if_neg (by omega)], hVs, ⟨fun vs w hC hk => ?_, hs⟩, hfin⟩
    have h1 := hop vs w hC (hK V vs w _ (fun j hj => by rw [hV j (by omega), if_neg (by omega)]) (fun j hj hlj => hk j (List.contains_iff_mem.1 hlj)))
    rw [hF] at h1
    have h2 : getV V i = D := by
      unfold getV
      rw [hV i (by omega), if_pos rfl]
    rw [h2]
    exact h1


theorem walk_lit {id : Nat} {w : World} {l : List Oper} (m : Nat) (A : List (List Nat)) (C0 C1 : World → Prop) (Rel : World → World → Prop) (hm : P.follows .mixedOrders = true) (h : okB l.toArray A = true) (hmid : midB l.toArray A m = true) (hC : C0 w.drew)
    (hw : Walk P m C0 C1 Rel A l.toArray (Q .normal) l 0 (fun _ => a) K0) : (Code.region id l.toArray true).wp P Q a w := by
  obtain ⟨V, _, hV, hs, hfin⟩ := walk_sound (a := a) l 0 (fun _ => a) K0 (fun _ _ _ => True) (Nat.zero_le _) rfl (fun _ => rfl) (fun _ _ _ _ _ _ => trivial) (fun _ _ _ _ _ _ _ h => h) hw
  exact wp_region_og hm h hmid hC hV (by simpa using hs) hfin

section
variable {Q : Act → World → Prop} {o : Oper} {r : List Oper} {i : Nat} {F : (Nat → Value) → Act} {K : (Nat → Bool) → (Nat → Value) → World → Prop}
/-- an operation that leaves the world alone -/
theorem step_pure' {C : World → Prop} (hp : preC m C0 C1 i = C) (hq : postC m C0 C1 i = C) (hr : ∀ w, relC m Rel i w w) (h : ∃ x, (∀ vs w, C w → K (fun j => (A.getD i []).contains j) vs w → Opt P ops o (F vs) w (fun v w' => w' = w ∧ v = x)) ∧ Walk P m C0 C1 Rel A ops Q r (i + 1) (fun vs => (F vs).put o.dst (vs i)) (KS i (Is x) K)) :
    Walk P m C0 C1 Rel A ops Q (o :: r) i F K := by
  obtain ⟨x, h1, h2⟩ := h
  refine ⟨Is x, fun _ _ _ _ _ h => h, fun vs w hC hk => ?_, h2⟩
  rw [hp] at hC
  rw [hq]
  have := h1 vs w hC hk
  unfold Opt at this ⊢
  split
  · rename_i hw
    rw [if_pos hw] at this
    unfold OpY at this ⊢
    generalize (execOp (F vs).eval o).run P w = res at this
    cases res with
    | ok nx w' =>
      cases nx with
      | value v => obtain ⟨rfl, rfl⟩ := this; exact ⟨hC, hr _, rfl⟩
      | skip => obtain ⟨rfl, hu⟩ := this; exact ⟨hC, hr _, hu⟩
      | enter f args => exact Calls.mono this (fun e w'' ⟨v, he, hw', hv⟩ => ⟨v, he, by rw [hw']; exact hC, by rw [hw']; exact hr _, hv⟩)
      | _ => exact this.elim
    | halt x w' => exact this.elim
  · rename_i hw
    rw [if_neg hw] at this
    obtain ⟨_, hu⟩ := this
    exact ⟨hC, hr _, hu⟩
theorem step_pure (hi : decide (i < m) = true) (hr : ∀ w, Rel w w) (h : ∃ x, (∀ vs w, C0 w → K (fun j => (A.getD i []).contains j) vs w → Opt P ops o (F vs) w (fun v w' => w' = w ∧ v = x)) ∧ Walk P m C0 C1 Rel A ops Q r (i + 1) (fun vs => (F vs).put o.dst (vs i)) (KS i (Is x) K)) :
    Walk P m C0 C1 Rel A ops Q (o :: r) i F K :=
  step_pure' (C := C0) (by have := of_decide_eq_true hi; unfold preC; rw [if_pos (by omega)]) (by have := of_decide_eq_true hi; unfold postC; rw [if_pos this]) (fun w => by have := of_decide_eq_true hi; unfold relC; rw [if_pos (by omega)]; exact hr w) h
theorem step_pure_hi (hi : decide (m < i) = true) (h : ∃ x, (∀ vs w, C1 w → K (fun j => (A.getD i []).contains j) vs w → Opt P ops o (F vs) w (fun v w' => w' = w ∧ v = x)) ∧ Walk P m C0 C1 Rel A ops Q r (i + 1) (fun vs => (F vs).put o.dst (vs i)) (KS i (Is x) K)) :
    Walk P m C0 C1 Rel A ops Q (o :: r) i F K :=
  step_pure' (C := C1) (by have := of_decide_eq_true hi; unfold preC; rw [if_neg (by omega)]) (by have := of_decide_eq_true hi; unfold postC; rw [if_neg (by omega)]) (fun w => by have := of_decide_eq_true hi; unfold relC; rw [if_neg (by omega)]) h
theorem step_one (hi : decide (i < m) = true) (h : ∃ x, (∀ vs w, C0 w → K (fun j => (A.getD i []).contains j) vs w → Opt P ops o (F vs) w (fun v w' => C0 w' ∧ Rel w w' ∧ v = x)) ∧ Walk P m C0 C1 Rel A ops Q r (i + 1) (fun vs => (F vs).put o.dst (vs i)) (KS i (Is x) K)) :
    Walk P m C0 C1 Rel A ops Q (o :: r) i F K := by
  obtain ⟨x, h1, h2⟩ := h
  have hi := of_decide_eq_true hi
  refine ⟨Is x, fun _ _ _ _ _ h => h, ?_, h2⟩
  unfold preC postC relC
  simp only [if_pos (Nat.le_of_lt hi), if_pos hi]
  exact h1
theorem step_any (hi : decide (i < m) = true) (D : Value → World → Prop) (hD : ∀ v w w', Rel w w' → D v w → D v w') (h1 : ∀ vs w, C0 w → K (fun j => (A.getD i []).contains j) vs w → Opt P ops o (F vs) w (fun v w' => C0 w' ∧ Rel w w' ∧ D v w'))
    (h2 : Walk P m C0 C1 Rel A ops Q r (i + 1) (fun vs => (F vs).put o.dst (vs i)) (KS i D K)) : Walk P m C0 C1 Rel A ops Q (o :: r) i F K := by
  have hi := of_decide_eq_true hi
  refine ⟨D, fun _ => hD, ?_, h2⟩
  unfold preC postC relC
  simp only [if_pos (Nat.le_of_lt hi), if_pos hi]
  exact h1
theorem step_any_hi (hi : decide (m < i) = true) (D : Value → World → Prop) (h1 : ∀ vs w, C1 w → K (fun j => (A.getD i []).contains j) vs w → Opt P ops o (F vs) w (fun v w' => w' = w ∧ D v w))
    (h2 : Walk P m C0 C1 Rel A ops Q r (i + 1) (fun vs => (F vs).put o.dst (vs i)) (KS i D K)) : Walk P m C0 C1 Rel A ops Q (o :: r) i F K := by
  have hi := of_decide_eq_true hi
  refine ⟨D, fun hh => absurd hh (by omega), fun vs w hC hk => ?_, h2⟩
  unfold preC at hC
  rw [if_neg (by omega)] at hC
  unfold postC relC
  simp only [if_neg (show ¬ i ≤ m by omega), if_neg (show ¬ i < m by omega)]
  have := h1 vs w hC hk
  unfold Opt at this ⊢
  split
  · rename_i hw
    rw [if_pos hw] at this
    unfold OpY at this ⊢
    generalize (execOp (F vs).eval o).run P w = res at this
    cases res with
    | ok nx w' =>
      cases nx with
      | value v => obtain ⟨rfl, hu⟩ := this; exact ⟨hC, rfl, hu⟩
      | skip => obtain ⟨rfl, hu⟩ := this; exact ⟨hC, rfl, hu⟩
      | enter f args => exact Calls.mono this (fun e w'' ⟨v, he, hw', hv⟩ => ⟨v, he, by rw [hw']; exact ⟨hC, rfl, hv⟩⟩)
      | _ => exact this.elim
    | halt x w' => exact this.elim
  · rename_i hw
    rw [if_neg hw] at this
    obtain ⟨_, hu⟩ := this
    exact ⟨hC, rfl, hu⟩
/-- the operation in the middle -/
theorem step_mid (hi : i = m) (D : Value → World → Prop) (h1 : ∀ vs w, C0 w → K (fun j => (A.getD i []).contains j) vs w → Opt P ops o (F vs) w (fun v w' => C1 w' ∧ Rel w w' ∧ D v w'))
    (h2 : Walk P m C0 C1 Rel A ops Q r (i + 1) (fun vs => (F vs).put o.dst (vs i)) (KS i D K)) : Walk P m C0 C1 Rel A ops Q (o :: r) i F K := by
  subst hi
  refine ⟨D, fun hh => absurd hh (Nat.lt_irrefl _), ?_, h2⟩
  unfold preC postC relC
  simp only [if_pos (Nat.le_refl _), if_neg (Nat.lt_irrefl _)]
  exact h1
end
end
end Two
end Og
end Go
namespace Go
namespace Og
/-- the operations of region n -/
def findReg (n : Nat) : Code → Option (Array Oper)
  | .region i ops _ => if i == n then some ops else none
  | .seq a b => match findReg n a with
    | some x => some x
    | none => findReg n b
  | .cond _ a b => match findReg n a with
    | some x => some x
    | none => findReg n b
  | .block _ c => findReg n c
  | .loop c => findReg n c
  | .scope c => findReg n c
  | .rangeFunc _ _ a b => match findReg n a with
    | some x => some x
    | none => findReg n b
  | _ => none
def regOf (f : Func) (n : Nat) : Array Oper := match f.body with
  | some c => (findReg n c).getD #[]
  | none => #[]
theorem okB_of {ops ops' : Array Oper} {A : List (List Nat)} (h : okB ops' A = true) (e : ops' = ops) : okB ops A = true := e ▸ h
/-- 'Opt' behind a name into which nothing looks -/
structure OptB (P : Program) (ops : Array Oper) (o : Oper) (a : Act) (w : World) (R : Value → World → Prop) : Prop where
  out : Opt P ops o a w R
theorem step_pureB {P : Program} {C : World → Prop} {Rel : World → World → Prop} {A : List (List Nat)} {ops : Array Oper} {Q : Act → World → Prop} {o : Oper} {r : List Oper} {i : Nat} {F : (Nat → Value) → Act} {K : (Nat → Bool) → (Nat → Value) → World → Prop} (hr : ∀ w, Rel w w)
    (h : ∃ x, (∀ vs w, C w → K (fun j => (A.getD i []).contains j) vs w → OptB P ops o (F vs) w (fun v w' => w' = w ∧ v = x)) ∧ Walk P C Rel A ops Q r (i + 1) (fun vs => (F vs).put o.dst (vs i)) (KS i (Is x) K)) : Walk P C Rel A ops Q (o :: r) i F K := by
  obtain ⟨x, h1, h2⟩ := h
  exact step_pure hr ⟨x, fun vs w hC hk => (h1 vs w hC hk).out, h2⟩
theorem step_anyB {P : Program} {C : World → Prop} {Rel : World → World → Prop} {A : List (List Nat)} {ops : Array Oper} {Q : Act → World → Prop} {o : Oper} {r : List Oper} {i : Nat} {F : (Nat → Value) → Act} {K : (Nat → Bool) → (Nat → Value) → World → Prop} (D : Value → World → Prop) (hD : ∀ v w w', Rel w w' → D v w → D v w')
    (h1 : ∀ vs w, C w → K (fun j => (A.getD i []).contains j) vs w → OptB P ops o (F vs) w (fun v w' => C w' ∧ Rel w w' ∧ D v w'))
    (h2 : Walk P C Rel A ops Q r (i + 1) (fun vs => (F vs).put o.dst (vs i)) (KS i D K)) : Walk P C Rel A ops Q (o :: r) i F K :=
  step_any D hD (fun vs w hC hk => (h1 vs w hC hk).out) h2
namespace Two
theorem step_pureB {P : Program} {m : Nat} {C0 C1 : World → Prop} {Rel : World → World → Prop} {A : List (List Nat)} {ops : Array Oper} {Q : Act → World → Prop} {o : Oper} {r : List Oper} {i : Nat} {F : (Nat → Value) → Act} {K : (Nat → Bool) → (Nat → Value) → World → Prop} (hi : decide (i < m) = true) (hr : ∀ w, Rel w w)
    (h : ∃ x, (∀ vs w, C0 w → K (fun j => (A.getD i []).contains j) vs w → OptB P ops o (F vs) w (fun v w' => w' = w ∧ v = x)) ∧ Walk P m C0 C1 Rel A ops Q r (i + 1) (fun vs => (F vs).put o.dst (vs i)) (KS i (Is x) K)) : Walk P m C0 C1 Rel A ops Q (o :: r) i F K := by
  obtain ⟨x, h1, h2⟩ := h
  exact step_pure hi hr ⟨x, fun vs w hC hk => (h1 vs w hC hk).out, h2⟩
theorem step_midB {P : Program} {m : Nat} {C0 C1 : World → Prop} {Rel : World → World → Prop} {A : List (List Nat)} {ops : Array Oper} {Q : Act → World → Prop} {o : Oper} {r : List Oper} {i : Nat} {F : (Nat → Value) → Act} {K : (Nat → Bool) → (Nat → Value) → World → Prop} (hi : i = m) (D : Value → World → Prop)
    (h1 : ∀ vs w, C0 w → K (fun j => (A.getD i []).contains j) vs w → OptB P ops o (F vs) w (fun v w' => C1 w' ∧ Rel w w' ∧ D v w'))
    (h2 : Walk P m C0 C1 Rel A ops Q r (i + 1) (fun vs => (F vs).put o.dst (vs i)) (KS i D K)) : Walk P m C0 C1 Rel A ops Q (o :: r) i F K :=
  step_mid hi D (fun vs w hC hk => (h1 vs w hC hk).out) h2
end Two
end Og
end Go
