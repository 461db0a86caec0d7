/- A region of a function by its number, so that its form is checked once; no condition. -/
import Derived.Test.YtpklcefiabjplaaOg2
namespace Go
namespace Og
/-- the operations of region n -/
def findReg (n : Nat) : Code → Option (Array Oper)
  | .region i ops _ => if i == n then some ops else none
  | .seq a b => match findReg n a with
    | some x => some x
    | none => findReg n b
  | .cond _ a b => match findReg n a with
    | some x => some x
    | none => findReg n b
  | .block _ c => findReg n c
  | .loop c => findReg n c
  | .scope c => findReg n c
  | .rangeFunc _ _ a b => match findReg n a with
    | some x => some x
    | none => findReg n b
  | _ => none
def regOf (f : Func) (n : Nat) : Array Oper := match f.body with
  | some c => (findReg n c).getD #[]
  | none => #[]
theorem okB_of {ops ops' : Array Oper} {A : List (List Nat)} (h : okB ops' A = true) (e : ops' = ops) : okB ops A = true := e ▸ h
/-- 'Opt' behind a name into which nothing looks -/
structure OptB (P : Program) (ops : Array Oper) (o : Oper) (a : Act) (w : World) (R : Value → World → Prop) : Prop where
  out : Opt P ops o a w R
theorem step_pureB {P : Program} {C : World → Prop} {Rel : World → World → Prop} {A : List (List Nat)} {ops : Array Oper} {Q : Act → World → Prop} {o : Oper} {r : List Oper} {i : Nat} {F : (Nat → Value) → Act} {K : (Nat → Bool) → (Nat → Value) → World → Prop} (hr : ∀ w, Rel w w)
    (h : ∃ x, (∀ vs w, C w → K (fun j => (A.getD i []).contains j) vs w → OptB P ops o (F vs) w (fun v w' => w' = w ∧ v = x)) ∧ Walk P C Rel A ops Q r (i + 1) (fun vs => (F vs).put o.dst (vs i)) (KS i (Is x) K)) : Walk P C Rel A ops Q (o :: r) i F K := by
  obtain ⟨x, h1, h2⟩ := h
  exact step_pure hr ⟨x, fun vs w hC hk => (h1 vs w hC hk).out, h2⟩
theorem step_anyB {P : Program} {C : World → Prop} {Rel : World → World → Prop} {A : List (List Nat)} {ops : Array Oper} {Q : Act → World → Prop} {o : Oper} {r : List Oper} {i : Nat} {F : (Nat → Value) → Act} {K : (Nat → Bool) → (Nat → Value) → World → Prop} (D : Value → World → Prop) (hD : ∀ v w w', Rel w w' → D v w → D v w')
    (h1 : ∀ vs w, C w → K (fun j => (A.getD i []).contains j) vs w → OptB P ops o (F vs) w (fun v w' => C w' ∧ Rel w w' ∧ D v w'))
    (h2 : Walk P C Rel A ops Q r (i + 1) (fun vs => (F vs).put o.dst (vs i)) (KS i D K)) : Walk P C Rel A ops Q (o :: r) i F K :=
  step_any D hD (fun vs w hC hk => (h1 vs w hC hk).out) h2
namespace Two
theorem step_pureB {P : Program} {m : Nat} {C0 C1 : World → Prop} {Rel : World → World → Prop} {A : List (List Nat)} {ops : Array Oper} {Q : Act → World → Prop} {o : Oper} {r : List Oper} {i : Nat} {F : (Nat → Value) → Act} {K : (Nat → Bool) → (Nat → Value) → World → Prop} (hi : decide (i < m) = true) (hr : ∀ w, Rel w w)
    (h : ∃ x, (∀ vs w, C0 w → K (fun j => (A.getD i []).contains j) vs w → OptB P ops o (F vs) w (fun v w' => w' = w ∧ v = x)) ∧ Walk P m C0 C1 Rel A ops Q r (i + 1) (fun vs => (F vs).put o.dst (vs i)) (KS i (Is x) K)) : Walk P m C0 C1 Rel A ops Q (o :: r) i F K := by
  obtain ⟨x, h1, h2⟩ := h
  exact step_pure hi hr ⟨x, fun vs w hC hk => (h1 vs w hC hk).out, h2⟩
theorem step_midB {P : Program} {m : Nat} {C0 C1 : World → Prop} {Rel : World → World → Prop} {A : List (List Nat)} {ops : Array Oper} {Q : Act → World → Prop} {o : Oper} {r : List Oper} {i : Nat} {F : (Nat → Value) → Act} {K : (Nat → Bool) → (Nat → Value) → World → Prop} (hi : i = m) (D : Value → World → Prop)
    (h1 : ∀ vs w, C0 w → K (fun j => (A.getD i []).contains j) vs w → OptB P ops o (F vs) w (fun v w' => C1 w' ∧ Rel w w' ∧ D v w'))
    (h2 : Walk P m C0 C1 Rel A ops Q r (i + 1) (fun vs => (F vs).put o.dst (vs i)) (KS i D K)) : Walk P m C0 C1 Rel A ops Q (o :: r) i F K :=
  step_mid hi D (fun vs w hC hk => (h1 vs w hC hk).out) h2
end Two
end Og
end Go
