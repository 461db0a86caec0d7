/- The data of the Delta laws (prefixes, routes, changes) and small lemmas on worlds; no condition. -/
import Derived.Test.YtpnhkniegjfncaaRows
import Derived.Test.YtpnhkniegjfncaaOg
import Derived.WalkKit
import Derived.ProofKit
import Derived.OpenShut
import Derived.WalkLawsBesides
import Derived.Lib.Hide
namespace Go.Proofs.Ytpnhkniegjfncaa
open Go.ChangeShapes Go.WideShapes Go.ChangeAt Go.RowKit
set_option linter.unusedVariables false

structure Pf where
  a : Int
  l : Int
deriving DecidableEq
structure Ro where
  p : Pf
  m : Int
  o0 : Int
  o1 : Int
  h0 : Int
  h1 : Int
deriving DecidableEq
structure Ch where
  k : Int
  o : Ro
  n : Ro
deriving DecidableEq

theorem bthen {W w2 w3 : World} (h : Below W.heap.size W w2) (k : Below w2.heap.size w2 w3) : Below W.heap.size W w3 :=
  h.trans ⟨k.os, k.tape, k.output, k.size, fun i hi => k.block i (Nat.lt_of_lt_of_le hi h.size)⟩
/-- the same from below another mark -/
theorem bthen' {w W w2 : World} {B : Nat} (h : Below B w W) (hB : B ≤ W.heap.size) (k : Below W.heap.size W w2) : Below B w w2 :=
  h.trans ⟨k.os, k.tape, k.output, k.size, fun i hi => k.block i (Nat.lt_of_lt_of_le hi hB)⟩
theorem bdrew {w : World} : Below w.heap.size w w.drew := ⟨rfl, rfl, rfl, Nat.le_refl _, fun _ _ => rfl⟩
theorem bdrew' {w : World} {B : Nat} : Below B w w.drew := ⟨rfl, rfl, rfl, Nat.le_refl _, fun _ _ => rfl⟩
theorem bcell {W w2 : World} (h : Below W.heap.size W w2) {a : Addr} {v : Value} (hc : W.cell? a = some v) : w2.cell? a = some v :=
  (h.cell (World.block_lt_of_cell? W a hc)).trans hc

/-- the sign of a comparison -/
def sg (a b : Int) : Int := if a < b then -1 else if b < a then 1 else 0
def orz (a b : Int) : Int := if a ≠ 0 then a else b
/-- the order of prefixes -/
def cmpP (p q : Pf) : Int := orz (sg p.a q.a) (sg p.l q.l)
def befP (p q : Pf) : Bool := decide (p.a < q.a) || (decide (p.a = q.a) && decide (p.l < q.l))
theorem cmpP_neg (p q : Pf) : decide (cmpP p q < 0) = befP p q := by
  unfold cmpP orz sg befP
  by_cases h1 : p.a < q.a
  · simp [h1]
  · by_cases h2 : q.a < p.a
    · have h3 : ¬ p.a = q.a := by omega
      simp [h1, h2, h3]
    · have h3 : p.a = q.a := by omega
      by_cases h4 : p.l < q.l
      · simp [h3, h4]
      · by_cases h5 : q.l < p.l <;> simp [h3, h4, h5]

end Go.Proofs.Ytpnhkniegjfncaa
