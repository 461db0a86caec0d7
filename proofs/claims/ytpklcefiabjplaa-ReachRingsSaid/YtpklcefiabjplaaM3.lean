/- Rings: the models run by the kernel for each size; plain; conditions as stated. -/
import Derived.Test.YtpklcefiabjplaaM2
import Derived.KernelRfl
namespace Go.Proofs.Ytpklcefiabjplaa
open Go.ChangeShapes Go.WideShapes Go.ChangeAt Go.RowKit
set_option linter.unusedVariables false
def chB {α : Type} (r : α → α → Bool) : List α → Bool
  | x :: y :: xs => r x y && chB r (y :: xs)
  | _ => true
theorem chB_at {α : Type} {r : α → α → Bool} : ∀ (xs : List α), chB r xs = true → ∀ (i : Nat) x y, xs[i]? = some x → xs[i + 1]? = some y → r x y = true
  | [], _, i, x, y, h, _ => by simp at h
  | [a], _, i, x, y, _, h => by simp at h
  | a :: b :: xs, h, 0, x, y, hx, hy => by
    simp only [chB, Bool.and_eq_true] at h
    simp at hx hy
    subst hx hy
    exact h.1
  | a :: b :: xs, h, i + 1, x, y, hx, hy => by
    simp only [chB, Bool.and_eq_true] at h
    exact chB_at (b :: xs) h.2 i x y (by simpa using hx) (by simpa using hy)
def sndC (ns : List Nd) (ls : List Lk) : Bool :=
  ns.all (fun x => rng 0 127 x.i) && chB (fun x y => decide (x.i < y.i)) ns && decide (ls.length ≤ 2048) &&
  ls.all (fun x => ns.any (fun n => decide (n.i = x.f)) && ns.any (fun n => decide (n.i = x.t)) && !decide (x.f = x.t) && rng 1 65535 x.c && rng 0 65535 x.d) && chB (fun x y => decide (cmpL x y < 0)) ls
theorem sndC_ok {ns : List Nd} {ls : List Lk} (h : sndC ns ls = true) : SndG ns ls [] := by
  unfold sndC at h
  simp only [Bool.and_eq_true, decide_eq_true_eq] at h
  obtain ⟨⟨⟨⟨h1, h2⟩, h3⟩, h4⟩, h5⟩ := h
  refine ⟨fun i x hx => List.all_eq_true.1 h1 x (List.mem_of_getElem? hx), fun i x y hx hy => by simpa using chB_at ns h2 i x y hx hy, h3, fun i x hx => ?_, fun i x y hx hy => by simpa using chB_at ls h5 i x y hx hy, by simp, fun i x hx => by simp at hx, fun i x y hx => by simp at hx⟩
  have := List.all_eq_true.1 h4 x (List.mem_of_getElem? hx)
  simp only [Bool.and_eq_true, Bool.not_eq_true', decide_eq_false_iff_not, List.any_eq_true, decide_eq_true_eq] at this
  obtain ⟨⟨⟨⟨a, b⟩, c⟩, d⟩, e⟩ := this
  exact ⟨a, b, c, d, e⟩

def dU (n r : Nat) : List Int := (List.range 128).map fun x => if 1 ≤ x ∧ x ≤ n then ((min (if x ≤ r then r - x else x - r) (n - (if x ≤ r then r - x else x - r)) : Nat) : Int) else 1073741824
theorem dU_fn {n : Nat} (hn : n ≤ 22) (r : Nat) : ∀ x ∈ dU n r, fnB 900 x := by
  intro x hx
  unfold dU at hx
  obtain ⟨i, -, rfl⟩ := List.mem_map.1 hx
  split
  · refine .inr ⟨Int.natCast_nonneg _, ?_⟩
    have : min (if i ≤ r then r - i else i - r) (n - (if i ≤ r then r - i else i - r)) ≤ 900 := by omega
    exact Int.ofNat_le.2 this
  · exact .inl rfl
def frN {β : Type} (n : Nat) (k : Nat → β) : β := match n with | 0 => k 0 | m + 1 => k (Nat.succ m)
def frI {β : Type} (x : Int) (k : Int → β) : β := match x with | .ofNat n => frN n fun m => k (.ofNat m) | .negSucc n => frN n fun m => k (.negSucc m)
def frL {β : Type} : List Int → (List Int → β) → β
  | [], k => k []
  | x :: xs, k => frI x fun y => frL xs fun ys => k (y :: ys)
theorem frN_eq {β : Type} (n : Nat) (k : Nat → β) : frN n k = k n := by cases n <;> rfl
theorem frI_eq {β : Type} (x : Int) (k : Int → β) : frI x k = k x := by
  cases x with
  | ofNat n => exact frN_eq n fun m => k (.ofNat m)
  | negSucc n => exact frN_eq n fun m => k (.negSucc m)
theorem frL_eq {β : Type} : ∀ (xs : List Int) (k : List Int → β), frL xs k = k xs
  | [], k => rfl
  | x :: xs, k => by rw [frL, frI_eq, frL_eq xs]
def itF (ls : List Lk) : Nat → List Int → List Int
  | 0, d => d
  | k + 1, d => frL (roundR ls d) (itF ls k)
theorem itR_front (ls : List Lk) : ∀ (k : Nat) (d : List Int), itR ls d (k + 1) = itR ls (roundR ls d) k
  | 0, d => rfl
  | k + 1, d => by rw [itR, itR_front ls k d, itR]
theorem itF_eq (ls : List Lk) : ∀ (k : Nat) (d : List Int), itF ls k d = itR ls d k
  | 0, d => rfl
  | k + 1, d => by rw [itF, frL_eq, itF_eq ls k, itR_front]
/-- takes, run -/
def tkv (par : List Nat) (x f t : Nat) : Option Bool := match closeR par 40 (ofM [x]) with
  | some S => if S < 340282366920938463463374607431768211456 then some (S.testBit t && (par.getD t 0).testBit f) else none
  | none => none
theorem tkv_ok {par : List Nat} {x f t : Nat} (h : (tkv par x f t).isSome = true) : TkR par x f t ((tkv par x f t).getD false) := by
  unfold tkv at h ⊢
  cases hc : closeR par 40 (ofM [x]) with
  | none => rw [hc] at h; cases h
  | some S =>
    rw [hc] at h
    simp only [] at h ⊢
    split at h
    · rename_i hS
      rw [if_pos hS]
      exact ⟨40, S, hc, hS, rfl⟩
    · cases h
def XR (n : Nat) : Nat := if n % 2 = 1 then 2 ^ ((n + 3) / 2) else 0
def tkA (n x : Nat) : Bool := (tkv (parsR (dU n 1) 1 (lsR n 1) 128) x 1 2).getD false
def tkB (n r : Nat) : Bool := (tkv (parsR (dU n r) r (lsR n 1) 128) 2 1 2).getD false
def okA (n : Nat) : Bool := sndC (nsR n) (lsR n 1) && decide (n * (lsR n 1).length ≤ 2000) && (match (lsR n 1)[0]? with | some l => decide (l.f = 1) && decide (l.t = 2) && decide (l.d = 0) | none => false) && (lsR n 1).all fun x => decide (0 ≤ cmpL x ⟨1, 2, 0, 0⟩)
def okT (n : Nat) : Bool := (List.range n).all fun i => treeU (viewL (lsR n 1)) ((i + 1 : Nat) : Int) == some (dU n (i + 1))
def okD (n : Nat) : Bool := (List.range n).all fun i => itF (lsR n 1) n (startR (i + 1)) == dU n (i + 1)
def okR (n : Nat) : Bool := relayS (dU n) 1 1 2 (nsR n) == (loM (XR n), hiM (XR n))
def okK (n : Nat) : Bool := (List.range 128).all (fun x => !decide ((dU n 1).getD x 0 < 1073741824) || (tkv (parsR (dU n 1) 1 (lsR n 1) 128) x 1 2).isSome) && (List.range n).all fun i => (tkv (parsR (dU n (i + 1)) (i + 1) (lsR n 1) 128) 2 1 2).isSome
def okF (n : Nat) : Bool := ofM (relR 1 (ofM (lkP (nearR (dU n 1) (tkA n)) 128)) (ofM (farL (fun r => decide ((dU n r).getD 2 0 < 1073741824) && !tkB n r) (nsR n)))) == XR n
def okN (n : Nat) : Bool := okA n && okT n && okD n && okR n && okK n && okF n
set_option maxRecDepth 1000000
theorem rg3 : okN 3 = true := by kernel_rfl
theorem rg4 : okN 4 = true := by kernel_rfl
theorem rg5 : okN 5 = true := by kernel_rfl
theorem rg6 : okN 6 = true := by kernel_rfl
theorem rg7 : okN 7 = true := by kernel_rfl
theorem rg8 : okN 8 = true := by kernel_rfl
theorem rg9 : okN 9 = true := by kernel_rfl
theorem rg10 : okN 10 = true := by kernel_rfl
theorem rg11 : okN 11 = true := by kernel_rfl
theorem rg12 : okN 12 = true := by kernel_rfl
theorem rg13 : okN 13 = true := by kernel_rfl
theorem rg14 : okN 14 = true := by kernel_rfl
theorem rg15 : okN 15 = true := by kernel_rfl
theorem rg16 : okN 16 = true := by kernel_rfl
theorem rg17 : okN 17 = true := by kernel_rfl
theorem rg18 : okN 18 = true := by kernel_rfl
theorem rg19 : okN 19 = true := by kernel_rfl
theorem rg20 : okN 20 = true := by kernel_rfl
theorem rg21 : okN 21 = true := by kernel_rfl
theorem rg22 : okN 22 = true := by kernel_rfl
theorem okN_all {n : Nat} (h3 : 3 ≤ n) (h22 : n ≤ 22) : okN n = true := by
  have : n = 3 ∨ n = 4 ∨ n = 5 ∨ n = 6 ∨ n = 7 ∨ n = 8 ∨ n = 9 ∨ n = 10 ∨ n = 11 ∨ n = 12 ∨ n = 13 ∨ n = 14 ∨ n = 15 ∨ n = 16 ∨ n = 17 ∨ n = 18 ∨ n = 19 ∨ n = 20 ∨ n = 21 ∨ n = 22 := by omega
  rcases this with rfl | rfl | rfl | rfl | rfl | rfl | rfl | rfl | rfl | rfl | rfl | rfl | rfl | rfl | rfl | rfl | rfl | rfl | rfl | rfl
  · exact rg3
  · exact rg4
  · exact rg5
  · exact rg6
  · exact rg7
  · exact rg8
  · exact rg9
  · exact rg10
  · exact rg11
  · exact rg12
  · exact rg13
  · exact rg14
  · exact rg15
  · exact rg16
  · exact rg17
  · exact rg18
  · exact rg19
  · exact rg20
  · exact rg21
  · exact rg22
end Go.Proofs.Ytpklcefiabjplaa
