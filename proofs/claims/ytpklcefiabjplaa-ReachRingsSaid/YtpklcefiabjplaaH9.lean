/- A search's answer; no condition. -/
import Derived.Test.YtpklcefiabjplaaG6
namespace Go.Proofs.Ytpklcefiabjplaa
open Go.ChangeShapes Go.WideShapes Go.ChangeAt Go.RowKit
set_option linter.unusedVariables false
set_option linter.unusedSimpArgs false
attribute [local go_sem] Og.Opt Og.OpY

/-- a search's answer -/
structure At {α : Type} (c : α → Int) (xs : List α) (k : Nat) (b : Bool) : Prop where
  mo : Mono c xs
  cu : Cut c xs k
  hi : hitE c xs k = b
theorem cut_unique {α : Type} {c : α → Int} {xs : List α} {k k' : Nat} (h : Cut c xs k) (h' : Cut c xs k') : k = k' := by
  have key : ∀ a b : Nat, Cut c xs a → Cut c xs b → ¬ a < b := fun a b ha hb hlt => by
    obtain ⟨x, hx⟩ : ∃ x, xs[a]? = some x := ⟨_, List.getElem?_eq_getElem (Nat.lt_of_lt_of_le hlt hb.1)⟩
    have h1 := hb.2.1 a x hx hlt
    have h2 := ha.2.2 a x hx (Nat.le_refl _)
    omega
  exact Nat.le_antisymm (Nat.not_lt.1 (key _ _ h' h)) (Nat.not_lt.1 (key _ _ h h'))
theorem At.all_lt {α : Type} {c : α → Int} {xs : List α} (h : ∀ (i : Nat) x, xs[i]? = some x → c x < 0) : At c xs xs.length false where
  mo := fun i j x y hx _ _ _ => h i x hx
  cu := ⟨Nat.le_refl _, fun i x hx _ => h i x hx, fun i x hx hi => absurd (List.getElem?_eq_some_iff.1 hx).1 (by omega)⟩
  hi := by simp [hitE]
theorem At.all_ge {α : Type} {c : α → Int} {xs : List α} {b : Bool} (h : ∀ (i : Nat) x, xs[i]? = some x → 0 ≤ c x) (hb : hitE c xs 0 = b) : At c xs 0 b where
  mo := fun i j x y _ hy _ hn => absurd (h j y hy) (by omega)
  cu := ⟨Nat.zero_le _, fun i x _ hi => absurd hi (Nat.not_lt_zero _), fun i x hx _ => h i x hx⟩
  hi := hb
theorem node_lt {ns : List Nd} (h : ∀ (i : Nat) x y, ns[i]? = some x → ns[i + 1]? = some y → x.i < y.i) : ∀ (d i : Nat) x y, ns[i]? = some x → ns[i + d + 1]? = some y → x.i < y.i := by
  intro d
  induction d with
  | zero => intro i x y hx hy; exact h i x y hx hy
  | succ d ih =>
    intro i x y hx hy
    obtain ⟨z, hz⟩ : ∃ z, ns[i + d + 1]? = some z := ⟨_, List.getElem?_eq_getElem (by have := (List.getElem?_eq_some_iff.1 hy).1; omega)⟩
    have h1 := ih i x z hx hz
    have h2 := h (i + d + 1) z y hz hy
    omega
theorem sg_lt {a b : Int} : sg a b < 0 ↔ a < b := by unfold sg; split <;> (try split) <;> constructor <;> intro h <;> omega
theorem sg_ge {a b : Int} : 0 ≤ sg a b ↔ b ≤ a := by unfold sg; split <;> (try split) <;> constructor <;> intro h <;> omega
theorem At.node {ns : List Nd} (h : ∀ (i : Nat) x y, ns[i]? = some x → ns[i + 1]? = some y → x.i < y.i) {k : Nat} {a : Int} (hk : ns[k]? = some ⟨a⟩) : At (fun y : Nd => sg y.i a) ns k true where
  mo := fun i j x y hx hy hij hn => by
    obtain ⟨d, rfl⟩ : ∃ d, j = i + d + 1 := ⟨j - i - 1, by omega⟩
    have := node_lt h d i x y hx hy
    rw [sg_lt] at hn ⊢
    omega
  cu := ⟨Nat.le_of_lt (List.getElem?_eq_some_iff.1 hk).1, fun i x hx hi => by
      obtain ⟨d, rfl⟩ : ∃ d, k = i + d + 1 := ⟨k - i - 1, by omega⟩
      exact sg_lt.2 (node_lt h d i x _ hx hk), fun i x hx hi => by
      refine sg_ge.2 ?_
      rcases Nat.lt_or_eq_of_le hi with h1 | rfl
      · obtain ⟨d, rfl⟩ : ∃ d, i = k + d + 1 := ⟨i - k - 1, by omega⟩
        exact Int.le_of_lt (node_lt h d k _ x hk hx)
      · rw [hk] at hx; cases hx; exact Int.le_refl _⟩
  hi := by simp [hitE, hk, sg]


end Go.Proofs.Ytpklcefiabjplaa
