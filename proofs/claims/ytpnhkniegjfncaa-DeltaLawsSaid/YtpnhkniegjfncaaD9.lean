/- slices.Clone of routes, and delta.All's first part; conditions: the routes fit the memory. -/
import Derived.Test.YtpnhkniegjfncaaD7
import Derived.Lib.SliceRun
namespace Go.Proofs.Ytpnhkniegjfncaa
open Go.ChangeShapes Go.WideShapes Go.ChangeAt Go.RowKit
set_option linter.unusedVariables false
set_option linter.unusedSimpArgs false
attribute [local go_sem] Og.Opt Og.OpY

theorem RdR_none {w : World} {xs : List Ro} (h : RdR w none xs) : xs = [] := by
  cases xs with
  | nil => rfl
  | cons r xs => obtain ⟨b, o, hA, _⟩ := h 0 r rfl; cases hA

set_option maxRecDepth 100000 in
set_option maxHeartbeats 2000000 in
theorem Clone_ok (xs : List Ro) (A : Option Addr) (c : Nat) (w : World) (hr : RdR w A xs) (hA0 : A = none → c = 0) (hl : xs.length ≤ 2513169434843) :
    Calls Try.prog 24 #[.slice A xs.length c] w fun e w' => (∃ v, e = .returned v ∧ SlR w.heap.size w' v xs) ∧ Below w.heap.size w w' := by
  cases A with
  | none =>
    obtain rfl := RdR_none hr
    obtain rfl := hA0 rfl
    have q22 : ∀ (w : World) (a : Option Addr) (n c : Nat), (binOp .eql 22 (.slice a n c) (.slice none 0 0)).run Try.prog w = .ok (.bool a.isNone) w := fun w a n c => Lib.run_eql_slice_nil w _ _ a n c 0 0 Try.underlying22
    go_enter Try.func24, Try.ntmps24
    go_wp2_with fail
    go_ret
    exact ⟨⟨_, rfl, none, 0, rfl, fun i r hi => by simp at hi, fun _ => rfl, fun a ha => (by cases ha), by simp⟩, Below.refl _ _⟩
  | some ad =>
    obtain ⟨n, hn⟩ : ∃ n, n = xs.length := ⟨_, rfl⟩
    rw [← hn]
    have HN := Lib.hid hn
    have HR := Lib.hid hr
    have HL := Lib.hid hl
    clear hr hn hl
    have q22 : ∀ (w : World) (a : Option Addr) (n c : Nat), (binOp .eql 22 (.slice a n c) (.slice none 0 0)).run Try.prog w = .ok (.bool a.isNone) w := fun w a n c => Lib.run_eql_slice_nil w _ _ a n c 0 0 Try.underlying22
    go_enter Try.func24, Try.ntmps24
    go_wp2_with (at_builtin; refine wpList_spreadR rfl (.tmp 5) (.tmp 6) 22 rfl Try.underlying22 info40 w.heap.size (.slice (some ⟨w.heap.size, 0, none⟩) 0 0) rfl (fresh_row w 40 7 w.heap.size (Nat.le_refl _)) (by simp) (by simp) xs HL.out (some ad) c (by rw [← HN.out]; rfl) (HR.out.below ((Below.refl _ _).alloc (Nat.le_refl _) _)) (fun h => by cases h) ?_; intro v' w' hown hv hgrow)
    go_ret
    exact ⟨⟨_, rfl, SlR_of_row hown rfl⟩, ((Below.refl _ _).alloc (Nat.le_refl _) _).grown hgrow (by simp) (fun j hj => by simp [Value.ownBlock] at hj; omega)⟩

end Go.Proofs.Ytpnhkniegjfncaa
