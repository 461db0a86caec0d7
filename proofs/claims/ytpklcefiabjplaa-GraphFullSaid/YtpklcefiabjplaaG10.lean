/- The awake of the full graph's law. -/
import Derived.Test.YtpklcefiabjplaaG9
namespace Go.Proofs.Ytpklcefiabjplaa
open Go.ChangeShapes Go.WideShapes Go.ChangeAt Go.RowKit
set_option linter.unusedVariables false
set_option linter.unusedSimpArgs false
attribute [local go_sem] Og.Opt Og.OpY

theorem Sl_block {α : Type} {f : α → List Value} {m : Nat} (hm : ∀ x, (f x).length = m) (h0 : 0 < m) {w : World} {g : Nat} {arr : Array Value} {e : TypeId} (xs : List α) (hg : w.heap[g]? = some (.cells arr e (0, 0))) (ha : arr.toList = xs.flatMap f) (hl : xs.length ≤ 1000) : Sl f m 0 w (.slice (some ⟨g, 0, none⟩) xs.length xs.length) xs := by
  have hs : (xs.flatMap f).length = xs.length * m := by
    clear ha hl
    induction xs with
    | nil => simp
    | cons x r ih => rw [List.flatMap_cons, List.length_append, hm, ih, List.length_cons, Nat.add_mul]; omega
  have hs2 : arr.size = xs.length * m := by rw [← Array.length_toList, ha, hs]
  have o : w.ownsRow 0 e m (.slice (some ⟨g, 0, none⟩) xs.length xs.length) xs.length (xs.flatMap f) := ⟨hs, .inr ⟨g, xs.length, arr, rfl, Nat.zero_le _, hg, Nat.le_refl _, by have := maxLen_ge; omega, hs2, by rw [ha, ← hs, List.take_length]⟩⟩
  exact Sl_of_row hm h0 o rfl
theorem Sl_nil {α : Type} {f : α → List Value} {m B : Nat} {w : World} : Sl f m B w (.slice none 0 0) ([] : List α) := by
  refine ⟨none, 0, rfl, fun i x hx => by simp at hx, fun _ => rfl, ?_, Nat.le_refl _⟩
  intro a e
  cases e
theorem SndG.nil : SndG [] [] [] := ⟨fun i x hx => by simp at hx, fun i x y hx => by simp at hx, by simp, fun i x hx => by simp at hx, fun i x y hx => by simp at hx, by simp, fun i x hx => by simp at hx, fun i x y hx => by simp at hx⟩

set_option maxRecDepth 100000 in
set_option maxHeartbeats 8000000 in
theorem awake_ok (w : World) : Calls Try.prog 13 #[] w fun e w' => e = .returned (.bool true) ∧ Below w.heap.size w w' := by
  have HA : Hid (∀ (w2 : World) (g : Nat), w2.heap[g]? = some (.cells ([(⟨1, 3, 0, 0, 0, ⟨0, 0⟩⟩ : Ed), ⟨1, 1, 0, 0, 0, ⟨0, 0⟩⟩, ⟨4, 3, 1, 5, 0, ⟨0, 0⟩⟩].flatMap cEd).toArray 53 (0, 0)) → Calls Try.prog 12 #[.agg #[.slice none 0 0, .slice none 0 0, .slice none 0 0], .slice (some ⟨g, 0, none⟩) 3 3] w2 fun e w' => Ans w2.heap.size w' e (.ok ⟨[⟨1⟩, ⟨3⟩], [⟨3, 1, 5, 0⟩], []⟩) ∧ Below w2.heap.size w2 w') := Lib.hid fun w2 g hg => Apply_ok [] [] [] _ _ _ _ _ _ w2 Sl_nil Sl_nil Sl_nil (Sl_block cEd_len (by omega) _ hg rfl (by decide)) SndG.nil (by decide) (by decide) runs_awake
  go_enter Try.func13, Try.ntmps13
  go_wp2_with fail
  refine (HA.out _ w.heap.size (by exact heap_at rfl)).mono ?_
  rintro e w1 ⟨⟨ua, ub, uc, rfl, o1, o2, o3⟩, hb1⟩
  obtain ⟨A1, c1, hv1, r1, -⟩ := Sl_of_row cNd_len (by omega) o1 rfl
  obtain ⟨A2, c2, hv2, -⟩ := Sl_of_row cLk_len (by omega) o2 rfl
  obtain ⟨A3, c3, hv3, -⟩ := Sl_of_row cPn_len (by omega) o3 rfl
  subst hv1 hv2 hv3
  obtain ⟨b, o, rfl, hat⟩ := r1 0 _ rfl
  have HX := Lib.hid hat
  have B1 := Lib.hid (((Below.refl w.heap.size w).alloc (Nat.le_refl _) _).trans (hb1.mono (by simp)))
  clear o1 o2 o3 hb1 r1 hat
  have q0 : w1.cell? ⟨b, o, none⟩ = some (.int .i64 1) := by have := HX.out 0 _ rfl; simpa using this
  have q1 := bcell ((Below.refl w1.heap.size w1).alloc (Nat.le_refl _) (.cells #[.slice (some ⟨b, o, none⟩) 2 c1, .slice A2 1 c2, .slice A3 0 c3] 33)) q0
  clear q0
  go_wp2_with fail
  go_ret
  exact ⟨rfl, B1.out.alloc B1.out.size _⟩

end Go.Proofs.Ytpklcefiabjplaa
