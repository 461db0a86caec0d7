/- Contract of plane.all on a slice of places; conditions: at most 100 elements, each a place. -/
import Derived.Test.YtkonlhglknfflaaW3
namespace Go.Proofs.Ytkonlhglknfflaa.planeLaws
open Go.ChangeShapes Go.WideShapes Go.ChangeAt Go.RowKit
open PF
set_option linter.unusedVariables false

set_option maxHeartbeats 400000 in
theorem all_ok (b off len cap : Nat) (w : World) (hl : len ≤ 100)
    (hc : ∀ k, k < len → ∃ x y n m, w.cell? ⟨b, off + k, none⟩ = some (.complex .f64 x y) ∧ IsF x n ∧ IsF y m ∧ Sm 1048576 n ∧ Sm 1048576 m) :
    Calls Try.prog 15 #[.slice (some ⟨b, off, none⟩) len cap] w fun e w' => e = .returned (.bool true) ∧ w = w' := by
  have HC := Lib.hid hc
  clear hc
  go_enter Try.func15, Try.ntmps15
  go_wp2_with fail
  go_loop [7] (fun i => ∃ k : Nat, k ≤ len ∧ i = .int .i64 k) (fun i => len - (intOf i).toNat)
  case atStart => exact ⟨0, Nat.zero_le _, rfl⟩
  case round =>
    obtain ⟨k, hk, rfl⟩ := hrel
    by_cases hlt : k < len
    · obtain ⟨x, y, n, m, hcell, hx, hy, sx, sy⟩ := HC.out k hlt
      have h1 := fun w => ok_ok x y n m w hx hy sx sy
      have H1 := Lib.hid h1
      clear h1 hx hy sx sy
      go_wp2_with fail
      refine (H1.out _).mono ?_
      rintro e w' ⟨rfl, rfl⟩
      go_wp2_with fail
      go_round
      case rel => exact ⟨k + 1, by omega, by go_num⟩
      case measure => simp [intOf]; omega
    · go_wp2_with fail
      go_ret
      exact ⟨rfl, rfl⟩

end Go.Proofs.Ytkonlhglknfflaa.planeLaws
