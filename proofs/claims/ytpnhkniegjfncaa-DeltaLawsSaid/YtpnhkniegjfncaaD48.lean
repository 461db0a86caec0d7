/- The statement DeltaLawsSaid is proved: DeltaLaws returns true for every three tables and leaves them as they are; no condition. -/
import Derived.Test.YtpnhkniegjfncaaD47
import Derived.Test.YtpnhkniegjfncaaDF
import Derived.SizedLaws
namespace Go.Proofs.Ytpnhkniegjfncaa.deltaLaws
open Go.ChangeShapes Go.WideShapes Go.ChangeAt Go.RowKit
set_option linter.unusedVariables false

theorem own : ownKnob Try.prog.godebug = none := by kernel_rfl
theorem laidOut : laidOutB Try.prog = true := by kernel_rfl
theorem bytes40 : Try.prog.bytesOf 40 = 56 := by kernel_rfl

set_option maxRecDepth 100000 in
theorem lifted (os : Os) (started : os.Started) (H : Type) (enc : TypeId × Value → H) :
    ReturnsInHanded {} Try.checked os 8 .any (Rows.deltaLawsSpec.pre6 enc Try.prog Try.f8 Rows.deltaLawsRow.domain false) (Rows.deltaLawsSpec.post enc Try.prog Try.f8 false true false false) := by
  refine returnsInHanded_of_change_sized (C := Try.checked) own started (by kernel_rfl) Try.func8
    (ChangeSpec.witness6 (enc := enc) (C := Try.checked) false ⟨#[], #[.slice none 0 0, .slice none 0 0, .slice none 0 0], []⟩ 8 (by kernel_rfl) (by kernel_rfl) (by kernel_rfl) (by kernel_rfl)) ?_
  intro W base args ds gs before hval0 hW hcnd hsz0 _
  have hsz : (DataW.weightsEach Try.prog (Try.f8.params.toList ++ Rows.deltaLawsSpec.plain.varTypes Try.prog) (ds ++ gs)).all (· ≤ reachBytes) = true := hsz0
  clear hsz0
  have hval : ∀ (j : Nat) t v, Try.f8.params[j]? = some t → args[j]? = some v → Value.okWide Try.prog W .any base t v := hval0
  have hW' := hW
  obtain ⟨p, q, hA0, hV, rfl, hfz, hnd⟩ := hW
  have hA : DataW.TrodAll enc Try.prog W 0 (fun _ => true) true Try.f8.params.toList args.toList ds p := hA0
  rw [Try.params8] at hA hval hsz
  obtain ⟨v0, vs0, d0, ds0, p0, q0, hargs, rfl, rfl, h0, r0⟩ := trodAll_cons hA
  obtain ⟨v1, vs1, d1, ds1, p1, q1, hargs1, rfl, rfl, h1, r1⟩ := trodAll_cons r0
  obtain ⟨v2, vs2, d2, ds2, p2, q2, hargs2, rfl, rfl, h2, r2⟩ := trodAll_cons r1
  obtain ⟨rfl, rfl, rfl⟩ := trodAll_nil r2
  obtain rfl : args = #[v0, v1, v2] := by cases args; simp_all
  obtain ⟨rfl, rfl⟩ := trodVars_none hV
  have k0 := h0
  have k1 := h1
  have k2 := h2
  have lt2 : ∀ x ∈ p2, x.block < W.heap.size := by obtain ⟨m, hm⟩ := k2; exact DataW.trod_lt m _ _ _ hm
  have lt0 : ∀ x ∈ p0, x.block < W.heap.size := by obtain ⟨m, hm⟩ := k0; exact DataW.trod_lt m _ _ _ hm
  have lt1 : ∀ x ∈ p1, x.block < W.heap.size := by obtain ⟨m, hm⟩ := k1; exact DataW.trod_lt m _ _ _ hm
  obtain ⟨xs, A, c, rfl, hr, hA9, hc9, hf9, hd9⟩ := (by obtain ⟨fuel, hf⟩ := h0; exact open_routes (okWide_slice Try.underlying22 (hval 0 22 v0 rfl rfl)) hf : ∃ (xs : List Ro) (A : Option Addr) (c : Nat), v0 = .slice A xs.length c ∧ RdR W A xs ∧ (A = none → c = 0) ∧ xs.length ≤ c ∧ (∀ (i : Nat) r, xs[i]? = some r → FitR r) ∧ (xs = [] ∨ ∃ L S, d0 = .slice L S ∧ L.length = xs.length))
  obtain ⟨ys, A', c', rfl, hr', hA9', hc9', hf9', hd9'⟩ := (by obtain ⟨fuel, hf⟩ := h1; exact open_routes (okWide_slice Try.underlying22 (hval 1 22 v1 rfl rfl)) hf : ∃ (xs : List Ro) (A : Option Addr) (c : Nat), v1 = .slice A xs.length c ∧ RdR W A xs ∧ (A = none → c = 0) ∧ xs.length ≤ c ∧ (∀ (i : Nat) r, xs[i]? = some r → FitR r) ∧ (xs = [] ∨ ∃ L S, d1 = .slice L S ∧ L.length = xs.length))
  obtain ⟨zs, A'', c'', rfl, hr'', hA9'', hc9'', hf9'', hd9''⟩ := (by obtain ⟨fuel, hf⟩ := h2; exact open_routes (okWide_slice Try.underlying22 (hval 2 22 v2 rfl rfl)) hf : ∃ (xs : List Ro) (A : Option Addr) (c : Nat), v2 = .slice A xs.length c ∧ RdR W A xs ∧ (A = none → c = 0) ∧ xs.length ≤ c ∧ (∀ (i : Nat) r, xs[i]? = some r → FitR r) ∧ (xs = [] ∨ ∃ L S, d2 = .slice L S ∧ L.length = xs.length))
  have hl : xs.length ≤ 2513169434843 := by
    rcases hd9 with rfl | ⟨L, S, rfl, hL⟩
    · simp
    · have := sized_slice hsz (j := 0) (t := 22) (e := 40) rfl rfl Try.underlying22
      rw [bytes40] at this
      simp only [reachBytes] at this
      omega
  have hl' : ys.length ≤ 2513169434843 := by
    rcases hd9' with rfl | ⟨L, S, rfl, hL⟩
    · simp
    · have := sized_slice hsz (j := 1) (t := 22) (e := 40) rfl rfl Try.underlying22
      rw [bytes40] at this
      simp only [reachBytes] at this
      omega
  have hl'' : zs.length ≤ 2513169434843 := by
    rcases hd9'' with rfl | ⟨L, S, rfl, hL⟩
    · simp
    · have := sized_slice hsz (j := 2) (t := 22) (e := 40) rfl rfl Try.underlying22
      rw [bytes40] at this
      simp only [reachBytes] at this
      omega
  clear hA0 hval0
  refine (DeltaLaws_ok xs ys zs _ _ _ W ⟨hl, hf9⟩ ⟨hl', hf9'⟩ ⟨hl'', hf9''⟩ ⟨A, c, rfl, hr, hA9, fun _ _ => Nat.zero_le _, hc9⟩ ⟨A', c', rfl, hr', hA9', fun _ _ => Nat.zero_le _, hc9'⟩ ⟨A'', c'', rfl, hr'', hA9'', fun _ _ => Nat.zero_le _, hc9''⟩).mono fun e W' ⟨he, bel⟩ => ?_
  subst he
  exact ⟨_, rfl, _, _, _, [], _, [], hW', trodAll_mk1 (shut_bool Try.underlying4 _), (trodAll_cons_mk (Below.trod laidOut (by kernel_rfl) (of_decide_eq_true (by kernel_rfl)) k0 bel lt0) (trodAll_cons_mk (Below.trod laidOut (by kernel_rfl) (of_decide_eq_true (by kernel_rfl)) k1 bel lt1) (trodAll_cons_mk (Below.trod laidOut (by kernel_rfl) (of_decide_eq_true (by kernel_rfl)) k2 bel lt2) trodAll_mk0))), rfl, bel.frame _, fun h => by cases h⟩

theorem over : Rows.deltaLawsRow.holds Try.pinned (OpenSpec.ofChange Rows.deltaLawsSpec) :=
  OpenClaim.holds_of_wide 8 Try.f8 rfl rfl rfl rfl rfl rfl rfl ⟨rfl, rfl, rfl, rfl, rfl⟩ rfl rfl rfl rfl rfl (by kernel_rfl) Try.func8 (by kernel_rfl)
    (of_decide_eq_true (by kernel_rfl)) (by unfold Func.isWrapper; first | (rw [if_pos (by decide +kernel)]; kernel_rfl) | (rw [if_neg (by decide +kernel)]; exact ⟨rfl, rfl⟩))
    (fun os started H enc _ => lifted os started H enc)

/-- THE STATEMENT -/
theorem proved : Rows.DeltaLawsSaid := over
end Go.Proofs.Ytpnhkniegjfncaa.deltaLaws
