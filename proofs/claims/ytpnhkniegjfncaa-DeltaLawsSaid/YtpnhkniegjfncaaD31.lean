/- causewaylaw16.DeltaJoins returns true; conditions: the changes fit the memory, the addresses are uint32. -/
import Derived.Test.YtpnhkniegjfncaaD30
import Derived.Test.YtpnhkniegjfncaaD8
namespace Go.Proofs.Ytpnhkniegjfncaa
open Go.ChangeShapes Go.WideShapes Go.ChangeAt Go.RowKit
set_option linter.unusedVariables false
set_option linter.unusedSimpArgs false

theorem rJoin_ok (xs ys : List Ch) (A A' : Option Addr) (c c' : Nat) (w : World) (hr : RdC w A xs) (hr' : RdC w A' ys) (hl : xs.length ≤ 1172812402926) (hl' : ys.length ≤ 1172812402926) (hf : ∀ (i : Nat) r, xs[i]? = some r → FitC r) (hf' : ∀ (i : Nat) r, ys[i]? = some r → FitC r) :
    Calls Try.prog 19 #[.slice A xs.length c, .slice A' ys.length c'] w fun e w' => JoinR xs ys w.heap.size e w' ∧ Below w.heap.size w w' := by
  cases h : (sndC xs && sndC ys) with
  | false => exact Calls.mono (rJoin_no xs ys A A' c c' w hr hr' hl hl' hf hf' h) (fun e w' ⟨he, hb⟩ => ⟨.inl ⟨h, he⟩, hb⟩)
  | true =>
    obtain ⟨h1, h2⟩ := Bool.and_eq_true_iff.1 h
    exact rJoin_yes xs ys A A' c c' w hr hr' hf hf' h1 h2
/-- the answer, as a list and an error -/
def joinV (xs ys : List Ch) : List Ch × Int := if (sndC xs && sndC ys) = true then (match jn xs ys with | some L => (L, 0) | none => ([], 8)) else ([], 1)
theorem joinV_len (xs ys : List Ch) : (joinV xs ys).1.length ≤ xs.length + ys.length := by
  unfold joinV
  split
  · cases h : jn xs ys with
    | none => simp
    | some L => exact jn_len xs ys L h
  · simp
theorem SlC_nil0 (B : Nat) (w : World) : SlC B w (.slice none 0 0) [] := ⟨none, 0, rfl, fun i r hr => by simp at hr, fun _ => rfl, fun a ha => (by cases ha), by simp⟩
theorem JoinR.val {xs ys : List Ch} {B : Nat} {e : Ending} {w' : World} (h : JoinR xs ys B e w') : ∃ v, e = .returned (.tuple #[v, .int .i64 (joinV xs ys).2]) ∧ SlC B w' v (joinV xs ys).1 := by
  unfold joinV
  rcases h with ⟨h, rfl⟩ | ⟨h, hj, rfl⟩ | ⟨h, L, v, hj, rfl, hs⟩
  · rw [h]
    exact ⟨_, rfl, SlC_nil0 _ _⟩
  · rw [h, hj]
    exact ⟨_, rfl, SlC_nil0 _ _⟩
  · rw [h, hj]
    exact ⟨_, rfl, hs⟩
theorem same_sl (L : List Ch) (v v' : Value) (B B' : Nat) (w : World) (h : SlC B w v L) (h' : SlC B' w v' L) (hl : L.length ≤ 1125899906842624) : Calls Try.prog 16 #[v, v'] w fun e w' => e = .returned (.bool true) ∧ Below w.heap.size w w' := by
  obtain ⟨A, c, rfl, hr, _⟩ := h
  obtain ⟨A', c', rfl, hr', _⟩ := h'
  have := same_ok L L A A' c c' w hr hr' hl hl
  simpa using this

set_option maxRecDepth 100000 in
set_option maxHeartbeats 4000000 in
theorem DeltaJoins_ok (xs ys : List Ch) (A A' : Option Addr) (c c' : Nat) (w : World) (hr : RdC w A xs) (hr' : RdC w A' ys) (hc : xs.length ≤ c) (hc' : ys.length ≤ c') (hl : xs.length ≤ 1172812402926) (hl' : ys.length ≤ 1172812402926) (hf : ∀ (i : Nat) r, xs[i]? = some r → FitC r) (hf' : ∀ (i : Nat) r, ys[i]? = some r → FitC r) :
    Calls Try.prog 6 #[.slice A xs.length c, .slice A' ys.length c'] w fun e w' => e = .returned (.bool true) ∧ Below w.heap.size w w' := by
  have H1 := Lib.hid (Join_ok xs ys A A' c c' w hr hr' hc hc' hl hl' hf hf')
  have H2 := Lib.hid (fun (w2 : World) (hb : Below w.heap.size w w2) => rJoin_ok xs ys A A' c c' w2 (hr.below hb) (hr'.below hb) hl hl' hf hf')
  have HV := Lib.hid (fun B e w' (h : JoinR xs ys B e w') => h.val)
  have HL := Lib.hid (joinV_len xs ys)
  have HLL : Hid ((joinV xs ys).1.length ≤ 1125899906842624) := Lib.hid (by have := HL.out; omega)
  obtain ⟨L, hL⟩ : ∃ L, L = (joinV xs ys).1 := ⟨_, rfl⟩
  obtain ⟨er, her⟩ : ∃ e, e = (joinV xs ys).2 := ⟨_, rfl⟩
  rw [← hL] at HV HLL
  rw [← her] at HV
  obtain ⟨nx, hnx⟩ : ∃ n, n = xs.length := ⟨_, rfl⟩
  obtain ⟨ny, hny⟩ : ∃ n, n = ys.length := ⟨_, rfl⟩
  rw [← hnx] at H1 H2 ⊢
  rw [← hny] at H1 H2 ⊢
  have te : (er == er) = true := by simp
  clear hr hr' hc hc' hl hl' hf hf' hL her hnx hny HL
  go_enter Try.func6, Try.ntmps6
  go_wp2_with fail
  refine Calls.mono H1.out ?_
  rintro e w1 ⟨hj, hb1⟩
  obtain ⟨v1, rfl, s1⟩ := HV.out _ _ _ hj
  have B1 := Lib.hid hb1
  have S1 := Lib.hid s1
  clear hj s1 hb1 H1
  go_wp2_with fail
  refine Calls.mono (H2.out w1 B1.out) ?_
  rintro e w2 ⟨hj, hb2⟩
  obtain ⟨v2, rfl, s2⟩ := HV.out _ _ _ hj
  have B2 := Lib.hid (bthen' B1.out B1.out.size hb2)
  have S12 := Lib.hid (S1.out.below hb2)
  have S2 := Lib.hid s2
  clear hj s2 hb2 H2
  go_wp2_with fail
  refine Calls.mono (awake_ok w2) ?_
  rintro e w3 ⟨rfl, hb3⟩
  have B3 := Lib.hid (bthen' B2.out B2.out.size hb3)
  have S13 := Lib.hid (S12.out.below hb3)
  have S23 := Lib.hid (S2.out.below hb3)
  clear hb3
  go_wp2_with fail
  refine Calls.mono (same_sl L v1 v2 _ _ w3 S13.out S23.out HLL.out) ?_
  rintro e w4 ⟨rfl, hb4⟩
  have B4 := Lib.hid (bthen' B3.out B3.out.size hb4)
  clear hb4
  go_wp2_with fail
  go_ret
  exact ⟨rfl, B4.out⟩

end Go.Proofs.Ytpnhkniegjfncaa
