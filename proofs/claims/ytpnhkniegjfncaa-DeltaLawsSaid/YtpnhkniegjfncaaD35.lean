/- delta.Apply's comparison of a route with a prefix (its first literal) and BinarySearchFunc over it; no condition. -/
import Derived.Test.YtpnhkniegjfncaaD22
import Derived.Test.YtpnhkniegjfncaaDL
namespace Go.Proofs.Ytpnhkniegjfncaa
open Go.ChangeShapes Go.WideShapes Go.ChangeAt Go.RowKit
set_option linter.unusedVariables false
set_option linter.unusedSimpArgs false
attribute [local go_sem] Og.Opt Og.OpY

def cmpA (p q : Pf) : Int := if befP p q then -1 else if befP q p then 1 else 0
set_option maxHeartbeats 1600000 in
theorem cmp40_ok (r : Ro) (p : Pf) (w : World) :
    Calls Try.prog 40 #[.agg #[.int .u32 r.p.a, .int .i64 r.p.l, .int .i64 r.m, .int .u64 r.o0, .int .u64 r.o1, .int .u64 r.h0, .int .u64 r.h1], .agg #[.int .u32 p.a, .int .i64 p.l]] w fun e w' => e = .returned (.int .i64 (cmpA r.p p)) ∧ Below w.heap.size w w' := by
  have H1 := Lib.hid (before_ok r.p p)
  have H2 := Lib.hid (before_ok p r.p)
  have E := Lib.hid (show cmpA r.p p = if befP r.p p then -1 else if befP p r.p then 1 else 0 from rfl)
  obtain ⟨cv, hcv⟩ : ∃ z, z = cmpA r.p p := ⟨_, rfl⟩
  rw [← hcv] at E ⊢
  clear hcv
  obtain ⟨b1, hb1⟩ : ∃ b, b = befP r.p p := ⟨_, rfl⟩
  obtain ⟨b2, hb2⟩ : ∃ b, b = befP p r.p := ⟨_, rfl⟩
  rw [← hb1] at H1 E
  rw [← hb2] at H2 E
  clear hb1 hb2
  go_enter Try.func40, Try.ntmps40
  go_wp2_with fail
  obtain ⟨W, hW⟩ : ∃ W, (w.alloc (Obj.cells #[.int .u32 r.p.a, .int .i64 r.p.l, .int .i64 r.m, .int .u64 r.o0, .int .u64 r.o1, .int .u64 r.h0, .int .u64 r.h1] 40)).alloc (Obj.cells #[.int .u32 p.a, .int .i64 p.l] 35) = W := ⟨_, rfl⟩
  have hB : Below w.heap.size w W := by rw [← hW]; exact ((Below.refl _ _).alloc (Nat.le_refl _) _).alloc (by simp) _
  have c0 : W.cell? ⟨w.heap.size, 0, none⟩ = some (.int .u32 r.p.a) := by rw [← hW]; simp
  have c1 : W.cell? ⟨w.heap.size, 1, none⟩ = some (.int .i64 r.p.l) := by rw [← hW]; simp
  have d0 : W.cell? ⟨w.heap.size + 1, 0, none⟩ = some (.int .u32 p.a) := by rw [← hW]; simp
  have d1 : W.cell? ⟨w.heap.size + 1, 1, none⟩ = some (.int .i64 p.l) := by rw [← hW]; simp
  rw [hW]
  clear hW
  refine (H1.out _).mono ?_
  rintro e w1 ⟨rfl, h1⟩
  have e0 := bcell h1 c0
  have e1 := bcell h1 c1
  have e2 := bcell h1 d0
  have e3 := bcell h1 d1
  have HB1 := Lib.hid (bthen' hB hB.size h1)
  clear hB h1 c0 c1 d0 d1
  cases b1 with
  | true =>
    have hc : cv = -1 := E.out
    subst hc
    go_wp2_with fail
    go_ret
    exact ⟨rfl, HB1.out⟩
  | false =>
    go_wp2_with fail
    refine (H2.out _).mono ?_
    rintro e w2 ⟨rfl, h2⟩
    have HB2 := Lib.hid (bthen' HB1.out HB1.out.size h2)
    clear h2
    cases b2 with
    | true =>
      have hc : cv = 1 := E.out
      subst hc
      go_wp2_with fail
      go_ret
      exact ⟨rfl, HB2.out⟩
    | false =>
      have hc : cv = 0 := E.out
      subst hc
      go_wp2_with fail
      go_ret
      exact ⟨rfl, HB2.out⟩
end Go.Proofs.Ytpnhkniegjfncaa
