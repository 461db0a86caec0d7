/- Contracts of delta.at, plain, change and of the reference's At, plain; no condition. -/
import Derived.Test.YtpnhkniegjfncaaD24
namespace Go.Proofs.Ytpnhkniegjfncaa
open Go.ChangeShapes Go.WideShapes Go.ChangeAt Go.RowKit
set_option linter.unusedVariables false
set_option linter.unusedSimpArgs false
attribute [local go_sem] Og.Opt Og.OpY
attribute [local go_sem high] eqB1 eqP1 eqR1 eqC1

/-- the prefix of a change -/
def atC (c : Ch) : Pf := if c.k = 1 then c.n.p else c.o.p
/-- a change whose routes that mean nothing are zero -/
def plC (c : Ch) : Ch := if c.k = 1 then ⟨c.k, zR, c.n⟩ else if c.k = 2 then ⟨c.k, c.o, zR⟩ else c

set_option maxHeartbeats 1000000 in
theorem at_ok (c : Ch) (w : World) :
    Calls Try.prog 33 #[.agg #[.int .i64 c.k, .int .u32 c.o.p.a, .int .i64 c.o.p.l, .int .i64 c.o.m, .int .u64 c.o.o0, .int .u64 c.o.o1, .int .u64 c.o.h0, .int .u64 c.o.h1, .int .u32 c.n.p.a, .int .i64 c.n.p.l, .int .i64 c.n.m, .int .u64 c.n.o0, .int .u64 c.n.o1, .int .u64 c.n.h0, .int .u64 c.n.h1]] w fun e w' => e = .returned (.agg #[.int .u32 (atC c).a, .int .i64 (atC c).l]) ∧ Below w.heap.size w w' := by
  by_cases h : c.k = 1
  · have t1 : (c.k == 1) = true := by simpa using h
    have E : Hid (atC c = c.n.p) := Lib.hid (if_pos h)
    clear h
    go_enter Try.func33, Try.ntmps33
    go_wp2_with fail
    exact bodyPost_ret (v := .agg #[.int .u32 c.n.p.a, .int .i64 c.n.p.l]) (by simp [results, Try.f33, go_sem]) rfl ⟨by rw [E.out]; try rfl, (by repeat (first | exact Below.refl _ _ | refine Below.setCell ?_ (by first | (simp; done) | (simp; omega)) _ | refine Below.alloc ?_ (by first | exact Nat.le_refl _ | (simp; done) | (simp; omega)) _))⟩
  · have t1 : (c.k == 1) = false := by simpa using h
    have E : Hid (atC c = c.o.p) := Lib.hid (if_neg h)
    clear h
    go_enter Try.func33, Try.ntmps33
    go_wp2_with fail
    exact bodyPost_ret (v := .agg #[.int .u32 c.o.p.a, .int .i64 c.o.p.l]) (by simp [results, Try.f33, go_sem]) rfl ⟨by rw [E.out]; try rfl, (by repeat (first | exact Below.refl _ _ | refine Below.setCell ?_ (by first | (simp; done) | (simp; omega)) _ | refine Below.alloc ?_ (by first | exact Nat.le_refl _ | (simp; done) | (simp; omega)) _))⟩

set_option maxHeartbeats 1000000 in
theorem rAt_ok (c : Ch) (w : World) :
    Calls Try.prog 37 #[.agg #[.int .i64 c.k, .int .u32 c.o.p.a, .int .i64 c.o.p.l, .int .i64 c.o.m, .int .u64 c.o.o0, .int .u64 c.o.o1, .int .u64 c.o.h0, .int .u64 c.o.h1, .int .u32 c.n.p.a, .int .i64 c.n.p.l, .int .i64 c.n.m, .int .u64 c.n.o0, .int .u64 c.n.o1, .int .u64 c.n.h0, .int .u64 c.n.h1]] w fun e w' => e = .returned (.agg #[.int .u32 (atC c).a, .int .i64 (atC c).l]) ∧ Below w.heap.size w w' := by
  by_cases h : c.k = 1
  · have t1 : (c.k == 1) = true := by simpa using h
    have E : Hid (atC c = c.n.p) := Lib.hid (if_pos h)
    clear h
    go_enter Try.func37, Try.ntmps37
    go_wp2_with fail
    exact bodyPost_ret (v := .agg #[.int .u32 c.n.p.a, .int .i64 c.n.p.l]) (by simp [results, Try.f37, go_sem]) rfl ⟨by rw [E.out]; try rfl, (by repeat (first | exact Below.refl _ _ | refine Below.setCell ?_ (by first | (simp; done) | (simp; omega)) _ | refine Below.alloc ?_ (by first | exact Nat.le_refl _ | (simp; done) | (simp; omega)) _))⟩
  · have t1 : (c.k == 1) = false := by simpa using h
    have E : Hid (atC c = c.o.p) := Lib.hid (if_neg h)
    clear h
    go_enter Try.func37, Try.ntmps37
    go_wp2_with fail
    exact bodyPost_ret (v := .agg #[.int .u32 c.o.p.a, .int .i64 c.o.p.l]) (by simp [results, Try.f37, go_sem]) rfl ⟨by rw [E.out]; try rfl, (by repeat (first | exact Below.refl _ _ | refine Below.setCell ?_ (by first | (simp; done) | (simp; omega)) _ | refine Below.alloc ?_ (by first | exact Nat.le_refl _ | (simp; done) | (simp; omega)) _))⟩

set_option maxHeartbeats 1000000 in
theorem plain_ok (c : Ch) (w : World) :
    Calls Try.prog 34 #[.agg #[.int .i64 c.k, .int .u32 c.o.p.a, .int .i64 c.o.p.l, .int .i64 c.o.m, .int .u64 c.o.o0, .int .u64 c.o.o1, .int .u64 c.o.h0, .int .u64 c.o.h1, .int .u32 c.n.p.a, .int .i64 c.n.p.l, .int .i64 c.n.m, .int .u64 c.n.o0, .int .u64 c.n.o1, .int .u64 c.n.h0, .int .u64 c.n.h1]] w fun e w' => e = .returned (.agg #[.int .i64 (plC c).k, .int .u32 (plC c).o.p.a, .int .i64 (plC c).o.p.l, .int .i64 (plC c).o.m, .int .u64 (plC c).o.o0, .int .u64 (plC c).o.o1, .int .u64 (plC c).o.h0, .int .u64 (plC c).o.h1, .int .u32 (plC c).n.p.a, .int .i64 (plC c).n.p.l, .int .i64 (plC c).n.m, .int .u64 (plC c).n.o0, .int .u64 (plC c).n.o1, .int .u64 (plC c).n.h0, .int .u64 (plC c).n.h1]) ∧ Below w.heap.size w w' := by
  by_cases h : c.k = 1
  · have t1 : (c.k == 1) = true := by simpa using h
    have t2 : (c.k == 2) = false := by simp; omega
    have E : Hid (plC c = ⟨c.k, zR, c.n⟩) := Lib.hid (if_pos h)
    clear h
    go_enter Try.func34, Try.ntmps34
    go_wp2_with fail
    exact bodyPost_ret (v := .agg #[.int .i64 c.k, .int .u32 0, .int .i64 0, .int .i64 0, .int .u64 0, .int .u64 0, .int .u64 0, .int .u64 0, .int .u32 c.n.p.a, .int .i64 c.n.p.l, .int .i64 c.n.m, .int .u64 c.n.o0, .int .u64 c.n.o1, .int .u64 c.n.h0, .int .u64 c.n.h1]) (by simp [results, Try.f34, go_sem]) rfl ⟨by rw [E.out]; try rfl, (by repeat (first | exact Below.refl _ _ | refine Below.setCell ?_ (by first | (simp; done) | (simp; omega)) _ | refine Below.alloc ?_ (by first | exact Nat.le_refl _ | (simp; done) | (simp; omega)) _))⟩
  · have t1 : (c.k == 1) = false := by simpa using h
    by_cases h2 : c.k = 2
    · have t2 : (c.k == 2) = true := by simpa using h2
      have E : Hid (plC c = ⟨c.k, c.o, zR⟩) := Lib.hid (by unfold plC; rw [if_neg h, if_pos h2])
      clear h h2
      go_enter Try.func34, Try.ntmps34
      go_wp2_with fail
      exact bodyPost_ret (v := .agg #[.int .i64 c.k, .int .u32 c.o.p.a, .int .i64 c.o.p.l, .int .i64 c.o.m, .int .u64 c.o.o0, .int .u64 c.o.o1, .int .u64 c.o.h0, .int .u64 c.o.h1, .int .u32 0, .int .i64 0, .int .i64 0, .int .u64 0, .int .u64 0, .int .u64 0, .int .u64 0]) (by simp [results, Try.f34, go_sem]) rfl ⟨by rw [E.out]; try rfl, (by repeat (first | exact Below.refl _ _ | refine Below.setCell ?_ (by first | (simp; done) | (simp; omega)) _ | refine Below.alloc ?_ (by first | exact Nat.le_refl _ | (simp; done) | (simp; omega)) _))⟩
    · have t2 : (c.k == 2) = false := by simpa using h2
      have E : Hid (plC c = c) := Lib.hid (by unfold plC; rw [if_neg h, if_neg h2])
      clear h h2
      go_enter Try.func34, Try.ntmps34
      go_wp2_with fail
      exact bodyPost_ret (v := .agg #[.int .i64 c.k, .int .u32 c.o.p.a, .int .i64 c.o.p.l, .int .i64 c.o.m, .int .u64 c.o.o0, .int .u64 c.o.o1, .int .u64 c.o.h0, .int .u64 c.o.h1, .int .u32 c.n.p.a, .int .i64 c.n.p.l, .int .i64 c.n.m, .int .u64 c.n.o0, .int .u64 c.n.o1, .int .u64 c.n.h0, .int .u64 c.n.h1]) (by simp [results, Try.f34, go_sem]) rfl ⟨by rw [E.out]; try rfl, (by repeat (first | exact Below.refl _ _ | refine Below.setCell ?_ (by first | (simp; done) | (simp; omega)) _ | refine Below.alloc ?_ (by first | exact Nat.le_refl _ | (simp; done) | (simp; omega)) _))⟩

set_option maxHeartbeats 1000000 in
theorem rplain_ok (c : Ch) (w : World) :
    Calls Try.prog 44 #[.agg #[.int .i64 c.k, .int .u32 c.o.p.a, .int .i64 c.o.p.l, .int .i64 c.o.m, .int .u64 c.o.o0, .int .u64 c.o.o1, .int .u64 c.o.h0, .int .u64 c.o.h1, .int .u32 c.n.p.a, .int .i64 c.n.p.l, .int .i64 c.n.m, .int .u64 c.n.o0, .int .u64 c.n.o1, .int .u64 c.n.h0, .int .u64 c.n.h1]] w fun e w' => e = .returned (.agg #[.int .i64 (plC c).k, .int .u32 (plC c).o.p.a, .int .i64 (plC c).o.p.l, .int .i64 (plC c).o.m, .int .u64 (plC c).o.o0, .int .u64 (plC c).o.o1, .int .u64 (plC c).o.h0, .int .u64 (plC c).o.h1, .int .u32 (plC c).n.p.a, .int .i64 (plC c).n.p.l, .int .i64 (plC c).n.m, .int .u64 (plC c).n.o0, .int .u64 (plC c).n.o1, .int .u64 (plC c).n.h0, .int .u64 (plC c).n.h1]) ∧ Below w.heap.size w w' := by
  by_cases h : c.k = 1
  · have t1 : (c.k == 1) = true := by simpa using h
    have t2 : (c.k == 2) = false := by simp; omega
    have E : Hid (plC c = ⟨c.k, zR, c.n⟩) := Lib.hid (if_pos h)
    clear h
    go_enter Try.func44, Try.ntmps44
    go_wp2_with fail
    exact bodyPost_ret (v := .agg #[.int .i64 c.k, .int .u32 0, .int .i64 0, .int .i64 0, .int .u64 0, .int .u64 0, .int .u64 0, .int .u64 0, .int .u32 c.n.p.a, .int .i64 c.n.p.l, .int .i64 c.n.m, .int .u64 c.n.o0, .int .u64 c.n.o1, .int .u64 c.n.h0, .int .u64 c.n.h1]) (by simp [results, Try.f44, go_sem]) rfl ⟨by rw [E.out]; try rfl, (by repeat (first | exact Below.refl _ _ | refine Below.setCell ?_ (by first | (simp; done) | (simp; omega)) _ | refine Below.alloc ?_ (by first | exact Nat.le_refl _ | (simp; done) | (simp; omega)) _))⟩
  · have t1 : (c.k == 1) = false := by simpa using h
    by_cases h2 : c.k = 2
    · have t2 : (c.k == 2) = true := by simpa using h2
      have E : Hid (plC c = ⟨c.k, c.o, zR⟩) := Lib.hid (by unfold plC; rw [if_neg h, if_pos h2])
      clear h h2
      go_enter Try.func44, Try.ntmps44
      go_wp2_with fail
      exact bodyPost_ret (v := .agg #[.int .i64 c.k, .int .u32 c.o.p.a, .int .i64 c.o.p.l, .int .i64 c.o.m, .int .u64 c.o.o0, .int .u64 c.o.o1, .int .u64 c.o.h0, .int .u64 c.o.h1, .int .u32 0, .int .i64 0, .int .i64 0, .int .u64 0, .int .u64 0, .int .u64 0, .int .u64 0]) (by simp [results, Try.f44, go_sem]) rfl ⟨by rw [E.out]; try rfl, (by repeat (first | exact Below.refl _ _ | refine Below.setCell ?_ (by first | (simp; done) | (simp; omega)) _ | refine Below.alloc ?_ (by first | exact Nat.le_refl _ | (simp; done) | (simp; omega)) _))⟩
    · have t2 : (c.k == 2) = false := by simpa using h2
      have E : Hid (plC c = c) := Lib.hid (by unfold plC; rw [if_neg h, if_neg h2])
      clear h h2
      go_enter Try.func44, Try.ntmps44
      go_wp2_with fail
      exact bodyPost_ret (v := .agg #[.int .i64 c.k, .int .u32 c.o.p.a, .int .i64 c.o.p.l, .int .i64 c.o.m, .int .u64 c.o.o0, .int .u64 c.o.o1, .int .u64 c.o.h0, .int .u64 c.o.h1, .int .u32 c.n.p.a, .int .i64 c.n.p.l, .int .i64 c.n.m, .int .u64 c.n.o0, .int .u64 c.n.o1, .int .u64 c.n.h0, .int .u64 c.n.h1]) (by simp [results, Try.f44, go_sem]) rfl ⟨by rw [E.out]; try rfl, (by repeat (first | exact Below.refl _ _ | refine Below.setCell ?_ (by first | (simp; done) | (simp; omega)) _ | refine Below.alloc ?_ (by first | exact Nat.le_refl _ | (simp; done) | (simp; omega)) _))⟩

end Go.Proofs.Ytpnhkniegjfncaa
