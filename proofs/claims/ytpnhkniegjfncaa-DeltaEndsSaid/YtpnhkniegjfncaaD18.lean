/- causewaylaw16.DeltaEnds returns true; conditions: the routes fit the memory, the addresses are uint32. -/
import Derived.Test.YtpnhkniegjfncaaD16
import Derived.Test.YtpnhkniegjfncaaD17
namespace Go.Proofs.Ytpnhkniegjfncaa
open Go.ChangeShapes Go.WideShapes Go.ChangeAt Go.RowKit
set_option linter.unusedVariables false
set_option linter.unusedSimpArgs false
attribute [local go_sem] Og.Opt Og.OpY
attribute [local go_sem high] eqB1 eqP1 eqR1 eqC1

theorem RdR_nil (w : World) : RdR w none [] := fun i r hi => by simp at hi
theorem all_no1 (xs : List Ro) (n : Nat) (hn : n = xs.length) (A : Option Addr) (c : Nat) (w : World) (hr : RdR w A xs) (hA0 : A = none → c = 0) (hl : xs.length ≤ 2513169434843) (h : sndT xs = false) :
    (Calls Try.prog 13 #[.slice none 0 0, .slice A n c] w fun e w' => (∃ A' c', e = .returned (.tuple #[.slice A' 0 c', .int .i64 1])) ∧ Below w.heap.size w w') ∧
    (Calls Try.prog 13 #[.slice A n c, .slice none 0 0] w fun e w' => (∃ A' c', e = .returned (.tuple #[.slice A' 0 c', .int .i64 1])) ∧ Below w.heap.size w w') := by
  subst hn
  refine ⟨Calls.mono (all_no [] xs none A 0 c w (RdR_nil w) hr (fun _ => rfl) hA0 (by simp) hl (by rw [h]; simp)) ?_, Calls.mono (all_no xs [] A none c 0 w hr (RdR_nil w) hA0 (fun _ => rfl) hl (by simp) (by rw [h]; simp)) ?_⟩
  all_goals
    rintro e w' ⟨⟨v, rfl, A', c', rfl, _⟩, hb⟩
    exact ⟨⟨A', c', rfl⟩, hb⟩
theorem all_yes1 (xs : List Ro) (n : Nat) (hn : n = xs.length) (A : Option Addr) (c : Nat) (w : World) (hr : RdR w A xs) (hA0 : A = none → c = 0) (hl : xs.length ≤ 2513169434843) (h : sndT xs = true) (hf : ∀ (i : Nat) r, xs[i]? = some r → FitR r) :
    (Calls Try.prog 13 #[.slice none 0 0, .slice A n c] w fun e w' => (∃ A' c', e = .returned (.tuple #[.slice A' n c', .int .i64 0]) ∧ RdC w' A' (xs.map (fun r => ⟨1, zR, r⟩))) ∧ Below w.heap.size w w') ∧
    (Calls Try.prog 13 #[.slice A n c, .slice none 0 0] w fun e w' => (∃ A' c', e = .returned (.tuple #[.slice A' n c', .int .i64 0]) ∧ RdC w' A' (xs.map (fun r => ⟨2, r, zR⟩))) ∧ Below w.heap.size w w') := by
  subst hn
  have hlen := sndT_len h hf
  have k1 := mrgK_come xs (sndT_ne h)
  have k2 := mrgK_go xs (sndT_ne h)
  refine ⟨Calls.mono (all_yes [] xs none A 0 c w (RdR_nil w) hr (fun _ => rfl) hA0 (by simp) hl (by rw [h]; rfl) (by rw [k1]; simp; omega)) ?_, Calls.mono (all_yes xs [] A none c 0 w hr (RdR_nil w) hA0 (fun _ => rfl) hl (by simp) (by rw [h]; rfl) (by rw [k2]; simp; omega)) ?_⟩
  · rintro e w' ⟨⟨v, rfl, A', c', rfl, h1, _⟩, hb⟩
    rw [k1] at h1
    exact ⟨⟨A', c', by rw [k1]; simp, h1⟩, hb⟩
  · rintro e w' ⟨⟨v, rfl, A', c', rfl, h1, _⟩, hb⟩
    rw [k2] at h1
    exact ⟨⟨A', c', by rw [k2]; simp, h1⟩, hb⟩

set_option maxRecDepth 100000 in
set_option maxHeartbeats 4000000 in
theorem DeltaEnds_no (xs : List Ro) (A : Option Addr) (c : Nat) (w : World) (hr : RdR w A xs) (hA0 : A = none → c = 0) (hl : xs.length ≤ 2513169434843) (hf : ∀ (i : Nat) r, xs[i]? = some r → FitR r) (h : sndT xs = false) :
    Calls Try.prog 4 #[.slice A xs.length c] w fun e w' => e = .returned (.bool true) ∧ Below w.heap.size w w' := by
  obtain ⟨n, hn⟩ : ∃ n, n = xs.length := ⟨_, rfl⟩
  have H := Lib.hid (fun (w2 : World) (hb : Below w.heap.size w w2) => all_no1 xs n hn A c w2 (hr.below hb) hA0 hl h)
  have HS := Lib.hid (fun (w2 : World) (hb : Below w.heap.size w w2) => rSound_ok xs A c w2 (hr.below hb) (by omega) hf)
  rw [← hn, h, errT_f] at HS
  rw [← hn]
  clear hr hA0 hl hf h hn
  go_enter Try.func4, Try.ntmps4
  go_wp2_with fail
  refine Calls.mono (awake_ok w) ?_
  rintro e w1 ⟨rfl, hb1⟩
  have B1 := Lib.hid hb1
  clear hb1
  go_wp2_with fail
  refine Calls.mono (H.out w1 B1.out).1 ?_
  rintro e w2 ⟨⟨A1, c1, rfl⟩, hb2⟩
  have B2 := Lib.hid (bthen' B1.out B1.out.size hb2)
  clear hb2
  go_wp2_with fail
  refine Calls.mono (H.out w2 B2.out).2 ?_
  rintro e w3 ⟨⟨A2, c2, rfl⟩, hb3⟩
  have B3 := Lib.hid (bthen' B2.out B2.out.size hb3)
  clear hb3
  go_wp2_with fail
  refine Calls.mono (HS.out w3 B3.out) ?_
  rintro e w4 ⟨rfl, hb4⟩
  have B4 := Lib.hid (bthen' B3.out B3.out.size hb4)
  clear hb4
  go_wp2_with fail
  go_ret
  exact ⟨rfl, B4.out⟩

set_option maxRecDepth 100000 in
set_option maxHeartbeats 8000000 in
theorem DeltaEnds_yes (xs : List Ro) (A : Option Addr) (c : Nat) (w : World) (hr : RdR w A xs) (hA0 : A = none → c = 0) (hl : xs.length ≤ 2513169434843) (hf : ∀ (i : Nat) r, xs[i]? = some r → FitR r) (h : sndT xs = true) :
    Calls Try.prog 4 #[.slice A xs.length c] w fun e w' => e = .returned (.bool true) ∧ Below w.heap.size w w' := by
  obtain ⟨n, hn⟩ : ∃ n, n = xs.length := ⟨_, rfl⟩
  have H := Lib.hid (fun (w2 : World) (hb : Below w.heap.size w w2) => all_yes1 xs n hn A c w2 (hr.below hb) hA0 hl h hf)
  have HS := Lib.hid (fun (w2 : World) (hb : Below w.heap.size w w2) => rSound_ok xs A c w2 (hr.below hb) (by omega) hf)
  rw [← hn, h, errT_t] at HS
  rw [← hn] at hl ⊢
  have HR := Lib.hid hr
  have HN := Lib.hid hn
  clear hr hA0 hf h hn
  have tl : ((n : Int) != (n : Int)) = false := by simp
  go_enter Try.func4, Try.ntmps4
  go_wp2_with fail
  refine Calls.mono (awake_ok w) ?_
  rintro e w1 ⟨rfl, hb1⟩
  have B1 := Lib.hid hb1
  clear hb1
  go_wp2_with fail
  refine Calls.mono (H.out w1 B1.out).1 ?_
  rintro e w2 ⟨⟨A1, c1, rfl, s2⟩, hb2⟩
  have B2 := Lib.hid (bthen' B1.out B1.out.size hb2)
  have S2 := Lib.hid s2
  clear hb2 s2
  go_wp2_with fail
  refine Calls.mono (H.out w2 B2.out).2 ?_
  rintro e w3 ⟨⟨A2, c2, rfl, s3⟩, hb3⟩
  have B3 := Lib.hid (bthen' B2.out B2.out.size hb3)
  have S23 := Lib.hid (S2.out.below hb3)
  have S3 := Lib.hid s3
  clear hb3 s3
  go_wp2_with fail
  refine Calls.mono (HS.out w3 B3.out) ?_
  rintro e w4 ⟨rfl, hb4⟩
  have B4 := Lib.hid (bthen' B3.out B3.out.size hb4)
  have S24 := Lib.hid (S23.out.below hb4)
  have S34 := Lib.hid (S3.out.below hb4)
  clear hb4
  go_wp2_with fail
  have BZ := Lib.hid (show (w4.alloc (Obj.cells #[.int .u32 0, .int .i64 0, .int .i64 0, .int .u64 0, .int .u64 0, .int .u64 0, .int .u64 0] 40)).heap[w4.heap.size]? = some (Obj.cells #[.int .u32 0, .int .i64 0, .int .i64 0, .int .u64 0, .int .u64 0, .int .u64 0, .int .u64 0] 40) from heap_alloc_new w4 _)
  go_loopw [8] (fun i wr => ∃ k : Nat, k ≤ n ∧ i = .int .i64 k ∧ Hid (Below w.heap.size w wr) ∧ Hid (Below w4.heap.size w4 wr) ∧ Hid (wr.heap[w4.heap.size]? = some (Obj.cells #[.int .u32 0, .int .i64 0, .int .i64 0, .int .u64 0, .int .u64 0, .int .u64 0, .int .u64 0] 40))) (fun i _ => n - (intOf i).toNat)
  case atStart => exact ⟨0, Nat.zero_le _, rfl, Lib.hid (B4.out.alloc B4.out.size _), Lib.hid ((Below.refl _ _).alloc (Nat.le_refl _) _), BZ⟩
  case round =>
    obtain ⟨k, hk, rfl, hbw, hb4, hbz⟩ := hrel
    by_cases hlt : k < n
    · obtain ⟨r, hx⟩ : ∃ r, xs[k]? = some r := ⟨_, List.getElem?_eq_getElem (by rw [← HN.out]; exact hlt)⟩
      obtain ⟨b, o, rfl, ha⟩ := (HR.out.below hbw.out) k r hx
      obtain ⟨b1, o1, rfl, ha1⟩ := (S24.out.below hb4.out) k ⟨1, zR, r⟩ (by simp [hx])
      obtain ⟨b2, o2, rfl, ha2⟩ := (S34.out.below hb4.out) k ⟨2, r, zR⟩ (by simp [hx])
      obtain ⟨c0, c1, c2, c3, c4, c5, c6⟩ := ha
      have ha1' : wr.cell? ⟨b1, o1 + k * 15, none⟩ = some (.int .i64 1) ∧ wr.cell? ⟨b1, o1 + k * 15 + 1, none⟩ = some (.int .u32 0) ∧ wr.cell? ⟨b1, o1 + k * 15 + 2, none⟩ = some (.int .i64 0) ∧ wr.cell? ⟨b1, o1 + k * 15 + 3, none⟩ = some (.int .i64 0) ∧ wr.cell? ⟨b1, o1 + k * 15 + 4, none⟩ = some (.int .u64 0) ∧ wr.cell? ⟨b1, o1 + k * 15 + 5, none⟩ = some (.int .u64 0) ∧ wr.cell? ⟨b1, o1 + k * 15 + 6, none⟩ = some (.int .u64 0) ∧ wr.cell? ⟨b1, o1 + k * 15 + 7, none⟩ = some (.int .u64 0) ∧ wr.cell? ⟨b1, o1 + k * 15 + 8, none⟩ = some (.int .u32 r.p.a) ∧ wr.cell? ⟨b1, o1 + k * 15 + 9, none⟩ = some (.int .i64 r.p.l) ∧ wr.cell? ⟨b1, o1 + k * 15 + 10, none⟩ = some (.int .i64 r.m) ∧ wr.cell? ⟨b1, o1 + k * 15 + 11, none⟩ = some (.int .u64 r.o0) ∧ wr.cell? ⟨b1, o1 + k * 15 + 12, none⟩ = some (.int .u64 r.o1) ∧ wr.cell? ⟨b1, o1 + k * 15 + 13, none⟩ = some (.int .u64 r.h0) ∧ wr.cell? ⟨b1, o1 + k * 15 + 14, none⟩ = some (.int .u64 r.h1) := ha1
      have ha2' : wr.cell? ⟨b2, o2 + k * 15, none⟩ = some (.int .i64 2) ∧ wr.cell? ⟨b2, o2 + k * 15 + 1, none⟩ = some (.int .u32 r.p.a) ∧ wr.cell? ⟨b2, o2 + k * 15 + 2, none⟩ = some (.int .i64 r.p.l) ∧ wr.cell? ⟨b2, o2 + k * 15 + 3, none⟩ = some (.int .i64 r.m) ∧ wr.cell? ⟨b2, o2 + k * 15 + 4, none⟩ = some (.int .u64 r.o0) ∧ wr.cell? ⟨b2, o2 + k * 15 + 5, none⟩ = some (.int .u64 r.o1) ∧ wr.cell? ⟨b2, o2 + k * 15 + 6, none⟩ = some (.int .u64 r.h0) ∧ wr.cell? ⟨b2, o2 + k * 15 + 7, none⟩ = some (.int .u64 r.h1) ∧ wr.cell? ⟨b2, o2 + k * 15 + 8, none⟩ = some (.int .u32 0) ∧ wr.cell? ⟨b2, o2 + k * 15 + 9, none⟩ = some (.int .i64 0) ∧ wr.cell? ⟨b2, o2 + k * 15 + 10, none⟩ = some (.int .i64 0) ∧ wr.cell? ⟨b2, o2 + k * 15 + 11, none⟩ = some (.int .u64 0) ∧ wr.cell? ⟨b2, o2 + k * 15 + 12, none⟩ = some (.int .u64 0) ∧ wr.cell? ⟨b2, o2 + k * 15 + 13, none⟩ = some (.int .u64 0) ∧ wr.cell? ⟨b2, o2 + k * 15 + 14, none⟩ = some (.int .u64 0) := ha2
      obtain ⟨d0, d1, d2, d3, d4, d5, d6, d7, d8, d9, d10, d11, d12, d13, d14⟩ := ha1'
      obtain ⟨e0, e1, e2, e3, e4, e5, e6, e7, e8, e9, e10, e11, e12, e13, e14⟩ := ha2'
      have hz : wr.cell? ⟨w4.heap.size, 0, none⟩ = some (.int .u32 0) ∧ wr.cell? ⟨w4.heap.size, 1, none⟩ = some (.int .i64 0) ∧ wr.cell? ⟨w4.heap.size, 2, none⟩ = some (.int .i64 0) ∧ wr.cell? ⟨w4.heap.size, 3, none⟩ = some (.int .u64 0) ∧ wr.cell? ⟨w4.heap.size, 4, none⟩ = some (.int .u64 0) ∧ wr.cell? ⟨w4.heap.size, 5, none⟩ = some (.int .u64 0) ∧ wr.cell? ⟨w4.heap.size, 6, none⟩ = some (.int .u64 0) := by simp [World.cell?, hbz.out]
      obtain ⟨z0, z1, z2, z3, z4, z5, z6⟩ := hz
      have hwk : IntKind.i64.wrap (k : Int) = k := wrapk (by omega)
      have hk0 : (0 : Int) ≤ (k : Int) := by omega
      have hkn : (k : Int) < (n : Int) := by omega
      have HC : ∀ w2, Below wr.heap.size wr w2 → (w2.cell? ⟨b, o + k * 7, none⟩ = some (.int .u32 r.p.a) ∧ w2.cell? ⟨b, o + k * 7 + 1, none⟩ = some (.int .i64 r.p.l) ∧ w2.cell? ⟨b, o + k * 7 + 2, none⟩ = some (.int .i64 r.m) ∧ w2.cell? ⟨b, o + k * 7 + 3, none⟩ = some (.int .u64 r.o0) ∧ w2.cell? ⟨b, o + k * 7 + 4, none⟩ = some (.int .u64 r.o1) ∧ w2.cell? ⟨b, o + k * 7 + 5, none⟩ = some (.int .u64 r.h0) ∧ w2.cell? ⟨b, o + k * 7 + 6, none⟩ = some (.int .u64 r.h1)) ∧ (w2.cell? ⟨b1, o1 + k * 15, none⟩ = some (.int .i64 1) ∧ w2.cell? ⟨b1, o1 + k * 15 + 1, none⟩ = some (.int .u32 0) ∧ w2.cell? ⟨b1, o1 + k * 15 + 2, none⟩ = some (.int .i64 0) ∧ w2.cell? ⟨b1, o1 + k * 15 + 3, none⟩ = some (.int .i64 0) ∧ w2.cell? ⟨b1, o1 + k * 15 + 4, none⟩ = some (.int .u64 0) ∧ w2.cell? ⟨b1, o1 + k * 15 + 5, none⟩ = some (.int .u64 0) ∧ w2.cell? ⟨b1, o1 + k * 15 + 6, none⟩ = some (.int .u64 0) ∧ w2.cell? ⟨b1, o1 + k * 15 + 7, none⟩ = some (.int .u64 0) ∧ w2.cell? ⟨b1, o1 + k * 15 + 8, none⟩ = some (.int .u32 r.p.a) ∧ w2.cell? ⟨b1, o1 + k * 15 + 9, none⟩ = some (.int .i64 r.p.l) ∧ w2.cell? ⟨b1, o1 + k * 15 + 10, none⟩ = some (.int .i64 r.m) ∧ w2.cell? ⟨b1, o1 + k * 15 + 11, none⟩ = some (.int .u64 r.o0) ∧ w2.cell? ⟨b1, o1 + k * 15 + 12, none⟩ = some (.int .u64 r.o1) ∧ w2.cell? ⟨b1, o1 + k * 15 + 13, none⟩ = some (.int .u64 r.h0) ∧ w2.cell? ⟨b1, o1 + k * 15 + 14, none⟩ = some (.int .u64 r.h1)) ∧ (w2.cell? ⟨b2, o2 + k * 15, none⟩ = some (.int .i64 2) ∧ w2.cell? ⟨b2, o2 + k * 15 + 1, none⟩ = some (.int .u32 r.p.a) ∧ w2.cell? ⟨b2, o2 + k * 15 + 2, none⟩ = some (.int .i64 r.p.l) ∧ w2.cell? ⟨b2, o2 + k * 15 + 3, none⟩ = some (.int .i64 r.m) ∧ w2.cell? ⟨b2, o2 + k * 15 + 4, none⟩ = some (.int .u64 r.o0) ∧ w2.cell? ⟨b2, o2 + k * 15 + 5, none⟩ = some (.int .u64 r.o1) ∧ w2.cell? ⟨b2, o2 + k * 15 + 6, none⟩ = some (.int .u64 r.h0) ∧ w2.cell? ⟨b2, o2 + k * 15 + 7, none⟩ = some (.int .u64 r.h1) ∧ w2.cell? ⟨b2, o2 + k * 15 + 8, none⟩ = some (.int .u32 0) ∧ w2.cell? ⟨b2, o2 + k * 15 + 9, none⟩ = some (.int .i64 0) ∧ w2.cell? ⟨b2, o2 + k * 15 + 10, none⟩ = some (.int .i64 0) ∧ w2.cell? ⟨b2, o2 + k * 15 + 11, none⟩ = some (.int .u64 0) ∧ w2.cell? ⟨b2, o2 + k * 15 + 12, none⟩ = some (.int .u64 0) ∧ w2.cell? ⟨b2, o2 + k * 15 + 13, none⟩ = some (.int .u64 0) ∧ w2.cell? ⟨b2, o2 + k * 15 + 14, none⟩ = some (.int .u64 0)) ∧ (w2.cell? ⟨w4.heap.size, 0, none⟩ = some (.int .u32 0) ∧ w2.cell? ⟨w4.heap.size, 1, none⟩ = some (.int .i64 0) ∧ w2.cell? ⟨w4.heap.size, 2, none⟩ = some (.int .i64 0) ∧ w2.cell? ⟨w4.heap.size, 3, none⟩ = some (.int .u64 0) ∧ w2.cell? ⟨w4.heap.size, 4, none⟩ = some (.int .u64 0) ∧ w2.cell? ⟨w4.heap.size, 5, none⟩ = some (.int .u64 0) ∧ w2.cell? ⟨w4.heap.size, 6, none⟩ = some (.int .u64 0)) := fun w2 h => ⟨⟨bcell h c0, bcell h c1, bcell h c2, bcell h c3, bcell h c4, bcell h c5, bcell h c6⟩, ⟨bcell h d0, bcell h d1, bcell h d2, bcell h d3, bcell h d4, bcell h d5, bcell h d6, bcell h d7, bcell h d8, bcell h d9, bcell h d10, bcell h d11, bcell h d12, bcell h d13, bcell h d14⟩, ⟨bcell h e0, bcell h e1, bcell h e2, bcell h e3, bcell h e4, bcell h e5, bcell h e6, bcell h e7, bcell h e8, bcell h e9, bcell h e10, bcell h e11, bcell h e12, bcell h e13, bcell h e14⟩, ⟨bcell h z0, bcell h z1, bcell h z2, bcell h z3, bcell h z4, bcell h z5, bcell h z6⟩⟩
      have te1 : eqRb r.p.a r.p.l r.m r.o0 r.o1 r.h0 r.h1 r.p.a r.p.l r.m r.o0 r.o1 r.h0 r.h1 = true := (eqRb_of r r).trans (decide_eq_true rfl)
      have te0 : eqRb 0 0 0 0 0 0 0 0 0 0 0 0 0 0 = true := by decide
      clear c0 c1 c2 c3 c4 c5 c6 d0 d1 d2 d3 d4 d5 d6 d7 d8 d9 d10 d11 d12 d13 d14 e0 e1 e2 e3 e4 e5 e6 e7 e8 e9 e10 e11 e12 e13 e14 z0 z1 z2 z3 z4 z5 z6 ha1 ha2 hx
      go_wp2_with fail
      refine Og.walk_lit [[],[],[0,1],[2,0,1],[3,2,0,1],[4,3,2,0,1],[5,4,3,2,0,1],[6,5,4,3,2,0,1],[6,5,4,3,2,0,1],[7,8,6,5,4,3,2,0,1],[9,6,7,8,5,4,3,2,0,1],[10,6,9,7,8,5,4,3,2,0,1],[6,5,4,3,2,0,1],[6,5,4,3,2,0,1],[12,13,6,5,4,3,2,0,1],[14,6,12,13,5,4,3,2,0,1],[11,15,6,10,9,7,8,5,4,3,2,0,1,14,12,13],[6,16,5,4,3,2,0,1,11,15,10,9,7,8,14,12,13],[17,6,16,5,4,3,2,0,1,11,15,10,9,7,8,14,12,13],[18,17,6,16,5,4,3,2,0,1,11,15,10,9,7,8,14,12,13],[18,17,6,16,5,4,3,2,0,1,11,15,10,9,7,8,14,12,13],[19,20,18,17,6,16,5,4,3,2,0,1,11,15,10,9,7,8,14,12,13],[21,18,19,20,17,6,16,5,4,3,2,0,1,11,15,10,9,7,8,14,12,13],[22,18,21,19,20,17,6,16,5,4,3,2,0,1,11,15,10,9,7,8,14,12,13],[18,17,6,16,5,4,3,2,0,1,11,15,10,9,7,8,14,12,13],[23,24,18,22,21,19,20,17,6,16,5,4,3,2,0,1,11,15,10,9,7,8,14,12,13],[18,25,17,6,16,5,4,3,2,0,1,11,15,10,9,7,8,14,12,13,23,24,22,21,19,20],[26,18,25,17,6,16,5,4,3,2,0,1,11,15,10,9,7,8,14,12,13,23,24,22,21,19,20],[27,26,18,25,17,6,16,5,4,3,2,0,1,11,15,10,9,7,8,14,12,13,23,24,22,21,19,20],[27,26,18,25,17,6,16,5,4,3,2,0,1,11,15,10,9,7,8,14,12,13,23,24,22,21,19,20],[28,29,27,26,18,25,17,6,16,5,4,3,2,0,1,11,15,10,9,7,8,14,12,13,23,24,22,21,19,20],[30,27,28,29,26,18,25,17,6,16,5,4,3,2,0,1,11,15,10,9,7,8,14,12,13,23,24,22,21,19,20],[31,27,30,28,29,26,18,25,17,6,16,5,4,3,2,0,1,11,15,10,9,7,8,14,12,13,23,24,22,21,19,20],[32,27,31,30,28,29,26,18,25,17,6,16,5,4,3,2,0,1,11,15,10,9,7,8,14,12,13,23,24,22,21,19,20],[27,33,26,18,25,17,6,16,5,4,3,2,0,1,11,15,10,9,7,8,14,12,13,23,24,22,21,19,20,32,31,30,28,29],[34,27,33,26,18,25,17,6,16,5,4,3,2,0,1,11,15,10,9,7,8,14,12,13,23,24,22,21,19,20,32,31,30,28,29],[35,34,27,33,26,18,25,17,6,16,5,4,3,2,0,1,11,15,10,9,7,8,14,12,13,23,24,22,21,19,20,32,31,30,28,29],[35,34,27,33,26,18,25,17,6,16,5,4,3,2,0,1,11,15,10,9,7,8,14,12,13,23,24,22,21,19,20,32,31,30,28,29],[36,37,35,34,27,33,26,18,25,17,6,16,5,4,3,2,0,1,11,15,10,9,7,8,14,12,13,23,24,22,21,19,20,32,31,30,28,29],[38,35,36,37,34,27,33,26,18,25,17,6,16,5,4,3,2,0,1,11,15,10,9,7,8,14,12,13,23,24,22,21,19,20,32,31,30,28,29],[39,35,38,36,37,34,27,33,26,18,25,17,6,16,5,4,3,2,0,1,11,15,10,9,7,8,14,12,13,23,24,22,21,19,20,32,31,30,28,29],[35,34,27,33,26,18,25,17,6,16,5,4,3,2,0,1,11,15,10,9,7,8,14,12,13,23,24,22,21,19,20,32,31,30,28,29],[35,34,27,33,26,18,25,17,6,16,5,4,3,2,0,1,11,15,10,9,7,8,14,12,13,23,24,22,21,19,20,32,31,30,28,29],[41,42,35,34,27,33,26,18,25,17,6,16,5,4,3,2,0,1,11,15,10,9,7,8,14,12,13,23,24,22,21,19,20,32,31,30,28,29],[43,35,41,42,34,27,33,26,18,25,17,6,16,5,4,3,2,0,1,11,15,10,9,7,8,14,12,13,23,24,22,21,19,20,32,31,30,28,29],[40,44,35,39,38,36,37,34,27,33,26,18,25,17,6,16,5,4,3,2,0,1,11,15,10,9,7,8,14,12,13,23,24,22,21,19,20,32,31,30,28,29,43,41,42],[35,45,34,27,33,26,18,25,17,6,16,5,4,3,2,0,1,11,15,10,9,7,8,14,12,13,23,24,22,21,19,20,32,31,30,28,29,40,44,39,38,36,37,43,41,42],[46,35,45,34,27,33,26,18,25,17,6,16,5,4,3,2,0,1,11,15,10,9,7,8,14,12,13,23,24,22,21,19,20,32,31,30,28,29,40,44,39,38,36,37,43,41,42],[47,46,35,45,34,27,33,26,18,25,17,6,16,5,4,3,2,0,1,11,15,10,9,7,8,14,12,13,23,24,22,21,19,20,32,31,30,28,29,40,44,39,38,36,37,43,41,42],[47,46,35,45,34,27,33,26,18,25,17,6,16,5,4,3,2,0,1,11,15,10,9,7,8,14,12,13,23,24,22,21,19,20,32,31,30,28,29,40,44,39,38,36,37,43,41,42],[48,49,47,46,35,45,34,27,33,26,18,25,17,6,16,5,4,3,2,0,1,11,15,10,9,7,8,14,12,13,23,24,22,21,19,20,32,31,30,28,29,40,44,39,38,36,37,43,41,42],[50,47,48,49,46,35,45,34,27,33,26,18,25,17,6,16,5,4,3,2,0,1,11,15,10,9,7,8,14,12,13,23,24,22,21,19,20,32,31,30,28,29,40,44,39,38,36,37,43,41,42],[51,47,50,48,49,46,35,45,34,27,33,26,18,25,17,6,16,5,4,3,2,0,1,11,15,10,9,7,8,14,12,13,23,24,22,21,19,20,32,31,30,28,29,40,44,39,38,36,37,43,41,42],[47,46,35,45,34,27,33,26,18,25,17,6,16,5,4,3,2,0,1,11,15,10,9,7,8,14,12,13,23,24,22,21,19,20,32,31,30,28,29,40,44,39,38,36,37,43,41,42],[52,53,47,51,50,48,49,46,35,45,34,27,33,26,18,25,17,6,16,5,4,3,2,0,1,11,15,10,9,7,8,14,12,13,23,24,22,21,19,20,32,31,30,28,29,40,44,39,38,36,37,43,41,42],[47,54,46,35,45,34,27,33,26,18,25,17,6,16,5,4,3,2,0,1,11,15,10,9,7,8,14,12,13,23,24,22,21,19,20,32,31,30,28,29,40,44,39,38,36,37,43,41,42,52,53,51,50,48,49]] (fun w2 => Below wr.heap.size wr w2) (fun w1 w2 => Below w1.heap.size w1 w2) (by kernel_rfl) (by kernel_rfl) (bdrew) ?_
      repeat (first | (refine Og.step_pure (fun _ => Below.refl _ _) ?_; apply Exists.intro; refine And.intro ?_ ?_; focus (intro vs w2 hC hk; have hm := HC w2 hC; revert hk; simp only [Og.KS, Og.K0, Og.Is, List.getD_cons_zero, List.getD_cons_succ, List.getD_nil, List.contains_cons, List.contains_nil, Nat.reduceAdd, Nat.reduceBEq, Bool.or_false, Bool.false_or, Bool.or_true, Bool.true_or, Bool.false_eq_true, false_implies, true_implies, true_and, and_true, forall_const]; intros; go_simp; rfl)))
      intro vs w2 hC hk
      have hm := HC w2 hC
      simp only [Og.KS, Og.K0, Og.Is, List.getD_cons_zero, List.getD_cons_succ, List.getD_nil, List.contains_cons, List.contains_nil, Nat.reduceAdd, Nat.reduceBEq, Bool.or_false, Bool.false_or, Bool.or_true, Bool.true_or, Bool.false_eq_true, false_implies, true_implies, true_and, and_true, forall_const] at hk
      simp only [hk, Act.put, List.setIfInBounds_toArray, List.set_cons_zero, List.set_cons_succ]
      clear hk
      have HB2 := Lib.hid (bthen' hbw.out hbw.out.size hC)
      have HB4 := Lib.hid (bthen' hb4.out hb4.out.size hC)
      have HZ := Lib.hid ((hC.block _ (Array.getElem?_eq_some_iff.1 hbz.out).1).trans hbz.out)
      clear hC hm HC hbw hb4 hbz
      go_wp2_with fail
      go_roundw
      case rel => exact ⟨k + 1, by omega, by go_num, HB2, HB4, HZ⟩
      case measure => simp [intOf]; omega
    · have hkn : k = n := by omega
      subst hkn
      go_wp2_with fail
      go_ret
      exact ⟨rfl, hbw.out⟩

theorem DeltaEnds_ok (xs : List Ro) (A : Option Addr) (c : Nat) (w : World) (hr : RdR w A xs) (hA0 : A = none → c = 0) (hl : xs.length ≤ 2513169434843) (hf : ∀ (i : Nat) r, xs[i]? = some r → FitR r) :
    Calls Try.prog 4 #[.slice A xs.length c] w fun e w' => e = .returned (.bool true) ∧ Below w.heap.size w w' := by
  cases h : sndT xs with
  | false => exact DeltaEnds_no xs A c w hr hA0 hl hf h
  | true => exact DeltaEnds_yes xs A c w hr hA0 hl hf h

end Go.Proofs.Ytpnhkniegjfncaa
