/- Lists of routes and changes as they lie in memory. Conditions: none. -/
import Derived.Test.YtpnhkniegjfncaaD3
namespace Go.Proofs.Ytpnhkniegjfncaa
open Go.ChangeShapes Go.WideShapes Go.ChangeAt Go.RowKit
set_option linter.unusedVariables false
set_option linter.unusedSimpArgs false
attribute [local go_sem] Og.Opt Og.OpY

/-- the route r lies at b, o -/
def AtR (w : World) (b o : Nat) (r : Ro) : Prop := w.cell? ⟨b, o, none⟩ = some (.int .u32 r.p.a) ∧ w.cell? ⟨b, o + 1, none⟩ = some (.int .i64 r.p.l) ∧ w.cell? ⟨b, o + 2, none⟩ = some (.int .i64 r.m) ∧ w.cell? ⟨b, o + 3, none⟩ = some (.int .u64 r.o0) ∧ w.cell? ⟨b, o + 4, none⟩ = some (.int .u64 r.o1) ∧ w.cell? ⟨b, o + 5, none⟩ = some (.int .u64 r.h0) ∧ w.cell? ⟨b, o + 6, none⟩ = some (.int .u64 r.h1)
/-- the change c lies at b, o -/
def AtC (w : World) (b o : Nat) (c : Ch) : Prop := w.cell? ⟨b, o, none⟩ = some (.int .i64 c.k) ∧ w.cell? ⟨b, o + 1, none⟩ = some (.int .u32 c.o.p.a) ∧ w.cell? ⟨b, o + 2, none⟩ = some (.int .i64 c.o.p.l) ∧ w.cell? ⟨b, o + 3, none⟩ = some (.int .i64 c.o.m) ∧ w.cell? ⟨b, o + 4, none⟩ = some (.int .u64 c.o.o0) ∧ w.cell? ⟨b, o + 5, none⟩ = some (.int .u64 c.o.o1) ∧ w.cell? ⟨b, o + 6, none⟩ = some (.int .u64 c.o.h0) ∧ w.cell? ⟨b, o + 7, none⟩ = some (.int .u64 c.o.h1) ∧ w.cell? ⟨b, o + 8, none⟩ = some (.int .u32 c.n.p.a) ∧ w.cell? ⟨b, o + 9, none⟩ = some (.int .i64 c.n.p.l) ∧ w.cell? ⟨b, o + 10, none⟩ = some (.int .i64 c.n.m) ∧ w.cell? ⟨b, o + 11, none⟩ = some (.int .u64 c.n.o0) ∧ w.cell? ⟨b, o + 12, none⟩ = some (.int .u64 c.n.o1) ∧ w.cell? ⟨b, o + 13, none⟩ = some (.int .u64 c.n.h0) ∧ w.cell? ⟨b, o + 14, none⟩ = some (.int .u64 c.n.h1)
/-- the routes xs lie from A on -/
def RdR (w : World) (A : Option Addr) (xs : List Ro) : Prop := ∀ i r, xs[i]? = some r → ∃ b o, A = some ⟨b, o, none⟩ ∧ AtR w b (o + i * 7) r
def RdC (w : World) (A : Option Addr) (xs : List Ch) : Prop := ∀ i c, xs[i]? = some c → ∃ b o, A = some ⟨b, o, none⟩ ∧ AtC w b (o + i * 15) c
theorem AtR.below {w w2 : World} {b o : Nat} {r : Ro} (h : AtR w b o r) (hb : Below w.heap.size w w2) : AtR w2 b o r := by
  obtain ⟨h0, h1, h2, h3, h4, h5, h6⟩ := h
  exact ⟨bcell hb h0, bcell hb h1, bcell hb h2, bcell hb h3, bcell hb h4, bcell hb h5, bcell hb h6⟩
theorem AtC.below {w w2 : World} {b o : Nat} {c : Ch} (h : AtC w b o c) (hb : Below w.heap.size w w2) : AtC w2 b o c := by
  obtain ⟨h0, h1, h2, h3, h4, h5, h6, h7, h8, h9, h10, h11, h12, h13, h14⟩ := h
  exact ⟨bcell hb h0, bcell hb h1, bcell hb h2, bcell hb h3, bcell hb h4, bcell hb h5, bcell hb h6, bcell hb h7, bcell hb h8, bcell hb h9, bcell hb h10, bcell hb h11, bcell hb h12, bcell hb h13, bcell hb h14⟩
theorem RdR.below {w w2 : World} {A : Option Addr} {xs : List Ro} (h : RdR w A xs) (hb : Below w.heap.size w w2) : RdR w2 A xs := fun i r hi => by
  obtain ⟨b, o, hA, ha⟩ := h i r hi
  exact ⟨b, o, hA, ha.below hb⟩
theorem RdC.below {w w2 : World} {A : Option Addr} {xs : List Ch} (h : RdC w A xs) (hb : Below w.heap.size w w2) : RdC w2 A xs := fun i r hi => by
  obtain ⟨b, o, hA, ha⟩ := h i r hi
  exact ⟨b, o, hA, ha.below hb⟩
/-- is the route at i sound, and behind the one ahead of it? -/
def okI (xs : List Ro) (i : Nat) : Bool := match xs[i]? with
  | none => true
  | some r => rouB r && (match i with
    | 0 => true
    | j + 1 => match xs[j]? with
      | some r' => befP r'.p r.p
      | none => true)
def sndT (xs : List Ro) : Bool := (List.range xs.length).all (okI xs)
theorem sndT_false {xs : List Ro} {i : Nat} (hi : i < xs.length) (h : okI xs i = false) : sndT xs = false := by
  cases hs : sndT xs with
  | false => rfl
  | true => have := List.all_eq_true.1 hs i (List.mem_range.2 hi); rw [h] at this; cases this
theorem sndT_true {xs : List Ro} (h : ∀ i, i < xs.length → okI xs i = true) : sndT xs = true :=
  List.all_eq_true.2 fun i hi => h i (List.mem_range.1 hi)
def errT (b : Bool) : Int := if b then 0 else 1
theorem wrapk {k : Nat} (h : k ≤ 1125899906842624) : IntKind.i64.wrap (k : Int) = k := by
  simp only [IntKind.wrap, IntKind.bits, IntKind.signed]
  simp
  omega

set_option maxRecDepth 100000 in
set_option maxHeartbeats 4000000 in
theorem Sound_ok (xs : List Ro) (A : Option Addr) (c : Nat) (w : World) (hr : RdR w A xs) (hl : xs.length ≤ 1125899906842624) :
    Calls Try.prog 22 #[.slice A xs.length c] w fun e w' => e = .returned (.int .i64 (errT (sndT xs))) ∧ Below w.heap.size w w' := by
  obtain ⟨n, hn⟩ : ∃ n, n = xs.length := ⟨_, rfl⟩
  rw [← hn] at hl
  have HN := Lib.hid hn
  have HR := Lib.hid hr
  rw [← hn]
  clear hn hr
  go_enter Try.func22, Try.ntmps22
  go_wp2_with fail
  go_loopw [7] (fun i wr => ∃ k : Nat, k ≤ n ∧ i = .int .i64 k ∧ Hid (∀ j, j < k → okI xs j = true) ∧ Hid (Below w.heap.size w wr)) (fun i _ => n - (intOf i).toNat)
  case atStart => exact ⟨0, Nat.zero_le _, rfl, Lib.hid (fun j hj => by omega), Lib.hid (Below.refl _ _)⟩
  case round =>
    obtain ⟨k, hk, rfl, hall, hbw⟩ := hrel
    by_cases hlt : k < n
    · obtain ⟨r, hx⟩ : ∃ r, xs[k]? = some r := ⟨_, List.getElem?_eq_getElem (by rw [← HN.out]; exact hlt)⟩
      obtain ⟨b, o, rfl, ha⟩ := (HR.out.below hbw.out) k r hx
      have HX := Lib.hid hx
      have HA := Lib.hid ha
      obtain ⟨c0, c1, c2, c3, c4, c5, c6⟩ := ha
      clear hx
      cases h1 : rouB r with
      | false =>
        have H1 : Hid (∀ w, Calls Try.prog 46 #[.agg #[.int .u32 r.p.a, .int .i64 r.p.l, .int .i64 r.m, .int .u64 r.o0, .int .u64 r.o1, .int .u64 r.h0, .int .u64 r.h1]] w fun e w' => e = .returned (.bool false) ∧ Below w.heap.size w w') := Lib.hid (fun w => by have := sound_ok r w; rwa [h1] at this)
        have e : errT (sndT xs) = 1 := by
          rw [sndT_false (i := k) (by rw [← HN.out]; exact hlt) (by unfold okI; rw [HX.out]; simp [h1])]; rfl
        have E := Lib.hid e
        clear e h1
        go_wp2_with fail
        obtain ⟨W, hW⟩ : ∃ W, W = wr.alloc (Obj.cells #[.int .u32 r.p.a, .int .i64 r.p.l, .int .i64 r.m, .int .u64 r.o0, .int .u64 r.o1, .int .u64 r.h0, .int .u64 r.h1] 40) := ⟨_, rfl⟩
        have hB : Below wr.heap.size wr W := by rw [hW]; exact (Below.refl _ _).alloc (Nat.le_refl _) _
        have HC : ∀ w2, Below W.heap.size W w2 → w2.cell? ⟨wr.heap.size, 0, none⟩ = some (.int .u32 r.p.a) ∧ w2.cell? ⟨wr.heap.size, 1, none⟩ = some (.int .i64 r.p.l) ∧ w2.cell? ⟨wr.heap.size, 2, none⟩ = some (.int .i64 r.m) ∧ w2.cell? ⟨wr.heap.size, 3, none⟩ = some (.int .u64 r.o0) ∧ w2.cell? ⟨wr.heap.size, 4, none⟩ = some (.int .u64 r.o1) ∧ w2.cell? ⟨wr.heap.size, 5, none⟩ = some (.int .u64 r.h0) ∧ w2.cell? ⟨wr.heap.size, 6, none⟩ = some (.int .u64 r.h1) :=
          fun w2 h => ⟨bcell h (by rw [hW]; simp), bcell h (by rw [hW]; simp), bcell h (by rw [hW]; simp), bcell h (by rw [hW]; simp), bcell h (by rw [hW]; simp), bcell h (by rw [hW]; simp), bcell h (by rw [hW]; simp)⟩
        have HBW := Lib.hid (bthen' hbw.out hbw.out.size hB)
        rw [← hW]
        clear hW hbw
        refine Og.walk_lit [[],[0],[1,0],[2,1,0],[3,2,1,0],[4,3,2,1,0],[5,3,4,2,1,0],[6,5,3,4,2,1,0],[6,5,3,4,2,1,0],[8,6,5,3,4,2,1,0],[7,9,6,5,3,4,2,1,0,8],[10,6,7,9,5,3,4,2,1,0,8],[11,6,10,7,9,5,3,4,2,1,0,8],[6,5,3,4,2,1,0],[13,6,5,3,4,2,1,0],[12,14,6,11,10,7,9,5,3,4,2,1,0,8,13],[15,6,12,14,11,10,7,9,5,3,4,2,1,0,8,13],[6,16,3,5,4,2,1,0,15,12,14,11,10,7,9,8,13],[3,17,2,1,0,6,16,5,4,15,12,14,11,10,7,9,8,13]] (fun w2 => Below W.heap.size W w2) (fun w1 w2 => Below w1.heap.size w1 w2) (by kernel_rfl) (by kernel_rfl) (bdrew) ?_
        repeat (first | (refine Og.step_pure (fun _ => Below.refl _ _) ?_; apply Exists.intro; refine And.intro ?_ ?_; focus (intro vs w2 hC hk; have hm := HC w2 hC; revert hk; simp only [Og.KS, Og.K0, Og.Is, List.getD_cons_zero, List.getD_cons_succ, List.getD_nil, List.contains_cons, List.contains_nil, Nat.reduceAdd, Nat.reduceBEq, Bool.or_false, Bool.false_or, Bool.or_true, Bool.true_or, Bool.false_eq_true, false_implies, true_implies, true_and, and_true, forall_const]; intros; go_simp; rfl)) | (refine Og.step_one ?_; apply Exists.intro; refine And.intro ?_ ?_; focus (intro vs w2 hC hk; have hm := HC w2 hC; revert hk; simp only [Og.KS, Og.K0, Og.Is, List.getD_cons_zero, List.getD_cons_succ, List.getD_nil, List.contains_cons, List.contains_nil, Nat.reduceAdd, Nat.reduceBEq, Bool.or_false, Bool.false_or, Bool.or_true, Bool.true_or, Bool.false_eq_true, false_implies, true_implies, true_and, and_true, forall_const]; intros; go_simp; with_reducible refine (H1.out _).mono ?_; rintro e w3 ⟨rfl, hb⟩; exact Og.RetV.mk ⟨bthen hC hb, hb, rfl⟩)))
        intro vs w2 hC hk
        have hm := HC w2 hC
        simp only [Og.KS, Og.K0, Og.Is, List.getD_cons_zero, List.getD_cons_succ, List.getD_nil, List.contains_cons, List.contains_nil, Nat.reduceAdd, Nat.reduceBEq, Bool.or_false, Bool.false_or, Bool.or_true, Bool.true_or, Bool.false_eq_true, false_implies, true_implies, true_and, and_true, forall_const] at hk
        simp only [hk, Act.put, List.setIfInBounds_toArray, List.set_cons_zero, List.set_cons_succ]
        clear hk
        have HB2 := Lib.hid (bthen' HBW.out HBW.out.size hC)
        clear hC hm HC HBW
        go_wp2_with fail
        go_ret
        exact ⟨by rw [E.out]; rfl, HB2.out⟩
      | true =>
        have H1 : Hid (∀ w, Calls Try.prog 46 #[.agg #[.int .u32 r.p.a, .int .i64 r.p.l, .int .i64 r.m, .int .u64 r.o0, .int .u64 r.o1, .int .u64 r.h0, .int .u64 r.h1]] w fun e w' => e = .returned (.bool true) ∧ Below w.heap.size w w') := Lib.hid (fun w => by have := sound_ok r w; rwa [h1] at this)
        rcases k with _ | k
        · have N : Hid (Hid (∀ j, j < 0 + 1 → okI xs j = true)) := Lib.hid (Lib.hid (fun j hj => by
            obtain rfl : j = 0 := by omega
            unfold okI; rw [HX.out]; simp [h1]))
          clear h1
          simp only [Nat.zero_mul, Nat.add_zero] at c0 c1 c2 c3 c4 c5 c6
          go_wp2_with fail
          obtain ⟨W, hW⟩ : ∃ W, W = wr.alloc (Obj.cells #[.int .u32 r.p.a, .int .i64 r.p.l, .int .i64 r.m, .int .u64 r.o0, .int .u64 r.o1, .int .u64 r.h0, .int .u64 r.h1] 40) := ⟨_, rfl⟩
          have hB : Below wr.heap.size wr W := by rw [hW]; exact (Below.refl _ _).alloc (Nat.le_refl _) _
          have HC : ∀ w2, Below W.heap.size W w2 → w2.cell? ⟨wr.heap.size, 0, none⟩ = some (.int .u32 r.p.a) ∧ w2.cell? ⟨wr.heap.size, 1, none⟩ = some (.int .i64 r.p.l) ∧ w2.cell? ⟨wr.heap.size, 2, none⟩ = some (.int .i64 r.m) ∧ w2.cell? ⟨wr.heap.size, 3, none⟩ = some (.int .u64 r.o0) ∧ w2.cell? ⟨wr.heap.size, 4, none⟩ = some (.int .u64 r.o1) ∧ w2.cell? ⟨wr.heap.size, 5, none⟩ = some (.int .u64 r.h0) ∧ w2.cell? ⟨wr.heap.size, 6, none⟩ = some (.int .u64 r.h1) :=
            fun w2 h => ⟨bcell h (by rw [hW]; simp), bcell h (by rw [hW]; simp), bcell h (by rw [hW]; simp), bcell h (by rw [hW]; simp), bcell h (by rw [hW]; simp), bcell h (by rw [hW]; simp), bcell h (by rw [hW]; simp)⟩
          have HBW := Lib.hid (bthen' hbw.out hbw.out.size hB)
          rw [← hW]
          clear hW hbw
          refine Og.walk_lit [[],[0],[1,0],[2,1,0],[3,2,1,0],[4,3,2,1,0],[5,3,4,2,1,0],[6,5,3,4,2,1,0],[6,5,3,4,2,1,0],[8,6,5,3,4,2,1,0],[7,9,6,5,3,4,2,1,0,8],[10,6,7,9,5,3,4,2,1,0,8],[11,6,10,7,9,5,3,4,2,1,0,8],[6,5,3,4,2,1,0],[13,6,5,3,4,2,1,0],[12,14,6,11,10,7,9,5,3,4,2,1,0,8,13],[15,6,12,14,11,10,7,9,5,3,4,2,1,0,8,13],[6,16,3,5,4,2,1,0,15,12,14,11,10,7,9,8,13],[3,17,2,1,0,6,16,5,4,15,12,14,11,10,7,9,8,13]] (fun w2 => Below W.heap.size W w2) (fun w1 w2 => Below w1.heap.size w1 w2) (by kernel_rfl) (by kernel_rfl) (bdrew) ?_
          repeat (first | (refine Og.step_pure (fun _ => Below.refl _ _) ?_; apply Exists.intro; refine And.intro ?_ ?_; focus (intro vs w2 hC hk; have hm := HC w2 hC; revert hk; simp only [Og.KS, Og.K0, Og.Is, List.getD_cons_zero, List.getD_cons_succ, List.getD_nil, List.contains_cons, List.contains_nil, Nat.reduceAdd, Nat.reduceBEq, Bool.or_false, Bool.false_or, Bool.or_true, Bool.true_or, Bool.false_eq_true, false_implies, true_implies, true_and, and_true, forall_const]; intros; go_simp; rfl)) | (refine Og.step_one ?_; apply Exists.intro; refine And.intro ?_ ?_; focus (intro vs w2 hC hk; have hm := HC w2 hC; revert hk; simp only [Og.KS, Og.K0, Og.Is, List.getD_cons_zero, List.getD_cons_succ, List.getD_nil, List.contains_cons, List.contains_nil, Nat.reduceAdd, Nat.reduceBEq, Bool.or_false, Bool.false_or, Bool.or_true, Bool.true_or, Bool.false_eq_true, false_implies, true_implies, true_and, and_true, forall_const]; intros; go_simp; with_reducible refine (H1.out _).mono ?_; rintro e w3 ⟨rfl, hb⟩; exact Og.RetV.mk ⟨bthen hC hb, hb, rfl⟩)))
          intro vs w2 hC hk
          have hm := HC w2 hC
          simp only [Og.KS, Og.K0, Og.Is, List.getD_cons_zero, List.getD_cons_succ, List.getD_nil, List.contains_cons, List.contains_nil, Nat.reduceAdd, Nat.reduceBEq, Bool.or_false, Bool.false_or, Bool.or_true, Bool.true_or, Bool.false_eq_true, false_implies, true_implies, true_and, and_true, forall_const] at hk
          simp only [hk, Act.put, List.setIfInBounds_toArray, List.set_cons_zero, List.set_cons_succ]
          clear hk
          have HB2 := Lib.hid (bthen' HBW.out HBW.out.size hC)
          clear hC hm HC HBW
          go_wp2_with fail
          go_roundw
          case rel => exact ⟨0 + 1, by omega, by go_num, N.out, HB2⟩
          case measure => simp [intOf]; omega
        · obtain ⟨r', hx'⟩ : ∃ r', xs[k]? = some r' := ⟨_, List.getElem?_eq_getElem (by rw [← HN.out]; omega)⟩
          obtain ⟨b', o', hA', ha'⟩ := (HR.out.below hbw.out) k r' hx'
          injection hA' with hA'
          injection hA' with hb' ho' _
          subst hb' ho'
          obtain ⟨d0, d1, d2, d3, d4, d5, d6⟩ := ha'
          have HX' := Lib.hid hx'
          clear hx'
          have hwk : IntKind.i64.wrap (k : Int) = k := wrapk (by omega)
          have hk0 : (0 : Int) ≤ (k : Int) := by omega
          have hkn : (k : Int) < (n : Int) := by omega
          cases h2 : befP r'.p r.p with
          | false =>
            have H2 : Hid (∀ w, Calls Try.prog 26 #[.agg #[.int .u32 r'.p.a, .int .i64 r'.p.l], .agg #[.int .u32 r.p.a, .int .i64 r.p.l]] w fun e w' => e = .returned (.bool false) ∧ Below w.heap.size w w') := Lib.hid (fun w => by have := before_ok r'.p r.p w; rwa [h2] at this)
            have e : errT (sndT xs) = 1 := by
              rw [sndT_false (i := k + 1) (by rw [← HN.out]; exact hlt) (by unfold okI; rw [HX.out]; simp [h1, HX'.out, h2])]; rfl
            have E := Lib.hid e
            clear e h1 h2
            go_wp2_with fail
            obtain ⟨W, hW⟩ : ∃ W, W = wr.alloc (Obj.cells #[.int .u32 r.p.a, .int .i64 r.p.l, .int .i64 r.m, .int .u64 r.o0, .int .u64 r.o1, .int .u64 r.h0, .int .u64 r.h1] 40) := ⟨_, rfl⟩
            have hB : Below wr.heap.size wr W := by rw [hW]; exact (Below.refl _ _).alloc (Nat.le_refl _) _
            have HC : ∀ w2, Below W.heap.size W w2 → w2.cell? ⟨wr.heap.size, 0, none⟩ = some (.int .u32 r.p.a) ∧ w2.cell? ⟨wr.heap.size, 1, none⟩ = some (.int .i64 r.p.l) ∧ w2.cell? ⟨wr.heap.size, 2, none⟩ = some (.int .i64 r.m) ∧ w2.cell? ⟨wr.heap.size, 3, none⟩ = some (.int .u64 r.o0) ∧ w2.cell? ⟨wr.heap.size, 4, none⟩ = some (.int .u64 r.o1) ∧ w2.cell? ⟨wr.heap.size, 5, none⟩ = some (.int .u64 r.h0) ∧ w2.cell? ⟨wr.heap.size, 6, none⟩ = some (.int .u64 r.h1) ∧ w2.cell? ⟨b, o + k * 7, none⟩ = some (.int .u32 r'.p.a) ∧ w2.cell? ⟨b, o + k * 7 + 1, none⟩ = some (.int .i64 r'.p.l) :=
              fun w2 h => ⟨bcell h (by rw [hW]; simp), bcell h (by rw [hW]; simp), bcell h (by rw [hW]; simp), bcell h (by rw [hW]; simp), bcell h (by rw [hW]; simp), bcell h (by rw [hW]; simp), bcell h (by rw [hW]; simp), bcell h (bcell hB d0), bcell h (bcell hB d1)⟩
            have HBW := Lib.hid (bthen' hbw.out hbw.out.size hB)
            rw [← hW]
            clear hW hbw
            refine Og.walk_lit [[],[0],[1,0],[2,1,0],[3,2,1,0],[4,3,2,1,0],[5,3,4,2,1,0],[6,5,3,4,2,1,0],[6,5,3,4,2,1,0],[8,6,5,3,4,2,1,0],[7,9,6,5,3,4,2,1,0,8],[10,6,7,9,5,3,4,2,1,0,8],[11,6,10,7,9,5,3,4,2,1,0,8],[6,5,3,4,2,1,0],[13,6,5,3,4,2,1,0],[12,14,6,11,10,7,9,5,3,4,2,1,0,8,13],[15,6,12,14,11,10,7,9,5,3,4,2,1,0,8,13],[6,16,3,5,4,2,1,0,15,12,14,11,10,7,9,8,13],[3,17,2,1,0,6,16,5,4,15,12,14,11,10,7,9,8,13]] (fun w2 => Below W.heap.size W w2) (fun w1 w2 => Below w1.heap.size w1 w2) (by kernel_rfl) (by kernel_rfl) (bdrew) ?_
            repeat (first | (refine Og.step_pure (fun _ => Below.refl _ _) ?_; apply Exists.intro; refine And.intro ?_ ?_; focus (intro vs w2 hC hk; have hm := HC w2 hC; revert hk; simp only [Og.KS, Og.K0, Og.Is, List.getD_cons_zero, List.getD_cons_succ, List.getD_nil, List.contains_cons, List.contains_nil, Nat.reduceAdd, Nat.reduceBEq, Bool.or_false, Bool.false_or, Bool.or_true, Bool.true_or, Bool.false_eq_true, false_implies, true_implies, true_and, and_true, forall_const]; intros; go_simp; rfl)) | (refine Og.step_one ?_; apply Exists.intro; refine And.intro ?_ ?_; focus (intro vs w2 hC hk; have hm := HC w2 hC; revert hk; simp only [Og.KS, Og.K0, Og.Is, List.getD_cons_zero, List.getD_cons_succ, List.getD_nil, List.contains_cons, List.contains_nil, Nat.reduceAdd, Nat.reduceBEq, Bool.or_false, Bool.false_or, Bool.or_true, Bool.true_or, Bool.false_eq_true, false_implies, true_implies, true_and, and_true, forall_const]; intros; go_simp; with_reducible refine (H1.out _).mono ?_; rintro e w3 ⟨rfl, hb⟩; exact Og.RetV.mk ⟨bthen hC hb, hb, rfl⟩)) | (refine Og.step_one ?_; apply Exists.intro; refine And.intro ?_ ?_; focus (intro vs w2 hC hk; have hm := HC w2 hC; revert hk; simp only [Og.KS, Og.K0, Og.Is, List.getD_cons_zero, List.getD_cons_succ, List.getD_nil, List.contains_cons, List.contains_nil, Nat.reduceAdd, Nat.reduceBEq, Bool.or_false, Bool.false_or, Bool.or_true, Bool.true_or, Bool.false_eq_true, false_implies, true_implies, true_and, and_true, forall_const]; intros; go_simp; with_reducible refine (H2.out _).mono ?_; rintro e w3 ⟨rfl, hb⟩; exact Og.RetV.mk ⟨bthen hC hb, hb, rfl⟩)))
            intro vs w2 hC hk
            have hm := HC w2 hC
            simp only [Og.KS, Og.K0, Og.Is, List.getD_cons_zero, List.getD_cons_succ, List.getD_nil, List.contains_cons, List.contains_nil, Nat.reduceAdd, Nat.reduceBEq, Bool.or_false, Bool.false_or, Bool.or_true, Bool.true_or, Bool.false_eq_true, false_implies, true_implies, true_and, and_true, forall_const] at hk
            simp only [hk, Act.put, List.setIfInBounds_toArray, List.set_cons_zero, List.set_cons_succ]
            clear hk
            have HB2 := Lib.hid (bthen' HBW.out HBW.out.size hC)
            clear hC hm HC HBW
            go_wp2_with fail
            go_ret
            exact ⟨by rw [E.out]; rfl, HB2.out⟩
          | true =>
            have H2 : Hid (∀ w, Calls Try.prog 26 #[.agg #[.int .u32 r'.p.a, .int .i64 r'.p.l], .agg #[.int .u32 r.p.a, .int .i64 r.p.l]] w fun e w' => e = .returned (.bool true) ∧ Below w.heap.size w w') := Lib.hid (fun w => by have := before_ok r'.p r.p w; rwa [h2] at this)
            have N : Hid (Hid (∀ j, j < k + 1 + 1 → okI xs j = true)) := Lib.hid (Lib.hid (fun j hj => by
              by_cases hjk : j = k + 1
              · subst hjk; unfold okI; rw [HX.out]; simp [h1, HX'.out, h2]
              · exact hall.out j (by omega)))
            clear h1 h2
            go_wp2_with fail
            obtain ⟨W, hW⟩ : ∃ W, W = wr.alloc (Obj.cells #[.int .u32 r.p.a, .int .i64 r.p.l, .int .i64 r.m, .int .u64 r.o0, .int .u64 r.o1, .int .u64 r.h0, .int .u64 r.h1] 40) := ⟨_, rfl⟩
            have hB : Below wr.heap.size wr W := by rw [hW]; exact (Below.refl _ _).alloc (Nat.le_refl _) _
            have HC : ∀ w2, Below W.heap.size W w2 → w2.cell? ⟨wr.heap.size, 0, none⟩ = some (.int .u32 r.p.a) ∧ w2.cell? ⟨wr.heap.size, 1, none⟩ = some (.int .i64 r.p.l) ∧ w2.cell? ⟨wr.heap.size, 2, none⟩ = some (.int .i64 r.m) ∧ w2.cell? ⟨wr.heap.size, 3, none⟩ = some (.int .u64 r.o0) ∧ w2.cell? ⟨wr.heap.size, 4, none⟩ = some (.int .u64 r.o1) ∧ w2.cell? ⟨wr.heap.size, 5, none⟩ = some (.int .u64 r.h0) ∧ w2.cell? ⟨wr.heap.size, 6, none⟩ = some (.int .u64 r.h1) ∧ w2.cell? ⟨b, o + k * 7, none⟩ = some (.int .u32 r'.p.a) ∧ w2.cell? ⟨b, o + k * 7 + 1, none⟩ = some (.int .i64 r'.p.l) :=
              fun w2 h => ⟨bcell h (by rw [hW]; simp), bcell h (by rw [hW]; simp), bcell h (by rw [hW]; simp), bcell h (by rw [hW]; simp), bcell h (by rw [hW]; simp), bcell h (by rw [hW]; simp), bcell h (by rw [hW]; simp), bcell h (bcell hB d0), bcell h (bcell hB d1)⟩
            have HBW := Lib.hid (bthen' hbw.out hbw.out.size hB)
            rw [← hW]
            clear hW hbw
            refine Og.walk_lit [[],[0],[1,0],[2,1,0],[3,2,1,0],[4,3,2,1,0],[5,3,4,2,1,0],[6,5,3,4,2,1,0],[6,5,3,4,2,1,0],[8,6,5,3,4,2,1,0],[7,9,6,5,3,4,2,1,0,8],[10,6,7,9,5,3,4,2,1,0,8],[11,6,10,7,9,5,3,4,2,1,0,8],[6,5,3,4,2,1,0],[13,6,5,3,4,2,1,0],[12,14,6,11,10,7,9,5,3,4,2,1,0,8,13],[15,6,12,14,11,10,7,9,5,3,4,2,1,0,8,13],[6,16,3,5,4,2,1,0,15,12,14,11,10,7,9,8,13],[3,17,2,1,0,6,16,5,4,15,12,14,11,10,7,9,8,13]] (fun w2 => Below W.heap.size W w2) (fun w1 w2 => Below w1.heap.size w1 w2) (by kernel_rfl) (by kernel_rfl) (bdrew) ?_
            repeat (first | (refine Og.step_pure (fun _ => Below.refl _ _) ?_; apply Exists.intro; refine And.intro ?_ ?_; focus (intro vs w2 hC hk; have hm := HC w2 hC; revert hk; simp only [Og.KS, Og.K0, Og.Is, List.getD_cons_zero, List.getD_cons_succ, List.getD_nil, List.contains_cons, List.contains_nil, Nat.reduceAdd, Nat.reduceBEq, Bool.or_false, Bool.false_or, Bool.or_true, Bool.true_or, Bool.false_eq_true, false_implies, true_implies, true_and, and_true, forall_const]; intros; go_simp; rfl)) | (refine Og.step_one ?_; apply Exists.intro; refine And.intro ?_ ?_; focus (intro vs w2 hC hk; have hm := HC w2 hC; revert hk; simp only [Og.KS, Og.K0, Og.Is, List.getD_cons_zero, List.getD_cons_succ, List.getD_nil, List.contains_cons, List.contains_nil, Nat.reduceAdd, Nat.reduceBEq, Bool.or_false, Bool.false_or, Bool.or_true, Bool.true_or, Bool.false_eq_true, false_implies, true_implies, true_and, and_true, forall_const]; intros; go_simp; with_reducible refine (H1.out _).mono ?_; rintro e w3 ⟨rfl, hb⟩; exact Og.RetV.mk ⟨bthen hC hb, hb, rfl⟩)) | (refine Og.step_one ?_; apply Exists.intro; refine And.intro ?_ ?_; focus (intro vs w2 hC hk; have hm := HC w2 hC; revert hk; simp only [Og.KS, Og.K0, Og.Is, List.getD_cons_zero, List.getD_cons_succ, List.getD_nil, List.contains_cons, List.contains_nil, Nat.reduceAdd, Nat.reduceBEq, Bool.or_false, Bool.false_or, Bool.or_true, Bool.true_or, Bool.false_eq_true, false_implies, true_implies, true_and, and_true, forall_const]; intros; go_simp; with_reducible refine (H2.out _).mono ?_; rintro e w3 ⟨rfl, hb⟩; exact Og.RetV.mk ⟨bthen hC hb, hb, rfl⟩)))
            intro vs w2 hC hk
            have hm := HC w2 hC
            simp only [Og.KS, Og.K0, Og.Is, List.getD_cons_zero, List.getD_cons_succ, List.getD_nil, List.contains_cons, List.contains_nil, Nat.reduceAdd, Nat.reduceBEq, Bool.or_false, Bool.false_or, Bool.or_true, Bool.true_or, Bool.false_eq_true, false_implies, true_implies, true_and, and_true, forall_const] at hk
            simp only [hk, Act.put, List.setIfInBounds_toArray, List.set_cons_zero, List.set_cons_succ]
            clear hk
            have HB2 := Lib.hid (bthen' HBW.out HBW.out.size hC)
            clear hC hm HC HBW
            go_wp2_with fail
            go_roundw
            case rel => exact ⟨k + 1 + 1, by omega, by go_num, N.out, HB2⟩
            case measure => simp [intOf]; omega
    · have hkn : k = n := by omega
      subst hkn
      have e : errT (sndT xs) = 0 := by rw [sndT_true (fun i hi => hall.out i (by rw [HN.out]; exact hi))]; rfl
      have E := Lib.hid e
      clear e
      go_wp2_with fail
      go_ret
      exact ⟨by rw [E.out]; rfl, hbw.out⟩

end Go.Proofs.Ytpnhkniegjfncaa
