/- The reference's soundness of prefixes and routes is the program's; condition: the address is a uint32. -/
import Derived.Test.YtpnhkniegjfncaaD2
namespace Go.Proofs.Ytpnhkniegjfncaa
open Go.ChangeShapes Go.WideShapes Go.ChangeAt Go.RowKit
set_option linter.unusedVariables false
set_option linter.unusedSimpArgs false
attribute [local go_sem] Og.Opt Og.OpY
attribute [local go_sem high] eqB1 eqP1 eqR1 eqC1

def bitB (a k : Int) : Bool := (a / 2 ^ (31 - k).toNat).tmod 2 == 1
theorem mask_bits : ∀ s : Fin 33, ∀ i : Fin 32, (BitVec.ofInt 32 (IntKind.u64.wrap (18446744073709551615 * 2 ^ s.val) % 4294967296)).getLsbD i.val = decide (s.val ≤ i.val) := by decide +kernel
theorem bitB_nat (n : Nat) (k : Int) : bitB n k = n.testBit (31 - k).toNat := by
  unfold bitB
  have e : ((n : Int) / 2 ^ (31 - k).toNat) = ((n / 2 ^ (31 - k).toNat : Nat) : Int) := by norm_cast
  rw [e, Nat.testBit_eq_decide_div_mod_eq]
  have e2 : ((n / 2 ^ (31 - k).toNat : Nat) : Int).tmod 2 = ((n / 2 ^ (31 - k).toNat % 2 : Nat) : Int) := (Int.ofNat_tmod _ 2).symm
  rw [e2]
  generalize n / 2 ^ (31 - k).toNat % 2 = z
  by_cases hz : z = 1
  · subst hz; rfl
  · have : ¬ (z : Int) = 1 := by omega
    simp [hz, this]
theorem andNot_zero (n : Nat) (hn : n < 4294967296) (l : Int) (h1 : 0 ≤ l) (h2 : l ≤ 32) :
    (bits .andNot .u32 (n : Int) (maskZ l) == 0) = true ↔ ∀ k : Int, l ≤ k → k < 32 → bitB n k = false := by
  obtain ⟨s, hs⟩ : ∃ s : Nat, (32 - l).toNat = s := ⟨_, rfl⟩
  have hs32 : s < 33 := by omega
  have hm : ∀ i : Nat, i < 32 → (BitVec.ofInt 32 (maskZ l)).getLsbD i = decide (s ≤ i) := by
    intro i hi
    unfold maskZ
    rw [hs]
    exact mask_bits ⟨s, hs32⟩ ⟨i, hi⟩
  have hz : (bits .andNot .u32 (n : Int) (maskZ l) == 0) = true ↔ (BitVec.ofInt 32 (n : Int) &&& ~~~ BitVec.ofInt 32 (maskZ l)) = 0#32 := by
    show (IntKind.u32.wrap (((BitVec.ofInt 32 (n : Int) &&& ~~~ BitVec.ofInt 32 (maskZ l)).toNat : Nat) : Int) == 0) = true ↔ _
    generalize (BitVec.ofInt 32 (n : Int) &&& ~~~ BitVec.ofInt 32 (maskZ l)) = x
    have hx := x.isLt
    have e : IntKind.u32.wrap (x.toNat : Int) = (x.toNat : Int) := by
      simp only [IntKind.wrap, IntKind.bits, IntKind.signed]
      simp
      omega
    rw [e]
    constructor
    · intro h
      apply BitVec.eq_of_toNat_eq
      simpa using h
    · intro h
      rw [h]; rfl
  rw [hz]
  constructor
  · intro h k hk1 hk2
    rw [bitB_nat]
    have := congrArg (fun x => x.getLsbD (31 - k).toNat) h
    simp only [BitVec.getLsbD_and, BitVec.getLsbD_not, hm _ (show (31 - k).toNat < 32 by omega)] at this
    have hns : ¬ s ≤ (31 - k).toNat := by omega
    simpa [hns, BitVec.getLsbD, show (31 - k).toNat < 32 by omega, Nat.mod_eq_of_lt hn] using this
  · intro h
    apply BitVec.eq_of_getLsbD_eq
    intro i hi
    rw [BitVec.getLsbD_and, BitVec.getLsbD_not, hm i hi]
    by_cases hsi : s ≤ i
    · simp [hsi, hi]
    · have := h (31 - i) (by omega) (by omega)
      rw [bitB_nat, show (31 - (31 - (i : Int))).toNat = i by omega] at this
      simp [BitVec.getLsbD, this, Nat.mod_eq_of_lt hn]

theorem sndP_in {p : Pf} (h1 : 0 ≤ p.l) (h2 : p.l ≤ 32) (hf : FitP p) : sndP p = true ↔ ∀ k : Int, p.l ≤ k → k < 32 → bitB p.a k = false := by
  obtain ⟨n, hn⟩ := Int.eq_ofNat_of_zero_le hf.1
  have := andNot_zero n (by have := hf.2; omega) p.l h1 h2
  rw [← hn] at this
  rw [← this]
  unfold sndP
  simp [h1, h2]

set_option maxHeartbeats 1000000 in
theorem pok_ok (p : Pf) (w : World) (hf : FitP p) :
    Calls Try.prog 57 #[.agg #[.int .u32 p.a, .int .i64 p.l]] w fun e w' => e = .returned (.bool (sndP p)) ∧ Below w.heap.size w w' := by
  by_cases h0 : p.l < 0 ∨ 32 < p.l
  · have e : sndP p = false := by unfold sndP; simp; omega
    have E := Lib.hid e
    clear e hf
    rcases h0 with h0 | h0
    all_goals
      go_enter Try.func57, Try.ntmps57
      go_wp2_with fail
      go_ret
      exact ⟨by rw [E.out]; rfl, (Below.refl _ _).alloc (Nat.le_refl _) _⟩
  · have h1 : 0 ≤ p.l := by omega
    have h2 : p.l ≤ 32 := by omega
    clear h0
    have S := Lib.hid (sndP_in h1 h2 hf)
    clear hf
    go_enter Try.func57, Try.ntmps57
    go_wp2_with fail
    go_loop [3] (fun i => ∃ k : Int, p.l ≤ k ∧ k ≤ 32 ∧ i = .int .i64 k ∧ Hid (∀ j : Int, p.l ≤ j → j < k → bitB p.a j = false)) (fun i => (32 - intOf i).toNat)
    case atStart => exact ⟨_, by omega, by omega, rfl, Lib.hid (fun j h1 h2 => by omega)⟩
    case round =>
      obtain ⟨k, hk1, hk2, rfl, hall⟩ := hrel
      by_cases hlt : k < 32
      · cases hb : bitB p.a k with
        | true =>
          have hb' : ((p.a / 2 ^ (31 - k).toNat).tmod 2 == 1) = true := hb
          have e : sndP p = false := by
            cases hs : sndP p with
            | false => rfl
            | true => have := S.out.1 hs k hk1 hlt; rw [hb] at this; cases this
          have E := Lib.hid e
          clear e hb
          go_wp2_with fail
          go_ret
          exact ⟨by rw [E.out]; rfl, (Below.refl _ _).alloc (Nat.le_refl _) _⟩
        | false =>
          have hb' : ((p.a / 2 ^ (31 - k).toNat).tmod 2 == 1) = false := hb
          have HB := Lib.hid hb
          clear hb
          go_wp2_with fail
          go_round
          case rel => exact ⟨k + 1, by omega, by omega, rfl, Lib.hid (fun j h1 h2 => by
            by_cases hj : j = k
            · rw [hj]; exact HB.out
            · exact hall.out j h1 (by omega))⟩
          case measure => simp [intOf]; omega
      · have e : sndP p = true := S.out.2 (fun j h1 h2 => hall.out j h1 (by omega))
        have E := Lib.hid e
        clear e
        go_wp2_with fail
        go_ret
        exact ⟨by rw [E.out]; rfl, (Below.refl _ _).alloc (Nat.le_refl _) _⟩

set_option maxHeartbeats 400000 in
theorem rcheck_ok (p : Pf) (w : World) (hf : FitP p) :
    Calls Try.prog 48 #[.agg #[.int .u32 p.a, .int .i64 p.l]] w fun e w' => e = .returned (.int .i64 (errB (sndP p))) ∧ Below w.heap.size w w' := by
  have H := Lib.hid (fun w => pok_ok p w hf)
  clear hf
  cases hs : sndP p with
  | true =>
    have E := Lib.hid hs
    rw [hs] at H
    clear hs
    go_enter Try.func48, Try.ntmps48
    go_wp2_with fail
    refine (H.out _).mono ?_
    rintro e w' ⟨rfl, hb⟩
    go_wp2_with fail
    go_ret
    exact ⟨rfl, bthen' (by repeat (first | exact Below.refl _ _ | refine Below.alloc ?_ (by first | exact Nat.le_refl _ | (simp; done) | (simp; omega)) _)) (by first | (simp; done) | (simp; omega)) hb⟩
  | false =>
    have E := Lib.hid hs
    rw [hs] at H
    clear hs
    go_enter Try.func48, Try.ntmps48
    go_wp2_with fail
    refine (H.out _).mono ?_
    rintro e w' ⟨rfl, hb⟩
    go_wp2_with fail
    go_ret
    exact ⟨rfl, bthen' (by repeat (first | exact Below.refl _ _ | refine Below.alloc ?_ (by first | exact Nat.le_refl _ | (simp; done) | (simp; omega)) _)) (by first | (simp; done) | (simp; omega)) hb⟩

set_option maxHeartbeats 400000 in
theorem ahead_ok (p q : Pf) (w : World) :
    Calls Try.prog 49 #[.agg #[.int .u32 p.a, .int .i64 p.l], .agg #[.int .u32 q.a, .int .i64 q.l]] w fun e w' => e = .returned (.bool (befP p q)) ∧ Below w.heap.size w w' := by
  have e : ∀ a b c : Bool, a = decide (p.a < q.a) → b = decide (p.a = q.a) → c = decide (p.l < q.l) → befP p q = (a || (b && c)) := by rintro a b c rfl rfl rfl; rfl
  have E := Lib.hid e
  clear e
  rcases Int.lt_trichotomy p.a q.a with h1 | h1 | h1
  · have t1 : decide (p.a < q.a) = true := decide_eq_true h1
    have X := Lib.hid (E.out true (decide (p.a = q.a)) (decide (p.l < q.l)) t1.symm rfl rfl)
    clear h1 E
    go_enter Try.func49, Try.ntmps49
    go_wp2_with fail
    go_ret
    exact ⟨by rw [X.out]; rfl, (by repeat (first | exact Below.refl _ _ | refine Below.alloc ?_ (by first | exact Nat.le_refl _ | (simp; done) | (simp; omega)) _))⟩
  · have t1 : decide (p.a < q.a) = false := decide_eq_false (by omega)
    have t2 : (p.a == q.a) = true := by simp [h1]
    cases h2 : decide (p.l < q.l) with
    | true =>
      have X := Lib.hid (E.out false true true t1.symm (by simp [h1]) h2.symm)
      clear h1 E
      go_enter Try.func49, Try.ntmps49
      go_wp2_with fail
      go_ret
      exact ⟨by rw [X.out]; rfl, (by repeat (first | exact Below.refl _ _ | refine Below.alloc ?_ (by first | exact Nat.le_refl _ | (simp; done) | (simp; omega)) _))⟩
    | false =>
      have X := Lib.hid (E.out false true false t1.symm (by simp [h1]) h2.symm)
      clear h1 E
      go_enter Try.func49, Try.ntmps49
      go_wp2_with fail
      go_ret
      exact ⟨by rw [X.out]; rfl, (by repeat (first | exact Below.refl _ _ | refine Below.alloc ?_ (by first | exact Nat.le_refl _ | (simp; done) | (simp; omega)) _))⟩
  · have t1 : decide (p.a < q.a) = false := decide_eq_false (by omega)
    have t2 : (p.a == q.a) = false := by simp; omega
    have X := Lib.hid (E.out false false (decide (p.l < q.l)) t1.symm (by simp; omega) rfl)
    clear h1 E
    go_enter Try.func49, Try.ntmps49
    go_wp2_with fail
    go_ret
    exact ⟨by rw [X.out]; rfl, (by repeat (first | exact Below.refl _ _ | refine Below.alloc ?_ (by first | exact Nat.le_refl _ | (simp; done) | (simp; omega)) _))⟩

set_option maxHeartbeats 1000000 in
theorem rou_ok0 (r : Ro) (w : World) (h0 : sndP r.p = false) (hf : FitR r) :
    Calls Try.prog 30 #[.agg #[.int .u32 r.p.a, .int .i64 r.p.l, .int .i64 r.m, .int .u64 r.o0, .int .u64 r.o1, .int .u64 r.h0, .int .u64 r.h1]] w fun e w' => e = .returned (.bool false) ∧ Below w.heap.size w w' := by
  have H : Hid (∀ w, Calls Try.prog 48 #[.agg #[.int .u32 r.p.a, .int .i64 r.p.l]] w fun e w' => e = .returned (.int .i64 2) ∧ Below w.heap.size w w') := Lib.hid (fun w => by have := rcheck_ok r.p w hf; rwa [h0] at this)
  go_enter Try.func30, Try.ntmps30
  go_wp2_with fail
  obtain ⟨W, hW⟩ : ∃ W, W = w.alloc (Obj.cells #[.int .u32 r.p.a, .int .i64 r.p.l, .int .i64 r.m, .int .u64 r.o0, .int .u64 r.o1, .int .u64 r.h0, .int .u64 r.h1] 40) := ⟨_, rfl⟩
  have HC : ∀ w2, Below W.heap.size W w2 → w2.cell? ⟨w.heap.size, 0, none⟩ = some (.int .u32 r.p.a) ∧ w2.cell? ⟨w.heap.size, 1, none⟩ = some (.int .i64 r.p.l) ∧ w2.cell? ⟨w.heap.size, 2, none⟩ = some (.int .i64 r.m) ∧ w2.cell? ⟨w.heap.size, 3, none⟩ = some (.int .u64 r.o0) ∧ w2.cell? ⟨w.heap.size, 4, none⟩ = some (.int .u64 r.o1) :=
    fun w2 h => ⟨bcell h (by rw [hW]; simp), bcell h (by rw [hW]; simp), bcell h (by rw [hW]; simp), bcell h (by rw [hW]; simp), bcell h (by rw [hW]; simp)⟩
  have hB : Below w.heap.size w W := by rw [hW]; exact (Below.refl _ _).alloc (Nat.le_refl _) _
  rw [← hW]
  clear hW
  refine (H.out W).mono ?_
  rintro e w3 ⟨rfl, hb⟩
  have hm := HC w3 hb
  go_wp2_with fail
  go_ret
  exact ⟨rfl, bthen' hB hB.size hb⟩

set_option maxHeartbeats 1000000 in
theorem rou_ok1 (r : Ro) (w : World) (h0 : sndP r.p = true) (h1 : decide (0 ≤ r.m) = false) (hf : FitR r) :
    Calls Try.prog 30 #[.agg #[.int .u32 r.p.a, .int .i64 r.p.l, .int .i64 r.m, .int .u64 r.o0, .int .u64 r.o1, .int .u64 r.h0, .int .u64 r.h1]] w fun e w' => e = .returned (.bool false) ∧ Below w.heap.size w w' := by
  have H : Hid (∀ w, Calls Try.prog 48 #[.agg #[.int .u32 r.p.a, .int .i64 r.p.l]] w fun e w' => e = .returned (.int .i64 0) ∧ Below w.heap.size w w') := Lib.hid (fun w => by have := rcheck_ok r.p w hf; rwa [h0] at this)
  go_enter Try.func30, Try.ntmps30
  go_wp2_with fail
  obtain ⟨W, hW⟩ : ∃ W, W = w.alloc (Obj.cells #[.int .u32 r.p.a, .int .i64 r.p.l, .int .i64 r.m, .int .u64 r.o0, .int .u64 r.o1, .int .u64 r.h0, .int .u64 r.h1] 40) := ⟨_, rfl⟩
  have HC : ∀ w2, Below W.heap.size W w2 → w2.cell? ⟨w.heap.size, 0, none⟩ = some (.int .u32 r.p.a) ∧ w2.cell? ⟨w.heap.size, 1, none⟩ = some (.int .i64 r.p.l) ∧ w2.cell? ⟨w.heap.size, 2, none⟩ = some (.int .i64 r.m) ∧ w2.cell? ⟨w.heap.size, 3, none⟩ = some (.int .u64 r.o0) ∧ w2.cell? ⟨w.heap.size, 4, none⟩ = some (.int .u64 r.o1) :=
    fun w2 h => ⟨bcell h (by rw [hW]; simp), bcell h (by rw [hW]; simp), bcell h (by rw [hW]; simp), bcell h (by rw [hW]; simp), bcell h (by rw [hW]; simp)⟩
  have hB : Below w.heap.size w W := by rw [hW]; exact (Below.refl _ _).alloc (Nat.le_refl _) _
  rw [← hW]
  clear hW
  refine (H.out W).mono ?_
  rintro e w3 ⟨rfl, hb⟩
  have hm := HC w3 hb
  go_wp2_with fail
  go_ret
  exact ⟨rfl, bthen' hB hB.size hb⟩

set_option maxHeartbeats 1000000 in
theorem rou_ok2 (r : Ro) (w : World) (h0 : sndP r.p = true) (h1 : decide (0 ≤ r.m) = true) (h2 : decide (r.m < 1073741824) = false) (hf : FitR r) :
    Calls Try.prog 30 #[.agg #[.int .u32 r.p.a, .int .i64 r.p.l, .int .i64 r.m, .int .u64 r.o0, .int .u64 r.o1, .int .u64 r.h0, .int .u64 r.h1]] w fun e w' => e = .returned (.bool false) ∧ Below w.heap.size w w' := by
  have H : Hid (∀ w, Calls Try.prog 48 #[.agg #[.int .u32 r.p.a, .int .i64 r.p.l]] w fun e w' => e = .returned (.int .i64 0) ∧ Below w.heap.size w w') := Lib.hid (fun w => by have := rcheck_ok r.p w hf; rwa [h0] at this)
  go_enter Try.func30, Try.ntmps30
  go_wp2_with fail
  obtain ⟨W, hW⟩ : ∃ W, W = w.alloc (Obj.cells #[.int .u32 r.p.a, .int .i64 r.p.l, .int .i64 r.m, .int .u64 r.o0, .int .u64 r.o1, .int .u64 r.h0, .int .u64 r.h1] 40) := ⟨_, rfl⟩
  have HC : ∀ w2, Below W.heap.size W w2 → w2.cell? ⟨w.heap.size, 0, none⟩ = some (.int .u32 r.p.a) ∧ w2.cell? ⟨w.heap.size, 1, none⟩ = some (.int .i64 r.p.l) ∧ w2.cell? ⟨w.heap.size, 2, none⟩ = some (.int .i64 r.m) ∧ w2.cell? ⟨w.heap.size, 3, none⟩ = some (.int .u64 r.o0) ∧ w2.cell? ⟨w.heap.size, 4, none⟩ = some (.int .u64 r.o1) :=
    fun w2 h => ⟨bcell h (by rw [hW]; simp), bcell h (by rw [hW]; simp), bcell h (by rw [hW]; simp), bcell h (by rw [hW]; simp), bcell h (by rw [hW]; simp)⟩
  have hB : Below w.heap.size w W := by rw [hW]; exact (Below.refl _ _).alloc (Nat.le_refl _) _
  rw [← hW]
  clear hW
  refine (H.out W).mono ?_
  rintro e w3 ⟨rfl, hb⟩
  have hm := HC w3 hb
  go_wp2_with fail
  go_ret
  exact ⟨rfl, bthen' hB hB.size hb⟩

set_option maxHeartbeats 1000000 in
theorem rou_ok3 (r : Ro) (w : World) (h0 : sndP r.p = true) (h1 : decide (0 ≤ r.m) = true) (h2 : decide (r.m < 1073741824) = true) (h3 : (!eqBb r.o0 r.o1 0 0) = false) (hf : FitR r) :
    Calls Try.prog 30 #[.agg #[.int .u32 r.p.a, .int .i64 r.p.l, .int .i64 r.m, .int .u64 r.o0, .int .u64 r.o1, .int .u64 r.h0, .int .u64 r.h1]] w fun e w' => e = .returned (.bool false) ∧ Below w.heap.size w w' := by
  have H : Hid (∀ w, Calls Try.prog 48 #[.agg #[.int .u32 r.p.a, .int .i64 r.p.l]] w fun e w' => e = .returned (.int .i64 0) ∧ Below w.heap.size w w') := Lib.hid (fun w => by have := rcheck_ok r.p w hf; rwa [h0] at this)
  go_enter Try.func30, Try.ntmps30
  go_wp2_with fail
  obtain ⟨W, hW⟩ : ∃ W, W = w.alloc (Obj.cells #[.int .u32 r.p.a, .int .i64 r.p.l, .int .i64 r.m, .int .u64 r.o0, .int .u64 r.o1, .int .u64 r.h0, .int .u64 r.h1] 40) := ⟨_, rfl⟩
  have HC : ∀ w2, Below W.heap.size W w2 → w2.cell? ⟨w.heap.size, 0, none⟩ = some (.int .u32 r.p.a) ∧ w2.cell? ⟨w.heap.size, 1, none⟩ = some (.int .i64 r.p.l) ∧ w2.cell? ⟨w.heap.size, 2, none⟩ = some (.int .i64 r.m) ∧ w2.cell? ⟨w.heap.size, 3, none⟩ = some (.int .u64 r.o0) ∧ w2.cell? ⟨w.heap.size, 4, none⟩ = some (.int .u64 r.o1) :=
    fun w2 h => ⟨bcell h (by rw [hW]; simp), bcell h (by rw [hW]; simp), bcell h (by rw [hW]; simp), bcell h (by rw [hW]; simp), bcell h (by rw [hW]; simp)⟩
  have hB : Below w.heap.size w W := by rw [hW]; exact (Below.refl _ _).alloc (Nat.le_refl _) _
  rw [← hW]
  clear hW
  refine (H.out W).mono ?_
  rintro e w3 ⟨rfl, hb⟩
  have hm := HC w3 hb
  go_wp2_with fail
  go_ret
  exact ⟨rfl, bthen' hB hB.size hb⟩

set_option maxHeartbeats 1000000 in
theorem rou_ok4 (r : Ro) (w : World) (h0 : sndP r.p = true) (h1 : decide (0 ≤ r.m) = true) (h2 : decide (r.m < 1073741824) = true) (h3 : (!eqBb r.o0 r.o1 0 0) = true) (hf : FitR r) :
    Calls Try.prog 30 #[.agg #[.int .u32 r.p.a, .int .i64 r.p.l, .int .i64 r.m, .int .u64 r.o0, .int .u64 r.o1, .int .u64 r.h0, .int .u64 r.h1]] w fun e w' => e = .returned (.bool true) ∧ Below w.heap.size w w' := by
  have H : Hid (∀ w, Calls Try.prog 48 #[.agg #[.int .u32 r.p.a, .int .i64 r.p.l]] w fun e w' => e = .returned (.int .i64 0) ∧ Below w.heap.size w w') := Lib.hid (fun w => by have := rcheck_ok r.p w hf; rwa [h0] at this)
  go_enter Try.func30, Try.ntmps30
  go_wp2_with fail
  obtain ⟨W, hW⟩ : ∃ W, W = w.alloc (Obj.cells #[.int .u32 r.p.a, .int .i64 r.p.l, .int .i64 r.m, .int .u64 r.o0, .int .u64 r.o1, .int .u64 r.h0, .int .u64 r.h1] 40) := ⟨_, rfl⟩
  have HC : ∀ w2, Below W.heap.size W w2 → w2.cell? ⟨w.heap.size, 0, none⟩ = some (.int .u32 r.p.a) ∧ w2.cell? ⟨w.heap.size, 1, none⟩ = some (.int .i64 r.p.l) ∧ w2.cell? ⟨w.heap.size, 2, none⟩ = some (.int .i64 r.m) ∧ w2.cell? ⟨w.heap.size, 3, none⟩ = some (.int .u64 r.o0) ∧ w2.cell? ⟨w.heap.size, 4, none⟩ = some (.int .u64 r.o1) :=
    fun w2 h => ⟨bcell h (by rw [hW]; simp), bcell h (by rw [hW]; simp), bcell h (by rw [hW]; simp), bcell h (by rw [hW]; simp), bcell h (by rw [hW]; simp)⟩
  have hB : Below w.heap.size w W := by rw [hW]; exact (Below.refl _ _).alloc (Nat.le_refl _) _
  rw [← hW]
  clear hW
  refine (H.out W).mono ?_
  rintro e w3 ⟨rfl, hb⟩
  have hm := HC w3 hb
  go_wp2_with fail
  go_ret
  exact ⟨rfl, bthen' hB hB.size hb⟩

theorem rou_ok (r : Ro) (w : World) (hf : FitR r) :
    Calls Try.prog 30 #[.agg #[.int .u32 r.p.a, .int .i64 r.p.l, .int .i64 r.m, .int .u64 r.o0, .int .u64 r.o1, .int .u64 r.h0, .int .u64 r.h1]] w fun e w' => e = .returned (.bool (rouB r)) ∧ Below w.heap.size w w' := by
  have e3 : (!eqBb r.o0 r.o1 0 0) = !(decide (r.o0 = 0) && decide (r.o1 = 0)) := by unfold eqBb; rw [Bool.decide_and]
  unfold rouB
  rw [← e3]
  cases h0 : sndP r.p with
  | false => exact rou_ok0 r w h0 hf
  | true =>
    cases h1 : decide (0 ≤ r.m) with
    | false => exact rou_ok1 r w h0 h1 hf
    | true =>
      cases h2 : decide (r.m < 1073741824) with
      | false => exact rou_ok2 r w h0 h1 h2 hf
      | true =>
        cases h3 : (!eqBb r.o0 r.o1 0 0) with
        | false => exact rou_ok3 r w h0 h1 h2 h3 hf
        | true => exact rou_ok4 r w h0 h1 h2 h3 hf

end Go.Proofs.Ytpnhkniegjfncaa
