/- The reference's sets: Has, List, Of, choose, Or, And, Len; conditions as stated. The reference makes a set of a list; conditions as stated. -/
import Derived.Test.YtjbglifmppilfaaDoorK0
import Derived.Test.YtjbglifmppilfaaDoorK1
namespace Go.Proofs.YtjbglifmppilfaaDoor
open Go.ChangeShapes Go.WideShapes Go.ChangeAt Go.RowKit
set_option linter.unusedVariables false
set_option linter.unusedSimpArgs false
attribute [local go_sem] Og.Opt Og.OpY
theorem cinfo25s : (Tryd.prog.info? 35).map (·.size) = some 2 := by kernel_rfl
theorem csize25 (w : World) : (sizeOf 35).run Tryd.prog w = .ok 2 w := by kernel_rfl
theorem cisAgg25 (w : World) : (isAgg 35).run Tryd.prog w = .ok true w := by kernel_rfl
theorem cinfo25 : (Tryd.prog.info? 35).map (fun i => (i.zero, i.size, i.bytes)) = some (some (.agg #[.int .u64 0, .int .u64 0]), 2, 16) := by kernel_rfl
theorem cinfo3 : (Tryd.prog.info? 3).map (fun i => (i.zero, i.size, i.bytes)) = some (some (.int .i64 0), 1, 8) := by kernel_rfl
theorem cinfo4 : (Tryd.prog.info? 4).map (fun i => (i.zero, i.size, i.bytes)) = some (some (.bool false), 1, 1) := by kernel_rfl
/-- cells of a number, of a set -/
def cI (n : Int) : List Value := [.int .i64 n]
def cM (M : Nat) : List Value := [.int .u64 (loM M), .int .u64 (hiM M)]
def cT (b : Bool) : List Value := [.bool b]
def mV (M : Nat) : Value := .agg #[.int .u64 (loM M), .int .u64 (hiM M)]
theorem cI_len (n : Int) : (cI n).length = 1 := rfl
theorem cM_len (n : Nat) : (cM n).length = 2 := rfl
theorem cT_len (n : Bool) : (cT n).length = 1 := rfl
theorem cI_one (n : Int) : ∀ u ∈ cI n, u.oneCell' = true := by intro u hu; simp [cI] at hu; subst hu; rfl
theorem cM_one (n : Nat) : ∀ u ∈ cM n, u.oneCell' = true := by intro u hu; simp [cM] at hu; rcases hu with rfl | rfl <;> rfl
theorem cT_one (n : Bool) : ∀ u ∈ cT n, u.oneCell' = true := by intro u hu; simp [cT] at hu; subst hu; rfl
theorem snocG {α : Type} {f : α → List Value} {w' : World} {base m : Nat} {ty : TypeId} {v' : Value} {pre : List α} {r : α} (h : w'.ownsRow base ty m v' (pre.length + 1) (pre.flatMap f ++ f r)) : w'.ownsRow base ty m v' (pre ++ [r]).length ((pre ++ [r]).flatMap f) := by
  rw [List.length_append, List.flatMap_append, List.flatMap_cons, List.flatMap_nil, List.append_nil]
  exact h
/-- append of one, for any element -/
theorem wpList_appG {α : Type} (f : α → List Value) (m sl ty by' : Nat) {z : Value} (hm : ∀ x, (f x).length = m) (h1 : ∀ x, ∀ u ∈ f x, u.oneCell' = true) (h0 : 0 < m)
    (hu : Tryd.prog.underlying sl = some (.slice ty)) (hinf : (Tryd.prog.info? ty).map (fun i => (i.zero, i.size, i.bytes)) = some (some z, m, by')) (hzs : z.cells.size = m) (hb : by' ≤ 32)
    {ops : Array Oper} {rest : List Oper} {o : Oper} {a : Act} {w : World} {Q : Exit → Act → World → Prop} (hgd : o.guard = none) (s x : Operand) (ho : o.op = .call { callee := .builtin .append, args := #[s, x], argTypes := #[sl, sl] })
    (base g : Nat) (v : Value) (pre : List α) (r : α) (hs : a.eval s = v) (hx : a.eval x = .slice (some ⟨g, 0, none⟩) 1 1) (hown : w.ownsRow base ty m v pre.length (pre.flatMap f)) (hg : w.heap[g]? = some (.cells (f r).toArray ty (0, 0))) (hl : pre.length ≤ 1172812402926) (hbase : base ≤ w.heap.size)
    (h : ∀ v' w', w'.ownsRow base ty m v' (pre ++ [r]).length ((pre ++ [r]).flatMap f) → w.grownBy w' v.ownBlock → wpList Tryd.prog ops Q rest (a.put o.dst v') w') : wpList Tryd.prog ops Q (o :: rest) a w := by
  obtain ⟨i, hi, hz', hsz, hby⟩ := info_parts hinf
  refine wpList_append_own w hgd s x sl ho base ty i _ m by' hu hi hz' hsz hby hzs h0 v pre.length (pre.flatMap f) hs hown ⟨g, 0, none⟩ 1 1 (f r) hx (by rw [hm, Nat.one_mul]) (news_heap hg) (h1 r) (by have := maxLen_ge; omega) ?_ hbase (fun v' w' h1 h2 _ => h v' w' (snocG h1) h2)
  have : (pre.length + 1) * by' ≤ 1172812402927 * 32 := Nat.mul_le_mul (by omega) hb
  omega
theorem cldM {w : World} {b : Nat} {M : Nat} (h : w.heap[b]? = some (.cells (cM M).toArray 35 (0, 0))) : (loadVar 35 ⟨b, 0, none⟩).run Tryd.prog w = .ok (mV M) w := run_loadL (cs := cM M) cisAgg25 csize25 rfl (AtL_heap h)
theorem loM_nn (M : Nat) : 0 ≤ loM M := Int.natCast_nonneg _
theorem hiM_nn (M : Nat) : 0 ≤ hiM M := Int.natCast_nonneg _
set_option maxRecDepth 100000 in
set_option maxHeartbeats 4000000 in
theorem rHas_ok (M n : Nat) (hM : M < 2 ^ 128) (hn : n < 128) (w : World) : Calls Tryd.prog 39 #[mV M, .int .i64 n] w fun e w' => e = .returned (.bool (M.testBit n)) ∧ Below w.heap.size w w' := by
  have hn0 : ¬ ((n : Int) < 0) := by omega
  have hn1 : ¬ (127 : Int) < (n : Int) := by omega
  obtain ⟨a, ha⟩ : ∃ a : Nat, a = M % 2 ^ 64 := ⟨_, rfl⟩
  obtain ⟨b, hb⟩ : ∃ b : Nat, b = M / 2 ^ 64 := ⟨_, rfl⟩
  have ha64 : a < 18446744073709551616 := by rw [ha]; exact Nat.mod_lt _ (by omega)
  have hb64 : b < 18446744073709551616 := by rw [hb]; omega
  have em : mV M = .agg #[.int .u64 (a : Int), .int .u64 (b : Int)] := by rw [ha, hb]; rfl
  rw [em]
  clear em
  obtain ⟨g, hg⟩ : ∃ g, g = w.heap.size := ⟨_, rfl⟩
  have b1 : Below w.heap.size w (w.alloc (.cells #[.int .u64 (a : Int), .int .u64 (b : Int)] 35)) := (Below.refl _ _).alloc (Nat.le_refl _) _
  have k0 : (w.alloc (.cells #[.int .u64 (a : Int), .int .u64 (b : Int)] 35)).heap[g]? = some (.cells #[.int .u64 (a : Int), .int .u64 (b : Int)] 35 (0, 0)) := heap_at hg
  by_cases h64 : n < 64
  · obtain ⟨m, hnm⟩ : ∃ m, n = m := ⟨n, rfl⟩
    have EQ : Hid ((a / 2 ^ m % 2 = 1) = (M.testBit n = true)) := Lib.hid (by have := lo_bit M h64; rw [← ha, hnm] at this; rw [hnm]; exact this)
    have hm64 : m < 64 := by omega
    have gq : wrap64 ((n : Int) / 64) = 0 := by unfold wrap64; omega
    have gq2 : Int.tdiv (n : Int) 64 = 0 := by rw [Int.tdiv_eq_ediv_of_nonneg (by omega)]; omega
    have gm : Int.tmod (n : Int) 64 = m := by rw [Int.tmod_eq_emod_of_nonneg (by omega)]; omega
    have c0 : (w.alloc (.cells #[.int .u64 (a : Int), .int .u64 (b : Int)] 35)).cell? ⟨g, 0, none⟩ = some (.int .u64 (a : Int)) := by rw [cell_of_row _ _ 0 _ _ _ k0]; rfl
    have B1 := Lib.hid b1
    have HNM := Lib.hid hnm
    clear b1 k0 hnm ha hb
    go_enter Tryd.func39, Tryd.ntmps39
    go_wp2_with fail
    rw [← hg]
    clear hg
    generalize (w.alloc (.cells #[.int .u64 (a : Int), .int .u64 (b : Int)] 35)) = wa at *
    clear hn0 hn1 c0 gq gq2
    go_loopw [5, 6] (fun u i wr => ∃ k : Nat, k ≤ m ∧ u = .int .u64 ((a / 2 ^ k : Nat) : Int) ∧ i = .int .i64 k ∧ Hid (Below w.heap.size w wr)) (fun _ i _ => m - (intOf i).toNat)
    case atStart => exact ⟨0, Nat.zero_le _, by rw [Nat.pow_zero, Nat.div_one], rfl, B1⟩
    case round =>
      obtain ⟨k, hk, rfl, rfl, hw⟩ := hrel
      obtain ⟨q, hq⟩ : ∃ q : Nat, q = a / 2 ^ k := ⟨_, rfl⟩
      rw [← hq]
      have HQ := Lib.hid hq
      have hq64 : q < 18446744073709551616 := by rw [hq]; exact Nat.lt_of_le_of_lt (Nat.div_le_self _ _) (by omega)
      by_cases hlt : k < m
      · have hwk1 : IntKind.i64.wrap ((k : Int) + 1) = (k : Int) + 1 := by rw [IntKind.wrap_i64]; omega
        have hkm : (k : Int) < (m : Int) := by omega
        have hd : Int.tdiv (q : Int) 2 = ((q / 2 : Nat) : Int) := by rw [Int.tdiv_eq_ediv_of_nonneg (by omega)]; omega
        have hwu : IntKind.u64.wrap ((q : Int) / 2) = ((q / 2 : Nat) : Int) := by rw [IntKind.wrap_u64]; omega
        clear hq
        go_wp2_with fail
        go_roundw
        case rel => exact ⟨k + 1, by omega, by rw [← half, ← HQ.out]; congr 1, by go_num, hw⟩
        case measure => simp [intOf]; omega
      · have hkm : k = m := by omega
        subst hkm
        have hd : Int.tmod (q : Int) 2 = ((q % 2 : Nat) : Int) := by rw [Int.tmod_eq_emod_of_nonneg (by omega)]; omega
        have hr : q % 2 = 0 ∨ q % 2 = 1 := by omega
        clear hq
        rw [← HQ.out] at EQ
        rcases hr with hr | hr
        · rw [hr] at hd EQ
          have : M.testBit n = false := by
            cases h : M.testBit n with
            | false => rfl
            | true => have := EQ.out; rw [h] at this; exact absurd (this.mpr rfl) (by omega)
          have HT := Lib.hid this
          clear this
          go_wp2_with fail
          go_ret
          exact ⟨by rw [HT.out]; rfl, hw.out⟩
        · rw [hr] at hd EQ
          have : M.testBit n = true := by
            have := EQ.out
            exact this.mp rfl
          have HT := Lib.hid this
          clear this
          go_wp2_with fail
          go_ret
          exact ⟨by rw [HT.out]; rfl, hw.out⟩
  · obtain ⟨m, hnm⟩ : ∃ m, n = 64 + m := ⟨n - 64, by omega⟩
    have EQ : Hid ((b / 2 ^ m % 2 = 1) = (M.testBit n = true)) := Lib.hid (by have := hi_bit M (show 64 ≤ n by omega); rw [← hb, show n - 64 = m by omega] at this; exact this)
    have hm64 : m < 64 := by omega
    have gq : wrap64 ((n : Int) / 64) = 1 := by unfold wrap64; omega
    have gq2 : Int.tdiv (n : Int) 64 = 1 := by rw [Int.tdiv_eq_ediv_of_nonneg (by omega)]; omega
    have gm : Int.tmod (n : Int) 64 = m := by rw [Int.tmod_eq_emod_of_nonneg (by omega)]; omega
    have c0 : (w.alloc (.cells #[.int .u64 (a : Int), .int .u64 (b : Int)] 35)).cell? ⟨g, 1, none⟩ = some (.int .u64 (b : Int)) := by rw [cell_of_row _ _ 1 _ _ _ k0]; rfl
    have B1 := Lib.hid b1
    have HNM := Lib.hid hnm
    clear b1 k0 hnm ha hb
    go_enter Tryd.func39, Tryd.ntmps39
    go_wp2_with fail
    rw [← hg]
    clear hg
    generalize (w.alloc (.cells #[.int .u64 (a : Int), .int .u64 (b : Int)] 35)) = wa at *
    clear hn0 hn1 c0 gq gq2
    go_loopw [5, 6] (fun u i wr => ∃ k : Nat, k ≤ m ∧ u = .int .u64 ((b / 2 ^ k : Nat) : Int) ∧ i = .int .i64 k ∧ Hid (Below w.heap.size w wr)) (fun _ i _ => m - (intOf i).toNat)
    case atStart => exact ⟨0, Nat.zero_le _, by rw [Nat.pow_zero, Nat.div_one], rfl, B1⟩
    case round =>
      obtain ⟨k, hk, rfl, rfl, hw⟩ := hrel
      obtain ⟨q, hq⟩ : ∃ q : Nat, q = b / 2 ^ k := ⟨_, rfl⟩
      rw [← hq]
      have HQ := Lib.hid hq
      have hq64 : q < 18446744073709551616 := by rw [hq]; exact Nat.lt_of_le_of_lt (Nat.div_le_self _ _) (by omega)
      by_cases hlt : k < m
      · have hwk1 : IntKind.i64.wrap ((k : Int) + 1) = (k : Int) + 1 := by rw [IntKind.wrap_i64]; omega
        have hkm : (k : Int) < (m : Int) := by omega
        have hd : Int.tdiv (q : Int) 2 = ((q / 2 : Nat) : Int) := by rw [Int.tdiv_eq_ediv_of_nonneg (by omega)]; omega
        have hwu : IntKind.u64.wrap ((q : Int) / 2) = ((q / 2 : Nat) : Int) := by rw [IntKind.wrap_u64]; omega
        clear hq
        go_wp2_with fail
        go_roundw
        case rel => exact ⟨k + 1, by omega, by rw [← half, ← HQ.out]; congr 1, by go_num, hw⟩
        case measure => simp [intOf]; omega
      · have hkm : k = m := by omega
        subst hkm
        have hd : Int.tmod (q : Int) 2 = ((q % 2 : Nat) : Int) := by rw [Int.tmod_eq_emod_of_nonneg (by omega)]; omega
        have hr : q % 2 = 0 ∨ q % 2 = 1 := by omega
        clear hq
        rw [← HQ.out] at EQ
        rcases hr with hr | hr
        · rw [hr] at hd EQ
          have : M.testBit n = false := by
            cases h : M.testBit n with
            | false => rfl
            | true => have := EQ.out; rw [h] at this; exact absurd (this.mpr rfl) (by omega)
          have HT := Lib.hid this
          clear this
          go_wp2_with fail
          go_ret
          exact ⟨by rw [HT.out]; rfl, hw.out⟩
        · rw [hr] at hd EQ
          have : M.testBit n = true := by
            have := EQ.out
            exact this.mp rfl
          have HT := Lib.hid this
          clear this
          go_wp2_with fail
          go_ret
          exact ⟨by rw [HT.out]; rfl, hw.out⟩

def cN (n : Nat) : List Value := [.int .i64 (n : Int)]
theorem cN_len (n : Nat) : (cN n).length = 1 := rfl
theorem cN_one (n : Nat) : ∀ u ∈ cN n, u.oneCell' = true := by intro u hu; simp [cN] at hu; subst hu; rfl
theorem grown_below' {w w2 : World} {row : Option Nat} {B : Nat} (hg : w.grownBy w2 row) (hB : B ≤ w.heap.size) (hr : ∀ g, row = some g → B ≤ g) : Below B w w2 :=
  ⟨hg.os, hg.tape, hg.output, hg.size, fun k hk => hg.block k (Nat.lt_of_lt_of_le hk hB) fun e => by have := hr k e.symm; omega⟩
theorem app_below {w w5 : World} {B n m : Nat} {ty : TypeId} {v : Value} {xs : List Value} {ob : Obj} (h : w.ownsRow B ty m v n xs) (hB : B ≤ w.heap.size) (hg : (w.alloc ob).grownBy w5 v.ownBlock) : Below B w w5 :=
  ((Below.refl _ _).alloc hB _).trans (grown_below' hg (by simp; omega) fun g e => (h.lt g e).1)
theorem own_small {w : World} {B n m : Nat} {ty : TypeId} {v : Value} {xs : List Value} (h : w.ownsRow B ty m v n xs) : ∃ A c, v = .slice A n c := by
  rcases h.2 with ⟨rfl, h0⟩ | ⟨g, cap, cur, hv, _⟩
  · exact ⟨none, 0, by rw [h0]⟩
  · exact ⟨_, _, hv⟩
theorem alloc_le' {n : Nat} {w : World} {ob : Obj} (h : n ≤ w.heap.size) : n ≤ (w.alloc ob).heap.size := by simp; omega
theorem below_low {w w2 w3 : World} {B : Nat} (hb : Below w2.heap.size w2 w3) (h : B ≤ w.heap.size) (h2 : Below B w w2) : Below B w2 w3 := ⟨hb.os, hb.tape, hb.output, hb.size, fun i hi => hb.block i (Nat.lt_of_lt_of_le hi (Nat.le_trans h h2.size))⟩
def lkM (M k : Nat) : List Nat := (List.range k).filter fun n => M.testBit n
theorem lkM_s (M k : Nat) : lkM M (k + 1) = lkM M k ++ (if M.testBit k = true then [k] else []) := by
  unfold lkM
  rw [List.range_succ, List.filter_append]
  congr 1
  cases h : M.testBit k <;> simp [h]
theorem lkM_len (M k : Nat) : (lkM M k).length ≤ k := by
  unfold lkM
  exact Nat.le_trans (List.length_filter_le ..) (by simp)
set_option maxRecDepth 100000 in
set_option maxHeartbeats 4000000 in
theorem rList_ok (M : Nat) (hM : M < 2 ^ 128) (w : World) : Calls Tryd.prog 19 #[mV M] w fun e w' => (∃ v, e = .returned v ∧ w'.ownsRow w.heap.size 3 1 v (listM M).length ((listM M).flatMap cN)) ∧ Below w.heap.size w w' := by
  have HH := Lib.hid (fun (k : Nat) (hk : k < 128) (w2 : World) => rHas_ok M k hM hk w2)
  clear hM
  unfold mV at HH ⊢
  have b1 : Below w.heap.size w (w.alloc (.cells #[.int .u64 (loM M), .int .u64 (hiM M)] 35)) := (Below.refl _ _).alloc (Nat.le_refl _) _
  have k0 : (w.alloc (.cells #[.int .u64 (loM M), .int .u64 (hiM M)] 35)).heap[w.heap.size]? = some (.cells (cM M).toArray 35 (0, 0)) := heap_at rfl
  have s0 : w.heap.size ≤ (w.alloc (.cells #[.int .u64 (loM M), .int .u64 (hiM M)] 35)).heap.size := by simp
  go_enter Tryd.func19, Tryd.ntmps19
  go_wp2_with fail
  obtain ⟨z, hz⟩ : ∃ z, z = w.heap.size := ⟨_, rfl⟩
  rw [← hz] at k0 ⊢
  have b2 : Below w.heap.size w ((w.alloc (.cells #[.int .u64 (loM M), .int .u64 (hiM M)] 35)).alloc (.cells #[] 3)) := b1.alloc s0 _
  have k2 := heap_keep ((Below.refl _ _).alloc (Nat.le_refl _) (.cells #[] 3)) k0
  have o2 := fresh_row (w.alloc (.cells #[.int .u64 (loM M), .int .u64 (hiM M)] 35)) 3 1 _ (Nat.le_refl _)
  have q2 : (w.alloc (.cells #[.int .u64 (loM M), .int .u64 (hiM M)] 35)).heap.size = z + 1 := by rw [hz]; simp
  rw [q2] at o2
  have s2 : z + 1 ≤ ((w.alloc (.cells #[.int .u64 (loM M), .int .u64 (hiM M)] 35)).alloc (.cells #[] 3)).heap.size := by simp; omega
  generalize ((w.alloc (.cells #[.int .u64 (loM M), .int .u64 (hiM M)] 35)).alloc (.cells #[] 3)) = wa at *
  have B2 := Lib.hid b2
  have K2 := Lib.hid k2
  have O2 := Lib.hid o2
  have S2 := Lib.hid s2
  have HZ := Lib.hid hz
  clear b1 b2 k0 k2 s0 o2 q2 s2 hz
  go_loopw [3, 4] (fun u i wr => ∃ (k : Nat) (o : Value), k ≤ 128 ∧ o = u ∧ i = .int .i64 k ∧ Hid (wr.ownsRow (z + 1) 3 1 o (lkM M k).length ((lkM M k).flatMap cN)) ∧ Hid (Below (z + 1) wa wr)) (fun _ i _ => 128 - (intOf i).toNat)
  case atStart => exact ⟨0, _, Nat.zero_le _, rfl, rfl, O2, Lib.hid (Below.refl _ _)⟩
  case round =>
    obtain ⟨k, o, hk, rfl, rfl, ho, hbw⟩ := hrel
    by_cases hlt : k < 128
    · have hwk1 : IntKind.i64.wrap ((k : Int) + 1) = (k : Int) + 1 := by rw [IntKind.wrap_i64]; omega
      have hk7 : (k : Int) ≤ 127 := by omega
      have KR := Lib.hid ((hbw.out.block z (by omega)).trans K2.out)
      have HK := Lib.hid (HH.out k hlt)
      have HL : Hid ((lkM M k).length ≤ 1172812402926) := Lib.hid (Nat.le_trans (lkM_len M k) (by omega))
      clear hlt
      cases hb : M.testBit k with
      | true =>
        rw [hb] at HK
        have HE : Hid (lkM M (k + 1) = lkM M k ++ [k]) := Lib.hid (by rw [lkM_s, hb]; rfl)
        clear hb
        go_wp2_with (first | (refine wpList_loadL rfl 35 (.tmp 1) rfl z 0 (.agg #[.int .u64 (loM M), .int .u64 (hiM M)]) rfl (cldM KR.out) ?_))
        with_reducible refine (HK.out _).mono ?_
        rintro e w3 ⟨rfl, hb3⟩
        have O3 := Lib.hid (own_below ho.out hb3)
        have B3 := Lib.hid (hbw.out.trans (below_low hb3 S2.out hbw.out))
        have S3 := Lib.hid (Nat.le_trans (Nat.le_trans S2.out hbw.out.size) hb3.size)
        clear hb3 ho hbw KR HK
        go_wp2_with (at_builtin; refine wpList_appG cN 1 22 3 8 cN_len cN_one (by omega) Tryd.underlying22 cinfo3 rfl (by omega) rfl (.tmp 13) (.tmp 15) rfl (z + 1) _ o (lkM M k) k rfl rfl (own_below O3.out ((Below.refl _ _).alloc (Nat.le_refl _) _)) (heap_at rfl) HL.out (alloc_le' S3.out) ?_; intro v5 w5 ho5 hg5; have b5 := app_below O3.out S3.out hg5; have O5 := Lib.hid ho5; have B5 := Lib.hid (B3.out.trans b5); clear ho5 hg5 b5)
        go_roundw
        case rel => exact ⟨k + 1, _, by omega, rfl, by go_num, by rw [HE.out]; exact O5, B5⟩
        case measure => simp [intOf]; omega
      | false =>
        rw [hb] at HK
        have HE : Hid (lkM M (k + 1) = lkM M k) := Lib.hid (by rw [lkM_s, hb]; simp)
        clear hb
        go_wp2_with (first | (refine wpList_loadL rfl 35 (.tmp 1) rfl z 0 (.agg #[.int .u64 (loM M), .int .u64 (hiM M)]) rfl (cldM KR.out) ?_))
        with_reducible refine (HK.out _).mono ?_
        rintro e w3 ⟨rfl, hb3⟩
        have O3 := Lib.hid (own_below ho.out hb3)
        have B3 := Lib.hid (hbw.out.trans (below_low hb3 S2.out hbw.out))
        clear hb3 ho hbw KR HK
        go_wp2_with fail
        go_roundw
        case rel => exact ⟨k + 1, _, by omega, rfl, by go_num, by rw [HE.out]; exact O3, B3⟩
        case measure => simp [intOf]; omega
    · have hk8 : k = 128 := by omega
      have hk9 : ¬ (k : Int) ≤ 127 := by omega
      have hf : Hid (listM M = lkM M k) := Lib.hid (by rw [hk8]; rfl)
      clear hk8 hlt hk
      go_wp2_with fail
      go_ret
      refine ⟨⟨_, rfl, ?_⟩, ?_⟩
      · have hz := HZ.out
        subst hz
        rw [hf.out]
        exact own_lower ho.out (by omega)
      · have hz := HZ.out
        subst hz
        exact B2.out.trans (hbw.out.mono (by omega))
end Go.Proofs.YtjbglifmppilfaaDoor
namespace Go.Proofs.YtjbglifmppilfaaDoor
open Go.ChangeShapes Go.WideShapes Go.ChangeAt Go.RowKit
set_option linter.unusedVariables false
set_option linter.unusedSimpArgs false
attribute [local go_sem] Og.Opt Og.OpY

attribute [local go_sem] Og.Opt Og.OpY
theorem ofM_take {xs : List Nat} {k x : Nat} (h : xs[k]? = some x) : ofM (xs.take (k + 1)) = putM (ofM (xs.take k)) x := by
  unfold ofM
  rw [List.take_add_one, h, List.foldl_append]
  rfl
theorem shl_add {a b n : Nat} (h : a + 2 ^ b = n) (hn : n < 18446744073709551616) : IntKind.u64.wrap ((a : Int) + IntKind.u64.wrap ((2 : Int) ^ b)) = (n : Int) := by
  have e : (2 : Int) ^ b = ((2 ^ b : Nat) : Int) := by simp [Int.natCast_pow]
  rw [e]
  generalize 2 ^ b = q at h
  rw [IntKind.wrap_u64, IntKind.wrap_u64]
  omega
theorem putM_same {M n : Nat} (h : M.testBit n = true) : putM M n = M := by
  apply Nat.eq_of_testBit_eq
  intro k
  rw [putM_bit]
  by_cases e : n = k
  · subst e; simp [h]
  · simp [e]
theorem results_cell_tmp1' {fn : Func} {p u : Tmp} {ty : TypeId} {tmps : Array Value} {P : Program} {w : World} {a : Addr} {v : Value} (h : fn.results = #[.cell p ty, .tmp u]) (ha : tmps.getD p undef = .pointer (some a)) (hr : (loadVar ty a).run P w = .ok v w) :
    (results fn tmps).run P w = .ok (.tuple #[v, tmps.getD u undef]) w := by
  have e : (asAddr (.pointer (some a))).run P w = .ok a w := rfl
  rw [results_cell_tmp h, ha, e]
  simp only [Result.andThen_ok, hr]
set_option maxRecDepth 100000 in
set_option maxHeartbeats 4000000 in
theorem rOf_ok (xs : List Nat) (v : Value) (w : World) (hs : Sl cN 1 0 w v xs) (hx : ∀ x ∈ xs, x < 128) (hl : xs.length ≤ 100000) :
    Calls Tryd.prog 20 #[v] w fun e w' => e = .returned (.tuple #[mV (ofM xs), .int .i64 0]) ∧ Below w.heap.size w w' := by
  obtain ⟨A, c, rfl, hr, -⟩ := hs
  obtain ⟨n, hn⟩ : ∃ n, n = xs.length := ⟨_, rfl⟩
  rw [← hn]
  have HN := Lib.hid hn
  have HR := Lib.hid hr
  have HX := Lib.hid hx
  have hl' : n ≤ 100000 := by omega
  obtain ⟨z, hz⟩ : ∃ z, z = w.heap.size := ⟨_, rfl⟩
  have b2 : Below w.heap.size w ((w.alloc (.cells #[.int .u64 0, .int .u64 0] 35)).alloc (.cells #[.int .u64 0, .int .u64 0] 35)) := ((Below.refl _ _).alloc (Nat.le_refl _) _).alloc (by simp) _
  have k1 : ((w.alloc (.cells #[.int .u64 0, .int .u64 0] 35)).alloc (.cells #[.int .u64 0, .int .u64 0] 35)).heap[z]? = some (.cells #[.int .u64 0, .int .u64 0] 35 (0, 0)) := heap_keep ((Below.refl _ _).alloc (Nat.le_refl _) _) (heap_at hz)
  have k2 : ((w.alloc (.cells #[.int .u64 0, .int .u64 0] 35)).alloc (.cells #[.int .u64 0, .int .u64 0] 35)).heap[z + 1]? = some (.cells #[.int .u64 0, .int .u64 0] 35 (0, 0)) := heap_at (by rw [hz]; simp)
  clear hn hr hx hl
  go_enter Tryd.func20, Tryd.ntmps20
  go_wp2_with fail
  rw [← hz]
  generalize ((w.alloc (.cells #[.int .u64 0, .int .u64 0] 35)).alloc (.cells #[.int .u64 0, .int .u64 0] 35)) = wa at *
  have B2 := Lib.hid b2
  have K1 := Lib.hid k1
  have K2 := Lib.hid k2
  have HZ := Lib.hid hz
  clear b2 k1 k2 hz
  go_loopw [5] (fun i wr => ∃ k : Nat, k ≤ n ∧ i = .int .i64 k ∧ Hid (Below w.heap.size w wr) ∧ Hid (wr.heap[z]? = some (.cells #[.int .u64 0, .int .u64 0] 35 (0, 0))) ∧ Hid (wr.heap[z + 1]? = some (.cells (cM (ofM (xs.take k))).toArray 35 (0, 0)))) (fun i _ => n - (intOf i).toNat)
  case atStart => exact ⟨0, Nat.zero_le _, rfl, B2, K1, Lib.hid (by have e : cM (ofM (xs.take 0)) = [.int .u64 0, .int .u64 0] := (by simp [cM, ofM, loM, hiM]); rw [e]; exact K2.out)⟩
  case round =>
    clear B2 K1 K2
    obtain ⟨k, hk, rfl, hb, k1, k2⟩ := hrel
    by_cases hlt : k < n
    · have hwk1 : IntKind.i64.wrap ((k : Int) + 1) = (k : Int) + 1 := by rw [IntKind.wrap_i64]; omega
      have hk0 : (0 : Int) ≤ (k : Int) := by omega
      have hkn : (k : Int) < (n : Int) := by omega
      obtain ⟨x, hxk⟩ : ∃ x, xs[k]? = some x := ⟨_, List.getElem?_eq_getElem (by rw [← HN.out]; exact hlt)⟩
      obtain ⟨b0, o0, rfl, hat⟩ := HR.out k x hxk
      have hx8 := HX.out x (List.mem_of_getElem? hxk)
      have q0 : w.cell? ⟨b0, o0 + k, none⟩ = some (.int .i64 (x : Int)) := by
        have := hat 0 (.int .i64 (x : Int)) rfl
        rwa [Nat.add_zero, Nat.mul_one] at this
      have q1 := bcell hb.out q0
      have hx0 : ¬ (x : Int) < 0 := by omega
      have hx1 : ¬ (127 : Int) < (x : Int) := by omega
      have HE := Lib.hid (ofM_take hxk)
      obtain ⟨M, hM⟩ : ∃ M, M = ofM (xs.take k) := ⟨_, rfl⟩
      have hM8 : M < 2 ^ 128 := by rw [hM]; exact ofM_lt fun y hy => HX.out y (List.mem_of_mem_take hy)
      rw [← hM] at HE k2
      have HH := Lib.hid (fun w2 => rHas_ok M x hM8 hx8 w2)
      have X8 := Lib.hid hx8
      have M8 := Lib.hid hM8
      have HC : ∀ w5, Below wr.heap.size wr w5 → w5.cell? ⟨b0, o0 + k, none⟩ = some (.int .i64 (x : Int)) := fun w5 h5 => bcell h5 q1
      have HLD : Hid (∀ w5, Below wr.heap.size wr w5 → (loadVar 35 ⟨z + 1, 0, none⟩).run Tryd.prog w5 = .ok (mV M) w5) := Lib.hid fun w5 h5 => cldM (heap_keep h5 k2.out)
      unfold mV at HH HLD
      clear hxk hat hx8 hM hM8 q0
      go_wp2_with fail
      clear q1
      refine Og.walk_lit [[],[],[],[1,2],[3,1,2],[0,4,3,1,2],[5,0,4,3,1,2]] (fun w2 => Below wr.heap.size wr w2) (fun w1 w2 => Below w1.heap.size w1 w2) (by kernel_rfl) (by kernel_rfl) (bdrew) ?_
      refine Og.step_pure (fun _ => Below.refl _ _) ?_; apply Exists.intro; refine And.intro ?_ ?_; focus (intro vs w2 hC hk; have hl := HLD.out w2 hC; refine Og.OptB.out ?_; revert hk; simp only [Og.KS, Og.K0, Og.Is, List.getD_cons_zero, List.getD_cons_succ, List.getD_nil, List.contains_cons, List.contains_nil, Nat.reduceAdd, Nat.reduceBEq, Bool.or_false, Bool.false_or, Bool.or_true, Bool.true_or, Bool.false_eq_true, false_implies, true_implies, true_and, and_true, forall_const]; intros; exact optB_loadL (by go_simp) rfl (by go_simp) hl ⟨rfl, rfl⟩)
      iterate 3 (refine Og.step_pure (fun _ => Below.refl _ _) ?_; apply Exists.intro; refine And.intro ?_ ?_; focus (intro vs w2 hC hk; revert hk; simp only [Og.KS, Og.K0, Og.Is, List.getD_cons_zero, List.getD_cons_succ, List.getD_nil, List.contains_cons, List.contains_nil, Nat.reduceAdd, Nat.reduceBEq, Bool.or_false, Bool.false_or, Bool.or_true, Bool.true_or, Bool.false_eq_true, false_implies, true_implies, true_and, and_true, forall_const]; intros; go_simp; rfl))
      refine Og.step_pure (fun _ => Below.refl _ _) ?_; apply Exists.intro; refine And.intro ?_ ?_; focus (intro vs w2 hC hk; have hm := HC w2 hC; revert hk; simp only [Og.KS, Og.K0, Og.Is, List.getD_cons_zero, List.getD_cons_succ, List.getD_nil, List.contains_cons, List.contains_nil, Nat.reduceAdd, Nat.reduceBEq, Bool.or_false, Bool.false_or, Bool.or_true, Bool.true_or, Bool.false_eq_true, false_implies, true_implies, true_and, and_true, forall_const]; intros; go_simp; rfl)
      refine Og.step_one ?_; apply Exists.intro; refine And.intro ?_ ?_; focus (intro vs w2 hC hk; revert hk; simp only [Og.KS, Og.K0, Og.Is, List.getD_cons_zero, List.getD_cons_succ, List.getD_nil, List.contains_cons, List.contains_nil, Nat.reduceAdd, Nat.reduceBEq, Bool.or_false, Bool.false_or, Bool.or_true, Bool.true_or, Bool.false_eq_true, false_implies, true_implies, true_and, and_true, forall_const]; intros; go_simp; with_reducible refine (HH.out _).mono ?_; rintro e w3 ⟨rfl, hb⟩; exact Og.RetV.mk ⟨bthen hC hb, hb, rfl⟩)
      refine Og.step_pure (fun _ => Below.refl _ _) ?_; apply Exists.intro; refine And.intro ?_ ?_; focus (intro vs w2 hC hk; revert hk; simp only [Og.KS, Og.K0, Og.Is, List.getD_cons_zero, List.getD_cons_succ, List.getD_nil, List.contains_cons, List.contains_nil, Nat.reduceAdd, Nat.reduceBEq, Bool.or_false, Bool.false_or, Bool.or_true, Bool.true_or, Bool.false_eq_true, false_implies, true_implies, true_and, and_true, forall_const]; intros; go_simp; rfl)
      intro vs wb hC hk
      have hm := HC wb hC
      simp only [Og.KS, Og.K0, Og.Is, List.getD_cons_zero, List.getD_cons_succ, List.getD_nil, List.contains_cons, List.contains_nil, Nat.reduceAdd, Nat.reduceBEq, Bool.or_false, Bool.false_or, Bool.or_true, Bool.true_or, Bool.false_eq_true, false_implies, true_implies, true_and, and_true, forall_const] at hk
      simp only [hk, Act.put, List.setIfInBounds_toArray, List.set_cons_zero, List.set_cons_succ]
      clear hk
      have B5 := Lib.hid (bthen hb.out hC)
      have K15 := Lib.hid (heap_keep hC k1.out)
      have K25 := Lib.hid (heap_keep hC k2.out)
      have q2 := HC wb hC
      clear hC HC HLD HH k1 k2 hb hm
      cases hbt : M.testBit x with
      | true =>
        have HM := Lib.hid (putM_same hbt)
        clear hbt q2
        go_wp2_with fail
        go_roundw
        case rel => exact ⟨k + 1, by omega, by go_num, B5, K15, by rw [HE.out, HM.out]; exact K25⟩
        case measure => simp [intOf]; omega
      | false =>
        obtain ⟨lo, hlo⟩ : ∃ lo : Nat, lo = M % 2 ^ 64 := ⟨_, rfl⟩
        obtain ⟨hi, hhi⟩ : ∃ hi : Nat, hi = M / 2 ^ 64 := ⟨_, rfl⟩
        have ec : (cM M).toArray = #[.int .u64 (lo : Int), .int .u64 (hi : Int)] := by rw [hlo, hhi]; rfl
        rw [ec] at K25
        have c0 : wb.cell? ⟨z + 1, 0, none⟩ = some (.int .u64 (lo : Int)) := by rw [cell_of_row wb _ 0 _ _ _ K25.out]; rfl
        have c1 : wb.cell? ⟨z + 1, 1, none⟩ = some (.int .u64 (hi : Int)) := by rw [cell_of_row wb _ 1 _ _ _ K25.out]; rfl
        have HC : ∀ w5, Below wb.heap.size wb w5 → w5.cell? ⟨b0, o0 + k, none⟩ = some (.int .i64 (x : Int)) ∧ w5.cell? ⟨z + 1, 0, none⟩ = some (.int .u64 (lo : Int)) ∧ w5.cell? ⟨z + 1, 1, none⟩ = some (.int .u64 (hi : Int)) := fun w5 h5 => ⟨bcell h5 q2, bcell h5 c0, bcell h5 c1⟩
        have hlo64 : lo < 18446744073709551616 := by rw [hlo]; exact Nat.mod_lt _ (by omega)
        have hhi64 : hi < 18446744073709551616 := by have := M8.out; rw [hhi]; omega
        clear q2 c0 c1
        by_cases h64 : x < 64
        · have gq : IntKind.i64.wrap ((x : Int) / 64) = 0 := by rw [show (x : Int) / 64 = 0 by omega]; rfl
          have gq2 : Int.tdiv (x : Int) 64 = 0 := by rw [Int.tdiv_eq_ediv_of_nonneg (by omega)]; omega
          have gm : Int.tmod (x : Int) 64 = x := by rw [Int.tmod_eq_emod_of_nonneg (by omega)]; omega
          have gw : IntKind.i64.wrap (x : Int) = x := wrapk (by omega)
          have gn : (0 : Int) ≤ (x : Int) := by omega
          have gz : IntKind.i64.wrap 0 = 0 := rfl
          have gmin : min x 64 = x := by omega
          have HP := Lib.hid (put_lo hbt h64)
          rw [← hlo, ← hhi] at HP
          clear hlo hhi ec hbt
          go_wp2_with fail
          refine Og.Tail.walk_lit 14 [[],[],[0,1],[2,0,1],[3,2,0,1],[4,3,2,0,1],[5,4,3,2,0,1],[],[],[7,8],[9,7,8],[10,9,7,8],[11,10,9,7,8],[6,12,5,4,3,2,0,1,11,10,9,7,8],[4,0,1,2,3,5,6,7,8,9,10,11,12,13],[14,13,0,1,2,3,4,5,6,7,8,9,10,11,12]] (fun w2 => Below wb.heap.size wb w2) (fun w1 w2 => Below w1.heap.size w1 w2) (by kernel_rfl) (by kernel_rfl) (by kernel_rfl) (bdrew) ?_
          simp only [List.take_succ_cons, List.take_zero, List.drop_succ_cons, List.drop_zero]
          repeat (first | (refine Og.step_pure (fun _ => Below.refl _ _) ?_; apply Exists.intro; refine And.intro ?_ ?_; focus (intro vs w2 hC hk; have hm := HC w2 hC; revert hk; simp only [Og.KS, Og.K0, Og.Is, List.getD_cons_zero, List.getD_cons_succ, List.getD_nil, List.contains_cons, List.contains_nil, Nat.reduceAdd, Nat.reduceBEq, Bool.or_false, Bool.false_or, Bool.or_true, Bool.true_or, Bool.false_eq_true, false_implies, true_implies, true_and, and_true, forall_const]; intros; go_simp; rfl)))
          intro vs w3 hC hk
          have hm := HC w3 hC
          simp only [Og.KS, Og.K0, Og.Is, List.getD_cons_zero, List.getD_cons_succ, List.getD_nil, List.contains_cons, List.contains_nil, Nat.reduceAdd, Nat.reduceBEq, Bool.or_false, Bool.false_or, Bool.or_true, Bool.true_or, Bool.false_eq_true, false_implies, true_implies, true_and, and_true, forall_const] at hk
          simp only [hk, Act.put, List.setIfInBounds_toArray, List.set_cons_zero, List.set_cons_succ]
          clear hk
          have B6 := Lib.hid (bthen B5.out hC)
          have K16 := Lib.hid (heap_keep hC K15.out)
          have K26 := Lib.hid (heap_keep hC K25.out)
          have fz : w3.frozen? ⟨z + 1, 0, none⟩ = false := by simp [World.frozen?, K26.out]
          obtain ⟨q0, q1, q2⟩ := hm
          clear hC HC B5 K15 K25
          go_wp2_with fail
          go_roundw
          case rel =>
            have hv := shl_add HP.out.1 (Nat.mod_lt _ (by omega))
            rw [setCell_eq_setRow w3 (z + 1) 0 _ 35 (0, 0) _ K26.out, hv]
            have hH := setRow_heap w3 (z + 1) _ (#[.int .u64 (lo : Int), .int .u64 (hi : Int)].setIfInBounds 0 (.int .u64 ((putM M x % 2 ^ 64 : Nat) : Int))) 35 (0, 0) K26.out
            refine ⟨k + 1, by omega, by go_num, Lib.hid ?_, Lib.hid ?_, Lib.hid ?_⟩
            · exact B6.out.trans ⟨rfl, rfl, rfl, by simp [World.setRow], fun j hj => setRow_other w3 (z + 1) j _ (by have := HZ.out; omega)⟩
            · rw [setRow_other w3 (z + 1) z _ (by omega)]
              exact K16.out
            · rw [HE.out]
              have e : (cM (putM M x)).toArray = #[.int .u64 (lo : Int), .int .u64 (hi : Int)].setIfInBounds 0 (.int .u64 ((putM M x % 2 ^ 64 : Nat) : Int)) := by
                rw [HP.out.2]; rfl
              rw [e]
              exact hH
          case measure => simp [intOf]; omega
        · obtain ⟨m, hxm⟩ : ∃ m, x = 64 + m := ⟨x - 64, by omega⟩
          have hm64 : m < 64 := by have := X8.out; omega
          have gq : IntKind.i64.wrap ((x : Int) / 64) = 1 := by rw [show (x : Int) / 64 = 1 by omega]; rfl
          have gq2 : Int.tdiv (x : Int) 64 = 1 := by rw [Int.tdiv_eq_ediv_of_nonneg (by omega)]; omega
          have gm : Int.tmod (x : Int) 64 = m := by rw [Int.tmod_eq_emod_of_nonneg (by omega)]; omega
          have gw : IntKind.i64.wrap (m : Int) = m := wrapk (by omega)
          have gn : (0 : Int) ≤ (m : Int) := by omega
          have gz : IntKind.i64.wrap 1 = 1 := rfl
          have gmin : min m 64 = m := by omega
          have HP := Lib.hid (put_hi hbt (show 64 ≤ x by omega))
          rw [← hlo, ← hhi, show x - 64 = m by omega] at HP
          have M28 : Hid (putM M x / 2 ^ 64 < 18446744073709551616) := Lib.hid (by have := putM_lt M8.out X8.out; omega)
          clear hlo hhi ec hbt hxm
          go_wp2_with fail
          refine Og.Tail.walk_lit 14 [[],[],[0,1],[2,0,1],[3,2,0,1],[4,3,2,0,1],[5,4,3,2,0,1],[],[],[7,8],[9,7,8],[10,9,7,8],[11,10,9,7,8],[6,12,5,4,3,2,0,1,11,10,9,7,8],[4,0,1,2,3,5,6,7,8,9,10,11,12,13],[14,13,0,1,2,3,4,5,6,7,8,9,10,11,12]] (fun w2 => Below wb.heap.size wb w2) (fun w1 w2 => Below w1.heap.size w1 w2) (by kernel_rfl) (by kernel_rfl) (by kernel_rfl) (bdrew) ?_
          simp only [List.take_succ_cons, List.take_zero, List.drop_succ_cons, List.drop_zero]
          repeat (first | (refine Og.step_pure (fun _ => Below.refl _ _) ?_; apply Exists.intro; refine And.intro ?_ ?_; focus (intro vs w2 hC hk; have hm := HC w2 hC; revert hk; simp only [Og.KS, Og.K0, Og.Is, List.getD_cons_zero, List.getD_cons_succ, List.getD_nil, List.contains_cons, List.contains_nil, Nat.reduceAdd, Nat.reduceBEq, Bool.or_false, Bool.false_or, Bool.or_true, Bool.true_or, Bool.false_eq_true, false_implies, true_implies, true_and, and_true, forall_const]; intros; go_simp; rfl)))
          intro vs w3 hC hk
          have hm := HC w3 hC
          simp only [Og.KS, Og.K0, Og.Is, List.getD_cons_zero, List.getD_cons_succ, List.getD_nil, List.contains_cons, List.contains_nil, Nat.reduceAdd, Nat.reduceBEq, Bool.or_false, Bool.false_or, Bool.or_true, Bool.true_or, Bool.false_eq_true, false_implies, true_implies, true_and, and_true, forall_const] at hk
          simp only [hk, Act.put, List.setIfInBounds_toArray, List.set_cons_zero, List.set_cons_succ]
          clear hk
          have B6 := Lib.hid (bthen B5.out hC)
          have K16 := Lib.hid (heap_keep hC K15.out)
          have K26 := Lib.hid (heap_keep hC K25.out)
          have fz : w3.frozen? ⟨z + 1, 1, none⟩ = false := by simp [World.frozen?, K26.out]
          obtain ⟨q0, q1, q2⟩ := hm
          clear hC HC B5 K15 K25
          go_wp2_with fail
          go_roundw
          case rel =>
            have hv := shl_add HP.out.1 M28.out
            rw [setCell_eq_setRow w3 (z + 1) 1 _ 35 (0, 0) _ K26.out, hv]
            have hH := setRow_heap w3 (z + 1) _ (#[.int .u64 (lo : Int), .int .u64 (hi : Int)].setIfInBounds 1 (.int .u64 ((putM M x / 2 ^ 64 : Nat) : Int))) 35 (0, 0) K26.out
            refine ⟨k + 1, by omega, by go_num, Lib.hid ?_, Lib.hid ?_, Lib.hid ?_⟩
            · exact B6.out.trans ⟨rfl, rfl, rfl, by simp [World.setRow], fun j hj => setRow_other w3 (z + 1) j _ (by have := HZ.out; omega)⟩
            · rw [setRow_other w3 (z + 1) z _ (by omega)]
              exact K16.out
            · rw [HE.out]
              have e : (cM (putM M x)).toArray = #[.int .u64 (lo : Int), .int .u64 (hi : Int)].setIfInBounds 1 (.int .u64 ((putM M x / 2 ^ 64 : Nat) : Int)) := by
                rw [HP.out.2]; rfl
              rw [e]
              exact hH
          case measure => simp [intOf]; omega
    · have hkn : k = n := by omega
      have hkf : ¬ (k : Int) < (n : Int) := by omega
      have HF : Hid (ofM xs = ofM (xs.take k)) := Lib.hid (by rw [List.take_of_length_le (by rw [hkn]; exact Nat.le_of_eq HN.out.symm)])
      clear hkn hlt
      go_wp2_with (first | (refine wpList_loadL rfl 35 (.tmp 4) rfl (z + 1) 0 (.agg (cM (ofM (xs.take k))).toArray) rfl (cldM k2.out) ?_) | (refine wpList_storeN rfl 35 (.tmp 2) (.tmp 47) rfl rfl z (cM (ofM (xs.take k))).toArray rfl rfl 35 _ k1.out cinfo25s rfl (by simp [Value.oneCell', cM]) ?_; intro w9 hz9 hb9 hn9 hs9; have Z9 := Lib.hid hz9; have D9 := Lib.hid (hb.out.trans (hb9 _ (by have := HZ.out; omega))); clear hz9 hb9 hn9 hs9))
      refine bodyPost_ret (results_cell_tmp1' rfl rfl (cldM Z9.out)) rfl ?_
      exact ⟨by rw [HF.out]; rfl, D9.out⟩

end Go.Proofs.YtjbglifmppilfaaDoor
