/- The reference's sets: Has, List, Of, choose, Or, And, Len; conditions as stated. -/
import Derived.Test.YtpklcefiabjplaaT0
import Derived.Test.YtpklcefiabjplaaG3
namespace Go.Proofs.Ytpklcefiabjplaa
open Go.ChangeShapes Go.WideShapes Go.ChangeAt Go.RowKit
set_option linter.unusedVariables false
set_option linter.unusedSimpArgs false
attribute [local go_sem] Og.Opt Og.OpY
theorem cinfo25s : (Try.prog.info? 25).map (·.size) = some 2 := by kernel_rfl
theorem csize25 (w : World) : (sizeOf 25).run Try.prog w = .ok 2 w := by kernel_rfl
theorem cisAgg25 (w : World) : (isAgg 25).run Try.prog w = .ok true w := by kernel_rfl
theorem cinfo25 : (Try.prog.info? 25).map (fun i => (i.zero, i.size, i.bytes)) = some (some (.agg #[.int .u64 0, .int .u64 0]), 2, 16) := by kernel_rfl
theorem cinfo3 : (Try.prog.info? 3).map (fun i => (i.zero, i.size, i.bytes)) = some (some (.int .i64 0), 1, 8) := by kernel_rfl
theorem cinfo4 : (Try.prog.info? 4).map (fun i => (i.zero, i.size, i.bytes)) = some (some (.bool false), 1, 1) := by kernel_rfl
/-- cells of a number, of a set -/
def cI (n : Int) : List Value := [.int .i64 n]
def cM (M : Nat) : List Value := [.int .u64 (loM M), .int .u64 (hiM M)]
def cT (b : Bool) : List Value := [.bool b]
def mV (M : Nat) : Value := .agg #[.int .u64 (loM M), .int .u64 (hiM M)]
theorem cI_len (n : Int) : (cI n).length = 1 := rfl
theorem cM_len (n : Nat) : (cM n).length = 2 := rfl
theorem cT_len (n : Bool) : (cT n).length = 1 := rfl
theorem cI_one (n : Int) : ∀ u ∈ cI n, u.oneCell' = true := by intro u hu; simp [cI] at hu; subst hu; rfl
theorem cM_one (n : Nat) : ∀ u ∈ cM n, u.oneCell' = true := by intro u hu; simp [cM] at hu; rcases hu with rfl | rfl <;> rfl
theorem cT_one (n : Bool) : ∀ u ∈ cT n, u.oneCell' = true := by intro u hu; simp [cT] at hu; subst hu; rfl
theorem snocG {α : Type} {f : α → List Value} {w' : World} {base m : Nat} {ty : TypeId} {v' : Value} {pre : List α} {r : α} (h : w'.ownsRow base ty m v' (pre.length + 1) (pre.flatMap f ++ f r)) : w'.ownsRow base ty m v' (pre ++ [r]).length ((pre ++ [r]).flatMap f) := by
  rw [List.length_append, List.flatMap_append, List.flatMap_cons, List.flatMap_nil, List.append_nil]
  exact h
/-- append of one, for any element -/
theorem wpList_appG {α : Type} (f : α → List Value) (m sl ty by' : Nat) {z : Value} (hm : ∀ x, (f x).length = m) (h1 : ∀ x, ∀ u ∈ f x, u.oneCell' = true) (h0 : 0 < m)
    (hu : Try.prog.underlying sl = some (.slice ty)) (hinf : (Try.prog.info? ty).map (fun i => (i.zero, i.size, i.bytes)) = some (some z, m, by')) (hzs : z.cells.size = m) (hb : by' ≤ 32)
    {ops : Array Oper} {rest : List Oper} {o : Oper} {a : Act} {w : World} {Q : Exit → Act → World → Prop} (hgd : o.guard = none) (s x : Operand) (ho : o.op = .call { callee := .builtin .append, args := #[s, x], argTypes := #[sl, sl] })
    (base g : Nat) (v : Value) (pre : List α) (r : α) (hs : a.eval s = v) (hx : a.eval x = .slice (some ⟨g, 0, none⟩) 1 1) (hown : w.ownsRow base ty m v pre.length (pre.flatMap f)) (hg : w.heap[g]? = some (.cells (f r).toArray ty (0, 0))) (hl : pre.length ≤ 1172812402926) (hbase : base ≤ w.heap.size)
    (h : ∀ v' w', w'.ownsRow base ty m v' (pre ++ [r]).length ((pre ++ [r]).flatMap f) → w.grownBy w' v.ownBlock → wpList Try.prog ops Q rest (a.put o.dst v') w') : wpList Try.prog ops Q (o :: rest) a w := by
  obtain ⟨i, hi, hz', hsz, hby⟩ := info_parts hinf
  refine wpList_append_own w hgd s x sl ho base ty i _ m by' hu hi hz' hsz hby hzs h0 v pre.length (pre.flatMap f) hs hown ⟨g, 0, none⟩ 1 1 (f r) hx (by rw [hm, Nat.one_mul]) (news_heap hg) (h1 r) (by have := maxLen_ge; omega) ?_ hbase (fun v' w' h1 h2 _ => h v' w' (snocG h1) h2)
  have : (pre.length + 1) * by' ≤ 1172812402927 * 32 := Nat.mul_le_mul (by omega) hb
  omega
theorem cldM {w : World} {b : Nat} {M : Nat} (h : w.heap[b]? = some (.cells (cM M).toArray 25 (0, 0))) : (loadVar 25 ⟨b, 0, none⟩).run Try.prog w = .ok (mV M) w := run_loadL (cs := cM M) cisAgg25 csize25 rfl (AtL_heap h)
theorem loM_nn (M : Nat) : 0 ≤ loM M := Int.natCast_nonneg _
theorem hiM_nn (M : Nat) : 0 ≤ hiM M := Int.natCast_nonneg _
set_option maxRecDepth 100000 in
set_option maxHeartbeats 4000000 in
theorem rHas_ok (M n : Nat) (hM : M < 2 ^ 128) (hn : n < 128) (w : World) : Calls Try.prog 11 #[mV M, .int .i64 n] w fun e w' => e = .returned (.bool (M.testBit n)) ∧ Below w.heap.size w w' := by
  have hn0 : ¬ ((n : Int) < 0) := by omega
  have hn1 : ¬ (127 : Int) < (n : Int) := by omega
  obtain ⟨a, ha⟩ : ∃ a : Nat, a = M % 2 ^ 64 := ⟨_, rfl⟩
  obtain ⟨b, hb⟩ : ∃ b : Nat, b = M / 2 ^ 64 := ⟨_, rfl⟩
  have ha64 : a < 18446744073709551616 := by rw [ha]; exact Nat.mod_lt _ (by omega)
  have hb64 : b < 18446744073709551616 := by rw [hb]; omega
  have em : mV M = .agg #[.int .u64 (a : Int), .int .u64 (b : Int)] := by rw [ha, hb]; rfl
  rw [em]
  clear em
  obtain ⟨g, hg⟩ : ∃ g, g = w.heap.size := ⟨_, rfl⟩
  have b1 : Below w.heap.size w (w.alloc (.cells #[.int .u64 (a : Int), .int .u64 (b : Int)] 25)) := (Below.refl _ _).alloc (Nat.le_refl _) _
  have k0 : (w.alloc (.cells #[.int .u64 (a : Int), .int .u64 (b : Int)] 25)).heap[g]? = some (.cells #[.int .u64 (a : Int), .int .u64 (b : Int)] 25 (0, 0)) := heap_at hg
  by_cases h64 : n < 64
  · obtain ⟨m, hnm⟩ : ∃ m, n = m := ⟨n, rfl⟩
    have EQ : Hid ((a / 2 ^ m % 2 = 1) = (M.testBit n = true)) := Lib.hid (by have := lo_bit M h64; rw [← ha, hnm] at this; rw [hnm]; exact this)
    have hm64 : m < 64 := by omega
    have gq : wrap64 ((n : Int) / 64) = 0 := by unfold wrap64; omega
    have gq2 : Int.tdiv (n : Int) 64 = 0 := by rw [Int.tdiv_eq_ediv_of_nonneg (by omega)]; omega
    have gm : Int.tmod (n : Int) 64 = m := by rw [Int.tmod_eq_emod_of_nonneg (by omega)]; omega
    have c0 : (w.alloc (.cells #[.int .u64 (a : Int), .int .u64 (b : Int)] 25)).cell? ⟨g, 0, none⟩ = some (.int .u64 (a : Int)) := by rw [cell_of_row _ _ 0 _ _ _ k0]; rfl
    have B1 := Lib.hid b1
    have HNM := Lib.hid hnm
    clear b1 k0 hnm ha hb
    go_enter Try.func11, Try.ntmps11
    go_wp2_with fail
    rw [← hg]
    clear hg
    generalize (w.alloc (.cells #[.int .u64 (a : Int), .int .u64 (b : Int)] 25)) = wa at *
    clear hn0 hn1 c0 gq gq2
    go_loopw [5, 6] (fun u i wr => ∃ k : Nat, k ≤ m ∧ u = .int .u64 ((a / 2 ^ k : Nat) : Int) ∧ i = .int .i64 k ∧ Hid (Below w.heap.size w wr)) (fun _ i _ => m - (intOf i).toNat)
    case atStart => exact ⟨0, Nat.zero_le _, by rw [Nat.pow_zero, Nat.div_one], rfl, B1⟩
    case round =>
      obtain ⟨k, hk, rfl, rfl, hw⟩ := hrel
      obtain ⟨q, hq⟩ : ∃ q : Nat, q = a / 2 ^ k := ⟨_, rfl⟩
      rw [← hq]
      have HQ := Lib.hid hq
      have hq64 : q < 18446744073709551616 := by rw [hq]; exact Nat.lt_of_le_of_lt (Nat.div_le_self _ _) (by omega)
      by_cases hlt : k < m
      · have hwk1 : IntKind.i64.wrap ((k : Int) + 1) = (k : Int) + 1 := by rw [IntKind.wrap_i64]; omega
        have hkm : (k : Int) < (m : Int) := by omega
        have hd : Int.tdiv (q : Int) 2 = ((q / 2 : Nat) : Int) := by rw [Int.tdiv_eq_ediv_of_nonneg (by omega)]; omega
        have hwu : IntKind.u64.wrap ((q : Int) / 2) = ((q / 2 : Nat) : Int) := by rw [IntKind.wrap_u64]; omega
        clear hq
        go_wp2_with fail
        go_roundw
        case rel => exact ⟨k + 1, by omega, by rw [← half, ← HQ.out]; congr 1, by go_num, hw⟩
        case measure => simp [intOf]; omega
      · have hkm : k = m := by omega
        subst hkm
        have hd : Int.tmod (q : Int) 2 = ((q % 2 : Nat) : Int) := by rw [Int.tmod_eq_emod_of_nonneg (by omega)]; omega
        have hr : q % 2 = 0 ∨ q % 2 = 1 := by omega
        clear hq
        rw [← HQ.out] at EQ
        rcases hr with hr | hr
        · rw [hr] at hd EQ
          have : M.testBit n = false := by
            cases h : M.testBit n with
            | false => rfl
            | true => have := EQ.out; rw [h] at this; exact absurd (this.mpr rfl) (by omega)
          have HT := Lib.hid this
          clear this
          go_wp2_with fail
          go_ret
          exact ⟨by rw [HT.out]; rfl, hw.out⟩
        · rw [hr] at hd EQ
          have : M.testBit n = true := by
            have := EQ.out
            exact this.mp rfl
          have HT := Lib.hid this
          clear this
          go_wp2_with fail
          go_ret
          exact ⟨by rw [HT.out]; rfl, hw.out⟩
  · obtain ⟨m, hnm⟩ : ∃ m, n = 64 + m := ⟨n - 64, by omega⟩
    have EQ : Hid ((b / 2 ^ m % 2 = 1) = (M.testBit n = true)) := Lib.hid (by have := hi_bit M (show 64 ≤ n by omega); rw [← hb, show n - 64 = m by omega] at this; exact this)
    have hm64 : m < 64 := by omega
    have gq : wrap64 ((n : Int) / 64) = 1 := by unfold wrap64; omega
    have gq2 : Int.tdiv (n : Int) 64 = 1 := by rw [Int.tdiv_eq_ediv_of_nonneg (by omega)]; omega
    have gm : Int.tmod (n : Int) 64 = m := by rw [Int.tmod_eq_emod_of_nonneg (by omega)]; omega
    have c0 : (w.alloc (.cells #[.int .u64 (a : Int), .int .u64 (b : Int)] 25)).cell? ⟨g, 1, none⟩ = some (.int .u64 (b : Int)) := by rw [cell_of_row _ _ 1 _ _ _ k0]; rfl
    have B1 := Lib.hid b1
    have HNM := Lib.hid hnm
    clear b1 k0 hnm ha hb
    go_enter Try.func11, Try.ntmps11
    go_wp2_with fail
    rw [← hg]
    clear hg
    generalize (w.alloc (.cells #[.int .u64 (a : Int), .int .u64 (b : Int)] 25)) = wa at *
    clear hn0 hn1 c0 gq gq2
    go_loopw [5, 6] (fun u i wr => ∃ k : Nat, k ≤ m ∧ u = .int .u64 ((b / 2 ^ k : Nat) : Int) ∧ i = .int .i64 k ∧ Hid (Below w.heap.size w wr)) (fun _ i _ => m - (intOf i).toNat)
    case atStart => exact ⟨0, Nat.zero_le _, by rw [Nat.pow_zero, Nat.div_one], rfl, B1⟩
    case round =>
      obtain ⟨k, hk, rfl, rfl, hw⟩ := hrel
      obtain ⟨q, hq⟩ : ∃ q : Nat, q = b / 2 ^ k := ⟨_, rfl⟩
      rw [← hq]
      have HQ := Lib.hid hq
      have hq64 : q < 18446744073709551616 := by rw [hq]; exact Nat.lt_of_le_of_lt (Nat.div_le_self _ _) (by omega)
      by_cases hlt : k < m
      · have hwk1 : IntKind.i64.wrap ((k : Int) + 1) = (k : Int) + 1 := by rw [IntKind.wrap_i64]; omega
        have hkm : (k : Int) < (m : Int) := by omega
        have hd : Int.tdiv (q : Int) 2 = ((q / 2 : Nat) : Int) := by rw [Int.tdiv_eq_ediv_of_nonneg (by omega)]; omega
        have hwu : IntKind.u64.wrap ((q : Int) / 2) = ((q / 2 : Nat) : Int) := by rw [IntKind.wrap_u64]; omega
        clear hq
        go_wp2_with fail
        go_roundw
        case rel => exact ⟨k + 1, by omega, by rw [← half, ← HQ.out]; congr 1, by go_num, hw⟩
        case measure => simp [intOf]; omega
      · have hkm : k = m := by omega
        subst hkm
        have hd : Int.tmod (q : Int) 2 = ((q % 2 : Nat) : Int) := by rw [Int.tmod_eq_emod_of_nonneg (by omega)]; omega
        have hr : q % 2 = 0 ∨ q % 2 = 1 := by omega
        clear hq
        rw [← HQ.out] at EQ
        rcases hr with hr | hr
        · rw [hr] at hd EQ
          have : M.testBit n = false := by
            cases h : M.testBit n with
            | false => rfl
            | true => have := EQ.out; rw [h] at this; exact absurd (this.mpr rfl) (by omega)
          have HT := Lib.hid this
          clear this
          go_wp2_with fail
          go_ret
          exact ⟨by rw [HT.out]; rfl, hw.out⟩
        · rw [hr] at hd EQ
          have : M.testBit n = true := by
            have := EQ.out
            exact this.mp rfl
          have HT := Lib.hid this
          clear this
          go_wp2_with fail
          go_ret
          exact ⟨by rw [HT.out]; rfl, hw.out⟩

def cN (n : Nat) : List Value := [.int .i64 (n : Int)]
theorem cN_len (n : Nat) : (cN n).length = 1 := rfl
theorem cN_one (n : Nat) : ∀ u ∈ cN n, u.oneCell' = true := by intro u hu; simp [cN] at hu; subst hu; rfl
theorem grown_below' {w w2 : World} {row : Option Nat} {B : Nat} (hg : w.grownBy w2 row) (hB : B ≤ w.heap.size) (hr : ∀ g, row = some g → B ≤ g) : Below B w w2 :=
  ⟨hg.os, hg.tape, hg.output, hg.size, fun k hk => hg.block k (Nat.lt_of_lt_of_le hk hB) fun e => by have := hr k e.symm; omega⟩
theorem app_below {w w5 : World} {B n m : Nat} {ty : TypeId} {v : Value} {xs : List Value} {ob : Obj} (h : w.ownsRow B ty m v n xs) (hB : B ≤ w.heap.size) (hg : (w.alloc ob).grownBy w5 v.ownBlock) : Below B w w5 :=
  ((Below.refl _ _).alloc hB _).trans (grown_below' hg (by simp; omega) fun g e => (h.lt g e).1)
theorem own_small {w : World} {B n m : Nat} {ty : TypeId} {v : Value} {xs : List Value} (h : w.ownsRow B ty m v n xs) : ∃ A c, v = .slice A n c := by
  rcases h.2 with ⟨rfl, h0⟩ | ⟨g, cap, cur, hv, _⟩
  · exact ⟨none, 0, by rw [h0]⟩
  · exact ⟨_, _, hv⟩
theorem alloc_le' {n : Nat} {w : World} {ob : Obj} (h : n ≤ w.heap.size) : n ≤ (w.alloc ob).heap.size := by simp; omega
theorem below_low {w w2 w3 : World} {B : Nat} (hb : Below w2.heap.size w2 w3) (h : B ≤ w.heap.size) (h2 : Below B w w2) : Below B w2 w3 := ⟨hb.os, hb.tape, hb.output, hb.size, fun i hi => hb.block i (Nat.lt_of_lt_of_le hi (Nat.le_trans h h2.size))⟩
def lkM (M k : Nat) : List Nat := (List.range k).filter fun n => M.testBit n
theorem lkM_s (M k : Nat) : lkM M (k + 1) = lkM M k ++ (if M.testBit k = true then [k] else []) := by
  unfold lkM
  rw [List.range_succ, List.filter_append]
  congr 1
  cases h : M.testBit k <;> simp [h]
theorem lkM_len (M k : Nat) : (lkM M k).length ≤ k := by
  unfold lkM
  exact Nat.le_trans (List.length_filter_le ..) (by simp)
set_option maxRecDepth 100000 in
set_option maxHeartbeats 4000000 in
theorem rList_ok (M : Nat) (hM : M < 2 ^ 128) (w : World) : Calls Try.prog 28 #[mV M] w fun e w' => (∃ v, e = .returned v ∧ w'.ownsRow w.heap.size 3 1 v (listM M).length ((listM M).flatMap cN)) ∧ Below w.heap.size w w' := by
  have HH := Lib.hid (fun (k : Nat) (hk : k < 128) (w2 : World) => rHas_ok M k hM hk w2)
  clear hM
  unfold mV at HH ⊢
  have b1 : Below w.heap.size w (w.alloc (.cells #[.int .u64 (loM M), .int .u64 (hiM M)] 25)) := (Below.refl _ _).alloc (Nat.le_refl _) _
  have k0 : (w.alloc (.cells #[.int .u64 (loM M), .int .u64 (hiM M)] 25)).heap[w.heap.size]? = some (.cells (cM M).toArray 25 (0, 0)) := heap_at rfl
  have s0 : w.heap.size ≤ (w.alloc (.cells #[.int .u64 (loM M), .int .u64 (hiM M)] 25)).heap.size := by simp
  go_enter Try.func28, Try.ntmps28
  go_wp2_with fail
  obtain ⟨z, hz⟩ : ∃ z, z = w.heap.size := ⟨_, rfl⟩
  rw [← hz] at k0 ⊢
  have b2 : Below w.heap.size w ((w.alloc (.cells #[.int .u64 (loM M), .int .u64 (hiM M)] 25)).alloc (.cells #[] 3)) := b1.alloc s0 _
  have k2 := heap_keep ((Below.refl _ _).alloc (Nat.le_refl _) (.cells #[] 3)) k0
  have o2 := fresh_row (w.alloc (.cells #[.int .u64 (loM M), .int .u64 (hiM M)] 25)) 3 1 _ (Nat.le_refl _)
  have q2 : (w.alloc (.cells #[.int .u64 (loM M), .int .u64 (hiM M)] 25)).heap.size = z + 1 := by rw [hz]; simp
  rw [q2] at o2
  have s2 : z + 1 ≤ ((w.alloc (.cells #[.int .u64 (loM M), .int .u64 (hiM M)] 25)).alloc (.cells #[] 3)).heap.size := by simp; omega
  generalize ((w.alloc (.cells #[.int .u64 (loM M), .int .u64 (hiM M)] 25)).alloc (.cells #[] 3)) = wa at *
  have B2 := Lib.hid b2
  have K2 := Lib.hid k2
  have O2 := Lib.hid o2
  have S2 := Lib.hid s2
  have HZ := Lib.hid hz
  clear b1 b2 k0 k2 s0 o2 q2 s2 hz
  go_loopw [3, 4] (fun u i wr => ∃ (k : Nat) (o : Value), k ≤ 128 ∧ o = u ∧ i = .int .i64 k ∧ Hid (wr.ownsRow (z + 1) 3 1 o (lkM M k).length ((lkM M k).flatMap cN)) ∧ Hid (Below (z + 1) wa wr)) (fun _ i _ => 128 - (intOf i).toNat)
  case atStart => exact ⟨0, _, Nat.zero_le _, rfl, rfl, O2, Lib.hid (Below.refl _ _)⟩
  case round =>
    obtain ⟨k, o, hk, rfl, rfl, ho, hbw⟩ := hrel
    by_cases hlt : k < 128
    · have hwk1 : IntKind.i64.wrap ((k : Int) + 1) = (k : Int) + 1 := by rw [IntKind.wrap_i64]; omega
      have hk7 : (k : Int) ≤ 127 := by omega
      have KR := Lib.hid ((hbw.out.block z (by omega)).trans K2.out)
      have HK := Lib.hid (HH.out k hlt)
      have HL : Hid ((lkM M k).length ≤ 1172812402926) := Lib.hid (Nat.le_trans (lkM_len M k) (by omega))
      clear hlt
      cases hb : M.testBit k with
      | true =>
        rw [hb] at HK
        have HE : Hid (lkM M (k + 1) = lkM M k ++ [k]) := Lib.hid (by rw [lkM_s, hb]; rfl)
        clear hb
        go_wp2_with (first | (refine wpList_loadL rfl 25 (.tmp 1) rfl z 0 (.agg #[.int .u64 (loM M), .int .u64 (hiM M)]) rfl (cldM KR.out) ?_))
        with_reducible refine (HK.out _).mono ?_
        rintro e w3 ⟨rfl, hb3⟩
        have O3 := Lib.hid (own_below ho.out hb3)
        have B3 := Lib.hid (hbw.out.trans (below_low hb3 S2.out hbw.out))
        have S3 := Lib.hid (Nat.le_trans (Nat.le_trans S2.out hbw.out.size) hb3.size)
        clear hb3 ho hbw KR HK
        go_wp2_with (at_builtin; refine wpList_appG cN 1 73 3 8 cN_len cN_one (by omega) Try.underlying73 cinfo3 rfl (by omega) rfl (.tmp 13) (.tmp 15) rfl (z + 1) _ o (lkM M k) k rfl rfl (own_below O3.out ((Below.refl _ _).alloc (Nat.le_refl _) _)) (heap_at rfl) HL.out (alloc_le' S3.out) ?_; intro v5 w5 ho5 hg5; have b5 := app_below O3.out S3.out hg5; have O5 := Lib.hid ho5; have B5 := Lib.hid (B3.out.trans b5); clear ho5 hg5 b5)
        go_roundw
        case rel => exact ⟨k + 1, _, by omega, rfl, by go_num, by rw [HE.out]; exact O5, B5⟩
        case measure => simp [intOf]; omega
      | false =>
        rw [hb] at HK
        have HE : Hid (lkM M (k + 1) = lkM M k) := Lib.hid (by rw [lkM_s, hb]; simp)
        clear hb
        go_wp2_with (first | (refine wpList_loadL rfl 25 (.tmp 1) rfl z 0 (.agg #[.int .u64 (loM M), .int .u64 (hiM M)]) rfl (cldM KR.out) ?_))
        with_reducible refine (HK.out _).mono ?_
        rintro e w3 ⟨rfl, hb3⟩
        have O3 := Lib.hid (own_below ho.out hb3)
        have B3 := Lib.hid (hbw.out.trans (below_low hb3 S2.out hbw.out))
        clear hb3 ho hbw KR HK
        go_wp2_with fail
        go_roundw
        case rel => exact ⟨k + 1, _, by omega, rfl, by go_num, by rw [HE.out]; exact O3, B3⟩
        case measure => simp [intOf]; omega
    · have hk8 : k = 128 := by omega
      have hk9 : ¬ (k : Int) ≤ 127 := by omega
      have hf : Hid (listM M = lkM M k) := Lib.hid (by rw [hk8]; rfl)
      clear hk8 hlt hk
      go_wp2_with fail
      go_ret
      refine ⟨⟨_, rfl, ?_⟩, ?_⟩
      · have hz := HZ.out
        subst hz
        rw [hf.out]
        exact own_lower ho.out (by omega)
      · have hz := HZ.out
        subst hz
        exact B2.out.trans (hbw.out.mono (by omega))
end Go.Proofs.Ytpklcefiabjplaa
