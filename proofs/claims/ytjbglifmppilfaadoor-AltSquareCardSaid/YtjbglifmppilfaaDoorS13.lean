/- The iterator over the nodes of a set; conditions as stated. Sets under numbers: the table as its map and its row; New, Set; conditions as stated. The table of sets: New and Set; conditions as stated. The table of sets: ID; conditions as stated. A drawn region with a class that knows what is done (Og5), in a round of the wide fence; conditions: as in Og5, no operation is a defer statement. -/
import Derived.Test.YtjbglifmppilfaaDoorS12
import Derived.RangeFuncNested
import Derived.RangeFuncBound
import Derived.RangeFuncCalls
import Derived.RangeFuncLeaves
import Derived.Shelf.Abstract
import Derived.Shelf.RegionOpen
import Derived.WalkKit
import Derived.OwnWalkIn
import Derived.TacticsInMore
import Derived.LoopNIn
import Derived.LoopIn
import Derived.Test.YtjbglifmppilfaaDoorS3
namespace Go.Proofs.YtjbglifmppilfaaDoor
open Go.ChangeShapes Go.WideShapes Go.ChangeAt Go.RowKit
set_option linter.unusedVariables false
set_option linter.unusedSimpArgs false
attribute [local go_sem] Og.Opt Og.OpY Oper.semAt_some

theorem wpListIn_store_new {F : Fence} {n : Nat} {P : Program} {ops : Array Oper} {rest : List Oper} {o : Oper} {a : Act} {w : World} {Q : Exit → Act → World → Prop} (hgd : o.guard = none) (ty : TypeId) (x y : Operand) (ho : o.op = .store ty x y) (hd : o.dst = none)
    (g : Nat) (cells : Array Value) (hx : a.eval x = .pointer (some ⟨g, 0, none⟩)) (hy : a.eval y = .agg cells)
    (t : TypeId) (old : Array Value) (hg : w.heap[g]? = some (.cells old t (0, 0))) (hi : (P.info? ty).map (·.size) = some cells.size)
    (hold : old.size = cells.size) (h1 : cells.all (·.oneCell') = true) (B : Nat) (hB : B ≤ g)
    (h : ∀ w3, w3.heap[g]? = some (.cells cells t (0, 0)) → Below B w w3 → wpListIn F n P ops Q rest a w3) : wpListIn F n P ops Q (o :: rest) a w := by
  refine wpListIn_plain hgd fun K hK => ?_
  unfold Oper.wpIn
  refine ⟨fun f hf => by simp [Oper.about, ho] at hf, ?_⟩
  rw [Oper.semAt_plain F _ _ (by rw [ho]; intro c hc'; cases hc')]
  simp only [execOp, ho, hx, hy, Instr.storeAt, Instr.sureAddr, Sem.run_bind, Sem.run_pure, Result.andThen_ok, run_storeVar_row w g t ty old cells hg hi hold h1]
  have e : a.put o.dst undef = a := by rw [hd]; rfl
  refine hK _ _ ?_
  rw [e]
  exact h _ (setRow_heap w g old cells t (0, 0) hg) ⟨rfl, rfl, rfl, by simp [World.setRow], fun k hk => setRow_other w g k _ (by omega)⟩
theorem wpListIn_loadW {F : Fence} {n : Nat} {P : Program} {ops : Array Oper} {rest : List Oper} {o : Oper} {a : Act} {w : World} {Q : Exit → Act → World → Prop} (hw : Region.wanted o (yielded ops a.tmps) = true) (ty : TypeId) (t : Operand) (ho : o.op = .load ty t) (b off : Nat) (v : Value) (ha : a.eval t = .pointer (some ⟨b, off, none⟩)) (hr : (loadVar ty ⟨b, off, none⟩).run P w = .ok v w)
    (k : wpListIn F n P ops Q rest (a.put o.dst v) w) : wpListIn F n P ops Q (o :: rest) a w := by
  refine wpListIn_step fun K hK => ?_
  rw [if_pos hw]
  unfold Oper.wpIn
  refine ⟨fun f hf => by simp [Oper.about, ho] at hf, ?_⟩
  rw [Oper.semAt_plain F _ _ (by rw [ho]; intro c hc'; cases hc')]
  simp only [execOp, ho, ha, Instr.loadAt, Instr.sureAddr, Sem.run_bind, Sem.run_pure, Result.andThen_ok, hr]
  exact hK _ _ k
theorem wpListIn_storeW {F : Fence} {n : Nat} {P : Program} {ops : Array Oper} {rest : List Oper} {o : Oper} {a : Act} {w w' : World} {Q : Exit → Act → World → Prop} (hgd : o.guard = none) (ty : TypeId) (x y : Operand) (ho : o.op = .store ty x y) (hd : o.dst = none) (g off : Nat) (v : Value) (hx : a.eval x = .pointer (some ⟨g, off, none⟩)) (hy : a.eval y = v)
    (hr : (storeVar ty ⟨g, off, none⟩ v).run P w = .ok () w') (h : wpListIn F n P ops Q rest a w') : wpListIn F n P ops Q (o :: rest) a w := by
  refine wpListIn_plain hgd fun K hK => ?_
  unfold Oper.wpIn
  refine ⟨fun f hf => by simp [Oper.about, ho] at hf, ?_⟩
  rw [Oper.semAt_plain F _ _ (by rw [ho]; intro c hc'; cases hc')]
  simp only [execOp, ho, hx, hy, Instr.storeAt, Instr.sureAddr, Sem.run_bind, Sem.run_pure, Result.andThen_ok, hr]
  have e : a.put o.dst undef = a := by rw [hd]; rfl
  refine hK _ _ ?_
  rw [e]
  exact h

theorem abides_belowF {n₀ : Nat} {J : List (Fin 128) → World → Prop} (h : AbidesFrom n₀ J) {s : List (Fin 128)} {w w' : World} (hJ : J s w) (hb : Below w.heap.size w w') : J s w' :=
  h s w w' none hJ (below_grown hb) (fun r e => by cases e)
/-- the nodes of a set, rising -/
def elM (M : Nat) : List (Fin 128) := (List.finRange 128).filter fun i => M.testBit i.val
def elW (k x : Nat) : List (Fin 128) := (List.finRange 128).filter fun i => i.val / 64 == k && x.testBit (i.val % 64)
theorem elM_val (M : Nat) : (elM M).map (fun i => i.val) = listM M := by
  unfold elM listM
  have h : List.range 128 = (List.finRange 128).map (fun i => i.val) := by decide +kernel
  rw [h, List.filter_map]
  rfl
theorem fin_split : List.finRange 128 = (List.finRange 128).filter (fun i => i.val / 64 == 0) ++ (List.finRange 128).filter (fun i => i.val / 64 == 1) := by decide +kernel
theorem elM_split (M : Nat) : elM M = elW 0 (M % 2 ^ 64) ++ elW 1 (M / 2 ^ 64) := by
  unfold elM
  rw [fin_split, List.filter_append, List.filter_filter, List.filter_filter]
  unfold elW
  congr 1
  · apply List.filter_congr
    intro i _
    rw [Nat.testBit_mod_two_pow, Bool.and_comm]
    by_cases h : i.val / 64 = 0
    · have h1 : i.val % 64 = i.val := by omega
      have h2 : i.val < 64 := by omega
      rw [h1]; simp [h, h2]
    · have : (i.val / 64 == 0) = false := by simpa using h
      rw [this]; rfl
  · apply List.filter_congr
    intro i _
    rw [Nat.testBit_div_two_pow, Bool.and_comm]
    by_cases h : i.val / 64 = 1
    · have h1 : i.val % 64 + 64 = i.val := by omega
      rw [h1]
    · have : (i.val / 64 == 1) = false := by simpa using h
      rw [this]; rfl
theorem filt {L : List (Fin 128)} (hs : L.Pairwise (· < ·)) {a : Fin 128} {p q : Fin 128 → Bool} (ha : a ∈ L) (hp : ∀ i, i < a → p i = false) (hpa : p a = true) (hq : ∀ i, q i = (p i && decide (i ≠ a))) : L.filter p = a :: L.filter q := by
  induction L with
  | nil => cases ha
  | cons b L ih =>
    rw [List.pairwise_cons] at hs
    by_cases e : b = a
    · subst e
      rw [List.filter_cons_of_pos hpa, List.filter_cons_of_neg (by rw [hq]; simp)]
      congr 1
      apply List.filter_congr
      intro i hi
      have h1 := hs.1 i hi
      have : i ≠ b := fun h => by rw [h] at h1; exact absurd h1 (by simp)
      rw [hq]; simp [this]
    · have ha' : a ∈ L := by
        rcases List.mem_cons.1 ha with h | h
        · exact absurd h.symm e
        · exact h
      have hb : p b = false := hp b (hs.1 a ha')
      rw [List.filter_cons_of_neg (by rw [hb]; simp), List.filter_cons_of_neg (by rw [hq, hb]; simp)]
      exact ih hs.2 ha'
theorem elW_low {k x t : Nat} (h : Low x t) (ht : t < 64) (hk : k < 2) : elW k x = ⟨64 * k + t, by omega⟩ :: elW k (x &&& (x - 1)) := by
  unfold elW
  refine filt (List.pairwise_lt_finRange 128) (List.mem_finRange _) (fun i hi => ?_) ?_ (fun i => ?_)
  · by_cases e : i.val / 64 = k
    · have hi' : i.val < 64 * k + t := hi
      rw [h.low (i.val % 64) (by omega)]; simp
    · have : (i.val / 64 == k) = false := by simpa using e
      rw [this]; rfl
  · have e1 : (64 * k + t) / 64 = k := by omega
    have e2 : (64 * k + t) % 64 = t := by omega
    simp only [e1, e2, h.bit, beq_self_eq_true, Bool.and_self]
  · rw [h.next]
    by_cases e : i.val / 64 = k
    · have e1 : (i.val / 64 == k) = true := by simpa using e
      rw [e1]
      have : (i ≠ (⟨64 * k + t, by omega⟩ : Fin 128)) ↔ i.val % 64 ≠ t := by
        rw [Ne, Fin.ext_iff]
        simp only []
        omega
      simp only [Bool.true_and, this]
    · have : (i.val / 64 == k) = false := by simpa using e
      rw [this]; rfl
theorem elW_zero (k : Nat) : elW k 0 = [] := by
  unfold elW
  rw [List.filter_eq_nil_iff]
  intro i _
  simp
theorem Low.and_lt {x t : Nat} (hx : x < 2 ^ 64) : x &&& (x - 1) < 2 ^ 64 := Nat.lt_of_le_of_lt Nat.and_le_left hx
theorem Low.and_dec {x t : Nat} (h : Low x t) (h0 : x ≠ 0) : x &&& (x - 1) < x := Nat.lt_of_le_of_lt Nat.and_le_right (by omega)
set_option maxRecDepth 100000 in
set_option maxHeartbeats 8000000 in
theorem each_in (n : Nat) (hn : 1 ≤ n) (l B n₀ M : Nat) (hM : M < 2 ^ 128) (J Jx : List (Fin 128) → World → Prop) (m₀ : Nat) (hJa : AbidesFrom m₀ J)
    (hY : ∀ pre x W, J pre W → pre.length < (elM M).length → YieldAt Fence.wide (n - 1) Tryd.prog l #[.int .i64 (x.val : Int)] W fun e W' =>
      (e = .returned (.bool true) ∧ J (pre ++ [x]) W' ∧ Below n₀ W W') ∨ (e = .returned (.bool false) ∧ Jx (pre ++ [x]) W'))
    (W : World) (hn₀ : n₀ ≤ W.heap.size) (hn1 : 0 < n₀) (T : Tab W) (hB : W.heap[B]? = some (.cells (cM M).toArray 35 (0, 0))) (h0 : J [] W) :
    CallsIn Fence.wide n Tryd.prog 41 #[.func (.yield l) #[] #[], .pointer (some ⟨B, 0, none⟩)] W fun e W' => (∃ v, e = .returned v) ∧
      ((∃ zs, zs = elM M ∧ J zs W') ∨ (∃ pre, pre <+: elM M ∧ Jx pre W')) := by
  have HY := Lib.hid hY
  have HJA := Lib.hid hJa
  have HJ0 := Lib.hid h0
  have HN0 := Lib.hid (And.intro hn₀ hn1)
  have HT := Lib.hid T
  have HM := Lib.hid (pM_lt M hM)
  have HB := Lib.hid (cldM hB)
  clear hY hJa h0 hn₀ hn1 T hM hB
  refine callsIn_of_wp Tryd.func41 rfl trivial ?_ rfl
  simp only [Tryd.ntmps41, List.size_toArray, List.length_cons, List.length_nil, Nat.reduceAdd, Nat.reduceSub, Array.replicate_succ, Array.replicate_zero, List.push_toArray, List.append_toArray, List.nil_append, List.cons_append]
  unfold mV loM hiM at HB
  obtain ⟨lo, hlo⟩ : ∃ lo, lo = M % 2 ^ 64 := ⟨_, rfl⟩
  obtain ⟨hi, hhi⟩ : ∃ hi, hi = M / 2 ^ 64 := ⟨_, rfl⟩
  have HS : Hid (elM M = elW 0 lo ++ elW 1 hi) := Lib.hid (by rw [hlo, hhi]; exact elM_split M)
  rw [← hlo, ← hhi] at HB HM
  clear hlo hhi
  gi_wp2_with (refine wpListIn_loadW rfl 35 (.tmp 1) rfl B 0 _ rfl HB.out ?_)
  gi_loopw [6] (fun u wr => ∃ (k : Nat) (pre : List (Fin 128)), k ≤ 2 ∧ u = .int .i64 k ∧ Hid (pre ++ (if k = 0 then elW 0 lo ++ elW 1 hi else if k = 1 then elW 1 hi else []) = elM M) ∧ Hid (J pre wr) ∧ Hid (n₀ ≤ wr.heap.size ∧ Tab wr)) (fun u _ => 2 - (intOf u).toNat)
  case atStart => exact ⟨0, [], by omega, rfl, Lib.hid (by rw [HS.out]; rfl), HJ0, Lib.hid ⟨HN0.out.1, HT.out⟩⟩
  case round =>
    obtain ⟨k, pre, hk, rfl, hpre, hJ, hW⟩ := hrel
    by_cases hk0 : k = 0
    · have hki : (k : Int) = 0 := by omega
      have hpre1 : Hid (pre ++ (elW 0 lo ++ elW 1 hi) = elM M) := Lib.hid (by have := hpre.out; rw [if_pos hk0] at this; exact this)
      have HK := Lib.hid (show k = 0 by omega)
      have ix : ∀ w : World, (Instr.index 35 (.agg #[.int .u64 (lo : Int), .int .u64 (hi : Int)]) (.int .i64 0)).run Tryd.prog w = .ok (.int .u64 (lo : Int)) w := fun _ => by kernel_rfl
      rw [hki]
      clear hk hpre hk0
      gi_wp2_with fail
      gi_loopw [4] (fun u wr => ∃ (x : Nat) (pre : List (Fin 128)), u = .int .u64 x ∧ Hid (x < 18446744073709551616) ∧ Hid (pre ++ (elW 0 x ++ elW 1 hi) = elM M) ∧ Hid (J pre wr) ∧ Hid (n₀ ≤ wr.heap.size ∧ Tab wr)) (fun u _ => (intOf u).toNat)
      case atStart => exact ⟨lo, pre, rfl, Lib.hid HM.out.1, hpre1, hJ, hW⟩
      case round =>
        clear hpre1 hJ hW pre
        obtain ⟨x, pre, rfl, hx, hpre, hJ, hW⟩ := hrel
        by_cases h0 : x = 0
        · have FIN := Lib.hid (show pre ++ (if 0 + 1 = 0 then elW 0 lo ++ elW 1 hi else if 0 + 1 = 1 then elW 1 hi else []) = elM M from by
            have := hpre.out
            rw [h0, elW_zero, List.nil_append] at this
            exact this)
          have hx0 : (x : Int) = 0 := by omega
          have hk1' : ((0 : Nat) : Int) + 1 = ((1 : Nat) : Int) := by omega
          rw [hx0]
          clear h0 hx hpre
          gi_wp2_with fail
          go_roundw
          case rel => exact ⟨1, pre, by omega, by go_num, FIN, hJ, hW⟩
          case measure => simp [intOf]
        · obtain ⟨t, ht⟩ := low_of x x (Nat.le_refl _) h0
          have ht64 := ht.lt hx.out
          have g1 : ((x : Int) == 0) = false := by simp; omega
          have g2 : ¬ (x : Int) = 0 := by omega
          have g3 : ((x : Int) != 0) = true := by simp; omega
          obtain ⟨y, hy1⟩ : ∃ y, y = x - 1 := ⟨_, rfl⟩
          obtain ⟨z, hz⟩ : ∃ z, z = x &&& y := ⟨_, rfl⟩
          have w1 : IntKind.u64.wrap ((x : Int) - 1) = (y : Int) := by have := hx.out; rw [IntKind.wrap_u64]; omega
          have w2 : bits .and .u64 (x : Int) (y : Int) = (z : Int) := by rw [hz]; exact bits_and_u64_nat x y hx.out (by have := hx.out; omega)
          obtain ⟨v, hv⟩ : ∃ v, v = t := ⟨_, rfl⟩
          have hv8 : v < 128 := by omega
          have wv : IntKind.i64.wrap (t : Int) = (v : Int) := by rw [IntKind.wrap_i64]; omega
          have HEL : Hid (elW 0 x = ⟨v, hv8⟩ :: elW 0 z) := Lib.hid (by
            have e := elW_low (k := 0) ht ht64 (by omega)
            rw [hz, hy1, e]
            congr 1
            exact Fin.ext (by simp only []; omega))
          have HZ : Hid (z < x ∧ z < 18446744073709551616) := Lib.hid (by rw [hz, hy1]; exact ⟨ht.and_dec h0, Nat.lt_of_le_of_lt Nat.and_le_left hx.out⟩)
          have TZ := Lib.hid (fun w2 (T : Tab w2) => tz_ok x t w2 ht hx.out h0 T)
          clear hy1 hz ht ht64 h0 hx hv
          gi_wp2_with fail
          refine ⟨trivial, CallsIn.mono (callsIn_wide.2 (TZ.out wr hW.out.2)) ?_⟩
          rintro e w3 ⟨rfl, hb⟩
          have HLEN := Lib.hid (show pre.length < (elM M).length by rw [← hpre.out, HEL.out]; simp)
          obtain ⟨fn, tmps, assign, body, hy, hR⟩ := HY.out pre ⟨v, hv8⟩ w3 (abides_belowF HJA.out hJ.out hb) HLEN.out
          dsimp only at hy
          have HB3 := Lib.hid hb
          clear hb
          gi_wp2_with fail
          all_goals
            refine hR.mono ?_
            rintro e W3 (⟨rfl, hJ3, hk3⟩ | ⟨rfl, hJx3⟩)
            · have HBN := Lib.hid ((HB3.out.mono hW.out.1).trans hk3)
              have HJ3 := Lib.hid hJ3
              have HS3 := Lib.hid (show n₀ ≤ W3.heap.size ∧ Tab W3 from ⟨Nat.le_trans hW.out.1 HBN.out.size, hW.out.2.below HBN.out HN0.out.2⟩)
              have HP3 := Lib.hid (show (pre ++ [⟨v, hv8⟩]) ++ (elW 0 z ++ elW 1 hi) = elM M by rw [← hpre.out, HEL.out]; simp)
              clear hk3 hJ3 hR hy
              gi_wp2_with fail
              go_roundw
              case rel => exact ⟨z, pre ++ [⟨v, hv8⟩], rfl, Lib.hid HZ.out.2, HP3, HJ3, HS3⟩
              case measure => have := HZ.out; simp [intOf]; omega
            · have HX := Lib.hid hJx3
              have HP3 := Lib.hid (show (pre ++ [⟨v, hv8⟩]) <+: elM M by rw [← hpre.out, HEL.out]; exact ⟨elW 0 z ++ elW 1 hi, by simp⟩)
              clear hJx3 hR hy
              gi_wp2_with fail
              refine bodyPost_ret (results_none rfl _ _ _) rfl ?_
              exact ⟨⟨_, rfl⟩, .inr ⟨pre ++ [⟨v, hv8⟩], HP3.out, HX.out⟩⟩
    · by_cases hk1 : k = 1
      · have hki : (k : Int) = 1 := by omega
        have hpre1 : Hid (pre ++ (elW 1 hi ++ ([] : List (Fin 128))) = elM M) := Lib.hid (by have := hpre.out; rw [if_neg hk0, if_pos hk1] at this; rw [List.append_nil]; exact this)
        have HK := Lib.hid (show k = 1 by omega)
        have ix : ∀ w : World, (Instr.index 35 (.agg #[.int .u64 (lo : Int), .int .u64 (hi : Int)]) (.int .i64 1)).run Tryd.prog w = .ok (.int .u64 (hi : Int)) w := fun _ => by kernel_rfl
        rw [hki]
        clear hk hpre hk0 hk1
        gi_wp2_with fail
        gi_loopw [4] (fun u wr => ∃ (x : Nat) (pre : List (Fin 128)), u = .int .u64 x ∧ Hid (x < 18446744073709551616) ∧ Hid (pre ++ (elW 1 x ++ ([] : List (Fin 128))) = elM M) ∧ Hid (J pre wr) ∧ Hid (n₀ ≤ wr.heap.size ∧ Tab wr)) (fun u _ => (intOf u).toNat)
        case atStart => exact ⟨hi, pre, rfl, Lib.hid HM.out.2, hpre1, hJ, hW⟩
        case round =>
          clear hpre1 hJ hW pre
          obtain ⟨x, pre, rfl, hx, hpre, hJ, hW⟩ := hrel
          by_cases h0 : x = 0
          · have FIN := Lib.hid (show pre ++ (if 1 + 1 = 0 then elW 0 lo ++ elW 1 hi else if 1 + 1 = 1 then elW 1 hi else []) = elM M from by
              have := hpre.out
              rw [h0, elW_zero, List.nil_append] at this
              exact this)
            have hx0 : (x : Int) = 0 := by omega
            have hk1' : ((1 : Nat) : Int) + 1 = ((2 : Nat) : Int) := by omega
            rw [hx0]
            clear h0 hx hpre
            gi_wp2_with fail
            go_roundw
            case rel => exact ⟨2, pre, by omega, by go_num, FIN, hJ, hW⟩
            case measure => simp [intOf]
          · obtain ⟨t, ht⟩ := low_of x x (Nat.le_refl _) h0
            have ht64 := ht.lt hx.out
            have g1 : ((x : Int) == 0) = false := by simp; omega
            have g2 : ¬ (x : Int) = 0 := by omega
            have g3 : ((x : Int) != 0) = true := by simp; omega
            obtain ⟨y, hy1⟩ : ∃ y, y = x - 1 := ⟨_, rfl⟩
            obtain ⟨z, hz⟩ : ∃ z, z = x &&& y := ⟨_, rfl⟩
            have w1 : IntKind.u64.wrap ((x : Int) - 1) = (y : Int) := by have := hx.out; rw [IntKind.wrap_u64]; omega
            have w2 : bits .and .u64 (x : Int) (y : Int) = (z : Int) := by rw [hz]; exact bits_and_u64_nat x y hx.out (by have := hx.out; omega)
            obtain ⟨v, hv⟩ : ∃ v, v = 64 + t := ⟨_, rfl⟩
            have hv8 : v < 128 := by omega
            have wv : IntKind.i64.wrap (64 + (t : Int)) = (v : Int) := by rw [IntKind.wrap_i64]; omega
            have HEL : Hid (elW 1 x = ⟨v, hv8⟩ :: elW 1 z) := Lib.hid (by
              have e := elW_low (k := 1) ht ht64 (by omega)
              rw [hz, hy1, e]
              congr 1
              exact Fin.ext (by simp only []; omega))
            have HZ : Hid (z < x ∧ z < 18446744073709551616) := Lib.hid (by rw [hz, hy1]; exact ⟨ht.and_dec h0, Nat.lt_of_le_of_lt Nat.and_le_left hx.out⟩)
            have TZ := Lib.hid (fun w2 (T : Tab w2) => tz_ok x t w2 ht hx.out h0 T)
            clear hy1 hz ht ht64 h0 hx hv
            gi_wp2_with fail
            refine ⟨trivial, CallsIn.mono (callsIn_wide.2 (TZ.out wr hW.out.2)) ?_⟩
            rintro e w3 ⟨rfl, hb⟩
            have HLEN := Lib.hid (show pre.length < (elM M).length by rw [← hpre.out, HEL.out]; simp)
            obtain ⟨fn, tmps, assign, body, hy, hR⟩ := HY.out pre ⟨v, hv8⟩ w3 (abides_belowF HJA.out hJ.out hb) HLEN.out
            dsimp only at hy
            have HB3 := Lib.hid hb
            clear hb
            gi_wp2_with fail
            all_goals
              refine hR.mono ?_
              rintro e W3 (⟨rfl, hJ3, hk3⟩ | ⟨rfl, hJx3⟩)
              · have HBN := Lib.hid ((HB3.out.mono hW.out.1).trans hk3)
                have HJ3 := Lib.hid hJ3
                have HS3 := Lib.hid (show n₀ ≤ W3.heap.size ∧ Tab W3 from ⟨Nat.le_trans hW.out.1 HBN.out.size, hW.out.2.below HBN.out HN0.out.2⟩)
                have HP3 := Lib.hid (show (pre ++ [⟨v, hv8⟩]) ++ (elW 1 z ++ ([] : List (Fin 128))) = elM M by rw [← hpre.out, HEL.out]; simp)
                clear hk3 hJ3 hR hy
                gi_wp2_with fail
                go_roundw
                case rel => exact ⟨z, pre ++ [⟨v, hv8⟩], rfl, Lib.hid HZ.out.2, HP3, HJ3, HS3⟩
                case measure => have := HZ.out; simp [intOf]; omega
              · have HX := Lib.hid hJx3
                have HP3 := Lib.hid (show (pre ++ [⟨v, hv8⟩]) <+: elM M by rw [← hpre.out, HEL.out]; exact ⟨elW 1 z ++ ([] : List (Fin 128)), by simp⟩)
                clear hJx3 hR hy
                gi_wp2_with fail
                refine bodyPost_ret (results_none rfl _ _ _) rfl ?_
                exact ⟨⟨_, rfl⟩, .inr ⟨pre ++ [⟨v, hv8⟩], HP3.out, HX.out⟩⟩
      · have hki : (k : Int) = 2 := by omega
        have FIN := Lib.hid (show pre = elM M by have := hpre.out; rw [if_neg hk0, if_neg hk1, List.append_nil] at this; exact this)
        rw [hki]
        clear hk hpre hk0 hk1
        gi_wp2_with fail
        go_end0
        exact ⟨⟨_, rfl⟩, .inl ⟨pre, FIN.out, hJ.out⟩⟩

end Go.Proofs.YtjbglifmppilfaaDoor
namespace Go.Proofs.YtjbglifmppilfaaDoor
open Go.ChangeShapes Go.WideShapes Go.ChangeAt Go.RowKit
set_option linter.unusedVariables false
set_option linter.unusedSimpArgs false
attribute [local go_sem] Og.Opt Og.OpY Oper.semAt_some

theorem each_stops (n : Nat) (hn : 1 ≤ n) (B n₀ M : Nat) (hM : M < 2 ^ 128) (w : World) (hn₀ : n₀ ≤ w.heap.size) (hn1 : 0 < n₀) (T : Tab w) (hB : w.heap[B]? = some (.cells (cM M).toArray 35 (0, 0))) :
    SeqStopsK Fence.wide n Tryd.prog 41 #[.pointer (some ⟨B, 0, none⟩)] (fun x : Fin 128 => #[.int .i64 (x.val : Int)]) (Below n₀) (fun zs => zs = elM M) (fun pre => pre <+: elM M) (elM M).length w := fun l J Jx W hW hJ hJx hY h0 =>
  each_in n hn l B n₀ M hM J Jx W.heap.size hJ hY W (Nat.le_trans hn₀ hW.size) hn1 (T.below hW T.size) (heap_keep hW hB) h0
set_option maxRecDepth 100000 in
theorem Each_ok (M : Nat) (w : World) : Calls Tryd.prog 22 #[mV M] w fun e w' => e = .returned (.func (.func 41) #[] #[.pointer (some ⟨w.heap.size, 0, none⟩)]) ∧ w'.heap[w.heap.size]? = some (.cells (cM M).toArray 35 (0, 0)) ∧ Below w.heap.size w w' ∧ w'.heap.size = w.heap.size + 1 := by
  unfold mV
  go_enter Tryd.func22, Tryd.ntmps22
  go_wp2_with fail
  go_ret
  exact ⟨rfl, heap_at rfl, (Below.refl _ _).alloc (Nat.le_refl _) _, by simp⟩
theorem eqI33 (d : Nat) (x y : Int) (w : World) : (Op.equalIn (d + 1) 33 (.int .u64 x) (.int .u64 y)).run Tryd.prog w = .ok (x == y) w := by
  simp [Op.equalIn, run_underlying Tryd.underlying33]
theorem part0 (x y : Int) (w : World) : (part 33 #[.int .u64 x, .int .u64 y] 0).run Tryd.prog w = .ok (.int .u64 x) w := by
  simp [part]
theorem part1 (x y : Int) (w : World) : (part 33 #[.int .u64 x, .int .u64 y] 1).run Tryd.prog w = .ok (.int .u64 y) w := by
  simp [part]
theorem sizeU64 (w : World) : (sizeOf 33).run Tryd.prog w = .ok 1 w := by kernel_rfl
theorem eqB0 (d : Nat) (w : World) (x0 x1 y0 y1 : Int) : (Op.equalIn (d + 2) 35 (.agg #[.int .u64 x0, .int .u64 x1]) (.agg #[.int .u64 y0, .int .u64 y1])).run Tryd.prog w = .ok (x0 == y0 && x1 == y1) w := by
  have hr : List.range' 0 2 = [0, 1] := rfl
  rw [Op.equalIn]
  simp only [Sem.run_bind, run_underlying Tryd.underlying35, Result.andThen_ok, sizeU64, Std.Legacy.Range.forIn_eq_forIn_range', Std.Legacy.Range.size]
  simp only [Nat.sub_zero, Nat.add_one_sub_one, Nat.div_one, hr, List.forIn_cons, List.forIn_nil, Sem.run_bind, part0, part1, Nat.zero_mul, Nat.one_mul, Result.andThen_ok, eqI33]
  cases h0 : x0 == y0 <;> cases h1 : x1 == y1 <;> simp [part1, eqI33, h1]
theorem eqM (A B : Nat) (w : World) : (Op.equal 35 (mV A) (mV B)).run Tryd.prog w = .ok (decide (A = B)) w := by
  unfold mV Op.equal Op.maxDepth
  rw [eqB0 9998]
  congr 1
  rw [Bool.eq_iff_iff, Bool.and_eq_true, beq_iff_eq, beq_iff_eq, decide_eq_true_eq]
  exact ⟨fun h => pairM h.1 h.2, fun h => by rw [h]; exact ⟨rfl, rfl⟩⟩
/-- the map's entries: each set under its place -/
def tbE : Nat → List Nat → List MapEntry
  | _, [] => []
  | i, M :: ms => { key := mV M, val := .int .i64 (i : Int), born := i } :: tbE (i + 1) ms
theorem tbE_len : ∀ (i : Nat) (ms : List Nat), (tbE i ms).length = ms.length
  | _, [] => rfl
  | i, M :: ms => by rw [tbE, List.length_cons, tbE_len, List.length_cons]
theorem tbE_snoc : ∀ (i : Nat) (ms : List Nat) (M : Nat), tbE i (ms ++ [M]) = tbE i ms ++ [{ key := mV M, val := .int .i64 ((i + ms.length : Nat) : Int), born := i + ms.length }]
  | i, [], M => rfl
  | i, x :: ms, M => by
    rw [List.cons_append, tbE, tbE, tbE_snoc (i + 1) ms M, List.length_cons, List.cons_append, show i + 1 + ms.length = i + (ms.length + 1) by omega]
/-- the place of a set -/
def fndI (M : Nat) : List Nat → Nat → Option Nat
  | [], _ => none
  | x :: xs, i => if M = x then some i else fndI M xs (i + 1)
theorem fndI_some : ∀ {M : Nat} {ms : List Nat} {i j : Nat}, fndI M ms i = some j → i ≤ j ∧ ms[j - i]? = some M
  | M, [], i, j, h => by cases h
  | M, x :: xs, i, j, h => by
    rw [fndI] at h
    split at h
    · rename_i e
      cases h
      exact ⟨Nat.le_refl _, by rw [Nat.sub_self, e]; rfl⟩
    · obtain ⟨h1, h2⟩ := fndI_some h
      refine ⟨by omega, ?_⟩
      rw [show j - i = (j - (i + 1)) + 1 by omega, List.getElem?_cons_succ]
      exact h2
theorem find_ask (M : Nat) (w : World) : ∀ (ms : List Nat) (i : Nat), (Instr.findAsking 35 (mV M) (tbE i ms) i).run Tryd.prog w = .ok ((fndI M ms i).map fun j => (j, Value.int .i64 (j : Int))) w
  | [], i => rfl
  | x :: xs, i => by
    rw [tbE, Instr.findAsking, fndI]
    simp only [Sem.run_bind, eqM, Result.andThen_ok]
    by_cases h : M = x
    · simp [h]
    · simp only [h, decide_false, Bool.false_eq_true, if_false]
      exact find_ask M w xs (i + 1)
theorem find_key (M : Nat) (w : World) (ms : List Nat) : (Instr.findKey 35 (mV M) (tbE 0 ms)).run Tryd.prog w = .ok ((fndI M ms 0).map fun j => (j, Value.int .i64 (j : Int))) w := by
  unfold Instr.findKey
  simp only [Sem.run_bind, run_underlying Tryd.underlying35, Result.andThen_ok]
  cases ms with
  | nil => rfl
  | cons x xs =>
    have : Instr.findNow (.array 2 33) (mV M) (tbE 0 (x :: xs)) 0 = none := rfl
    rw [this]
    exact find_ask M w (x :: xs) 0
theorem check_key (b : Bool) (M : Nat) (w : World) : (Instr.checkKey b 10000 35 (mV M)).run Tryd.prog w = .ok () w := by
  unfold mV
  generalize loM M = x
  generalize hiM M = y
  have hr : List.range' 0 2 = [0, 1] := rfl
  have hk : ∀ z, (Instr.checkKey b 9999 33 (.int .u64 z)).run Tryd.prog w = .ok () w := fun z => by
    rw [Instr.checkKey]
    simp only [Sem.run_bind, run_underlying Tryd.underlying33, Result.andThen_ok]
    rfl
  rw [Instr.checkKey]
  simp only [Sem.run_bind, run_underlying Tryd.underlying35, Result.andThen_ok, sizeU64, Std.Legacy.Range.forIn_eq_forIn_range', Std.Legacy.Range.size]
  simp [hr, sizeU64, part0, part1, hk]
theorem run_lookM {w : World} {mb : Nat} {ms : List Nat} {cl : Nat} (M : Nat) (h : w.heap[mb]? = some (.map (tbE 0 ms).toArray cl)) :
    (Instr.lookup 102 (.map (some mb)) (mV M) true).run Tryd.prog w = .ok (match fndI M ms 0 with | some j => .tuple #[.int .i64 (j : Int), .bool true] | none => .tuple #[.int .i64 0, .bool false]) w := by
  have hz : (zeroValue 3).run Tryd.prog w = .ok (.int .i64 0) w := by kernel_rfl
  have hg : (getObj mb).run Tryd.prog w = .ok (.map (tbE 0 ms).toArray cl) w := by simp [getObj, Sem.run, h]
  unfold Instr.lookup
  simp only [Sem.run_bind, run_underlying Tryd.underlying102, Result.andThen_ok, hg, Sem.run_pure, check_key, find_key]
  cases fndI M ms 0 <;> simp [hz]
theorem run_updM {w : World} {mb : Nat} {ms : List Nat} (M : Nat) (h : w.heap[mb]? = some (.map (tbE 0 ms).toArray ms.length)) (hf : fndI M ms 0 = none) :
    (Instr.mapUpdate 102 (.map (some mb)) (mV M) (.int .i64 (ms.length : Int))).run Tryd.prog w = .ok () (w.putObj mb (.map (tbE 0 (ms ++ [M])).toArray (ms ++ [M]).length)) := by
  have hg : (getObj mb).run Tryd.prog w = .ok (.map (tbE 0 ms).toArray ms.length) w := by simp [getObj, Sem.run, h]
  have hs : ∀ o, (setObj mb o).run Tryd.prog w = .ok () (w.putObj mb o) := fun o => by simp [setObj, Sem.run, h, World.putObj]
  unfold Instr.mapUpdate
  simp only [Sem.run_bind, run_underlying Tryd.underlying102, Result.andThen_ok, hg, Sem.run_pure, check_key, find_key, hf, Option.map_none, hs]
  rw [tbE_snoc, Nat.zero_add]
  simp

end Go.Proofs.YtjbglifmppilfaaDoor
namespace Go.Proofs.YtjbglifmppilfaaDoor
open Go.ChangeShapes Go.WideShapes Go.ChangeAt Go.RowKit
set_option linter.unusedVariables false
set_option linter.unusedSimpArgs false
attribute [local go_sem] Og.Opt Og.OpY Oper.semAt_some

/-- the table at bt: its map at mb, its row vS; it holds ms -/
structure TbS (w : World) (B0 bt mb : Nat) (vS : Value) (ms : List Nat) : Prop where
  blk : w.heap[bt]? = some (.cells #[.map (some mb), vS] 104 (0, 0))
  map : w.heap[mb]? = some (.map (tbE 0 ms).toArray ms.length)
  own : w.ownsRow B0 35 2 vS ms.length (ms.flatMap cM)
  lt : ∀ x ∈ ms, x < 2 ^ 128
  b1 : B0 ≤ bt
  b2 : B0 ≤ mb
theorem TbS.below {w w' : World} {B0 bt mb : Nat} {vS : Value} {ms : List Nat} (h : TbS w B0 bt mb vS ms) (hb : Below w.heap.size w w') : TbS w' B0 bt mb vS ms :=
  ⟨heap_keep hb h.blk, heap_keep hb h.map, own_below h.own hb, h.lt, h.b1, h.b2⟩
/-- what writes other blocks lets the table be -/
theorem TbS.kept {w w' : World} {B0 bt mb : Nat} {vS : Value} {ms : List Nat} {g : Nat} (h : TbS w B0 bt mb vS ms) (hg : w.grownBy w' (some g)) (h1 : g ≠ bt) (h2 : g ≠ mb) (h3 : vS.ownBlock ≠ some g) : TbS w' B0 bt mb vS ms :=
  ⟨(hg.block bt (Array.getElem?_eq_some_iff.1 h.blk).1 (by simp; exact Ne.symm h1)).trans h.blk, (hg.block mb (Array.getElem?_eq_some_iff.1 h.map).1 (by simp; exact Ne.symm h2)).trans h.map, h.own.kept hg (.inr h3), h.lt, h.b1, h.b2⟩
theorem loadAt_M {w : World} {b o : Nat} {M : Nat} (h : AtL w b o (cM M)) : (loadVar 35 ⟨b, o, none⟩).run Tryd.prog w = .ok (mV M) w := run_loadL (cs := cM M) cisAgg25 csize25 rfl h
set_option maxRecDepth 100000 in
set_option maxHeartbeats 4000000 in
theorem New_ok (w : World) : Calls Tryd.prog 34 #[] w fun e w' => (∃ bt mb vS, e = .returned (.pointer (some ⟨bt, 0, none⟩)) ∧ TbS w' w.heap.size bt mb vS [0]) ∧ Below w.heap.size w w' := by
  have hmm := @run_makeMap Tryd.prog
  have h0 := run_updM (w := w.alloc (.map #[] 0)) (mb := w.heap.size) (ms := []) 0 (by exact heap_at rfl) rfl
  obtain ⟨w1, hw1⟩ : ∃ w1, w1 = (w.alloc (.map #[] 0)).putObj w.heap.size (.map (tbE 0 [0]).toArray 1) := ⟨_, rfl⟩
  have h1 : (Instr.mapUpdate 102 (.map (some w.heap.size)) (.agg #[.int .u64 0, .int .u64 0]) (.int .i64 0)).run Tryd.prog (w.alloc (.map #[] 0)) = .ok () w1 := by rw [hw1]; exact h0
  have hm : w1.heap[w.heap.size]? = some (.map (tbE 0 [0]).toArray 1) := by rw [hw1]; simp [World.putObj]
  have hsz : w1.heap.size = w.heap.size + 1 := by rw [hw1]; simp [World.putObj]
  have hb : Below w.heap.size w w1 := by
    rw [hw1]
    refine ⟨rfl, rfl, rfl, by simp [World.putObj], fun k hk => ?_⟩
    have : ((w.alloc (.map #[] 0)).putObj w.heap.size (.map (tbE 0 [0]).toArray 1)).heap[k]? = (w.alloc (.map #[] 0)).heap[k]? := by
      simp only [World.putObj, Array.getElem?_setIfInBounds]
      rw [if_neg (by omega)]
    rw [this]
    exact Below.heap_alloc _ _ _ hk
  have F := Lib.hid (And.intro hm (And.intro hsz hb))
  clear h0 hw1 hm hsz hb
  go_enter Tryd.func34, Tryd.ntmps34
  go_wp2_with fail
  go_ret
  obtain ⟨hm, hsz, hb⟩ := F.out
  have k0 : ((w1.alloc (Obj.cells #[.int .u64 0, .int .u64 0] 35)).alloc (Obj.cells #[.map (some w.heap.size), .slice (some ⟨w1.heap.size, 0, none⟩) 1 1] 104)).heap[w1.heap.size]? = some (.cells #[.int .u64 0, .int .u64 0] 35 (0, 0)) := heap_keep ((Below.refl _ _).alloc (Nat.le_refl _) _) (heap_at rfl)
  refine ⟨⟨_, _, _, rfl, ⟨heap_at (by simp), ?_, ?_, by intro x hx; simp at hx; subst hx; decide, by omega, Nat.le_refl _⟩⟩, (hb.alloc (by omega) _).alloc (by simp; omega) _⟩
  · exact heap_keep (((Below.refl _ _).alloc (Nat.le_refl _) _).alloc (by simp) _) hm
  · refine ⟨rfl, .inr ⟨w1.heap.size, 1, _, rfl, by omega, k0, by decide, by have := maxLen_ge; omega, rfl, rfl⟩⟩
set_option maxRecDepth 100000 in
set_option maxHeartbeats 4000000 in
theorem Set_ok (B0 bt mb : Nat) (vS : Value) (ms : List Nat) (i M : Nat) (w : World) (h : TbS w B0 bt mb vS ms) (hi : ms[i]? = some M) (hl : ms.length ≤ 1000) :
    Calls Tryd.prog 35 #[.pointer (some ⟨bt, 0, none⟩), .int .i64 i] w fun e w' => e = .returned (.tuple #[mV M, .int .i64 0]) ∧ Below w.heap.size w w' := by
  have hil := (List.getElem?_eq_some_iff.1 hi).1
  obtain ⟨A, c, hv, hr, -⟩ := Sl_of_row cM_len (by omega) h.own rfl
  obtain ⟨b0, o0, rfl, hat⟩ := hr i M hi
  obtain ⟨n, hn⟩ : ∃ n, n = ms.length := ⟨_, rfl⟩
  rw [← hn] at hv
  subst hv
  have q1 : w.cell? ⟨bt, 1, none⟩ = some (.slice (some ⟨b0, o0, none⟩) n c) := by rw [cell_of_row w _ 1 _ _ _ h.blk]; rfl
  have HQ := Lib.hid (fun w2 (hb : Below w.heap.size w w2) => bcell hb q1)
  have HR := Lib.hid (fun w2 (hb : Below w.heap.size w w2) => loadAt_M (hat.below hb))
  have g0 : (0 : Int) ≤ (i : Int) := by omega
  have g1 : (i : Int) < (n : Int) := by omega
  have q2 := HQ.out (w.alloc (.cells #[.int .u64 0, .int .u64 0] 35)) ((Below.refl _ _).alloc (Nat.le_refl _) _)
  have r2 := Lib.hid (HR.out (w.alloc (.cells #[.int .u64 0, .int .u64 0] 35)) ((Below.refl _ _).alloc (Nat.le_refl _) _))
  clear h hi hl hil hr hat hn q1
  unfold mV at r2 ⊢
  go_enter Tryd.func35, Tryd.ntmps35
  go_wp2_with (first | (refine wpList_loadL rfl 35 (.tmp 27) rfl b0 (o0 + i * 2) _ rfl r2.out ?_) | (refine wpList_storeN rfl 35 (.tmp 4) (.tmp 28) rfl rfl w.heap.size _ rfl rfl 35 _ (heap_at rfl) cinfo25s rfl (by simp [Value.oneCell']) ?_; intro w9 hz hbb hn9 hs3; have Z9 := Lib.hid hz; have D9 := Lib.hid (((Below.refl w.heap.size w).alloc (Nat.le_refl _) _).trans (hbb _ (Nat.le_refl _))); clear hz hbb hn9 hs3))
  refine bodyPost_ret (results_cell_tmp1 rfl rfl (cldM (M := M) Z9.out)) rfl ?_
  exact ⟨rfl, D9.out⟩

end Go.Proofs.YtjbglifmppilfaaDoor
namespace Go.Proofs.YtjbglifmppilfaaDoor
open Go.ChangeShapes Go.WideShapes Go.ChangeAt Go.RowKit
set_option linter.unusedVariables false
set_option linter.unusedSimpArgs false
attribute [local go_sem] Og.Opt Og.OpY Oper.semAt_some

def CB (W : World) (vo : Option Nat) (k1 k2 : Nat) (L : Array Value) (FIN : Value → World → Prop) : Og.Joint2.Cls := fun p vs w => W.grownBy w vo ∧ (p k2 = true → p k1 = true) ∧ (p k2 = false → Below W.heap.size W w) ∧
  (p k1 = true → ∃ g1, vs k1 = .slice (some ⟨g1, 0, none⟩) 1 1 ∧ W.heap.size ≤ g1 ∧ (p k2 = false → w.heap[g1]? = some (.cells L 35 (0, 0)))) ∧ (p k2 = true → FIN (vs k2) w)
section
variable {W w : World} {vo : Option Nat} {k1 k2 : Nat} {L : Array Value} {FIN : Value → World → Prop} {p : Nat → Bool} {vs : Nat → Value}
theorem CB.ini (h : Below W.heap.size W w) : CB W vo k1 k2 L FIN (fun _ => false) vs w := ⟨⟨h.os, h.tape, h.output, h.size, fun k hk _ => h.block k hk⟩, fun e => (by cases e), fun _ => h, fun e => (by cases e), fun e => (by cases e)⟩
theorem CB.other {i : Nat} {v : Value} (h1 : i ≠ k1) (h2 : i ≠ k2) (c : CB W vo k1 k2 L FIN p vs w) : CB W vo k1 k2 L FIN (Og.Joint2.pSet p i) (Og.Joint2.vSet vs i v) w := by
  have e : ∀ j, i ≠ j → Og.Joint2.pSet p i j = p j := fun j h => by simp [Og.Joint2.pSet, Ne.symm h]
  have f : ∀ j, i ≠ j → Og.Joint2.vSet vs i v j = vs j := fun j h => by simp [Og.Joint2.vSet, Ne.symm h]
  unfold CB
  rw [e _ h1, e _ h2, f _ h1, f _ h2]
  exact c
theorem CB.new (hp : p k1 = false) (hk : k1 ≠ k2) (c : CB W vo k1 k2 L FIN p vs w) : CB W vo k1 k2 L FIN (Og.Joint2.pSet p k1) (Og.Joint2.vSet vs k1 (.slice (some ⟨w.heap.size, 0, none⟩) 1 1)) (w.alloc (.cells L 35)) := by
  obtain ⟨c1, c2, c3, c4, c5⟩ := c
  have hp2 : p k2 = false := by
    cases h : p k2 with
    | false => rfl
    | true => have := c2 h; rw [hp] at this; cases this
  have b := c3 hp2
  have b2 := bthen b ((Below.refl _ _).alloc (Nat.le_refl _) (.cells L 35))
  have e2 : Og.Joint2.pSet p k1 k2 = p k2 := by simp [Og.Joint2.pSet, Ne.symm hk]
  refine ⟨⟨b2.os, b2.tape, b2.output, b2.size, fun k hk _ => b2.block k hk⟩, fun h => by simp [Og.Joint2.pSet], fun _ => b2, fun _ => ⟨w.heap.size, by simp [Og.Joint2.vSet], b.size, fun _ => heap_at rfl⟩, fun h => by rw [e2, hp2] at h; cases h⟩
theorem CB.done {v : Value} {w2 : World} (hk : k1 ≠ k2) (h1 : p k1 = true) (hp : p k2 = false) (c : CB W vo k1 k2 L FIN p vs w) (hg : w.grownBy w2 vo) (hf : FIN v w2) : CB W vo k1 k2 L FIN (Og.Joint2.pSet p k2) (Og.Joint2.vSet vs k2 v) w2 := by
  obtain ⟨c1, c2, c3, c4, c5⟩ := c
  have e1 : Og.Joint2.pSet p k2 k1 = p k1 := by simp [Og.Joint2.pSet, hk]
  have e2 : Og.Joint2.pSet p k2 k2 = true := by simp [Og.Joint2.pSet]
  have f1 : Og.Joint2.vSet vs k2 v k1 = vs k1 := by simp [Og.Joint2.vSet, hk]
  have f2 : Og.Joint2.vSet vs k2 v k2 = v := by simp [Og.Joint2.vSet]
  refine ⟨⟨hg.os.trans c1.os, hg.tape.trans c1.tape, hg.output.trans c1.output, Nat.le_trans c1.size hg.size, fun k hk hne => (hg.block k (Nat.lt_of_lt_of_le hk c1.size) hne).trans (c1.block k hk hne)⟩, fun _ => (by rw [e1]; exact h1), fun h => (by rw [e2] at h; cases h), fun _ => ?_, fun _ => (by rw [f2]; exact hf)⟩
  obtain ⟨g1, a, b, _⟩ := c4 h1
  exact ⟨g1, (by rw [f1]; exact a), b, fun h => (by rw [e2] at h; cases h)⟩
end
theorem wpList_upd {P : Program} {ops : Array Oper} {rest : List Oper} {o : Oper} {a : Act} {w w' : World} {Q : Exit → Act → World → Prop} (hgd : o.guard = none) (ty : TypeId) (m k x : Operand) (vm vk vx : Value) (ho : o.op = .mapUpdate ty m k x) (hd : o.dst = none) (hm : a.eval m = vm) (hk : a.eval k = vk) (hx : a.eval x = vx)
    (hr : (Instr.mapUpdate ty vm vk vx).run P w = .ok () w') (h : wpList P ops Q rest a w') : wpList P ops Q (o :: rest) a w := by
  refine wpList_plain hgd fun K hK => ?_
  unfold Oper.wp
  simp only [execOp, ho, hm, hk, hx, Sem.run_bind, Sem.run_pure, Result.andThen_ok, hr]
  have e : a.put o.dst undef = a := by rw [hd]; rfl
  refine hK _ _ ?_
  rw [e]
  exact h
theorem run_appM {w : World} (base g : Nat) (ty : TypeId) (v : Value) (pre : List Nat) (r : Nat) (hown : w.ownsRow base 35 2 v pre.length (pre.flatMap cM)) (hg : w.heap[g]? = some (.cells (cM r).toArray 35 (0, 0))) (hl : pre.length ≤ 1172812402926) (hbase : base ≤ w.heap.size) :
    ∃ v' w', (Builtin.append_ #[23, 23] ty #[v, .slice (some ⟨g, 0, none⟩) 1 1]).run Tryd.prog w = .ok v' w' ∧ w'.ownsRow base 35 2 v' (pre ++ [r]).length ((pre ++ [r]).flatMap cM) ∧ w.grownBy w' v.ownBlock ∧ (v'.ownBlock = v.ownBlock ∨ v'.ownBlock = some w.heap.size) := by
  obtain ⟨i, hi, hz, hsz, hby⟩ := info_parts cinfo25
  obtain ⟨v', w', h1, h2, h3, _, h5⟩ := run_append_own_at (P := Tryd.prog) (w := w) base 23 ty 35 i _ 2 16 Tryd.underlying23 hi hz hsz hby rfl (by omega) v pre.length (pre.flatMap cM) hown ⟨g, 0, none⟩ 1 1 (cM r) (by rw [cM_len]) (news_heap hg) (cM_one r) (by have := maxLen_ge; omega) (by omega) hbase
  exact ⟨v', w', h1, snocG h2, h3, h5⟩
/-- all but the table's own blocks lie as they lay -/
structure Ft (bt mb : Nat) (o : Option Nat) (w w' : World) : Prop where
  os : w'.os = w.os
  tape : w'.tape = w.tape
  output : w'.output = w.output
  size : w.heap.size ≤ w'.heap.size
  block : ∀ k, k < w.heap.size → k ≠ bt → k ≠ mb → o ≠ some k → w'.heap[k]? = w.heap[k]?
theorem Ft.of {bt mb : Nat} {o : Option Nat} {w w' : World} (h : Below w.heap.size w w') : Ft bt mb o w w' := ⟨h.os, h.tape, h.output, h.size, fun k hk _ _ _ => h.block k hk⟩
theorem Ft.trans {bt mb : Nat} {o : Option Nat} {a b c : World} (h : Ft bt mb o a b) (k : Ft bt mb o b c) : Ft bt mb o a c :=
  ⟨k.os.trans h.os, k.tape.trans h.tape, k.output.trans h.output, Nat.le_trans h.size k.size, fun i hi h1 h2 h3 => (k.block i (Nat.lt_of_lt_of_le hi h.size) h1 h2 h3).trans (h.block i hi h1 h2 h3)⟩
theorem Ft.bel {B0 bt mb : Nat} {o : Option Nat} {w w' : World} (h : Ft bt mb o w w') (hB : B0 ≤ w.heap.size) (h1 : B0 ≤ bt) (h2 : B0 ≤ mb) (h3 : ∀ k, o = some k → B0 ≤ k) : Below B0 w w' :=
  ⟨h.os, h.tape, h.output, h.size, fun k hk => h.block k (by omega) (by omega) (by omega) (fun e => by have := h3 k e; omega)⟩
theorem putObj_other {w : World} {r k : Nat} {o : Obj} (h : k ≠ r) : (w.putObj r o).heap[k]? = w.heap[k]? := by
  simp only [World.putObj, Array.getElem?_setIfInBounds]
  rw [if_neg (Ne.symm h)]
def idJ (M : Nat) (ms : List Nat) : Nat := match fndI M ms 0 with | some j => j | none => ms.length
def idMs (M : Nat) (ms : List Nat) : List Nat := match fndI M ms 0 with | some _ => ms | none => ms ++ [M]
def FinA (B0 sz : Nat) (vo : Option Nat) (ms : List Nat) (M : Nat) (v : Value) (w9 : World) : Prop := w9.ownsRow B0 35 2 v (ms ++ [M]).length ((ms ++ [M]).flatMap cM) ∧ (v.ownBlock = vo ∨ ∃ k, v.ownBlock = some k ∧ sz ≤ k)
set_option maxRecDepth 100000 in
set_option maxHeartbeats 8000000 in
theorem ID_ok (B0 bt mb : Nat) (vS : Value) (ms : List Nat) (M : Nat) (w : World) (h : TbS w B0 bt mb vS ms) (hM : M < 2 ^ 128) (hl : ms.length ≤ 900) (hB : B0 ≤ w.heap.size) :
    Calls Tryd.prog 38 #[.pointer (some ⟨bt, 0, none⟩), mV M] w fun e w' => ∃ (j : Nat) (vS' : Value) (ms' : List Nat), (j = idJ M ms ∧ ms' = idMs M ms) ∧ e = .returned (.tuple #[.int .i64 j, .int .i64 0]) ∧ TbS w' B0 bt mb vS' ms' ∧ ms'[j]? = some M ∧ ms'.length ≤ ms.length + 1 ∧ (∀ (i : Nat) (x : Nat), ms[i]? = some x → ms'[i]? = some x) ∧ (vS'.ownBlock = vS.ownBlock ∨ ∃ k, vS'.ownBlock = some k ∧ w.heap.size ≤ k) ∧ Ft bt mb vS.ownBlock w w' := by
  obtain ⟨A, c, hv⟩ := own_small h.own
  have H := Lib.hid h
  have HM := Lib.hid hM
  have HL := Lib.hid hl
  have HB0 := Lib.hid hB
  have q0 : w.cell? ⟨bt, 0, none⟩ = some (.map (some mb)) := by rw [cell_of_row w _ 0 _ _ _ h.blk]; rfl
  have q1 : w.cell? ⟨bt, 1, none⟩ = some vS := by rw [cell_of_row w _ 1 _ _ _ h.blk]; rfl
  have LK := fun w2 (hb : Below w.heap.size w w2) => run_lookM M (heap_keep hb h.map)
  obtain ⟨bx, hbx⟩ : ∃ bx, bx = w.heap.size := ⟨_, rfl⟩
  have BX := Lib.hid hbx
  unfold mV at LK ⊢
  have hw1 : Below w.heap.size w (w.alloc (.cells #[.int .u64 (loM M), .int .u64 (hiM M)] 35)) := (Below.refl _ _).alloc (Nat.le_refl _) _
  have hxb : (w.alloc (.cells #[.int .u64 (loM M), .int .u64 (hiM M)] 35)).heap[bx]? = some (.cells (cM M).toArray 35 (0, 0)) := heap_at hbx
  by_cases hf : ∃ j, fndI M ms 0 = some j
  · obtain ⟨j, hj⟩ := hf
    have HJ := Lib.hid (fndI_some hj)
    have HJJ := Lib.hid hj
    rw [hj] at LK
    simp only [] at LK
    go_enter Tryd.func38, Tryd.ntmps38
    go_wp2_with fail
    rw [← hbx]
    clear hbx
    generalize w.alloc (.cells #[.int .u64 (loM M), .int .u64 (hiM M)] 35) = wa at *
    have HC : ∀ w2, Below wa.heap.size wa w2 → w2.cell? ⟨bt, 0, none⟩ = some (.map (some mb)) ∧ w2.cell? ⟨bx, 0, none⟩ = some (.int .u64 (loM M)) ∧ w2.cell? ⟨bx, 1, none⟩ = some (.int .u64 (hiM M)) ∧ (Instr.lookup 102 (.map (some mb)) (.agg #[.int .u64 (loM M), .int .u64 (hiM M)]) true).run Tryd.prog w2 = .ok (.tuple #[.int .i64 (j : Int), .bool true]) w2 := fun w2 hb =>
      ⟨bcell (bthen hw1 hb) q0, by rw [cell_of_row w2 _ 0 _ _ _ (heap_keep hb hxb)]; rfl, by rw [cell_of_row w2 _ 1 _ _ _ (heap_keep hb hxb)]; rfl, LK w2 (bthen hw1 hb)⟩
    have W1 := Lib.hid hw1
    clear h hM hl hv q0 q1 LK hxb hw1 hj hB
    refine Og.walk_lit [[],[0],[1,0],[2,1,0],[],[3,4,2,1,0],[5,3,4,2,1,0],[6,5,3,4,2,1,0],[6,5,3,4,2,1,0],[7,0,1,2,3,4,5,6],[8,9,0,1,2,3,4,5,6,7]] (fun w2 => Below wa.heap.size wa w2) (fun w1 w2 => Below w1.heap.size w1 w2) (by kernel_rfl) (by kernel_rfl) (bdrew) ?_
    repeat (first | (refine Og.step_pure (fun _ => Below.refl _ _) ?_; apply Exists.intro; refine And.intro ?_ ?_; focus (intro vs w2 hC hk; have hm := HC w2 hC; revert hk; simp only [Og.KS, Og.K0, Og.Is, List.getD_cons_zero, List.getD_cons_succ, List.getD_nil, List.contains_cons, List.contains_nil, Nat.reduceAdd, Nat.reduceBEq, Bool.or_false, Bool.false_or, Bool.or_true, Bool.true_or, Bool.false_eq_true, false_implies, true_implies, true_and, and_true, forall_const]; intros; go_simp; rfl)))
    intro vs w2 hC hk
    have hm := HC w2 hC
    simp only [Og.KS, Og.K0, Og.Is, List.getD_cons_zero, List.getD_cons_succ, List.getD_nil, List.contains_cons, List.contains_nil, Nat.reduceAdd, Nat.reduceBEq, Bool.or_false, Bool.false_or, Bool.or_true, Bool.true_or, Bool.false_eq_true, false_implies, true_implies, true_and, and_true, forall_const] at hk
    simp only [hk, Act.put, List.setIfInBounds_toArray, List.set_cons_zero, List.set_cons_succ]
    clear hk
    have FB := Lib.hid (bthen W1.out hC)
    clear hm HC hC
    go_wp2_with fail
    go_ret2
    exact ⟨j, vS, ms, by unfold idJ idMs; rw [HJJ.out]; exact ⟨rfl, rfl⟩, rfl, H.out.below FB.out, by simpa using HJ.out.2, by omega, fun i x hx => hx, .inl rfl, Ft.of FB.out⟩
  · have hn : fndI M ms 0 = none := by
      cases e : fndI M ms 0 with
      | none => rfl
      | some j => exact absurd ⟨j, e⟩ hf
    have HN := Lib.hid hn
    rw [hn] at LK
    simp only [] at LK
    subst hv
    obtain ⟨n, hn2⟩ : ∃ n, n = ms.length := ⟨_, rfl⟩
    rw [← hn2] at q1 H h ⊢
    have N := Lib.hid hn2
    have gl : ¬ (1024 : Int) ≤ (n : Int) := by omega
    have OWN : Hid (w.ownsRow B0 35 2 (.slice A n c) ms.length (ms.flatMap cM)) := Lib.hid h.own
    go_enter Tryd.func38, Tryd.ntmps38
    go_wp2_with fail
    rw [← hbx]
    clear hbx
    generalize w.alloc (.cells #[.int .u64 (loM M), .int .u64 (hiM M)] 35) = wa at *
    have HC : ∀ w2, Below wa.heap.size wa w2 → w2.cell? ⟨bt, 0, none⟩ = some (.map (some mb)) ∧ w2.cell? ⟨bt, 1, none⟩ = some (.slice A n c) ∧ w2.cell? ⟨bx, 0, none⟩ = some (.int .u64 (loM M)) ∧ w2.cell? ⟨bx, 1, none⟩ = some (.int .u64 (hiM M)) ∧ (Instr.lookup 102 (.map (some mb)) (.agg #[.int .u64 (loM M), .int .u64 (hiM M)]) true).run Tryd.prog w2 = .ok (.tuple #[.int .i64 0, .bool false]) w2 := fun w2 hb =>
      ⟨bcell (bthen hw1 hb) q0, bcell (bthen hw1 hb) q1, by rw [cell_of_row w2 _ 0 _ _ _ (heap_keep hb hxb)]; rfl, by rw [cell_of_row w2 _ 1 _ _ _ (heap_keep hb hxb)]; rfl, LK w2 (bthen hw1 hb)⟩
    have W1 := Lib.hid hw1
    have HX := Lib.hid hxb
    clear h hM hl q0 q1 LK hxb hw1 hn hn2 hf hB
    refine Og.walk_lit [[],[0],[1,0],[2,1,0],[],[3,4,2,1,0],[5,3,4,2,1,0],[6,5,3,4,2,1,0],[6,5,3,4,2,1,0],[7,0,1,2,3,4,5,6],[8,9,0,1,2,3,4,5,6,7]] (fun w2 => Below wa.heap.size wa w2) (fun w1 w2 => Below w1.heap.size w1 w2) (by kernel_rfl) (by kernel_rfl) (bdrew) ?_
    repeat (first | (refine Og.step_pure (fun _ => Below.refl _ _) ?_; apply Exists.intro; refine And.intro ?_ ?_; focus (intro vs w2 hC hk; have hm := HC w2 hC; revert hk; simp only [Og.KS, Og.K0, Og.Is, List.getD_cons_zero, List.getD_cons_succ, List.getD_nil, List.contains_cons, List.contains_nil, Nat.reduceAdd, Nat.reduceBEq, Bool.or_false, Bool.false_or, Bool.or_true, Bool.true_or, Bool.false_eq_true, false_implies, true_implies, true_and, and_true, forall_const]; intros; go_simp; rfl)))
    intro vs wc hC hk
    have hm := HC wc hC
    simp only [Og.KS, Og.K0, Og.Is, List.getD_cons_zero, List.getD_cons_succ, List.getD_nil, List.contains_cons, List.contains_nil, Nat.reduceAdd, Nat.reduceBEq, Bool.or_false, Bool.false_or, Bool.or_true, Bool.true_or, Bool.false_eq_true, false_implies, true_implies, true_and, and_true, forall_const] at hk
    simp only [hk, Act.put, List.setIfInBounds_toArray, List.set_cons_zero, List.set_cons_succ]
    clear hk
    have FB := Lib.hid (bthen W1.out hC)
    have HX2 := Lib.hid (heap_keep hC HX.out)
    obtain ⟨m0, m1, m2, m3, -⟩ := hm
    have HC2 : ∀ w3, Below wc.heap.size wc w3 → w3.cell? ⟨bt, 0, none⟩ = some (.map (some mb)) ∧ w3.cell? ⟨bx, 0, none⟩ = some (.int .u64 (loM M)) ∧ w3.cell? ⟨bx, 1, none⟩ = some (.int .u64 (hiM M)) := fun w3 hb => ⟨bcell hb m0, bcell hb m2, bcell hb m3⟩
    clear HC hC HX m0 m2 m3
    go_wp2_with fail
    refine Og.Tail.walk_lit 6 [[],[0],[1,0],[2,1,0],[],[],[3,4,5,0,1,2]] (fun w2 => Below wc.heap.size wc w2) (fun w1 w2 => Below w1.heap.size w1 w2) (by kernel_rfl) (by kernel_rfl) (by kernel_rfl) (bdrew) ?_
    simp only [List.take_succ_cons, List.take_zero, List.drop_succ_cons, List.drop_zero]
    repeat (first | (refine Og.step_pure (fun _ => Below.refl _ _) ?_; apply Exists.intro; refine And.intro ?_ ?_; focus (intro vs w2 hC hk; have hm := HC2 w2 hC; revert hk; simp only [Og.KS, Og.K0, Og.Is, List.getD_cons_zero, List.getD_cons_succ, List.getD_nil, List.contains_cons, List.contains_nil, Nat.reduceAdd, Nat.reduceBEq, Bool.or_false, Bool.false_or, Bool.or_true, Bool.true_or, Bool.false_eq_true, false_implies, true_implies, true_and, and_true, forall_const]; intros; go_simp; rfl)))
    intro vs w3 hC hk
    simp only [Og.KS, Og.K0, Og.Is, List.getD_cons_zero, List.getD_cons_succ, List.getD_nil, List.contains_cons, List.contains_nil, Nat.reduceAdd, Nat.reduceBEq, Bool.or_false, Bool.false_or, Bool.or_true, Bool.true_or, Bool.false_eq_true, false_implies, true_implies, true_and, and_true, forall_const] at hk
    simp only [hk, Act.put, List.setIfInBounds_toArray, List.set_cons_zero, List.set_cons_succ]
    clear hk
    have FB3 := Lib.hid (bthen FB.out hC)
    have UP : (Instr.mapUpdate 102 (.map (some mb)) (.agg #[.int .u64 (loM M), .int .u64 (hiM M)]) (.int .i64 (n : Int))).run Tryd.prog w3 = .ok () (w3.putObj mb (.map (tbE 0 (ms ++ [M])).toArray (ms ++ [M]).length)) := by
      rw [N.out]
      exact run_updM M (heap_keep FB3.out H.out.map) HN.out
    have UPH := Lib.hid UP
    obtain ⟨wb, hwb⟩ : ∃ wb, wb = w3.putObj mb (.map (tbE 0 (ms ++ [M])).toArray (ms ++ [M]).length) := ⟨_, rfl⟩
    rw [← hwb] at UPH
    have oth : ∀ k, k ≠ mb → wb.heap[k]? = w3.heap[k]? := fun k hk => by rw [hwb]; exact putObj_other hk
    have hmlt := (Array.getElem?_eq_some_iff.1 (heap_keep FB3.out H.out.map)).1
    have hmap : wb.heap[mb]? = some (.map (tbE 0 (ms ++ [M])).toArray (ms ++ [M]).length) := by rw [hwb]; simp [World.putObj, hmlt]
    have hszb : wb.heap.size = w3.heap.size := by rw [hwb]; simp [World.putObj]
    have hfb : wb.os = w3.os ∧ wb.tape = w3.tape ∧ wb.output = w3.output := by rw [hwb]; exact ⟨rfl, rfl, rfl⟩
    have blk3 := heap_keep FB3.out H.out.blk
    have map3 := heap_keep FB3.out H.out.map
    have hne1 : bt ≠ mb := fun e => by rw [e, map3] at blk3; cases blk3
    have blkb : wb.heap[bt]? = some (.cells #[.map (some mb), .slice A n c] 104 (0, 0)) := by rw [oth bt hne1]; exact blk3
    have hX3 := heap_keep hC HX2.out
    have hne2 : bx ≠ mb := fun e => by rw [e, map3] at hX3; cases hX3
    have hXb : wb.heap[bx]? = some (.cells (cM M).toArray 35 (0, 0)) := by rw [oth bx hne2]; exact hX3
    have own3 := own_below OWN.out FB3.out
    have hne3 : (Value.slice A n c).ownBlock ≠ some mb := fun e => by
      rcases own3.2 with ⟨e0, _⟩ | ⟨g, cap, cur, e0, _, hg, _⟩
      · rw [e0] at e; cases e
      · rw [e0] at e; cases e; rw [hg] at map3; cases map3
    have hne4 : (Value.slice A n c).ownBlock ≠ some bt := fun e => by
      rcases own3.2 with ⟨e0, _⟩ | ⟨g, cap, cur, e0, _, hg, _⟩
      · rw [e0] at e; cases e
      · rw [e0] at e; cases e; rw [hg] at blk3; cases blk3
    have ownb : wb.ownsRow B0 35 2 (.slice A n c) ms.length (ms.flatMap cM) := own3.kept (row := some mb) ⟨hfb.1, hfb.2.1, hfb.2.2, by omega, fun k hk hne => oth k (fun e => hne (by rw [e]))⟩ (.inr hne3)
    have FT := Lib.hid (show Ft bt mb (Value.slice A n c).ownBlock w wb from (Ft.of FB3.out).trans ⟨hfb.1, hfb.2.1, hfb.2.2, by omega, fun k hk h1 h2 h3 => oth k h2⟩)
    have F := Lib.hid (And.intro blkb (And.intro hmap (And.intro hXb (And.intro hne1 hne4))))
    have OWN2 := Lib.hid ownb
    have MBN := Lib.hid hne3
    have BXN : Hid ((Value.slice A n c).ownBlock ≠ some bx) := Lib.hid (fun e => by have := (OWN.out.lt _ e).2; have := BX.out; omega)
    have HB2 := Lib.hid (show B0 ≤ wb.heap.size from Nat.le_trans HB0.out FT.out.size)
    clear UP hwb oth hmlt hmap hszb hfb blk3 map3 hne1 blkb hX3 hne2 hXb own3 hne3 hne4 ownb hC m1 HX2 FB HC2 OWN FB3
    go_wp2_with (refine wpList_upd rfl 102 (.tmp 36) (.tmp 37) (.tmp 38) _ _ _ rfl rfl rfl rfl rfl UPH.out ?_)
    clear UPH
    have HC3 : ∀ w5, wb.grownBy w5 (Value.slice A n c).ownBlock → w5.cell? ⟨bt, 1, none⟩ = some (.slice A n c) ∧ w5.cell? ⟨bx, 0, none⟩ = some (.int .u64 (loM M)) ∧ w5.cell? ⟨bx, 1, none⟩ = some (.int .u64 (hiM M)) := fun w5 hg => by
      have z1 := heap_grown hg F.out.1 (fun e => F.out.2.2.2.2 e.symm)
      have z2 := heap_grown hg F.out.2.2.1 (fun e => BXN.out e.symm)
      exact ⟨by rw [cell_of_row w5 _ 1 _ _ _ z1]; rfl, by rw [cell_of_row w5 _ 0 _ _ _ z2]; rfl, by rw [cell_of_row w5 _ 1 _ _ _ z2]; rfl⟩
    go_wp2_with fail
    refine Og.Joint2.walk_lit 8 [[],[],[1],[2,1],[3,2,1],[],[5],[4,6,3,2,1,5],[0,1,2,3,4,5,6,7],[8,0,1,2,3,4,5,6,7],[9,7,0,1,2,3,4,5,6,8]] (CB wb (Value.slice A n c).ownBlock 6 7 (cM M).toArray (FinA B0 wb.heap.size (Value.slice A n c).ownBlock ms M)) (fun _ _ => True) (by kernel_rfl) (by kernel_rfl) (by kernel_rfl) (fun vs => CB.ini bdrew) ?_
    simp only [List.take_succ_cons, List.take_zero, List.drop_succ_cons, List.drop_zero]
    iterate 4 (refine Og.Joint2.step_pure (fun p vs v w h => h.other (by decide) (by decide)) (fun _ => trivial) ?_; apply Exists.intro; refine And.intro ?_ ?_; focus (intro p vs w2 hC hk; refine Og.OptB.mk ?_; revert hk; simp only [Og.KS, Og.K0, Og.Is, List.getD_cons_zero, List.getD_cons_succ, List.getD_nil, List.contains_cons, List.contains_nil, Nat.reduceAdd, Nat.reduceBEq, Bool.or_false, Bool.false_or, Bool.or_true, Bool.true_or, Bool.false_eq_true, false_implies, true_implies, true_and, and_true, forall_const]; intros; go_simp; rfl))
    iterate 2 (refine Og.Joint2.step_pure (fun p vs v w h => h.other (by decide) (by decide)) (fun _ => trivial) ?_; apply Exists.intro; refine And.intro ?_ ?_; focus (intro p vs w2 hC hk; have hm := HC3 w2 hC.1; refine Og.OptB.mk ?_; revert hk; simp only [Og.KS, Og.K0, Og.Is, List.getD_cons_zero, List.getD_cons_succ, List.getD_nil, List.contains_cons, List.contains_nil, Nat.reduceAdd, Nat.reduceBEq, Bool.or_false, Bool.false_or, Bool.or_true, Bool.true_or, Bool.false_eq_true, false_implies, true_implies, true_and, and_true, forall_const]; intros; go_simp; rfl))
    refine Og.Joint2.step_any (fun _ _ => True) (fun _ _ _ _ _ => trivial) ?_ ?_; focus (intro p vs w2 hp hC hk; refine Og.OptB.mk ?_; revert hk; simp only [Og.KS, Og.K0, Og.Is, List.getD_cons_zero, List.getD_cons_succ, List.getD_nil, List.contains_cons, List.contains_nil, Nat.reduceAdd, Nat.reduceBEq, Bool.or_false, Bool.false_or, Bool.or_true, Bool.true_or, Bool.false_eq_true, false_implies, true_implies, true_and, and_true, forall_const]; intros; go_simp; exact CB.new hp.1 (by decide) hC)
    refine Og.Joint2.step_any (fun _ _ => True) (fun _ _ _ _ _ => trivial) ?_ ?_; focus (intro p vs w2 hp hC hk; have h1 : p 6 = true := hp.2 6 (by decide); obtain ⟨g1, e1, hg1, hz⟩ := hC.2.2.2.1 h1; have bW := hC.2.2.1 hp.1; obtain ⟨v', w', hr, ho', hg', ha'⟩ := run_appM (w := w2) B0 g1 23 _ ms M (own_below OWN2.out bW) (hz hp.1) (by have := HL.out; omega) (Nat.le_trans HB2.out bW.size); revert hk; simp only [Og.KS, Og.K0, Og.Is, List.getD_cons_zero, List.getD_cons_succ, List.getD_nil, List.contains_cons, List.contains_nil, Nat.reduceAdd, Nat.reduceBEq, Bool.or_false, Bool.false_or, Bool.or_true, Bool.true_or, Bool.false_eq_true, false_implies, true_implies, true_and, and_true, forall_const]; intros; refine optB_appR (by go_simp) rfl (by go_simp) (by first | (go_simp; done) | (go_simp; exact e1)) hr ?_; exact CB.done (by decide) h1 hp.1 hC hg' ⟨ho', ha'.imp id fun e => ⟨_, e, bW.size⟩⟩)
    intro p vS w5 hp hC hk
    obtain ⟨hg7, -, -, -, hfin⟩ := hC
    obtain ⟨ho7, ha7⟩ := hfin (hp 7 (by decide))
    simp only [Og.KS, Og.K0, Og.Is, List.getD_cons_zero, List.getD_cons_succ, List.getD_nil, List.contains_cons, List.contains_nil, Nat.reduceAdd, Nat.reduceBEq, Bool.or_false, Bool.false_or, Bool.or_true, Bool.true_or, Bool.false_eq_true, false_implies, true_implies, true_and, and_true, forall_const] at hk
    obtain ⟨gg, ccc, e7, -⟩ := own_some ho7 (fun e => by rw [e] at ho7; have := ho7.1; rcases ho7.2 with ⟨_, h0⟩ | ⟨_, _, _, h0, _⟩; simp at h0; cases h0)
    have eL : (ms ++ [M]).length = n + 1 := by rw [N.out]; simp
    have m1 := (HC3 w5 hg7).1
    have blk5 := heap_grown hg7 F.out.1 (fun e => F.out.2.2.2.2 e.symm)
    have map5 := heap_grown hg7 F.out.2.1 (fun e => MBN.out e.symm)
    have fz : w5.frozen? ⟨bt, 1, none⟩ = false := by simp [World.frozen?, blk5]
    have G5 := Lib.hid (And.intro hg7 (And.intro ho7 (And.intro ha7 (And.intro blk5 map5))))
    rw [eL] at e7
    have E7 := Lib.hid e7
    simp only [hk, e7, Act.put, List.setIfInBounds_toArray, List.set_cons_zero, List.set_cons_succ]
    clear hk hp HC3 hg7 ho7 ha7 blk5 map5 hfin
    go_wp2_with fail
    go_ret2
    obtain ⟨hg7, ho7, ha7, blk5, map5⟩ := G5.out
    rw [E7.out] at ho7 ha7
    have eB := setCell_eq_setRow w5 bt 1 _ 104 (0, 0) (.slice (some ⟨gg, 0, none⟩) (n + 1) ccc) blk5
    have oth : ∀ k, k ≠ bt → (w5.setCell ⟨bt, 1, none⟩ (.slice (some ⟨gg, 0, none⟩) (n + 1) ccc)).heap[k]? = w5.heap[k]? := fun k hk => by rw [eB]; exact setRow_other w5 bt k _ hk
    have hsz : (w5.setCell ⟨bt, 1, none⟩ (.slice (some ⟨gg, 0, none⟩) (n + 1) ccc)).heap.size = w5.heap.size := by rw [eB]; simp [World.setRow]
    have hgb : gg ≠ bt := by
      rcases ho7.2 with ⟨e0, _⟩ | ⟨g, cap, cur, e0, _, hg, _⟩
      · cases e0
      · simp only [Value.slice.injEq, Option.some.injEq, Addr.mk.injEq] at e0
        obtain ⟨⟨rfl, -⟩, -⟩ := e0
        intro e
        rw [e, blk5] at hg
        cases hg
    refine ⟨n, .slice (some ⟨gg, 0, none⟩) (n + 1) ccc, ms ++ [M], by unfold idJ idMs; rw [HN.out]; exact ⟨N.out, rfl⟩, rfl, ⟨?_, ?_, ?_, ?_, H.out.b1, H.out.b2⟩, ?_, ?_, ?_, ?_, ?_⟩
    · rw [setCell_cells blk5]
      rfl
    · rw [oth mb (Ne.symm F.out.2.2.2.1)]
      exact map5
    · refine ho7.kept (row := some bt) ⟨by rw [eB]; rfl, by rw [eB]; rfl, by rw [eB]; rfl, by omega, fun k hk hne => oth k (fun e => hne (by rw [e]))⟩ (.inr ?_)
      simp [Value.ownBlock, hgb]
    · intro x hx
      rcases List.mem_append.1 hx with hx | hx
      · exact H.out.lt x hx
      · rw [List.mem_singleton.1 hx]; exact HM.out
    · rw [N.out]; simp
    · rw [N.out]; simp
    · intro i x hx
      rw [List.getElem?_append_left (List.getElem?_eq_some_iff.1 hx).1]
      exact hx
    · rcases ha7 with e | ⟨k, e, hk⟩
      · exact .inl e
      · exact .inr ⟨k, e, Nat.le_trans FT.out.size hk⟩
    · refine FT.out.trans ⟨?_, ?_, ?_, ?_, fun k hk h1 h2 h3 => ?_⟩
      · rw [eB]; exact hg7.os
      · rw [eB]; exact hg7.tape
      · rw [eB]; exact hg7.output
      · rw [hsz]; exact hg7.size
      · rw [oth k h1]; exact hg7.block k hk (fun e => h3 e.symm)

end Go.Proofs.YtjbglifmppilfaaDoor
namespace Go
namespace Og
theorem rowsIn_round {l n : Nat} {P : Program} {row : String} {args : Array Value} {w : World} {R : Value → World → Prop} (h : Rows P row args w R) : RowsIn (Fence.wide.inRound l) n P row args w R := by
  intro c cs hroom
  obtain ⟨v, w', r, s⟩ := h c cs
  exact ⟨v, w', r, (stepsIn_wide (P := P)).2 s⟩
theorem callsIn_round {l n : Nat} {P : Program} {f : FuncId} {args : Array Value} {w : World} {R : Ending → World → Prop} (h : Calls P f args w R) : CallsIn (Fence.wide.inRound l) n P f args w R := CallsIn.inRound l (callsIn_wide.2 h)
/-- what ends a region -/
def onN (Q : Exit → Act → World → Prop) : Exit → Act → World → Prop := fun e a w => e = .normal ∧ Q .normal a w
theorem onN_lets (Q : Exit → Act → World → Prop) : ¬ LetsOut (onN Q) := fun ⟨a, w, h, _⟩ => by cases h
theorem operIn_round {l n : Nat} {P : Program} {o : Oper} {a : Act} {w : World} {K : Act → World → Prop} {Q : Exit → Act → World → Prop} (hd : ∀ c, o.op ≠ .defer c) (h : o.wp P a w K (onN Q)) : o.wpIn (Fence.wide.inRound l) n P a w K Q := by
  unfold Oper.wpIn
  refine ⟨fun f _ => trivial, ?_⟩
  rw [show o.semAt (Fence.wide.inRound l).round a.eval = execOp a.eval o from Oper.semAt_some l a.eval o hd]
  unfold Oper.wp at h
  generalize (execOp a.eval o).run P w = r at h ⊢
  cases r with
  | ok nx w' =>
    cases nx with
    | value v => exact h
    | skip => exact h
    | defer d => exact h
    | enter f args =>
      refine ⟨fun hs => (by cases hs), CallsIn.mono (callsIn_round (show Calls P f args w' _ from h)) fun e w'' he => ?_⟩
      cases e with
      | returned v => exact he
      | panicked ch => cases he.1
      | outgrown => exact absurd he (onN_lets Q)
    | row row args => exact ⟨fun hs => (by cases hs), rowsIn_round (show Rows P row args w' _ from h)⟩
    | _ => exact h.elim
  | halt x w' =>
    cases x with
    | panic v => cases h.1
    | _ => exact h.elim
theorem anyIn_round {l n : Nat} {P : Program} {md : Region.Mode} {ops : Array Oper} {Q : Exit → Act → World → Prop} (hd : noDefer ops.toList = true) : ∀ (fuel : Nat) (listed : Array Bool) (a : Act) (w : World), wpAny P md ops (onN Q) fuel listed a w → wpAnyIn (Fence.wide.inRound l) n P md ops Q fuel listed a w
  | 0, listed, a, w, h => ⟨h.1, h.2.2⟩
  | fuel + 1, listed, a, w, h => by
    refine ⟨fun hr => (h.1 hr).2, fun i hi => ?_⟩
    have h1 := h.2 i hi
    unfold wpOp at h1
    unfold wpOpIn
    cases ho : ops[i]? with
    | none =>
      rw [ho] at h1
      exact anyIn_round hd fuel _ _ _ h1
    | some o =>
      rw [ho] at h1
      simp only [] at h1 ⊢
      by_cases hw : Region.wanted o (yielded ops a.tmps) = true
      · rw [if_pos hw] at h1 ⊢
        rcases h1 with h1 | ⟨_, h1⟩
        · refine Oper.wpIn_mono (fun a w hk => anyIn_round hd fuel _ _ _ hk) (operIn_round (noDefer_at hd (by simpa using ho)) h1)
        · exact absurd h1 (onN_lets Q)
      · rw [if_neg hw] at h1 ⊢
        exact ⟨fun f _ => trivial, anyIn_round hd fuel _ _ _ h1⟩
namespace Joint2
open Tail
section
variable {P : Program} {ops : Array Oper} {Q : Exit → Act → World → Prop} {m n : Nat} {C : Cls} {Rel : World → World → Prop} {V : Nat → Value → World → Prop} {A : List (List Nat)} {a : Act}
theorem wpR_region {id l : Nat} {w : World} (hm : P.follows .mixedOrders = true) (hd : noDefer ops.toList = true) (h : okB ops A = true) (ht : tailB ops A m = true) (hC : ∀ vs, C (fun _ => false) vs w.drew)
    (stab : ∀ i v w w', Rel w w' → getV V i v w → getV V i v w')
    (hst : Steps P C Rel V A ops a (ops.toList.take m) 0)
    (fin : ∀ p vs w, (∀ j, j < m → p j = true) → C p vs w → Know V vs w (List.range m) → wpList P ops (onN Q) (ops.toList.drop m) (lexF ops vs a m) w) : (Code.region id ops true).wpIn (Fence.wide.inRound l) n P Q a w := by
  refine wpIn_region_any hm ?_
  refine anyIn_round hd _ _ _ _ ?_
  have e : a = filF ops (fun _ => undef) (fun k => (Array.replicate ops.size false).getD k false) a ops.size := by
    have : ∀ n, filF ops (fun _ => undef) (fun k => (Array.replicate ops.size false).getD k false) a n = a := by
      intro n
      induction n with
      | zero => rfl
      | succ n ih =>
        simp only [filF]
        rw [if_neg (by simp [Array.getD_eq_getD_getElem?, Array.getElem?_replicate]; split <;> simp), ih]
    exact (this _).symm
  have hfalse : ∀ k, (Array.replicate ops.size false).getD k false = false := by
    intro k
    simp only [Array.getD_eq_getD_getElem?, Array.getElem?_replicate]
    split <;> rfl
  have := main (Q := onN Q) h ht stab hst fin ops.size (Array.replicate ops.size false) (fun _ => undef) w.drew (by simp) (Nat.le_trans List.countP_le_length (by simp))
    (fun j o _ hj => by simp only [hfalse] at hj; cases hj) (by rw [show (fun k => (Array.replicate ops.size false).getD k false) = fun _ => false from funext hfalse]; exact hC _) (fun j _ hj => by rw [hfalse] at hj; cases hj) (fun j _ _ => hfalse j)
  rw [← e] at this
  exact this
theorem walkR_lit {id r : Nat} {w : World} {l : List Oper} (m : Nat) (A : List (List Nat)) (C : Cls) (Rel : World → World → Prop) (hm : P.follows .mixedOrders = true) (hd : noDefer l = true) (h : okB l.toArray A = true) (ht : tailB l.toArray A m = true) (hC : ∀ vs, C (fun _ => false) vs w.drew)
    (hw : Walk P m C Rel A l.toArray (wpList P l.toArray (onN Q) (l.drop m)) (l.take m) 0 (fun _ => a) K0) : (Code.region id l.toArray true).wpIn (Fence.wide.inRound r) n P Q a w := by
  obtain ⟨V, _, hV, hs, hfin⟩ := walk_sound (m := m) (a := a) (l.take m) 0 (fun _ => a) K0 (fun _ _ _ => True) (Nat.zero_le _) (tailB_at ht).1 rfl (fun _ => rfl) (fun _ _ _ _ _ _ => trivial) (fun _ _ _ _ _ _ h => h) hw
  exact wpR_region hm (by simpa using hd) h ht hC hV (by simpa using hs) (by simpa using hfin)
end
end Joint2
end Og
end Go
