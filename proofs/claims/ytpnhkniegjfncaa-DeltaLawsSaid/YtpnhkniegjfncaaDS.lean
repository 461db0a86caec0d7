/- A route is laid over another one in a row of the call's own; no condition. -/
import Derived.Test.YtpnhkniegjfncaaD22
import Derived.Laws.CopyRow
import Derived.OwnWalkIn
namespace Go.Proofs.Ytpnhkniegjfncaa
open Go.ChangeShapes Go.WideShapes Go.ChangeAt Go.RowKit
set_option linter.unusedVariables false
set_option linter.unusedSimpArgs false

/-- a route as one value -/
def vR (r : Ro) : Value := .agg #[.int .u32 r.p.a, .int .i64 r.p.l, .int .i64 r.m, .int .u64 r.o0, .int .u64 r.o1, .int .u64 r.h0, .int .u64 r.h1]
theorem size40 (w : World) : (sizeOf 40).run Try.prog w = .ok 7 w := by kernel_rfl
theorem lay_get {cur : List Value} {xs : List Ro} {n k : Nat} {r : Ro} (h : cur.take (n * 7) = xs.flatMap rcV) (hn : xs.length = n) (hk : k < n) (hc : n * 7 ≤ cur.length) :
    (cur.take (k * 7) ++ rcV r ++ cur.drop (k * 7 + 7)).take (n * 7) = (xs.set k r).flatMap rcV := by
  refine List.ext_getElem? fun j => ?_
  by_cases hj : j < n * 7
  · rw [List.getElem?_take_of_lt hj, flat_get rcV 7 rcV_len (by omega), List.append_assoc]
    have hcur : cur[j]? = (xs[j / 7]?).bind fun x => (rcV x)[j % 7]? := by
      rw [← flat_get rcV 7 rcV_len (by omega), ← h, List.getElem?_take_of_lt hj]
    have hlt : (cur.take (k * 7)).length = k * 7 := by rw [List.length_take]; omega
    by_cases h1 : j < k * 7
    · rw [List.getElem?_append_left (by omega), List.getElem?_take_of_lt h1, hcur, List.getElem?_set_ne (by omega)]
    · rw [List.getElem?_append_right (by omega), hlt]
      by_cases h2 : j < k * 7 + 7
      · rw [List.getElem?_append_left (by rw [rcV_len]; omega), show j / 7 = k by omega, List.getElem?_set_self (by omega)]
        simp only [Option.bind_some]
        rw [show j % 7 = j - k * 7 by omega]
      · rw [List.getElem?_append_right (by rw [rcV_len]; omega), rcV_len, List.getElem?_drop, show k * 7 + 7 + (j - k * 7 - 7) = j by omega, hcur, List.getElem?_set_ne (by omega)]
  · rw [List.getElem?_eq_none (by rw [List.length_take]; omega), List.getElem?_eq_none (by rw [flat_len rcV 7 rcV_len, List.length_set]; omega)]
theorem run_storeR {w : World} {base g n cap k : Nat} {xs : List Ro} (r : Ro) (h : w.ownsRow base 40 7 (.slice (some ⟨g, 0, none⟩) n cap) n (xs.flatMap rcV)) (hn : xs.length = n) (hk : k < n) :
    ∃ w', (storeVar 40 ⟨g, k * 7, none⟩ (vR r)).run Try.prog w = .ok () w' ∧ w'.ownsRow base 40 7 (.slice (some ⟨g, 0, none⟩) n cap) n ((xs.set k r).flatMap rcV) ∧ w'.heap.size = w.heap.size ∧ (∀ j, j ≠ g → w'.heap[j]? = w.heap[j]?) ∧ (∀ B, B ≤ g → Below B w w') := by
  rcases h.2 with ⟨h0, _⟩ | ⟨g', cap', cur, hv, hb, hg, hnc, hcm, hcs, htk⟩
  · cases h0
  · cases hv
    have hcl : cur.toList.length = cap * 7 := by rw [Array.length_toList]; exact hcs
    have hst := run_storeCells_at Try.prog g (k * 7) 40 (rcV r) 0 cur w hg (by rw [rcV_len]; omega) (rcV_one r)
    rw [Nat.add_zero, rcV_len] at hst
    refine ⟨w.setRow g (cur.toList.take (k * 7) ++ rcV r ++ cur.toList.drop (k * 7 + 7)).toArray, ?_, ⟨by rw [flat_len rcV 7 rcV_len, List.length_set, hn], .inr ⟨g, cap, (cur.toList.take (k * 7) ++ rcV r ++ cur.toList.drop (k * 7 + 7)).toArray, rfl, hb, setRow_heap w g cur _ 40 (0, 0) hg, hnc, hcm, ?_, ?_⟩⟩, by simp [World.setRow], fun j hj => setRow_other w g j _ hj, fun B hB => ⟨rfl, rfl, rfl, by simp [World.setRow], fun j hj => setRow_other w g j _ (by omega)⟩⟩
    · unfold storeVar
      have e : (vR r).cells.size = 7 := rfl
      have e2 : (vR r).cells.toList = rcV r := rfl
      simp only [Sem.run_bind, size40, Result.andThen_ok, e, ne_eq, not_true_eq_false, if_false, e2, hst, Sem.run_pure]
    · simp only [List.size_toArray, List.length_append, List.length_take, List.length_drop, rcV_len, hcl]
      omega
    · have := lay_get (cur := cur.toList) (r := r) htk hn hk (by rw [hcl]; omega)
      simpa using this
/-- .. as an operation -/
theorem wpList_storeR {ops : Array Oper} {rest : List Oper} {o : Oper} {a : Act} {w : World} {Q : Exit → Act → World → Prop} {base g n cap k : Nat} {xs : List Ro} (r : Ro) (hgd : o.guard = none) (tp tv : Operand) (ho : o.op = .store 40 tp tv) (hd : o.dst = none)
    (h : w.ownsRow base 40 7 (.slice (some ⟨g, 0, none⟩) n cap) n (xs.flatMap rcV)) (hn : xs.length = n) (hk : k < n) (hx : a.eval tp = .pointer (some ⟨g, k * 7, none⟩)) (hy : a.eval tv = vR r)
    (hK : ∀ w', w'.ownsRow base 40 7 (.slice (some ⟨g, 0, none⟩) n cap) n ((xs.set k r).flatMap rcV) → w'.heap.size = w.heap.size → (∀ j, j ≠ g → w'.heap[j]? = w.heap[j]?) → (∀ B, B ≤ g → Below B w w') → wpList Try.prog ops Q rest a w') : wpList Try.prog ops Q (o :: rest) a w := by
  obtain ⟨w', hr, h1, h2, h3, h4⟩ := run_storeR r h hn hk
  refine wpList_plain hgd fun K hK' => ?_
  unfold Oper.wp
  simp only [execOp, ho, hx, hy, Instr.storeAt, Instr.sureAddr, Sem.run_bind, Sem.run_pure, Result.andThen_ok, hr]
  have e : a.put o.dst undef = a := by rw [hd]; rfl
  refine hK' _ _ ?_
  rw [e]
  exact hK w' h1 h2 h3 h4
theorem wpListIn_storeR {F : Fence} {N : Nat} {ops : Array Oper} {rest : List Oper} {o : Oper} {a : Act} {w : World} {Q : Exit → Act → World → Prop} {base g n cap k : Nat} {xs : List Ro} (r : Ro) (hgd : o.guard = none) (tp tv : Operand) (ho : o.op = .store 40 tp tv) (hd : o.dst = none)
    (h : w.ownsRow base 40 7 (.slice (some ⟨g, 0, none⟩) n cap) n (xs.flatMap rcV)) (hn : xs.length = n) (hk : k < n) (hx : a.eval tp = .pointer (some ⟨g, k * 7, none⟩)) (hy : a.eval tv = vR r)
    (hK : ∀ w', w'.ownsRow base 40 7 (.slice (some ⟨g, 0, none⟩) n cap) n ((xs.set k r).flatMap rcV) → w'.heap.size = w.heap.size → (∀ j, j ≠ g → w'.heap[j]? = w.heap[j]?) → (∀ B, B ≤ g → Below B w w') → wpListIn F N Try.prog ops Q rest a w') : wpListIn F N Try.prog ops Q (o :: rest) a w := by
  obtain ⟨w', hr, h1, h2, h3, h4⟩ := run_storeR r h hn hk
  refine wpListIn_plain hgd fun K hK' => ?_
  unfold Oper.wpIn
  refine ⟨fun f hf => by simp [Oper.about, ho] at hf, ?_⟩
  rw [Oper.semAt_plain F _ _ (by rw [ho]; intro c hc'; cases hc')]
  simp only [execOp, ho, hx, hy, Instr.storeAt, Instr.sureAddr, Sem.run_bind, Sem.run_pure, Result.andThen_ok, hr]
  have e : a.put o.dst undef = a := by rw [hd]; rfl
  refine hK' _ _ ?_
  rw [e]
  exact hK w' h1 h2 h3 h4
end Go.Proofs.Ytpnhkniegjfncaa
