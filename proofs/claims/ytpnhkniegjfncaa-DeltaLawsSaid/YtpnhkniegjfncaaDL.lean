/- Loads and stores of whole changes, each by one law; no condition. -/
import Derived.Test.YtpnhkniegjfncaaD24
import Derived.Test.YtpnhkniegjfncaaOgF
namespace Go.Proofs.Ytpnhkniegjfncaa
open Go.ChangeShapes Go.WideShapes Go.ChangeAt Go.RowKit
set_option linter.unusedVariables false
set_option linter.unusedSimpArgs false

/-- a change as one value -/
def vC (x : Ch) : Value := .agg #[.int .i64 x.k, .int .u32 x.o.p.a, .int .i64 x.o.p.l, .int .i64 x.o.m, .int .u64 x.o.o0, .int .u64 x.o.o1, .int .u64 x.o.h0, .int .u64 x.o.h1, .int .u32 x.n.p.a, .int .i64 x.n.p.l, .int .i64 x.n.m, .int .u64 x.n.o0, .int .u64 x.n.o1, .int .u64 x.n.h0, .int .u64 x.n.h1]
theorem isAgg42 (w : World) : (isAgg 42).run Try.prog w = .ok true w := by kernel_rfl
theorem size42 (w : World) : (sizeOf 42).run Try.prog w = .ok 15 w := by kernel_rfl
theorem run_loadC {w : World} {b o : Nat} {x : Ch} (h : AtC w b o x) : (loadVar 42 ⟨b, o, none⟩).run Try.prog w = .ok (vC x) w := by
  have hc := run_loadCells_list (P := Try.prog) w ⟨b, o, none⟩ (ccV x) (fun j v hv => by rw [Addr.add_lit]; exact AtC_get h j v hv)
  rw [ccV_len] at hc
  unfold loadVar
  simp only [Sem.run_bind, isAgg42, Result.andThen_ok, if_true, size42, hc, Sem.run_pure]
  rfl
theorem opt_of_wanted {P : Program} {ops : Array Oper} {o : Oper} {a : Act} {w : World} {R : Value → World → Prop} (h : Region.wanted o (yielded ops a.tmps) = true) (k : Og.OpY P a.eval o w R) : Og.Opt P ops o a w R := by
  unfold Og.Opt; rw [if_pos h]; exact k
theorem opy_loadC {o : Oper} {a : Act} {w : World} {R : Value → World → Prop} {b off : Nat} {x : Ch} {t : Operand} (ho : o.op = .load 42 t) (ha : a.eval t = .pointer (some ⟨b, off, none⟩)) (h : AtC w b off x) (hR : R (vC x) w) : Og.OpY Try.prog a.eval o w R := by
  unfold Og.OpY execOp
  simp only [ho, ha, Instr.loadAt, Instr.sureAddr, Sem.run_bind, Sem.run_pure, Result.andThen_ok, run_loadC h]
  exact hR
theorem optB_loadC {ops : Array Oper} {o : Oper} {a : Act} {w : World} {R : Value → World → Prop} {b off : Nat} {x : Ch} {t : Operand} (hw : Region.wanted o (yielded ops a.tmps) = true) (ho : o.op = .load 42 t) (ha : a.eval t = .pointer (some ⟨b, off, none⟩)) (h : AtC w b off x) (hR : R (vC x) w) : Og.OptB Try.prog ops o a w R := ⟨opt_of_wanted hw (opy_loadC ho ha h hR)⟩
theorem wpList_loadC {ops : Array Oper} {rest : List Oper} {o : Oper} {a : Act} {w : World} {Q : Exit → Act → World → Prop} {b off : Nat} {x : Ch} (hgd : o.guard = none) (t : Operand) (ho : o.op = .load 42 t) (ha : a.eval t = .pointer (some ⟨b, off, none⟩)) (h : AtC w b off x)
    (k : wpList Try.prog ops Q rest (a.put o.dst (vC x)) w) : wpList Try.prog ops Q (o :: rest) a w := by
  refine wpList_plain hgd fun K hK => ?_
  unfold Oper.wp execOp
  simp only [ho, ha, Instr.loadAt, Instr.sureAddr, Sem.run_bind, Sem.run_pure, Result.andThen_ok, run_loadC h]
  exact hK _ _ k
theorem AtC_cells {w : World} {g : Nat} {x : Ch} (h : w.heap[g]? = some (.cells (vC x).cells 42 (0, 0))) : AtC w g 0 x := cells15 h
/-- a change is laid into a block of the call's own -/
theorem wpList_storeC {ops : Array Oper} {rest : List Oper} {o : Oper} {a : Act} {w : World} {Q : Exit → Act → World → Prop} {x : Ch} (hgd : o.guard = none) (tp tv : Operand) (ho : o.op = .store 42 tp tv) (hd : o.dst = none) (g : Nat) (hx : a.eval tp = .pointer (some ⟨g, 0, none⟩)) (hy : a.eval tv = vC x) (old : Array Value) (hg : w.heap[g]? = some (.cells old 42 (0, 0))) (hold : old.size = 15)
    (h : ∀ w3, w3.heap[g]? = some (.cells (vC x).cells 42 (0, 0)) → (∀ B, B ≤ g → Below B w w3) → (∀ k, k ≠ g → w3.heap[k]? = w.heap[k]?) → w3.heap.size = w.heap.size → wpList Try.prog ops Q rest a w3) : wpList Try.prog ops Q (o :: rest) a w :=
  wpList_store_new hgd 42 tp tv ho hd g (vC x).cells hx (by rw [hy]; rfl) 42 old hg info42s' (by rw [hold]; rfl) (by simp [vC, Value.cells, Value.oneCell']) h
/-- .. where a region draws -/
theorem opt_storeC {ops : Array Oper} {o : Oper} {a : Act} {w : World} {R : Value → World → Prop} {x : Ch} (hgd : o.guard = none) (tp tv : Operand) (ho : o.op = .store 42 tp tv) (g : Nat) (hx : a.eval tp = .pointer (some ⟨g, 0, none⟩)) (hy : a.eval tv = vC x) (old : Array Value) (hg : w.heap[g]? = some (.cells old 42 (0, 0))) (hold : old.size = 15)
    (h : ∀ w3, w3.heap[g]? = some (.cells (vC x).cells 42 (0, 0)) → (∀ B, B ≤ g → Below B w w3) → (∀ k, k ≠ g → w3.heap[k]? = w.heap[k]?) → w3.heap.size = w.heap.size → R undef w3) : Og.Opt Try.prog ops o a w R := by
  have h1 : (vC x).cells.all (·.oneCell') = true := by simp [vC, Value.cells, Value.oneCell']
  have hy' : a.eval tv = .agg (vC x).cells := by rw [hy]; rfl
  unfold Og.Opt
  rw [if_pos (by simp [Region.wanted, hgd])]
  unfold Og.OpY
  simp only [execOp, ho, hx, hy', Instr.storeAt, Instr.sureAddr, Sem.run_bind, Sem.run_pure, Result.andThen_ok, run_storeVar_row w g 42 42 old (vC x).cells hg info42s' (by rw [hold]; rfl) h1]
  exact h _ (setRow_heap w g old (vC x).cells 42 (0, 0) hg) (fun B hB => ⟨rfl, rfl, rfl, by simp [World.setRow], fun k hk => setRow_other w g k _ (by omega)⟩) (fun k hk => setRow_other w g k _ hk) (by simp [World.setRow])
end Go.Proofs.Ytpnhkniegjfncaa
