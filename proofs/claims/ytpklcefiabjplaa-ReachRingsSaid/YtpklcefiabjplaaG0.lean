/- Worlds, rows of cells, the data of the graph laws; no condition. -/
import Derived.Test.YtpklcefiabjplaaRows
import Derived.Test.YtpklcefiabjplaaProg
import Derived.Test.YtpklcefiabjplaaOg3
import Derived.WalkKit
import Derived.ProofKit
import Derived.OpenShut
import Derived.WalkLawsBesides
import Derived.Lib.Hide
import Derived.Laws.AppendOwn
import Derived.OwnWalk
import Derived.Lib.AppendZerosOnto
import Derived.Lib.Overlaps
import Derived.Shelf.Spec.SlicesInsert
import Derived.Laws.CopyRow
import Derived.Laws.Externs
namespace Go.Proofs.Ytpklcefiabjplaa
open Go.ChangeShapes Go.WideShapes Go.ChangeAt Go.RowKit
set_option linter.unusedVariables false
set_option linter.unusedSimpArgs false
attribute [local go_sem] Og.Opt Og.OpY
theorem bthen {W w2 w3 : World} (h : Below W.heap.size W w2) (k : Below w2.heap.size w2 w3) : Below W.heap.size W w3 :=
  h.trans ⟨k.os, k.tape, k.output, k.size, fun i hi => k.block i (Nat.lt_of_lt_of_le hi h.size)⟩
/-- the same from below another mark -/
theorem bthen' {w W w2 : World} {B : Nat} (h : Below B w W) (hB : B ≤ W.heap.size) (k : Below W.heap.size W w2) : Below B w w2 :=
  h.trans ⟨k.os, k.tape, k.output, k.size, fun i hi => k.block i (Nat.lt_of_lt_of_le hi hB)⟩
theorem bdrew {w : World} : Below w.heap.size w w.drew := ⟨rfl, rfl, rfl, Nat.le_refl _, fun _ _ => rfl⟩
theorem bdrew' {w : World} {B : Nat} : Below B w w.drew := ⟨rfl, rfl, rfl, Nat.le_refl _, fun _ _ => rfl⟩
theorem bcell {W w2 : World} (h : Below W.heap.size W w2) {a : Addr} {v : Value} (hc : W.cell? a = some v) : w2.cell? a = some v :=
  (h.cell (World.block_lt_of_cell? W a hc)).trans hc

theorem wrapk {k : Nat} (h : k ≤ 1125899906842624) : IntKind.i64.wrap (k : Int) = k := by rw [IntKind.wrap_i64]; omega
theorem heap_keep {w w2 : World} {k : Nat} {ob : Obj} (hb : Below w.heap.size w w2) (h : w.heap[k]? = some ob) : w2.heap[k]? = some ob := (hb.block _ (Array.getElem?_eq_some_iff.1 h).1).trans h
theorem heap_at {W : World} {ob : Obj} {g : Nat} (hg : g = W.heap.size) : (W.alloc ob).heap[g]? = some ob := by subst hg; exact heap_alloc_new W ob
theorem below_grown {w w' : World} (h : Below w.heap.size w w') : w.grownBy w' none := ⟨h.os, h.tape, h.output, h.size, fun k hk _ => h.block k hk⟩
theorem own_below {w w' : World} {base : Nat} {e : TypeId} {size : Nat} {v : Value} {n : Nat} {xs : List Value} (h : w.ownsRow base e size v n xs) (hb : Below w.heap.size w w') : w'.ownsRow base e size v n xs := h.kept (below_grown hb) (by cases v.ownBlock <;> simp)
theorem own_lower {w : World} {B B' n sz : Nat} {e : TypeId} {v : Value} {xs : List Value} (h : w.ownsRow B e sz v n xs) (hB : B' ≤ B) : w.ownsRow B' e sz v n xs := by
  refine ⟨h.1, ?_⟩
  rcases h.2 with h0 | ⟨g, cap, cur, hv, hb, r⟩
  · exact .inl h0
  · exact .inr ⟨g, cap, cur, hv, Nat.le_trans hB hb, r⟩
theorem own_some {w : World} {base e sz n : Nat} {v : Value} {xs : List Value} (h : w.ownsRow base e sz v n xs) (hv : v ≠ .slice none 0 0) : ∃ g cap, v = .slice (some ⟨g, 0, none⟩) n cap ∧ base ≤ g ∧ g < w.heap.size := by
  rcases h.2 with ⟨h0, _⟩ | ⟨g, cap, cur, hv', hb, hg, _⟩
  · exact absurd h0 hv
  · exact ⟨g, cap, hv', hb, (Array.getElem?_eq_some_iff.1 hg).1⟩
theorem row_new {w : World} {base n sz g : Nat} {e : TypeId} {v : Value} {xs : List Value} (h : w.ownsRow base e sz v n xs) (hg : w.heap.size ≤ g) : v.ownBlock ≠ some g := fun e => Nat.lt_irrefl g (Nat.lt_of_lt_of_le (h.lt g e).2 hg)
theorem fresh_row (w : World) (e : TypeId) (size base : Nat) (hb : base ≤ w.heap.size) : (w.alloc (.cells #[] e)).ownsRow base e size (.slice (some ⟨w.heap.size, 0, none⟩) 0 0) 0 [] :=
  World.ownsRow_made w #[] 0 hb (by simp [maxLen]) (by simp)
theorem below_storeA {w w3 : World} {ob : Obj} (hb : ∀ B, B ≤ w.heap.size → Below B (w.alloc ob) w3) : Below w.heap.size w w3 := ((Below.refl _ _).alloc (Nat.le_refl _) _).trans (hb _ (Nat.le_refl _))
theorem news_heap {w : World} {vb : Nat} {arr : Array Value} {t : TypeId} (h : w.heap[vb]? = some (.cells arr t (0, 0))) : ∀ j u, arr.toList[j]? = some u → w.cell? (Addr.add ⟨vb, 0, none⟩ j) = some u := by
  intro j u hu
  have hadd : (⟨vb, 0, none⟩ : Addr).add j = ⟨vb, j, none⟩ := by unfold Addr.add; split <;> simp_all
  rw [hadd, cell_of_row w vb j arr t (0, 0) h]
  simpa using hu
theorem maxLen_ge : 2513169434844 ≤ maxLen := by unfold maxLen; omega
theorem flat_get {α β : Type} (f : α → List β) (m : Nat) (hm : ∀ x, (f x).length = m) (h0 : 0 < m) : ∀ (xs : List α) (j : Nat), (xs.flatMap f)[j]? = (xs[j / m]?).bind fun x => (f x)[j % m]?
  | [], j => by simp
  | x :: xs, j => by
    rw [List.flatMap_cons, List.getElem?_append]
    by_cases hj : j < m
    · rw [if_pos (by rw [hm]; exact hj), Nat.div_eq_of_lt hj, Nat.mod_eq_of_lt hj]
      simp
    · rw [if_neg (by rw [hm]; exact hj), hm, flat_get f m hm h0 xs (j - m)]
      have e1 : j / m = (j - m) / m + 1 := by
        conv => lhs; rw [show j = (j - m) + m by omega]
        exact Nat.add_div_right _ h0
      have e2 : (j - m) % m = j % m := by
        conv => rhs; rw [show j = (j - m) + m by omega]
        exact (Nat.add_mod_right _ _).symm
      rw [e1, e2]
      simp
theorem flat_len {α β : Type} (f : α → List β) (m : Nat) (hm : ∀ x, (f x).length = m) (xs : List α) : (xs.flatMap f).length = xs.length * m := by
  induction xs with
  | nil => simp
  | cons x xs ih => rw [List.flatMap_cons, List.length_append, ih, hm, List.length_cons, Nat.succ_mul]; omega
theorem flat_one {α : Type} {f : α → List Value} (h : ∀ x, ∀ u ∈ f x, u.oneCell' = true) (xs : List α) : ∀ u ∈ xs.flatMap f, u.oneCell' = true := by
  intro u hu
  obtain ⟨x, _, hx⟩ := List.mem_flatMap.1 hu
  exact h x u hx

theorem flat_take {α β : Type} (f : α → List β) (m : Nat) (hm : ∀ x, (f x).length = m) : ∀ (xs : List α) (k : Nat), (xs.flatMap f).take (k * m) = (xs.take k).flatMap f
  | [], k => by simp
  | x :: xs, 0 => by simp
  | x :: xs, k + 1 => by
    rw [List.flatMap_cons, List.take_succ_cons, List.flatMap_cons, ← flat_take f m hm xs k, List.take_append, hm, List.take_of_length_le (by rw [hm, Nat.succ_mul]; omega)]
    rw [show (k + 1) * m - m = k * m by rw [Nat.succ_mul]; omega]
theorem flat_drop {α β : Type} (f : α → List β) (m : Nat) (hm : ∀ x, (f x).length = m) : ∀ (xs : List α) (k : Nat), (xs.flatMap f).drop (k * m) = (xs.drop k).flatMap f
  | [], k => by simp
  | x :: xs, 0 => by simp
  | x :: xs, k + 1 => by
    rw [List.flatMap_cons, List.drop_succ_cons, ← flat_drop f m hm xs k, List.drop_append, hm, List.drop_of_length_le (by rw [hm, Nat.succ_mul]; omega)]
    rw [show (k + 1) * m - m = k * m by rw [Nat.succ_mul]; omega, List.nil_append]

theorem run_copy_own {P : Program} (w : World) (dT sT ty elem : TypeId) (s g o dLen dCap : Nat) (a : Addr) (sLen sCap : Nat) (cur : Array Value) (t : TypeId) (cs : List Value)
    (hu : P.underlying dT = some (.slice elem)) (hs : (P.info? elem).map (·.size) = some s)
    (hg : w.heap[g]? = some (.cells cur t (0, 0))) (hn : cs.length = Nat.min sLen dLen * s)
    (hsrc : ∀ j v, cs[j]? = some v → w.cell? (a.add j) = some v) (hfit : o + cs.length ≤ cur.size) (h1 : ∀ v ∈ cs, v.oneCell' = true) :
    (Builtin.copy_ #[dT, sT] ty #[.slice (some ⟨g, o, none⟩) dLen dCap, .slice (some a) sLen sCap]).run P w =
      .ok (goInt (Nat.min sLen dLen)) (w.setRow g (cur.toList.take o ++ cs ++ cur.toList.drop (o + cs.length)).toArray) := by
  have hl := run_loadCells_list (P := P) w a cs hsrc
  have hst := run_storeCells_at P g o t cs 0 cur w hg (by simpa using hfit) h1
  cases hq : P.info? elem with
  | none => simp [hq] at hs
  | some i =>
    have hi : i.size = s := by simpa [hq] using hs
    simp [Builtin.copy_, run_underlying hu, Builtin.lenOf, Builtin.firstCells, sizeOf, typeInfo, hq, hi, ← hn, hl, hst]


/-- the cells from a place on hold these values -/
def AtL (w : World) (b o : Nat) (cs : List Value) : Prop := ∀ j v, cs[j]? = some v → w.cell? ⟨b, o + j, none⟩ = some v
theorem AtL.below {w w2 : World} {b o : Nat} {cs : List Value} (h : AtL w b o cs) (hb : Below w.heap.size w w2) : AtL w2 b o cs := fun j v hv => bcell hb (h j v hv)
theorem AtL.belowB {w w2 : World} {B b o : Nat} {cs : List Value} (h : AtL w b o cs) (hb : Below B w w2) (hlt : b < B) : AtL w2 b o cs := fun j v hv => (hb.cell hlt).trans (h j v hv)
theorem AtL_heap {w : World} {g : Nat} {t : TypeId} {cs : List Value} (h : w.heap[g]? = some (.cells cs.toArray t (0, 0))) : AtL w g 0 cs := fun j v hv => by
  rw [cell_of_row w g (0 + j) cs.toArray t (0, 0) h]
  simpa using hv
theorem AtL.sub {w : World} {g o n : Nat} {cs ds : List Value} (k : Nat) (h : AtL w g o cs) (hd : (cs.drop k).take n = ds) : AtL w g (o + k) ds := fun j v hv => by
  subst hd
  rw [List.getElem?_take] at hv
  split at hv
  · rw [List.getElem?_drop] at hv
    have := h (k + j) v hv
    rwa [← Nat.add_assoc] at this
  · cases hv
section
variable {P : Program}
theorem run_loadL {w : World} {b o n : Nat} {ty : TypeId} {cs : List Value} (hg : ∀ w, (isAgg ty).run P w = .ok true w) (hs : ∀ w, (sizeOf ty).run P w = .ok n w) (hn : cs.length = n) (h : AtL w b o cs) : (loadVar ty ⟨b, o, none⟩).run P w = .ok (.agg cs.toArray) w := by
  have hc := run_loadCells_list (P := P) w ⟨b, o, none⟩ cs (fun j v hv => by rw [Addr.add_lit]; exact h j v hv)
  rw [hn] at hc
  unfold loadVar
  simp only [Sem.run_bind, hg, Result.andThen_ok, if_true, hs, hc, Sem.run_pure]
/-- a load whose value is known -/
theorem wpList_loadL {ops : Array Oper} {rest : List Oper} {o : Oper} {a : Act} {w : World} {Q : Exit → Act → World → Prop} (hgd : o.guard = none) (ty : TypeId) (t : Operand) (ho : o.op = .load ty t) (b off : Nat) (v : Value) (ha : a.eval t = .pointer (some ⟨b, off, none⟩)) (hr : (loadVar ty ⟨b, off, none⟩).run P w = .ok v w)
    (k : wpList P ops Q rest (a.put o.dst v) w) : wpList P ops Q (o :: rest) a w := by
  refine wpList_plain hgd fun K hK => ?_
  unfold Oper.wp execOp
  simp only [ho, ha, Instr.loadAt, Instr.sureAddr, Sem.run_bind, Sem.run_pure, Result.andThen_ok, hr]
  exact hK _ _ k
theorem opt_of_wanted {ops : Array Oper} {o : Oper} {a : Act} {w : World} {R : Value → World → Prop} (h : Region.wanted o (yielded ops a.tmps) = true) (k : Og.OpY P a.eval o w R) : Og.Opt P ops o a w R := by
  unfold Og.Opt; rw [if_pos h]; exact k
theorem optB_loadL {ops : Array Oper} {o : Oper} {a : Act} {w : World} {R : Value → World → Prop} {b off : Nat} {ty : TypeId} {t : Operand} {v : Value} (hw : Region.wanted o (yielded ops a.tmps) = true) (ho : o.op = .load ty t) (ha : a.eval t = .pointer (some ⟨b, off, none⟩)) (hr : (loadVar ty ⟨b, off, none⟩).run P w = .ok v w) (hR : R v w) : Og.OptB P ops o a w R := by
  refine ⟨opt_of_wanted hw ?_⟩
  unfold Og.OpY execOp
  simp only [ho, ha, Instr.loadAt, Instr.sureAddr, Sem.run_bind, Sem.run_pure, Result.andThen_ok, hr]
  exact hR
/-- a whole struct is laid into a block of the call's own -/
theorem wpList_storeN {ops : Array Oper} {rest : List Oper} {o : Oper} {a : Act} {w : World} {Q : Exit → Act → World → Prop} (hgd : o.guard = none) (ty : TypeId) (x y : Operand) (ho : o.op = .store ty x y) (hd : o.dst = none)
    (g : Nat) (cells : Array Value) (hx : a.eval x = .pointer (some ⟨g, 0, none⟩)) (hy : a.eval y = .agg cells)
    (t : TypeId) (old : Array Value) (hg : w.heap[g]? = some (.cells old t (0, 0))) (hi : (P.info? ty).map (·.size) = some cells.size)
    (hold : old.size = cells.size) (h1 : cells.all (·.oneCell') = true)
    (h : ∀ w3, w3.heap[g]? = some (.cells cells t (0, 0)) → (∀ B, B ≤ g → Below B w w3) → (∀ k, k ≠ g → w3.heap[k]? = w.heap[k]?) → w3.heap.size = w.heap.size → wpList P ops Q rest a w3) : wpList P ops Q (o :: rest) a w := by
  refine wpList_plain hgd fun K hK => ?_
  unfold Oper.wp
  simp only [execOp, ho, hx, hy, Instr.storeAt, Instr.sureAddr, Sem.run_bind, Sem.run_pure, Result.andThen_ok, run_storeVar_row w g t ty old cells hg hi hold h1]
  have e : a.put o.dst undef = a := by rw [hd]; rfl
  refine hK _ _ ?_
  rw [e]
  exact h _ (setRow_heap w g old cells t (0, 0) hg) (fun B hB => ⟨rfl, rfl, rfl, by simp [World.setRow], fun k hk => setRow_other w g k _ (by omega)⟩) (fun k hk => setRow_other w g k _ hk) (by simp [World.setRow])
end

/-- a slice at A reads as xs -/
def Rd {α : Type} (f : α → List Value) (m : Nat) (w : World) (A : Option Addr) (xs : List α) : Prop := ∀ i x, xs[i]? = some x → ∃ b o, A = some ⟨b, o, none⟩ ∧ AtL w b (o + i * m) (f x)
section
variable {α : Type} {f : α → List Value} {m : Nat}
theorem Rd.below {w w2 : World} {A : Option Addr} {xs : List α} (h : Rd f m w A xs) (hb : Below w.heap.size w w2) : Rd f m w2 A xs := fun i x hi => by
  obtain ⟨b, o, hA, ha⟩ := h i x hi
  exact ⟨b, o, hA, ha.below hb⟩
theorem Rd.none {w : World} {xs : List α} (h : Rd f m w none xs) : xs = [] := by
  cases xs with
  | nil => rfl
  | cons r xs => obtain ⟨b, o, hA, _⟩ := h 0 r rfl; cases hA
/-- the slice v reads as xs; what it holds lies from block B on -/
def Sl (f : α → List Value) (m B : Nat) (w : World) (v : Value) (xs : List α) : Prop := ∃ A c, v = .slice A xs.length c ∧ Rd f m w A xs ∧ (A = Option.none → c = 0) ∧ (∀ a, A = some a → B ≤ a.block) ∧ xs.length ≤ c
theorem Sl.below {B : Nat} {w w' : World} {v : Value} {xs : List α} (h : Sl f m B w v xs) (hb : Below w.heap.size w w') : Sl f m B w' v xs := by
  obtain ⟨A, c, hv, hr, h1, h2, h3⟩ := h
  exact ⟨A, c, hv, hr.below hb, h1, h2, h3⟩
theorem Sl.mono {B B' : Nat} {w : World} {v : Value} {xs : List α} (h : Sl f m B w v xs) (hB : B' ≤ B) : Sl f m B' w v xs := by
  obtain ⟨A, c, hv, hr, h1, h2, h3⟩ := h
  exact ⟨A, c, hv, hr, h1, fun a ha => Nat.le_trans hB (h2 a ha), h3⟩
theorem Sl.nil {B : Nat} {w : World} : Sl f m B w (.slice none 0 0) [] := ⟨Option.none, 0, rfl, fun i r hr => by simp at hr, fun _ => rfl, fun a ha => (by cases ha), by simp⟩
theorem Sl_of_row {w : World} {base : Nat} {e : TypeId} {v : Value} {n : Nat} {xs : List α} (hm : ∀ x, (f x).length = m) (h0 : 0 < m) (h : w.ownsRow base e m v n (xs.flatMap f)) (hn : xs.length = n) : Sl f m base w v xs := by
  rcases h.2 with ⟨rfl, h0'⟩ | ⟨g, cap, cur, rfl, hb, hg, hnc, _⟩
  · subst h0'
    obtain rfl := List.eq_nil_of_length_eq_zero hn
    exact Sl.nil
  · refine ⟨some ⟨g, 0, none⟩, cap, by rw [hn], fun i r hr => ⟨g, 0, rfl, fun k u hu => ?_⟩, fun hA => (by cases hA), fun a ha => (by cases ha; exact hb), by omega⟩
    have hk : k < m := by have := (List.getElem?_eq_some_iff.1 hu).1; rwa [hm] at this
    have := h.cells (g := g) rfl (i * m + k) u (by
      rw [flat_get f m hm h0, Nat.mul_comm i m, Nat.mul_add_div h0, Nat.div_eq_of_lt hk, Nat.mul_add_mod, Nat.mod_eq_of_lt hk, Nat.add_zero, hr]
      exact hu)
    rw [Addr.add_lit] at this
    rwa [Nat.add_assoc]
theorem news_rd {w : World} {ad : Addr} {xs : List α} (hm : ∀ x, (f x).length = m) (h0 : 0 < m) (h : Rd f m w (some ad) xs) : ∀ j u, (xs.flatMap f)[j]? = some u → w.cell? (ad.add j) = some u := by
  intro j u hu
  rw [flat_get f m hm h0] at hu
  obtain ⟨r, hr, hu⟩ := Option.bind_eq_some_iff.1 hu
  obtain ⟨b, o, hA, ha⟩ := h _ r hr
  cases hA
  rw [Addr.add_lit]
  have := ha _ u hu
  rwa [Nat.add_assoc, Nat.div_add_mod'] at this
end

structure Pf where
  a : Int
  l : Int
deriving DecidableEq
structure Nd where
  i : Int
deriving DecidableEq
structure Lk where
  f : Int
  t : Int
  c : Int
  d : Int
deriving DecidableEq
structure Pn where
  p : Pf
  n : Int
  m : Int
deriving DecidableEq
structure Ed where
  k : Int
  a : Int
  b : Int
  c : Int
  d : Int
  p : Pf
deriving DecidableEq
def cNd (x : Nd) : List Value := [.int .i64 x.i, .bool false, .complex .f64 0 0]
def cLk (x : Lk) : List Value := [.int .i64 x.f, .int .i64 x.t, .int .i64 x.c, .int .i64 x.d]
def cPn (x : Pn) : List Value := [.int .u32 x.p.a, .int .i64 x.p.l, .int .i64 x.n, .int .i64 x.m]
def cEd (x : Ed) : List Value := [.int .i64 x.k, .int .i64 x.a, .int .i64 x.b, .int .i64 x.c, .int .i64 x.d, .complex .f64 0 0, .int .u32 x.p.a, .int .i64 x.p.l, .bool false]
theorem cNd_len (x : Nd) : (cNd x).length = 3 := rfl
theorem cLk_len (x : Lk) : (cLk x).length = 4 := rfl
theorem cPn_len (x : Pn) : (cPn x).length = 4 := rfl
theorem cEd_len (x : Ed) : (cEd x).length = 9 := rfl
theorem cNd_one (x : Nd) : ∀ u ∈ cNd x, u.oneCell' = true := by
  intro u hu
  simp only [cNd, List.mem_cons, List.not_mem_nil, or_false] at hu
  rcases hu with rfl | rfl | rfl <;> rfl
theorem cLk_one (x : Lk) : ∀ u ∈ cLk x, u.oneCell' = true := by
  intro u hu
  simp only [cLk, List.mem_cons, List.not_mem_nil, or_false] at hu
  rcases hu with rfl | rfl | rfl | rfl <;> rfl
theorem cPn_one (x : Pn) : ∀ u ∈ cPn x, u.oneCell' = true := by
  intro u hu
  simp only [cPn, List.mem_cons, List.not_mem_nil, or_false] at hu
  rcases hu with rfl | rfl | rfl | rfl <;> rfl
theorem info41 : (Try.prog.info? 41).map (fun i => (i.zero, i.size, i.bytes)) = some (some (.agg #[.int .i64 0, .bool false, .complex .f64 0 0]), 3, 32) := by kernel_rfl
theorem info41s : (Try.prog.info? 41).map (·.size) = some 3 := by kernel_rfl
theorem size41 (w : World) : (sizeOf 41).run Try.prog w = .ok 3 w := by kernel_rfl
theorem isAgg41 (w : World) : (isAgg 41).run Try.prog w = .ok true w := by kernel_rfl
theorem zero41 (w : World) : (zeroValue 41).run Try.prog w = .ok (.agg #[.int .i64 0, .bool false, .complex .f64 0 0]) w := by kernel_rfl
theorem info43 : (Try.prog.info? 43).map (fun i => (i.zero, i.size, i.bytes)) = some (some (.agg #[.int .i64 0, .int .i64 0, .int .i64 0, .int .i64 0]), 4, 32) := by kernel_rfl
theorem info43s : (Try.prog.info? 43).map (·.size) = some 4 := by kernel_rfl
theorem size43 (w : World) : (sizeOf 43).run Try.prog w = .ok 4 w := by kernel_rfl
theorem isAgg43 (w : World) : (isAgg 43).run Try.prog w = .ok true w := by kernel_rfl
theorem zero43 (w : World) : (zeroValue 43).run Try.prog w = .ok (.agg #[.int .i64 0, .int .i64 0, .int .i64 0, .int .i64 0]) w := by kernel_rfl
theorem info49 : (Try.prog.info? 49).map (fun i => (i.zero, i.size, i.bytes)) = some (some (.agg #[.int .u32 0, .int .i64 0, .int .i64 0, .int .i64 0]), 4, 32) := by kernel_rfl
theorem info49s : (Try.prog.info? 49).map (·.size) = some 4 := by kernel_rfl
theorem size49 (w : World) : (sizeOf 49).run Try.prog w = .ok 4 w := by kernel_rfl
theorem isAgg49 (w : World) : (isAgg 49).run Try.prog w = .ok true w := by kernel_rfl
theorem zero49 (w : World) : (zeroValue 49).run Try.prog w = .ok (.agg #[.int .u32 0, .int .i64 0, .int .i64 0, .int .i64 0]) w := by kernel_rfl
theorem info33s : (Try.prog.info? 33).map (·.size) = some 3 := by kernel_rfl
theorem size33 (w : World) : (sizeOf 33).run Try.prog w = .ok 3 w := by kernel_rfl
theorem isAgg33 (w : World) : (isAgg 33).run Try.prog w = .ok true w := by kernel_rfl
theorem info53s : (Try.prog.info? 53).map (·.size) = some 9 := by kernel_rfl
theorem size53 (w : World) : (sizeOf 53).run Try.prog w = .ok 9 w := by kernel_rfl
theorem isAgg53 (w : World) : (isAgg 53).run Try.prog w = .ok true w := by kernel_rfl
theorem info47s : (Try.prog.info? 47).map (·.size) = some 2 := by kernel_rfl
theorem size47 (w : World) : (sizeOf 47).run Try.prog w = .ok 2 w := by kernel_rfl
theorem isAgg47 (w : World) : (isAgg 47).run Try.prog w = .ok true w := by kernel_rfl

end Go.Proofs.Ytpklcefiabjplaa
